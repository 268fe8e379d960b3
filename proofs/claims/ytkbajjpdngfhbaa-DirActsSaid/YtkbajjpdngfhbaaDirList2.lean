
/- dir.List: the walk. -/
import Derived.Test.YtkbajjpdngfhbaaDirList
namespace Go.Proofs.Ytkbajjpdngfhbaa
open Go.RowKit
set_option maxHeartbeats 2000000
attribute [local go_sem ↓] Go.wp_at_zero Go.wp_at_succ
theorem cells3 {w : World} {q : Nat} {t : TypeId} {x y z : Value} (h : Blk w q t #[x, y, z]) : w.cell? ⟨q, 0, none⟩ = some x ∧ w.cell? ⟨q, 1, none⟩ = some y ∧ w.cell? ⟨q, 2, none⟩ = some z := ⟨h.cell 0, h.cell 1, h.cell 2⟩
theorem blk_below {w w' : World} {q : Nat} {t : TypeId} {cs : Array Value} (hb : Below w.heap.size w w') (h : Blk w q t cs) : Blk w' q t cs := Blk.of_heap (hb.block _ h.lt) h
theorem blk_grown {w w' : World} {q : Nat} {t : TypeId} {cs : Array Value} {row : Option Nat} (hg : w.grownBy w' row) (h : Blk w q t cs) (hne : row ≠ some q) : Blk w' q t cs := Blk.of_heap (hg.block _ h.lt (Ne.symm hne)) h
theorem LSt.drew {L : Nat → Prop} {w wr : World} {a d : Nat} {ws : List Int} {n m : Nat} {P : List (List Acc) → Prop} {f : Int} {v : Value} {D : List Ent} (h : LSt L w wr d a f ws n m P v D) : LSt L w wr.drew d a f ws n m P v D := ⟨h.dat, h.ar.drew, h.own.drew, h.keep.drew⟩
theorem info_ent : (Try.prog.info? 54).map (fun i => (i.zero, i.size, i.bytes)) = some (some (.agg #[.string ⟨#[]⟩, .int .i64 0]), 2, 24) := by kernel_rfl
section
variable {L : Nat → Prop} {w : World} {a d : Nat} {ws : List Int} {n m : Nat} {P : List (List Acc) → Prop} {f : Int} {T : Nat → Nat → Option Ent}
set_option maxRecDepth 1000000 in
theorem List_ok (h : DAt L w d a f) (hA : ArP L w a ws n m P) (hT : Tab ws f T) (hm : m ≤ 1099511620000) {c : Int} (hc : mayE n c [] = 0) {S : Acc → Prop} (hcl : Cl n P c S) (hS : ∀ i, f ≤ i → i < f + 104 → S (i, false)) :
    Calls Try.prog 15 #[.pointer (some ⟨d, 0, none⟩), .int .i64 c] w fun e w' => ∃ v D', e = .returned v ∧ D'.Perm (entsTo T 32) ∧ Rise D' ∧ LSt L w w' d a f ws n (m + 96) P v D' := by
  have H := may0 h hA c
  have hbd0 := hA.bd
  rw [hc] at H
  obtain ⟨hc1, _⟩ := mayE_core hc
  have H := Lib.hid H
  have HT := Lib.hid hT
  obtain ⟨i0, hi, hz0, hz1, hz2⟩ := info_parts info_ent
  clear h hA hT
  go_enter Try.func15, Try.ntmps15
  go_wp2_with (fail)
  refine H.out.mono ?_
  rintro e w1 ⟨rfl, hD1, hA1, hK1⟩
  have HL1 := Lib.hid (show LSt L w w1 d a f ws n (m + 3 * 0) P (.slice none 0 0) [] from ⟨by rw [lo_nil]; exact hD1, by rw [lo_nil]; exact hA1, World.ownsRow_nil _ _ _ _, hK1⟩)
  clear hD1 hA1 hK1 H
  go_wp2_with (fail)
  go_loopw [5, 13] (fun v i wr => ∃ b : Nat, i = .int .i64 b ∧ b ≤ 8 ∧ LSt L w wr d a f ws n (m + 3 * (4 * b)) P v (entsTo T (4 * b))) (fun _ i _ => 8 - (intOf i).toNat)
  case atStart => exact ⟨0, rfl, by omega, HL1.out⟩
  case round =>
    obtain ⟨b, rfl, hb, hS1⟩ := hrel
    have HS1 := Lib.hid hS1
    clear hS1 HL1
    by_cases hp : b < 8
    · have h1 : (b : Int) < 8 := by omega
      go_wp2_with (fail)
      go_loopw [5, 16] (fun v i wr => ∃ k : Nat, i = .int .i64 k ∧ k ≤ 4 ∧ LSt L w wr d a f ws n (m + 3 * (4 * b + k)) P v (entsTo T (4 * b + k))) (fun _ i _ => 4 - (intOf i).toNat)
      case atStart => exact ⟨0, rfl, by omega, HS1.out⟩
      case round =>
        obtain ⟨k, rfl, hk, hS2⟩ := hrel
        have HS2 := Lib.hid hS2
        clear hS2 HS1
        by_cases hp2 : k < 4
        · have h2 : (k : Int) < 4 := by omega
          have HG := Lib.hid (get_slot HS2.out.dat HS2.out.ar HT.out (by omega) hc1 hp hp2 hcl (fun i q1 q2 => hS i (by omega) (by omega)))
          have hx : ∀ e, T b k = some e → EntOk e := fun e he => (HT.out.ok b k e hp hp2 he).1
          have hE := Lib.hid (entsTo_succ T b k hp2)
          have HN := Lib.hid (num_sW hx)
          have HX := Lib.hid hx
          clear hx
          go_wp2_with (fail)
          refine HG.out.mono ?_
          rintro e w4 ⟨rfl, hA4, hK4⟩
          have hS4 := HS2.out.call hK4 hA4
          rcases htk : T b k with _ | e
          · simp only [htk] at hE HN
            generalize ho2 : Obj.cells #[Value.int IntKind.i64 (sW0 (none)), Value.int IntKind.i64 (sW1 (none)), Value.int IntKind.i64 (sW2 (none))] 71 = O2
            have HZ4 := Lib.hid (show Blk (w4.alloc O2) w4.heap.size 71 #[.int .i64 (sW0 (none)), .int .i64 (sW1 (none)), .int .i64 (sW2 (none))] by subst ho2; exact Blk.new _ _ _)
            have HS5 := Lib.hid (hS4.alloc O2)
            have t0 := HZ4.out.cell 0
            have t1 := HZ4.out.cell 1
            have t2 := HZ4.out.cell 2
            have HNU := Lib.hid (snum_calls (sW0 (none)) (sW1 (none)) (sW2 (none)) (w4.alloc O2))
            rw [HN.out] at HNU
            clear hA4 hK4 hS4
            have hE2 := Lib.hid (show entsTo T (4 * b + (k + 1)) = entsTo T (4 * b + k) by have := hE.out; simpa [Nat.add_assoc] using this)
            have hn0 : ((numOf none : Nat) : Int) = 0 := rfl
            rw [hn0] at HNU
            clear hE HN HX hn0
            go_wp2_with (go_at_call 35; refine HNU.out.mono ?_; rintro e w5 ⟨rfl, hB5⟩)
            go_roundw
            case rel =>
              refine ⟨k + 1, by first | rfl | (congr 1; omega), by omega, ?_⟩
              rw [hE2.out]
              exact HS5.out.below hB5
            case measure =>
              simp only [intOf]
              omega
          · simp only [htk] at hE HX HN
            generalize ho2 : Obj.cells #[Value.int IntKind.i64 (sW0 (some e)), Value.int IntKind.i64 (sW1 (some e)), Value.int IntKind.i64 (sW2 (some e))] 71 = O2
            have HZ4 := Lib.hid (show Blk (w4.alloc O2) w4.heap.size 71 #[.int .i64 (sW0 (some e)), .int .i64 (sW1 (some e)), .int .i64 (sW2 (some e))] by subst ho2; exact Blk.new _ _ _)
            have HS5 := Lib.hid (hS4.alloc O2)
            have t0 := HZ4.out.cell 0
            have t1 := HZ4.out.cell 1
            have t2 := HZ4.out.cell 2
            have HNU := Lib.hid (snum_calls (sW0 (some e)) (sW1 (some e)) (sW2 (some e)) (w4.alloc O2))
            rw [HN.out] at HNU
            clear hA4 hK4 hS4
            have hE2 := Lib.hid (show entsTo T (4 * b + (k + 1)) = entsTo T (4 * b + k) ++ [e] by have := hE.out; simpa [Nat.add_assoc] using this)
            have he := HX.out e rfl
            obtain ⟨z, hz⟩ : ∃ z : Int, (numOf (some e) : Int) = z := ⟨_, rfl⟩
            rw [hz] at HNU
            have hz0' : (z != 0) = true := by
              have h2 := he.2.1
              have h3 : (e.2 : Int) = z := hz
              simp only [bne_iff_ne, ne_eq]
              omega
            have HZ := Lib.hid hz
            have HE := Lib.hid he
            clear hz he hE HX HN
            go_wp2_with (go_at_call 35; refine HNU.out.mono ?_; rintro e w5 ⟨rfl, hB5⟩)
            have hS6 := (HS5.out.below hB5).drew
            have hQ : Blk w5.drew w4.heap.size 71 #[.int .i64 (headW e.1 e.2), .int .i64 (firstW e.1), .int .i64 (secondW e.1)] := (show Blk w5 _ _ _ from blk_below hB5 HZ4.out)
            have HS6 := Lib.hid hS6
            have HQ := Lib.hid hQ
            have hlen := entsTo_le T (4 * b + k)
            have HLEN := Lib.hid (show (entsTo T (4 * b + k)).length ≤ 40 by omega)
            have HNM := Lib.hid (fun W => name_calls e.1 (ncheck_size HE.out.1) e.2 HE.out.2.2 W)
            have HNU2 := Lib.hid (fun W => snum_calls (headW e.1 e.2) (firstW e.1) (secondW e.1) W)
            have hzz : headW e.1 e.2 % 2147483648 = z := by have := HE.out.2; have h3 : (e.2 : Int) = z := HZ.out; unfold headW; omega
            rw [hzz] at HNU2
            have hsz := Lib.hid (HS6.out.keep.size)
            generalize w4.heap.size = q at *
            clear hS6 hQ t0 t1 t2 hB5 HNU hlen hzz
            go_region_held_law (fun w' => w'.cell? ⟨q, 0, none⟩ = some (.int .i64 (headW e.1 e.2)) ∧ w'.cell? ⟨q, 1, none⟩ = some (.int .i64 (firstW e.1)) ∧ w'.cell? ⟨q, 2, none⟩ = some (.int .i64 (secondW e.1)))
              (first
                | exact cells3 HQ.out
                | exact cells3 (blk_below hB7 HQ.out)
                | exact cells3 (blk_below hB8 HQ.out)
                | exact cells3 (blk_below hB8 (blk_below hB7 HQ.out))
                | exact cells3 (blk_below hB7 (blk_below hB8 HQ.out))
                | exact cells3 ((blk_below hB8 (blk_below hB7 HQ.out)).alloc _)
                | exact cells3 ((blk_below hB7 (blk_below hB8 HQ.out)).alloc _)
                | exact cells3 (blk_grown hgrow1 ((blk_below hB8 (blk_below hB7 HQ.out)).alloc _) (own_blk_ne (((HS6.out.below hB7).below hB8).alloc (Obj.cells #[.string e.1, .int .i64 z] 54)).own ((blk_below hB8 (blk_below hB7 HQ.out)).alloc _) (by decide)))
                | exact cells3 (blk_grown hgrow1 ((blk_below hB7 (blk_below hB8 HQ.out)).alloc _) (own_blk_ne (((HS6.out.below hB8).below hB7).alloc (Obj.cells #[.string e.1, .int .i64 z] 54)).own ((blk_below hB7 (blk_below hB8 HQ.out)).alloc _) (by decide))))
              ((first
                | (go_at_call 36; refine (HNM.out _).mono ?_; rintro e7 w7 ⟨rfl, hB7⟩)
                | (go_at_call 35; refine (HNU2.out _).mono ?_; rintro e8 w8 ⟨rfl, hB8⟩)
                | (refine step_append_lies _ (by rfl) (.tmp 27) (.tmp 33) 28 (by rfl) w.heap.size 54 i0 _ 2 24 Try.underlying28 hi hz0 hz1 hz2 (by rfl) (by decide) u5 _ _ (by rfl) (((HS6.out.below hB7).below hB8).alloc (Obj.cells #[.string e.1, .int .i64 z] 54)).own ⟨w8.heap.size, 0, none⟩ 1 1 [.string e.1, .int .i64 z] (by rfl) (by rfl) (World.news_of_block (heap_alloc_new _ _)) (by intro u hu; simp at hu; rcases hu with rfl | rfl <;> rfl) (by decide) (by have := HLEN.out; simp only [maxLen]; omega) (by have := HLEN.out; omega) (((HS6.out.below hB7).below hB8).alloc (Obj.cells #[.string e.1, .int .i64 z] 54)).keep.size _ (by rfl) ?_; intro g1 cap1 w9 hown1 hgrow1 hat1 hlt1)
                | (refine step_append_lies _ (by rfl) (.tmp 27) (.tmp 33) 28 (by rfl) w.heap.size 54 i0 _ 2 24 Try.underlying28 hi hz0 hz1 hz2 (by rfl) (by decide) u5 _ _ (by rfl) (((HS6.out.below hB8).below hB7).alloc (Obj.cells #[.string e.1, .int .i64 z] 54)).own ⟨w7.heap.size, 0, none⟩ 1 1 [.string e.1, .int .i64 z] (by rfl) (by rfl) (World.news_of_block (heap_alloc_new _ _)) (by intro u hu; simp at hu; rcases hu with rfl | rfl <;> rfl) (by decide) (by have := HLEN.out; simp only [maxLen]; omega) (by have := HLEN.out; omega) (((HS6.out.below hB8).below hB7).alloc (Obj.cells #[.string e.1, .int .i64 z] 54)).keep.size _ (by rfl) ?_; intro g1 cap1 w9 hown1 hgrow1 hat1 hlt1)))
            have HW := Lib.hid (show LSt L w w9 d a f ws n (m + 3 * (4 * b + k) + 3) P (.slice (some ⟨g1, 0, none⟩) ((entsTo T (4 * b + k)).length + 1) cap1) (entsTo T (4 * b + k) ++ [e]) by
              have hze : (e.2 : Int) = z := HZ.out
              have ho : encE e = [.string e.1, .int .i64 z] := by rw [← hze]; rfl
              rw [← ho] at hown1
              first
                | exact LSt.grown (((HS6.out.below hB7).below hB8).alloc _) hbd0 hown1 rfl hgrow1 (hat1.imp id (fun h => Nat.le_of_eq h.symm)) hlt1
                | exact LSt.grown (((HS6.out.below hB8).below hB7).alloc _) hbd0 hown1 rfl hgrow1 (hat1.imp id (fun h => Nat.le_of_eq h.symm)) hlt1)
            clear hown1 hgrow1 hat1 hlt1 HNM HNU2
            go_wp2_with (fail)
            go_roundw
            case rel =>
              refine ⟨k + 1, by first | rfl | (congr 1; omega), by omega, ?_⟩
              rw [hE2.out]
              exact HW.out
            case measure =>
              simp only [intOf]
              omega
        · have e : k = 4 := by omega
          subst e
          go_wp2_with (fail)
          go_roundw
          case rel => exact ⟨b + 1, by first | rfl | (congr 1; omega), by omega, HS2.out⟩
          case measure =>
            simp only [intOf]
            omega
    · have e : b = 8 := by omega
      subst e
      have hlen := entsTo_le T 32
      go_wp2_with (fail)
      refine (HS1.out.sort hbd0 (by show (entsTo T 32).length ≤ 1000; omega)).mono ?_
      rintro e w9 ⟨rfl, D', hp9, hr9, hS9⟩
      go_wp2_with (fail)
      go_ret
      exact ⟨_, D', rfl, hp9, hr9, hS9⟩
end
end Go.Proofs.Ytkbajjpdngfhbaa
