
/- law20: New, Copy of a new state, Image of no bytes, awake. -/
import Derived.Test.YtenlffhoinialaaCkEval
import Derived.Deep.Upon
namespace Go.Proofs.Ytenlffhoinialaa
open Go.RowKit
set_option maxHeartbeats 1000000
attribute [local go_sem ↓] Go.wp_at_zero Go.wp_at_succ
theorem whole_stm {w : World} {g : Nat} {v0 v1 ov mv : Value} {a b : List (ByteArray × Int)} {d2 d3 : ByteArray} {n4 n5 : Int} {O : List (Int × Int × Int)} {M : List Int}
    (hI : Blk w g 56 #[.int .i64 1, .bool true, v0, .string ⟨#[]⟩, .int .i64 2, .bool true, v1, .string d2, .int .i64 3, .bool false, .slice none 0 0, .string d3, .int .i64 n4, .bool false, .slice none 0 0, .string ⟨#[]⟩, .int .i64 n5, .bool false, .slice none 0 0, .string ⟨#[111, 112, 101, 110]⟩])
    (h0 : RowAt w v0 a.length 2 (entC (wS a b d2 d3 n4 n5 O M) 0)) (h1 : RowAt w v1 b.length 2 (entC (wS a b d2 d3 n4 n5 O M) 1)) (hO : RowAt w ov O.length 3 (opnC (wS a b d2 d3 n4 n5 O M))) (hM : RowAt w mv M.length 1 (madC (wS a b d2 d3 n4 n5 O M))) :
    StM w (.slice (some ⟨g, 0, none⟩) 5 5) ov mv (fun i => match i with | 0 => v0 | 1 => v1 | _ => .slice none 0 0) (wS a b d2 d3 n4 n5 O M) := by
  refine ⟨RowAt.blk hI (Nat.le_refl _) (fun i j hi hj => ?_), fun i hi => ?_, hO, hM⟩
  · have hi' : i < 5 := hi
    have h5 : i = 0 ∨ i = 1 ∨ i = 2 ∨ i = 3 ∨ i = 4 := by omega
    have h4 : j = 0 ∨ j = 1 ∨ j = 2 ∨ j = 3 := by omega
    rcases h5 with rfl | rfl | rfl | rfl | rfl <;> rcases h4 with rfl | rfl | rfl | rfl <;> rfl
  · have hi' : i < 5 := hi
    have h5 : i = 0 ∨ i = 1 ∨ i = 2 ∨ i = 3 ∨ i = 4 := by omega
    rcases h5 with rfl | rfl | rfl | rfl | rfl
    · exact h0
    · exact h1
    · exact RowAt.nil_ _ _ _
    · exact RowAt.nil_ _ _ _
    · exact RowAt.nil_ _ _ _
theorem run_make_rowN {P : Program} (t e : TypeId) (i : TypeInfo) (z : Value) (ht : P.underlying t = some (.slice e)) (hi : P.info? e = some i) (hz : i.zero = some z)
    (kl kc : IntKind) (n c : Nat) (hnc : n ≤ c) (hbytes : i.bytes * c ≤ 281474976710656) (h63 : c ≤ 9223372036854775807) (w : World) :
    (Instr.makeSlice t (.int kl (n : Int)) (.int kc (c : Int))).run P w = .ok (.slice (some ⟨w.heap.size, 0, none⟩) n c) (w.alloc (.cells (madeCells z.cells (c * i.size)) e)) := by
  have hb : (i.bytes : Int) * (c : Int) ≤ 281474976710656 := by
    have h : ((i.bytes * c : Nat) : Int) ≤ 281474976710656 := by omega
    rwa [Int.natCast_mul] at h
  have hr := run_make (P := P) w t e i z ht hi hz kl kc n c (by omega) (by omega) hb (by omega)
  simp only [Int.toNat_natCast] at hr
  exact hr
theorem madeCells_one (v : Value) (n : Nat) : madeCells #[v] n = (List.replicate n v).toArray := by
  apply Array.ext
  · simp [madeCells]
  · intro i h1 h2
    simp [madeCells, Nat.mod_one]

theorem info_int : (Try.prog.info? 3).map (fun i => (i.zero, i.size, i.bytes)) = some (some (.int .i64 0), 1, 8) := by kernel_rfl
def zerosA (n : Nat) : Array Value := (List.replicate n (Value.int .i64 0)).toArray
set_option maxRecDepth 1000000 in
theorem New_calls (n : Nat) (h1 : 1 ≤ n) (h8 : n ≤ 8) (w : World) : Calls Try.prog 26 #[.int .i64 n] w fun e w' => ∃ g gm, e = .returned (.tuple #[.agg #[.slice (some ⟨g, 0, none⟩) 1 1, .slice none 0 0, .slice (some ⟨gm, 0, none⟩) n n], .int .i64 0]) ∧ Below w.heap.size w w' ∧ w.heap.size ≤ g ∧ w.heap.size ≤ gm ∧ Blk w' g 56 #[.int .i64 1, .bool true, .slice none 0 0, .string ⟨#[]⟩] ∧ Blk w' gm 3 (zerosA n) := by
  obtain ⟨i0, hi, hz0, hz1, hz2⟩ := info_parts info_int
  have hmk : ∀ W : World, (Instr.makeSlice 24 (.int .i64 n) (.int .i64 n)).run Try.prog W = .ok (.slice (some ⟨W.heap.size, 0, none⟩) n n) (W.alloc (.cells (zerosA n) 3)) := by
    intro W
    have h := run_make_rowN (P := Try.prog) (w := W) 24 3 i0 _ Try.underlying24 hi hz0 .i64 .i64 n n (Nat.le_refl _) (by rw [hz2]; omega) (by omega)
    simp only [hz1, Nat.mul_one, Value.cells, madeCells_one] at h
    exact h
  have HMK := Lib.hid hmk
  clear hmk hi hz0 hz1 hz2
  have hn1 : ¬ (n : Int) < 1 := by omega
  have hn8 : ¬ (8 : Int) < (n : Int) := by omega
  have hmk := HMK.out ((w.alloc (.cells #[.slice none 0 0, .slice none 0 0, .slice none 0 0] 26)).alloc (.cells #[.int .i64 1, .bool true, .slice none 0 0, .string ⟨#[]⟩] 56))
  go_enter Try.func26, Try.ntmps26
  go_wp2_with (fail)
  refine bodyPost_ret (v := .tuple #[.agg #[.slice (some ⟨w.heap.size + 1, 0, none⟩) 1 1, .slice none 0 0, .slice (some ⟨w.heap.size + 1 + 1, 0, none⟩) n n], .int .i64 0]) (by simp [results, Try.results26, go_sem]) rfl ⟨_, _, rfl, ?_⟩
  exact ⟨(((Below.refl _ _).alloc (Nat.le_refl _) _).alloc (by simp) _).alloc (by simp; omega) _, by omega, by omega, (Blk.newAt _ _ _ (by simp)).alloc _, Blk.newAt _ _ _ (by simp)⟩
theorem own_far {w : World} {base : Nat} {e : TypeId} {size k : Nat} {v : Value} {xs : List Value} (h : w.ownsRow base e size v k xs) {g : Nat} {t : TypeId} {cs : Array Value} (hg : Blk w g t cs) (ht : e ≠ t) (i : Nat) (u : Value) : (w.setCell ⟨g, i, none⟩ u).ownsRow base e size v k xs := by
  refine ⟨h.1, ?_⟩
  rcases h.2 with q | ⟨g', cap, cur, hv, hg', hh, rest⟩
  · exact .inl q
  · exact .inr ⟨g', cap, cur, hv, hg', Blk.far (p := ⟨g, i, none⟩) (show Blk w g' _ cur from hh) (Blk.ne_ (t := e) hh hg ht) u, rest⟩
theorem info_ino : (Try.prog.info? 56).map (fun i => (i.zero, i.size, i.bytes)) = some (some (.agg #[.int .i64 0, .bool false, .slice none 0 0, .string ⟨#[]⟩]), 4, 56) := by kernel_rfl
set_option maxRecDepth 1000000 in
theorem Copy1_calls {w : World} {g gm : Nat} (hg : Blk w g 56 #[.int .i64 1, .bool true, .slice none 0 0, .string ⟨#[]⟩]) (hm : Blk w gm 3 (zerosA 1)) :
    Calls Try.prog 64 #[.agg #[.slice (some ⟨g, 0, none⟩) 1 1, .slice none 0 0, .slice (some ⟨gm, 0, none⟩) 1 1]] w fun e w' => ∃ (g1 c2 g2 c3 ge : Nat), e = .returned (.agg #[.slice (some ⟨g1, 0, none⟩) 1 c2, .slice none 0 0, .slice (some ⟨g2, 0, none⟩) 1 c3]) ∧ Below w.heap.size w w' ∧ w'.ownsRow w.heap.size 56 4 (.slice (some ⟨g1, 0, none⟩) 1 c2) 1 [.int .i64 1, .bool true, .slice (some ⟨ge, 0, none⟩) 0 0, .string ⟨#[]⟩] ∧ w'.ownsRow w.heap.size 3 1 (.slice (some ⟨g2, 0, none⟩) 1 c3) 1 [.int .i64 0] := by
  obtain ⟨i0, hi, hz0, hz1, hz2⟩ := info_parts info_ino
  obtain ⟨j0, hj, hy0, hy1, hy2⟩ := info_parts info_int
  have q0 : w.cell? ⟨g, 0, none⟩ = some (.int .i64 1) := hg.cell 0
  have q1 : w.cell? ⟨g, 1, none⟩ = some (.bool true) := hg.cell 1
  have q2 : w.cell? ⟨g, 2, none⟩ = some (.slice none 0 0) := hg.cell 2
  have q3 : w.cell? ⟨g, 3, none⟩ = some (.string ⟨#[]⟩) := hg.cell 3
  have m0 : w.cell? ⟨gm, 0, none⟩ = some (.int .i64 0) := hm.cell 0
  have hgl := hg.lt
  have hml := hm.lt
  have hgn := World.new_ne w _ q0
  have hmn := World.new_ne w _ m0
  clear hg hm
  go_enter Try.func64, Try.ntmps64
  go_wp2_with (fail)
  have HB0 := Lib.hid (show Below w.heap.size w (((w.alloc (Obj.cells #[.slice (some ⟨g, 0, none⟩) 1 1, .slice none 0 0, .slice (some ⟨gm, 0, none⟩) 1 1] 26)).alloc (Obj.cells #[.slice none 0 0, .slice none 0 0, .slice none 0 0] 26)).alloc (Obj.cells #[.slice none 0 0, .slice none 0 0, .slice none 0 0] 26)) from (((Below.refl _ _).alloc (Nat.le_refl _) _).alloc (by simp) _).alloc (by simp; omega) _)
  have HS0 := Lib.hid (((Blk.new w 26 #[.slice (some ⟨g, 0, none⟩) 1 1, .slice none 0 0, .slice (some ⟨gm, 0, none⟩) 1 1]).alloc (Obj.cells #[.slice none 0 0, .slice none 0 0, .slice none 0 0] 26)).alloc (Obj.cells #[.slice none 0 0, .slice none 0 0, .slice none 0 0] 26))
  have HS1 := Lib.hid ((Blk.newAt (w.alloc (Obj.cells #[.slice (some ⟨g, 0, none⟩) 1 1, .slice none 0 0, .slice (some ⟨gm, 0, none⟩) 1 1] 26)) 26 #[.slice none 0 0, .slice none 0 0, .slice none 0 0] (n := w.heap.size + 1) (by simp)).alloc (Obj.cells #[.slice none 0 0, .slice none 0 0, .slice none 0 0] 26))
  have HS2 := Lib.hid (Blk.newAt ((w.alloc (Obj.cells #[.slice (some ⟨g, 0, none⟩) 1 1, .slice none 0 0, .slice (some ⟨gm, 0, none⟩) 1 1] 26)).alloc (Obj.cells #[.slice none 0 0, .slice none 0 0, .slice none 0 0] 26)) 26 #[.slice none 0 0, .slice none 0 0, .slice none 0 0] (n := w.heap.size + 1 + 1) (by simp))
  obtain ⟨p, hp⟩ : ∃ p, p = w.heap.size := ⟨_, rfl⟩
  have HP := Lib.hid hp
  rw [← hp] at HB0 HS0 HS1 HS2 ⊢
  have hgp : g < p := by omega
  have hmp : gm < p := by omega
  clear hp hgn hmn hgl hml
  generalize ((w.alloc (Obj.cells #[.slice (some ⟨g, 0, none⟩) 1 1, .slice none 0 0, .slice (some ⟨gm, 0, none⟩) 1 1] 26)).alloc (Obj.cells #[.slice none 0 0, .slice none 0 0, .slice none 0 0] 26)).alloc (Obj.cells #[.slice none 0 0, .slice none 0 0, .slice none 0 0] 26) = W0 at *
  go_loopw [4] (fun i wr => Below p w wr ∧ Blk wr p 26 #[.slice (some ⟨g, 0, none⟩) 1 1, .slice none 0 0, .slice (some ⟨gm, 0, none⟩) 1 1] ∧ Blk wr (p + 1) 26 #[.slice none 0 0, .slice none 0 0, .slice none 0 0] ∧ ((i = .int .i64 0 ∧ Blk wr (p + 1 + 1) 26 #[.slice none 0 0, .slice none 0 0, .slice none 0 0]) ∨ (∃ g1 c2 ge : Nat, i = .int .i64 1 ∧ Blk wr (p + 1 + 1) 26 #[.slice (some ⟨g1, 0, none⟩) 1 c2, .slice none 0 0, .slice none 0 0] ∧ wr.ownsRow p 56 4 (.slice (some ⟨g1, 0, none⟩) 1 c2) 1 [.int .i64 1, .bool true, .slice (some ⟨ge, 0, none⟩) 0 0, .string ⟨#[]⟩]))) (fun i _ => 1 - (intOf i).toNat)
  case atStart => exact ⟨HB0.out, HS0.out, HS1.out, .inl ⟨rfl, HS2.out⟩⟩
  case round =>
    obtain ⟨hB, hs0, hs1, hrel⟩ := hrel
    have HB := Lib.hid hB
    have HT0 := Lib.hid hs0
    have HT1 := Lib.hid hs1
    have r0 := (hB.cell (p := ⟨g, 0, none⟩) hgp).trans q0
    have r1 := (hB.cell (p := ⟨g, 1, none⟩) hgp).trans q1
    have r2 := (hB.cell (p := ⟨g, 2, none⟩) hgp).trans q2
    have r3 := (hB.cell (p := ⟨g, 3, none⟩) hgp).trans q3
    have n0 := (hB.cell (p := ⟨gm, 0, none⟩) hmp).trans m0
    have c0 : wr.cell? ⟨p, 0, none⟩ = some (.slice (some ⟨g, 0, none⟩) 1 1) := hs0.cell 0
    have c1 : wr.cell? ⟨p, 1, none⟩ = some (.slice none 0 0) := hs0.cell 1
    have c2 : wr.cell? ⟨p, 2, none⟩ = some (.slice (some ⟨gm, 0, none⟩) 1 1) := hs0.cell 2
    clear hB hs0 hs1 q0 q1 q2 q3 m0
    rcases hrel with ⟨rfl, ht⟩ | ⟨g1, c3, ge, rfl, ht, hown⟩
    · have HT2 := Lib.hid ht
      have d0 : wr.cell? ⟨p + 1 + 1, 0, none⟩ = some (.slice none 0 0) := ht.cell 0
      clear ht n0 d0
      obtain ⟨s, hs⟩ : ∃ s, s = wr.heap.size := ⟨_, rfl⟩
      have HSZ := Lib.hid hs
      have hps : p + 1 + 1 < wr.heap.size := HT2.out.lt
      have HX := Lib.hid (show Below wr.heap.size wr (((wr.alloc (Obj.cells #[.int .i64 1, .bool true, .slice (some ⟨wr.heap.size + 1, 0, none⟩) 0 0, .string ⟨#[]⟩] 56)).alloc (Obj.cells #[] 58)).alloc (Obj.cells #[.int .i64 1, .bool true, .slice (some ⟨wr.heap.size + 1, 0, none⟩) 0 0, .string ⟨#[]⟩] 56)) from (((Below.refl _ _).alloc (Nat.le_refl _) _).alloc (by simp) _).alloc (by simp; omega) _)
      have d1 : ((wr.alloc (Obj.cells #[.int .i64 1, .bool true, .slice (some ⟨wr.heap.size + 1, 0, none⟩) 0 0, .string ⟨#[]⟩] 56)).alloc (Obj.cells #[] 58)).cell? ⟨p + 1 + 1, 0, none⟩ = some (.slice none 0 0) := ((HT2.out.alloc _).alloc _).cell 0
      go_wp2_with (at_builtin; refine wpList_append_lies _ rfl (.tmp 24) (.tmp 26) 22 rfl p 56 i0 _ 4 56 Try.underlying22 hi hz0 hz1 hz2 rfl (by decide) (.slice none 0 0) 0 [] rfl (World.ownsRow_nil _ _ _ _) ⟨wr.heap.size + 1 + 1, 0, none⟩ 1 1 [.int .i64 1, .bool true, .slice (some ⟨wr.heap.size + 1, 0, none⟩) 0 0, .string ⟨#[]⟩] rfl rfl (World.news_of_block (Blk.newAt _ _ _ (by simp))) (by intro u hu; simp at hu; rcases hu with rfl | rfl | rfl | rfl <;> rfl) (by decide) (by decide) (by decide) (by have := HX.out.size; omega) _ rfl ?_; intro g1 cap1 w5 hown hgrow hat hlt; have hT := blk_grown hgrow (Blk.of_heap (HX.out.block _ (by omega)) HT2.out) (by simp [Value.ownBlock]); have d2 : w5.cell? ⟨p + 1 + 1, 0, none⟩ = some (.slice none 0 0) := hT.cell 0; have f2 : w5.frozen? ⟨p + 1 + 1, 0, none⟩ = false := hT.frozen 0)
      have hsz5 : wr.heap.size ≤ w5.heap.size := Nat.le_trans HX.out.size hgrow.size
      have hb5 : Below wr.heap.size wr w5 := HX.out.trans ⟨hgrow.os, hgrow.tape, hgrow.output, hgrow.size, fun k hk => hgrow.block k (by have := HX.out.size; omega) (by simp [Value.ownBlock])⟩
      have hq : Blk w5 g1 56 _ := (own_type hown rfl).2.choose_spec
      have HR1 := Lib.hid ((HB.out.trans (hb5.mono (by omega))).setCell (p := ⟨p + 1 + 1, 0, none⟩) (by show p ≤ p + 1 + 1; omega) (.slice (some ⟨g1, 0, none⟩) 1 cap1))
      have HR2 := Lib.hid ((Blk.of_heap (hb5.block _ (by omega)) HT0.out).far (p := ⟨p + 1 + 1, 0, none⟩) (by show p ≠ p + 1 + 1; omega) (.slice (some ⟨g1, 0, none⟩) 1 cap1))
      have HR3 := Lib.hid ((Blk.of_heap (hb5.block _ (by omega)) HT1.out).far (p := ⟨p + 1 + 1, 0, none⟩) (by show p + 1 ≠ p + 1 + 1; omega) (.slice (some ⟨g1, 0, none⟩) 1 cap1))
      have HR4 := Lib.hid (hT.set_ 0 (.slice (some ⟨g1, 0, none⟩) 1 cap1))
      have HR5 := Lib.hid (own_far hown hT (by decide) 0 (.slice (some ⟨g1, 0, none⟩) 1 cap1))
      clear hown hgrow hat hlt hT hb5 hq d1 d2 f2
      go_wp2_with (fail)
      go_roundw
      case rel => exact ⟨HR1.out, HR2.out, HR3.out, .inr ⟨g1, cap1, wr.heap.size + 1, rfl, HR4.out, HR5.out⟩⟩
      case measure => simp [intOf]
    · have HT2 := Lib.hid ht
      have HO := Lib.hid hown
      have e0 : wr.cell? ⟨p + 1 + 1, 0, none⟩ = some (.slice (some ⟨g1, 0, none⟩) 1 c3) := ht.cell 0
      have e1 : wr.cell? ⟨p + 1 + 1, 1, none⟩ = some (.slice none 0 0) := ht.cell 1
      have e2 : wr.cell? ⟨p + 1 + 1, 2, none⟩ = some (.slice none 0 0) := ht.cell 2
      have f1 : wr.frozen? ⟨p + 1 + 1, 1, none⟩ = false := ht.frozen 1
      have hpq : p + 1 + 1 < wr.heap.size := ht.lt
      have HTa := Lib.hid (ht.set_ 1 (.slice none 0 0))
      have HOa := Lib.hid (own_far hown ht (by decide) 1 (.slice none 0 0))
      have HBa := Lib.hid (HB.out.setCell (p := ⟨p + 1 + 1, 1, none⟩) (by show p ≤ p + 1 + 1; omega) (.slice none 0 0))
      have HS1a := Lib.hid (HT1.out.far (p := ⟨p + 1 + 1, 1, none⟩) (by show p + 1 ≠ p + 1 + 1; omega) (.slice none 0 0))
      have na : (wr.setCell ⟨p + 1 + 1, 1, none⟩ (.slice none 0 0)).cell? ⟨gm, 0, none⟩ = some (.int .i64 0) := (World.cell?_setCell_far _ _ _ _ (by show p + 1 + 1 ≠ gm; omega)).trans n0
      have hsza : (wr.setCell ⟨p + 1 + 1, 1, none⟩ (.slice none 0 0)).heap.size = wr.heap.size := by simp [World.setCell]
      have HSZ := Lib.hid hsza
      clear ht hown hsza n0 r0 r1 r2 r3
      go_wp2_with (at_builtin; refine wpList_append_lies _ rfl (.tmp 36) (.tmp 38) 24 rfl p 3 j0 _ 1 8 Try.underlying24 hj hy0 hy1 hy2 rfl (by decide) (.slice none 0 0) 0 [] rfl (World.ownsRow_nil _ _ _ _) ⟨gm, 0, none⟩ 1 1 [.int .i64 0] rfl rfl (fun j u hu => by
        cases j with
        | zero => simp at hu; subst hu; exact na
        | succ j => simp at hu) (by intro u hu; simp at hu; subst hu; rfl) (by decide) (by decide) (by decide) (by have := HSZ.out; omega) _ rfl ?_; intro g2 cap2 w5 hown2 hgrow hat hlt; have hT := blk_grown hgrow HTa.out (by simp [Value.ownBlock]); have d0 : w5.cell? ⟨p + 1 + 1, 0, none⟩ = some (.slice (some ⟨g1, 0, none⟩) 1 c3) := hT.cell 0; have d1 : w5.cell? ⟨p + 1 + 1, 1, none⟩ = some (.slice none 0 0) := hT.cell 1; have d2 : w5.cell? ⟨p + 1 + 1, 2, none⟩ = some (.slice none 0 0) := hT.cell 2; have f2 : w5.frozen? ⟨p + 1 + 1, 2, none⟩ = false := hT.frozen 2; have hR := blk_grown hgrow HS1a.out (by simp [Value.ownBlock]); have k0 : w5.cell? ⟨p + 1, 0, none⟩ = some (.slice none 0 0) := hR.cell 0; have k1 : w5.cell? ⟨p + 1, 1, none⟩ = some (.slice none 0 0) := hR.cell 1; have k2 : w5.cell? ⟨p + 1, 2, none⟩ = some (.slice none 0 0) := hR.cell 2; have l0 := hR.frozen 0; have l1 := hR.frozen 1; have l2 := hR.frozen 2)
      have hO1 := HOa.out.kept hgrow (.inr (by simp [Value.ownBlock]))
      have hB1 : Below p w w5 := HBa.out.trans ⟨hgrow.os, hgrow.tape, hgrow.output, hgrow.size, fun k hk => hgrow.block k (by have := HBa.out.size; have := HP.out; have := HSZ.out; omega) (by simp [Value.ownBlock])⟩
      have hT1 := hT.set_ 2 (.slice (some ⟨g2, 0, none⟩) 1 cap2)
      have hR1 := hR.far (p := ⟨p + 1 + 1, 2, none⟩) (by show p + 1 ≠ p + 1 + 1; omega) (.slice (some ⟨g2, 0, none⟩) 1 cap2)
      have hR2 := hR1.set_ 0 (.slice (some ⟨g1, 0, none⟩) 1 c3)
      have hR3 := hR2.set_ 1 (.slice none 0 0)
      have hR4 := hR3.set_ 2 (.slice (some ⟨g2, 0, none⟩) 1 cap2)
      have hO2 := own_far (own_far (own_far (own_far hO1 hT (by decide) 2 (.slice (some ⟨g2, 0, none⟩) 1 cap2)) hR1 (by decide) 0 (.slice (some ⟨g1, 0, none⟩) 1 c3)) hR2 (by decide) 1 (.slice none 0 0)) hR3 (by decide) 2 (.slice (some ⟨g2, 0, none⟩) 1 cap2)
      have hP2 := own_far (own_far (own_far (own_far hown2 hT (by decide) 2 (.slice (some ⟨g2, 0, none⟩) 1 cap2)) hR1 (by decide) 0 (.slice (some ⟨g1, 0, none⟩) 1 c3)) hR2 (by decide) 1 (.slice none 0 0)) hR3 (by decide) 2 (.slice (some ⟨g2, 0, none⟩) 1 cap2)
      have hB2 := (((hB1.setCell (p := ⟨p + 1 + 1, 2, none⟩) (by show p ≤ p + 1 + 1; omega) (.slice (some ⟨g2, 0, none⟩) 1 cap2)).setCell (p := ⟨p + 1, 0, none⟩) (by show p ≤ p + 1; omega) (.slice (some ⟨g1, 0, none⟩) 1 c3)).setCell (p := ⟨p + 1, 1, none⟩) (by show p ≤ p + 1; omega) (.slice none 0 0)).setCell (p := ⟨p + 1, 2, none⟩) (by show p ≤ p + 1; omega) (.slice (some ⟨g2, 0, none⟩) 1 cap2)
      have z0 := hR4.cell 0
      have z1 := hR4.cell 1
      have z2 := hR4.cell 2
      refine bodyPost_ret (v := .agg #[.slice (some ⟨g1, 0, none⟩) 1 c3, .slice none 0 0, .slice (some ⟨g2, 0, none⟩) 1 cap2]) ?_ rfl ⟨g1, c3, g2, cap2, ge, rfl, ?_, ?_, ?_⟩
      · clear hB2 hO2 hP2 hR4 hR3 hR2 hR1 hT1 hB1 hO1 z0 z1 z2
        simp [results, Try.results64, go_sem, k0, k1, k2]
      · rw [← HP.out]; exact hB2
      · rw [← HP.out]; exact hO2
      · rw [← HP.out]; exact hP2
end Go.Proofs.Ytenlffhoinialaa
