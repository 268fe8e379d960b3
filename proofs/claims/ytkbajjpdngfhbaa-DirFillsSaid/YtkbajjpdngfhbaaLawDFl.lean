
/- DirFills: the walk. -/
import Derived.Test.YtkbajjpdngfhbaaLawDMn
import Derived.Test.YtkbajjpdngfhbaaInts
namespace Go.Proofs.Ytkbajjpdngfhbaa
open Go.RowKit
set_option maxHeartbeats 4000000
def nmK (x : Nat) : ByteArray := ⟨#[107]⟩ ++ strD (dgs x)
theorem tabK : ((List.range 463).all fun x => ncheck (nmK x) == 0 && und (nmK x) == x) = true := by kernel_rfl
theorem nmK_ok {x : Nat} (hx : x < 463) : ncheck (nmK x) = 0 := by
  have := List.all_eq_true.1 tabK x (List.mem_range.2 hx)
  simp only [Bool.and_eq_true, beq_iff_eq] at this
  exact this.1
theorem nmK_und {x : Nat} (hx : x < 463) : und (nmK x) = x := by
  have := List.all_eq_true.1 tabK x (List.mem_range.2 hx)
  simp only [Bool.and_eq_true, beq_iff_eq] at this
  exact this.2
theorem nmK_inj {x y : Nat} (hx : x < 463) (hy : y < 463) (h : nmK x = nmK y) : x = y := by
  rw [← nmK_und hx, h, nmK_und hy]
theorem nmK_size (x : Nat) : (nmK x).size = 1 + (strD (dgs x)).size := by
  unfold nmK
  rw [ByteArray.size_append]
  rfl
/-- The numbers from a on, n of them, whose names are in bucket b. -/
def sel (b a n : Nat) : List Nat := ((List.range n).map (a + ·)).filter fun x => nbucket (nmK x) == b
theorem sel_succ (b a n : Nat) : sel b a (n + 1) = sel b a n ++ if nbucket (nmK (a + n)) = b then [a + n] else [] := by
  unfold sel
  rw [List.range_succ, List.map_append, List.filter_append]
  congr 1
  by_cases h : nbucket (nmK (a + n)) = b
  · rw [if_pos h]; simp [h]
  · rw [if_neg h]; simp [h]
theorem sel_add (b a m n : Nat) : sel b a (m + n) = sel b a m ++ sel b (a + m) n := by
  induction n with
  | zero => simp [sel]
  | succ n ih => rw [← Nat.add_assoc, sel_succ, ih, sel_succ, List.append_assoc, Nat.add_assoc]
theorem tabB : ((List.range 8).all fun b => decide (5 ≤ (sel b 63 337).length)) = true := by kernel_rfl
theorem sel_many {b u : Nat} (hb : b < 8) (hu : u ≤ 63) : 5 ≤ (sel b u 400).length := by
  have h := List.all_eq_true.1 tabB b (List.mem_range.2 hb)
  have h := of_decide_eq_true h
  have e : 400 = (63 - u) + (337 + u) := by omega
  rw [e, sel_add, show u + (63 - u) = 63 by omega, sel_add b 63 337 u, List.length_append, List.length_append]
  omega
theorem sel_mem {b a n x : Nat} (h : x ∈ sel b a n) : nbucket (nmK x) = b ∧ a ≤ x ∧ x < a + n := by
  unfold sel at h
  rw [List.mem_filter, List.mem_map] at h
  obtain ⟨⟨y, hy, rfl⟩, hb⟩ := h
  rw [List.mem_range] at hy
  exact ⟨by simpa using hb, by omega, by omega⟩
theorem sel_nodup (b a n : Nat) : (sel b a n).Nodup := by
  unfold sel
  refine List.Pairwise.filter _ ?_
  rw [List.pairwise_map]
  exact (List.nodup_range (n := n)).imp fun h e => h (by omega)
def encK (l : List Nat) : List Value := l.map fun x => Value.string (nmK x)
section
variable {L : Nat → Prop} {w w' : World} {a d : Nat} {n m : Nat} {P : List (List Acc) → Prop} {f : Int} {D : List Ent}
theorem DS.grown {v : Value} {g k cap : Nat} (h : DS (lo L v) w d a f n m P D) (hd : L d) (hne : v.ownBlock ≠ some d) (hg : w.grownBy w' v.ownBlock) (hat : v.ownBlock = some g ∨ w.heap.size ≤ g) (hlt : g < w'.heap.size) : DS (lo L (.slice (some ⟨g, 0, none⟩) k cap)) w' d a f n m P D := by
  obtain ⟨ws, T, h1, h2, h3, h4⟩ := h
  refine ⟨ws, T, ⟨.inl hd, Blk.of_heap (hg.block _ h1.2.1.lt (Ne.symm hne)) h1.2.1, h1.2.2⟩, h2.grown hg fun g' hg' => ?_, h3, h4⟩
  have : g = g' := by simpa [Value.ownBlock] using hg'
  subst this
  exact ⟨hat, hlt⟩
theorem DS.blk (h : DS L w d a f n m P D) : ∃ cs, Blk w d 97 cs := by
  obtain ⟨ws, T, h1, h2, h3, h4⟩ := h
  exact ⟨_, h1.2.1⟩
end
theorem info_str : (Try.prog.info? 9).map (fun i => (i.zero, i.size, i.bytes)) = some (some (.string ⟨#[]⟩), 1, 16) := by kernel_rfl
/-- The names laid so far. -/
def Laid (l : List Nat) (i : Nat) (D : List Ent) : Prop := D.length = i ∧ (∀ e ∈ D, ∃ j x, j < i ∧ l[j]? = some x ∧ e.1 = nmK x) ∧ (∀ j x, j < i → l[j]? = some x → (nmK x, j + 1) ∈ D)
theorem Laid.start (l : List Nat) : Laid l 0 [] := ⟨rfl, (fun e he => by cases he), fun j x hj => absurd hj (by omega)⟩
theorem Laid.no {l : List Nat} {i : Nat} {D : List Ent} (h : Laid l i D) (hn : l.Nodup) (hb : ∀ x ∈ l, x < 463) {k x : Nat} (hk : i ≤ k) (hx : l[k]? = some x) : ∀ q, (nmK x, q) ∉ D := by
  intro q hq
  obtain ⟨j, y, hj, hy, he⟩ := h.2.1 _ hq
  have e : x = y := nmK_inj (hb x (List.mem_of_getElem? hx)) (hb y (List.mem_of_getElem? hy)) he
  subst e
  have hjl := (List.getElem?_eq_some_iff.1 hy).1
  have := (List.getElem?_inj hjl hn).1 (hy.trans hx.symm)
  omega
theorem Laid.step {l : List Nat} {i x : Nat} {D : List Ent} (h : Laid l i D) (hx : l[i]? = some x) : Laid l (i + 1) ((nmK x, i + 1) :: D) := by
  refine ⟨by rw [List.length_cons, h.1], fun e he => ?_, fun j y hj hy => ?_⟩
  · rcases List.mem_cons.1 he with rfl | he
    · exact ⟨i, x, by omega, hx, rfl⟩
    · obtain ⟨j, y, hj, hy, hh⟩ := h.2.1 e he
      exact ⟨j, y, by omega, hy, hh⟩
  · by_cases e : j = i
    · subst e
      rw [hx] at hy
      cases hy
      exact List.mem_cons_self
    · exact List.mem_cons_of_mem _ (h.2.2 j y (by omega) hy)
theorem Laid.cnt {l : List Nat} {i b : Nat} {D : List Ent} (h : Laid l i D) (hb : ∀ x ∈ l, nbucket (nmK x) = b) : cntB D b = i := by
  unfold cntB
  rw [List.filter_eq_self.2, h.1]
  intro e he
  obtain ⟨j, x, _, hx, hh⟩ := h.2.1 e he
  rw [hh, hb x (List.mem_of_getElem? hx)]
  simp
set_option maxRecDepth 1000000 in
theorem fills_walk (w : World) (v : Int) (hv0 : (Lit.int .i64 v).wf = true) (gone : Int) (_ : (Lit.int .i64 gone).wf = true) :
    Calls Try.prog 4 #[.int .i64 v, .int .i64 gone] w fun e w' => e = .returned (.bool true) ∧ Below w.heap.size w w' := by
  obtain ⟨u, hu, hul⟩ : ∃ u : Nat, v % 64 = u ∧ u ≤ 63 := ⟨(v % 64).toNat, by omega, by omega⟩
  obtain ⟨b, hb, hbl⟩ : ∃ b : Nat, v.tdiv 64 % 8 = b ∧ b < 8 := ⟨(v.tdiv 64 % 8).toNat, by omega, by omega⟩
  have htd : IntKind.i64.wrap (v.tdiv 64) = v.tdiv 64 := IntWalk.i64_in _ (by
    have h8 := Int.natAbs_tdiv v 64
    have : (v.tdiv 64).natAbs = v.natAbs / 64 := h8
    have := wf_range hv0
    omega)
  obtain ⟨i0, hi, hz0, hz1, hz2⟩ := info_parts info_str
  go_enter Try.func4, Try.ntmps4
  go_wp2_with (fail)
  refine (awake_d w).mono ?_
  rintro e w0 ⟨rfl, hB0⟩
  have HB0 := Lib.hid hB0
  clear hB0
  go_wp2_with (fail)
  refine (made_d w0 (P := fun _ => True) trivial).mono ?_
  rintro e w1 ⟨a, d, rfl, hge, hS, hB1⟩
  have HB := Lib.hid (bel_then HB0.out hB1)
  have HS := Lib.hid hS
  have hlt : ∀ b, b < w.heap.size → ins (fun b => b < w0.heap.size) d b := fun b hb => .inl (Nat.lt_of_lt_of_le hb HB0.out.size)
  have hLw : ∀ b, ins (fun b => b < w0.heap.size) d b → b < w1.heap.size := HS.out.bd
  have hLd : ins (fun b => b < w0.heap.size) d d := .inr rfl
  clear hB1 hS
  generalize ins (fun b => b < w0.heap.size) d = L at *
  go_wp2_with (fail)
  obtain ⟨bs, hbs⟩ : ∃ bs, w1.heap.size = bs := ⟨_, rfl⟩
  have hwb : w.heap.size ≤ bs := by rw [← hbs]; exact HB.out.size
  go_loopw [8, 9] (fun val i wr => ∃ (k : Nat) (l : List Nat), i = .int .i64 k ∧ k ≤ 400 ∧ l = sel b u k ∧ l.length ≤ 5 ∧ (∃ A cap, val = .slice A l.length cap) ∧ wr.ownsRow bs 9 1 val l.length (encK l) ∧ bs ≤ wr.heap.size ∧ DS (lo L val) wr d a 0 4 0 (fun _ => True) [] ∧ Below w.heap.size w wr) (fun _ i _ => 400 - (intOf i).toNat)
  case atStart => exact ⟨0, [], rfl, by omega, rfl, by decide, ⟨none, 0, rfl⟩, World.ownsRow_nil _ _ _ _, by omega, by rw [lo_nil]; exact HS.out, HB.out⟩
  case round =>
    obtain ⟨k, l, rfl, hk, hl, hll, ⟨A, cap, rfl⟩, hown, hbw, hS, hBr⟩ := hrel
    have HO := Lib.hid hown
    have HSr := Lib.hid hS
    have HBR := Lib.hid hBr
    clear HS HB hown hS hBr
    by_cases hgo : l.length < 5 ∧ k < 400
    · obtain ⟨hg1, hg2⟩ := hgo
      have hg3 : (l.length : Int) < 5 := by omega
      have hg4 : (k : Int) < 400 := by omega
      have ex : IntKind.i64.wrap ((k : Int) + (u : Int)) = ((u + k : Nat) : Int) := by rw [IntWalk.i64_in _ (by omega)]; omega
      have hx4 : u + k < 463 := by omega
      have hck := nmK_ok hx4
      have hsz := ncheck_size hck
      have HDC := Lib.hid (fun W => decimal_calls (u + k) (by omega) W)
      have HRB := Lib.hid (fun W => rbucket_calls (nmK (u + k)) (by omega) W)
      have hcc : ¬ 9223372036854775807 < 1 + (strD (dgs (u + k))).size := by
        rw [← nmK_size]; omega
      have HSU := Lib.hid (sel_succ b u k)
      have HL := Lib.hid hl
      clear hck hsz hl
      go_wp2_with (fail)
      refine (HDC.out _).mono ?_
      rintro e w3 ⟨rfl, hB3⟩
      go_wp2_with (fail)
      refine (HRB.out _).mono ?_
      rintro e w4 ⟨rfl, k4, rfl⟩
      have hS4 := (HSr.out.below hB3).drewN k4
      have hO4 : (w3.drewN k4).ownsRow bs 9 1 (.slice A l.length cap) l.length (encK l) := own_keep HO.out (((Keeps.ofBelow hB3).sub fun j hj => HSr.out.bd j hj).drewN k4)
      have HB4 := Lib.hid (HBR.out.trans ((((Keeps.ofBelow hB3).drewN k4).below fun _ h => h).mono HBR.out.size))
      have hbw4 : bs ≤ (w3.drewN k4).heap.size := Nat.le_trans hbw hB3.size
      have HS4 := Lib.hid hS4
      have HO4 := Lib.hid hO4
      clear hS4 hO4 hB3 HO HSr HBR
      generalize w3.drewN k4 = w5 at *
      by_cases hq : nbucket (nmK (u + k)) = b
      · have HS2 := Lib.hid (show sel b u (k + 1) = l ++ [u + k] by rw [HSU.out, if_pos hq, ← HL.out])
        rw [hq]
        have hbb : ((b : Int) == (b : Int)) = true := by simp
        obtain ⟨sx, hsx⟩ : ∃ sx : ByteArray, (⟨#[107]⟩ ++ strD (dgs (u + k)) : ByteArray) = sx := ⟨_, rfl⟩
        have hsx2 : nmK (u + k) = sx := hsx
        have HSX := Lib.hid hsx2
        rw [hsx]
        clear hsx hsx2 hq HDC HRB hcc
        go_wp2_with (first | (at_builtin; refine wpList_append_lies _ rfl (.tmp 48) (.tmp 50) 47 rfl bs 9 i0 _ 1 16 Try.underlying47 hi hz0 hz1 hz2 rfl (by omega) (.slice A l.length cap) _ _ rfl ((World.ownsRow.alloc HO4.out (Obj.cells #[.string sx] 9))) ⟨w5.heap.size, 0, none⟩ 1 1 [.string sx] rfl rfl (World.news_of_block (heap_alloc_new _ _)) (by intro u hu; simp at hu; subst hu; rfl) (by decide) (by simp only [maxLen]; omega) (by omega) (by simp; omega) _ rfl ?_; intro g1 cap1 w6 hown hgrow hat hlt2))
        go_roundw
        case rel =>
          obtain ⟨csd, hcsd⟩ := HS4.out.blk
          refine ⟨k + 1, l ++ [u + k], by first | rfl | (congr 1; omega), by omega, HS2.out.symm, by rw [List.length_append, List.length_singleton]; omega, ⟨_, _, by rw [List.length_append, List.length_singleton]⟩, ?_, Nat.le_trans (Nat.le_trans hbw4 (size_alloc_le _ _)) hgrow.size, (HS4.out.alloc (Obj.cells #[.string sx] 9)).grown hLd (own_blk_ne HO4.out hcsd (by decide)) hgrow (hat.imp id (fun h => Nat.le_of_eq h.symm)) hlt2, (HB4.out.alloc HB4.out.size _).grown hgrow (by simp; have := HB4.out.size; omega) fun g' hg' => Nat.le_trans hwb (own_ge HO4.out hg')⟩
          have e1 : encK (l ++ [u + k]) = encK l ++ [.string sx] := by rw [← HSX.out]; simp [encK]
          rw [List.length_append, List.length_singleton, e1]
          exact hown
        case measure =>
          simp only [intOf]
          omega
      · have HS2 := Lib.hid (show sel b u (k + 1) = l by rw [HSU.out, if_neg hq, ← HL.out, List.append_nil])
        have hbb : ((nbucket (nmK (u + k)) : Int) == (b : Int)) = false := beq_eq_false_iff_ne.2 (by omega)
        go_wp2_with (fail)
        go_roundw
        case rel => exact ⟨k + 1, l, by first | rfl | (congr 1; omega), by omega, HS2.out.symm, hll, ⟨_, _, rfl⟩, HO4.out, hbw4, HS4.out, HB4.out⟩
        case measure =>
          simp only [intOf]
          omega
    · have hl5 : l.length = 5 := by
        have := sel_many hbl hul
        by_cases h : l.length < 5
        · have hk4 : k = 400 := by omega
          rw [hk4] at hl
          rw [hl] at h
          omega
        · omega
      have hgs : ¬ (l.length : Int) < 5 := by omega
      have hgs2 : ¬ (l.length : Int) ≤ 4 := by omega
      have HL := Lib.hid hl
      have HSr2 := Lib.hid (HSr.out.mono (show 0 ≤ 100 by omega))
      clear hgo hl HSr
      obtain ⟨_, A', cap', hae, _, hcf⟩ := Sl.ofOwn HO.out
      cases hae
      obtain ⟨g9, off, rfl, hcell⟩ := hcf (by omega)
      clear hcell hcf
      go_wp2_with (fail)
      have hnd : l.Nodup := by rw [HL.out]; exact sel_nodup _ _ _
      have hbx : ∀ x ∈ l, nbucket (nmK x) = b ∧ x < 463 := fun x hx => by
        rw [HL.out] at hx
        have := sel_mem hx
        exact ⟨this.1, by omega⟩
      have HND := Lib.hid hnd
      have HBX := Lib.hid hbx
      clear hnd hbx
      have hlt2 : ∀ b, b < w.heap.size → lo L (.slice (some ⟨g9, off, none⟩) l.length cap) b := fun b hb => .inl (hlt b hb)
      go_loopw [11] (fun i ws => ∃ (j : Nat) (D : List Ent), i = .int .i64 j ∧ j ≤ 4 ∧ Laid l j D ∧ ws.ownsRow bs 9 1 (.slice (some ⟨g9, off, none⟩) l.length cap) l.length (encK l) ∧ DS (lo L (.slice (some ⟨g9, off, none⟩) l.length cap)) ws d a 0 4 (100 + 100 * j) (fun _ => True) D ∧ Below w.heap.size w ws) (fun i _ => 4 - (intOf i).toNat)
      case atStart => exact ⟨0, [], rfl, by omega, Laid.start _, HO.out, HSr2.out, HBR.out⟩
      case round =>
        obtain ⟨j, D, rfl, hj, hld, hown, hS, hBw⟩ := hrel
        clear HO HSr2 HBR
        have HBW := Lib.hid hBw
        have HS4 := Lib.hid hS
        have HO := Lib.hid hown
        have HLD := Lib.hid hld
        clear hBw hS hown hld
        have HSL := Lib.hid (fun (W : World) (h : W.ownsRow bs 9 1 (.slice (some ⟨g9, off, none⟩) l.length cap) l.length (encK l)) (q x : Nat) (hx : l[q]? = some x) => (by
          obtain ⟨_, A', cap', hae, _, hcf⟩ := Sl.ofOwn h
          cases hae
          obtain ⟨g8, off8, hgg, hcell⟩ := hcf (by omega)
          cases hgg
          exact hcell q _ (by unfold encK; rw [List.getElem?_map, hx]; rfl) : W.cell? ⟨g9, off + q, none⟩ = some (.string (nmK x))))
        by_cases hj1 : j < 4
        · have hj2 : (j : Int) < 4 := by omega
          have hjl : (j : Int) < (l.length : Int) := by omega
          obtain ⟨x, hx⟩ : ∃ x, l[j]? = some x := ⟨_, List.getElem?_eq_getElem (by omega)⟩
          have q1 := HSL.out _ HO.out j x hx
          have hmx := HBX.out x (List.mem_of_getElem? hx)
          have HM0 := Lib.hid (mayE_one (n := 4) (c := (j : Int) % 4) (by omega) (by omega) (nmK_ok hmx.2))
          have HNO := Lib.hid (HLD.out.no HND.out (fun x hx => (HBX.out x hx).2) (Nat.le_refl j) hx)
          have HST := Lib.hid (HLD.out.step hx)
          have hlen := HLD.out.1
          have HI := Lib.hid (insert_d HS4.out (by omega) ((j : Int) % 4) (nmK x) ((j : Int) + 1) (S := fun _ => True) (Cl.true_ _ _ _) (fun _ _ _ _ => trivial))
          clear hmx
          generalize nmK x = s1 at *
          go_wp2_with (fail)
          refine HI.out.mono ?_
          rintro e w5 ⟨r, D5, rfl, hi5, hS5, hK5⟩
          obtain ⟨rfl, rfl⟩ := hi5.new HM0.out (by omega) (by omega) HNO.out (Nat.lt_of_le_of_lt (cntB_le _ _) (by omega))
          have HO5 := Lib.hid (own_keep HO.out hK5)
          have HB5 := Lib.hid (HBW.out.trans (hK5.below hlt2))
          have HS5 := Lib.hid hS5
          clear hi5 hK5 hS5 HI
          go_wp2_with (go_at_call 11; refine (num_calls _ _).mono ?_; rintro e w' ⟨rfl, rfl⟩)
          go_roundw
          case rel =>
            have e1 : ((j : Int) + 1).toNat = j + 1 := by omega
            refine ⟨j + 1, _, by first | rfl | (congr 1; omega), by omega, HST.out, HO5.out, ?_, HB5.out⟩
            have := HS5.out
            rw [e1] at this
            exact this.mono (by omega)
          case measure =>
            simp only [intOf]
            omega
        · have e : j = 4 := by omega
          subst e
          have h4l : (4 : Int) < (l.length : Int) := by omega
          obtain ⟨x4, hx4⟩ : ∃ x, l[4]? = some x := ⟨_, List.getElem?_eq_getElem (by omega)⟩
          obtain ⟨jg, hjg, hjg4⟩ : ∃ jg : Nat, gone % 4 = jg ∧ jg < 4 := ⟨(gone % 4).toNat, by omega, by omega⟩
          have hjgl : (jg : Int) < (l.length : Int) := by omega
          obtain ⟨xg, hxg⟩ : ∃ x, l[jg]? = some x := ⟨_, List.getElem?_eq_getElem (by omega)⟩
          have q4 := HSL.out _ HO.out 4 x4 hx4
          have hm4 := HBX.out x4 (List.mem_of_getElem? hx4)
          have hmg := HBX.out xg (List.mem_of_getElem? hxg)
          have HM4 := Lib.hid (mayE_one (n := 4) (c := 0) (by omega) (by omega) (nmK_ok hm4.2))
          have HMG := Lib.hid (mayE_one (n := 4) (c := 1) (by omega) (by omega) (nmK_ok hmg.2))
          have HNO := Lib.hid (HLD.out.no HND.out (fun x hx => (HBX.out x hx).2) (Nat.le_refl 4) hx4)
          have HMEM := Lib.hid (HLD.out.2.2 jg xg hjg4 hxg)
          have HCN := Lib.hid (show 4 ≤ cntB D (nbucket (nmK x4)) by rw [hm4.1, HLD.out.cnt (fun x hx => (HBX.out x hx).1)]; omega)
          have HD4 := Lib.hid HLD.out.1
          have HI := Lib.hid (insert_d HS4.out (by omega) 0 (nmK x4) 9 (S := fun _ => True) (Cl.true_ _ _ _) (fun _ _ _ _ => trivial))
          clear hm4 hmg
          go_wp2_with (fail)
          refine HI.out.mono ?_
          rintro e w5 ⟨r, D5, rfl, hi5, hS5, hK5⟩
          obtain ⟨rfl, hDD⟩ := hi5.full HM4.out (by omega) (by omega) HNO.out HCN.out
          rw [hDD] at hS5
          have HO5 := Lib.hid (own_keep HO.out hK5)
          have HB5 := Lib.hid (HBW.out.trans (hK5.below hlt2))
          have HRM := Lib.hid (remove_d hS5 (by omega) 1 (nmK xg) (S := fun _ => True) (Cl.true_ _ _ _) (fun _ _ _ _ => trivial))
          have HU5 := Lib.hid hS5.uniq
          have q5 := HSL.out _ HO5.out jg xg hxg
          clear hi5 hK5 hS5 HI q4 hDD
          go_wp2_with (fail)
          refine HRM.out.mono ?_
          rintro e w6 ⟨r, D6, rfl, hr6, hS6, hK6⟩
          obtain ⟨rfl, hp6⟩ := hr6.yes HMG.out HU5.out HMEM.out
          have HO6 := Lib.hid (own_keep HO5.out hK6)
          have HB6 := Lib.hid (HB5.out.trans (hK6.below hlt2))
          have hl6 : D6.length = 3 := by
            have := hp6.length_eq
            rw [List.length_cons, HD4.out] at this
            omega
          have HI6 := Lib.hid (insert_d hS6 (by omega) 0 (nmK x4) 9 (S := fun _ => True) (Cl.true_ _ _ _) (fun _ _ _ _ => trivial))
          have HNO6 := Lib.hid (show ∀ q, (nmK x4, q) ∉ D6 from fun q hq => HNO.out q (hp6.mem_iff.2 (List.mem_cons_of_mem _ hq)))
          have q6 := HSL.out _ HO6.out 4 x4 hx4
          clear hr6 hp6 hS6 hK6 q5 HRM
          go_wp2_with (fail)
          refine HI6.out.mono ?_
          rintro e w7 ⟨r, D7, rfl, hi7, hS7, hK7⟩
          obtain ⟨rfl, rfl⟩ := hi7.new HM4.out (by omega) (by omega) HNO6.out (Nat.lt_of_le_of_lt (cntB_le _ _) (by omega))
          have HO7 := Lib.hid (own_keep HO6.out hK7)
          have HB7 := Lib.hid (HB6.out.trans (hK7.below hlt2))
          have HF7 := Lib.hid (find_d hS7 (by omega) 0 (nmK x4) (S := fun _ => True) (Cl.true_ _ _ _) (fun _ _ _ => trivial))
          have HU7 := Lib.hid hS7.uniq
          have q7 := HSL.out _ HO7.out 4 x4 hx4
          clear hi7 hS7 hK7 q6 HI6
          go_wp2_with (fail)
          refine HF7.out.mono ?_
          rintro e w8 ⟨x, y, rfl, hf8, hS8, hK8⟩
          obtain ⟨rfl, rfl⟩ := hf8.yes HM4.out HU7.out (u := 9) (by simp)
          have HB8 := Lib.hid (HB7.out.trans (hK8.below hlt2))
          have HS8 := Lib.hid hS8
          clear hf8 hS8 hK8 q7 HF7
          go_wp2_with (go_at_call 11; refine (num_calls _ _).mono ?_; rintro e w' ⟨rfl, rfl⟩)
          refine (list_d HS8.out (by omega) 0 (S := fun _ => True) (Cl.true_ _ _ _) (fun _ _ _ => trivial)).mono ?_
          rintro e w9 ⟨v9, D9, rfl, hl9, hown9, _, hK9⟩
          have hl2 : D9.length = 4 := by
            rcases hl9 with ⟨h, _⟩ | ⟨_, h, _⟩
            · rw [mayE_ok (by omega) (by omega) (fun s hs => by cases hs)] at h; cases h
            · rw [h.length_eq, List.length_cons, hl6]
          obtain ⟨g7, cap7, rfl, _, _⟩ := hown9.form (by omega)
          have HB9 := Lib.hid (HB8.out.trans (hK9.below hlt2))
          rw [hl2]
          clear hl9 hown9 hK9
          go_wp2_with (fail)
          go_ret
          exact ⟨rfl, HB9.out⟩
end Go.Proofs.Ytkbajjpdngfhbaa
