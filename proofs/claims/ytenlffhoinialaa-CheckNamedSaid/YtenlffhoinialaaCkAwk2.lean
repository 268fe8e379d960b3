
/- law20: awake. -/
import Derived.Test.YtenlffhoinialaaCkAwk
namespace Go.Proofs.Ytenlffhoinialaa
open Go.RowKit
set_option maxHeartbeats 1000000
attribute [local go_sem ↓] Go.wp_at_zero Go.wp_at_succ
theorem New1 (w : World) : Calls Try.prog 26 #[.int .i64 1] w fun e w' => ∃ g gm, e = .returned (.tuple #[.agg #[.slice (some ⟨g, 0, none⟩) 1 1, .slice none 0 0, .slice (some ⟨gm, 0, none⟩) 1 1], .int .i64 0]) ∧ Below w.heap.size w w' ∧ w.heap.size ≤ g ∧ w.heap.size ≤ gm ∧ Blk w' g 56 #[.int .i64 1, .bool true, .slice none 0 0, .string ⟨#[]⟩] ∧ Blk w' gm 3 (zerosA 1) := New_calls 1 (by decide) (by decide) w
set_option maxRecDepth 1000000 in
theorem Read0 (w : World) : Calls Try.prog 61 #[.string ⟨#[]⟩] w fun e w' => e = .returned (.tuple #[.agg #[.slice none 0 0, .slice none 0 0, .slice none 0 0], .int .i64 1900]) ∧ Below w.heap.size w w' := by
  go_enter Try.func61, Try.ntmps61
  go_wp2_with (fail)
  refine bodyPost_ret (v := .tuple #[.agg #[.slice none 0 0, .slice none 0 0, .slice none 0 0], .int .i64 1900]) (by simp [results, Try.results61, go_sem]) rfl ⟨rfl, ?_⟩
  exact (Below.refl _ _).alloc (Nat.le_refl _) _
set_option maxRecDepth 1000000 in
theorem Image0 (w : World) : Calls Try.prog 22 #[.string ⟨#[]⟩] w fun e w' => e = .returned (.tuple #[.slice none 0 0, .int .i64 1900]) ∧ Below w.heap.size w w' := by
  go_enter Try.func22, Try.ntmps22
  go_wp2_with (go_at_call 61; refine (Read0 _).mono ?_; rintro e w1 ⟨rfl, hB1⟩)
  go_ret2
  exact ⟨rfl, hB1.alloc hB1.size _⟩
def sNew : St := ⟨[⟨1, true, [], ⟨#[]⟩⟩], [], [0]⟩
def sA : St := ⟨[⟨1, true, [(⟨#[97]⟩, 2)], ⟨#[]⟩⟩], [], [0]⟩
def fA : List Fnd := [⟨2, 1, ⟨#[97]⟩⟩]
set_option maxRecDepth 100000 in
theorem ev_new : rawF sNew = [] := by rw [raw_c]; kernel_rfl
set_option maxRecDepth 100000 in
theorem ev_a : rawF sA = fA := by rw [raw_c]; kernel_rfl
def row4 (a b c d : Value) : Nat → Nat → Value := fun _ j => match j with
  | 0 => a
  | 1 => b
  | 2 => c
  | _ => d
theorem own_row1 {w : World} {base : Nat} {e : TypeId} {v a b c d : Value} (h : w.ownsRow base e 4 v 1 [a, b, c, d]) : RowAt w v 1 4 (row4 a b c d) := by
  rcases h.2 with ⟨rfl, h0⟩ | ⟨g, cap, cur, rfl, hb, hh, h1, _⟩
  · omega
  · refine ⟨_, _, rfl, h1, fun _ => ⟨g, 0, rfl, fun i j hi hj => ?_⟩⟩
    have : i = 0 := by omega
    subst this
    have hc := h.cells (g := g) rfl j (row4 a b c d 0 j) (by
      have : j = 0 ∨ j = 1 ∨ j = 2 ∨ j = 3 := by omega
      rcases this with rfl | rfl | rfl | rfl <;> rfl)
    rw [Addr.add_lit] at hc
    rw [Nat.zero_mul, Nat.zero_add, Nat.zero_add]
    rw [Nat.zero_add] at hc
    exact hc
theorem own_row1i {w : World} {base : Nat} {e : TypeId} {v a : Value} (h : w.ownsRow base e 1 v 1 [a]) : RowAt w v 1 1 (fun _ _ => a) := by
  rcases h.2 with ⟨rfl, h0⟩ | ⟨g, cap, cur, rfl, hb, hh, h1, _⟩
  · omega
  · refine ⟨_, _, rfl, h1, fun _ => ⟨g, 0, rfl, fun i j hi hj => ?_⟩⟩
    have : i = 0 := by omega
    subst this
    have : j = 0 := by omega
    subst this
    have hc := h.cells (g := g) rfl 0 a rfl
    rw [Addr.add_lit] at hc
    exact hc
/-- A state of one directory. -/
theorem one_stm {w : World} {iv mv ev : Value} {l : List (ByteArray × Int)} (hI : RowAt w iv 1 4 (row4 (.int .i64 1) (.bool true) ev (.string ⟨#[]⟩))) (hE : RowAt w ev l.length 2 (entC ⟨[⟨1, true, l, ⟨#[]⟩⟩], [], [0]⟩ 0)) (hM : RowAt w mv 1 1 (fun _ _ => .int .i64 0)) :
    StM w iv (.slice none 0 0) mv (fun _ => ev) ⟨[⟨1, true, l, ⟨#[]⟩⟩], [], [0]⟩ := by
  refine ⟨?_, fun i hi => ?_, RowAt.nil_ _ _ _, ?_⟩
  · obtain ⟨A, cap, h1, h2, h3⟩ := hI
    refine ⟨A, cap, h1, h2, fun h => ?_⟩
    obtain ⟨g, off, hA, hc⟩ := h3 h
    refine ⟨g, off, hA, fun i j hi hj => ?_⟩
    rw [hc i j hi hj]
    have hi' : i < 1 := hi
    have : i = 0 := by omega
    subst this
    have : j = 0 ∨ j = 1 ∨ j = 2 ∨ j = 3 := by omega
    rcases this with rfl | rfl | rfl | rfl <;> rfl
  · have hi' : i < 1 := hi
    have : i = 0 := by omega
    subst this
    exact hE
  · obtain ⟨A, cap, h1, h2, h3⟩ := hM
    refine ⟨A, cap, h1, h2, fun h => ?_⟩
    obtain ⟨g, off, hA, hc⟩ := h3 h
    refine ⟨g, off, hA, fun i j hi hj => ?_⟩
    rw [hc i j hi hj]
    have hi' : i < 1 := hi
    have : i = 0 := by omega
    subst this
    rfl
theorem getD_case {A : Type} (P : A → Prop) (l : List A) (d : A) (h : ∀ x ∈ l, P x) (hd : P d) (i : Nat) : P (l.getD i d) := by
  rw [List.getD]
  rcases hi : l[i]? with _ | x
  · exact hd
  · exact h x (List.mem_of_getElem? hi)
/-- Small, by a look at all of it. -/
theorem small_of {S : St} (h : (decide (S.inodes.length ≤ 1000) && decide (S.opens.length ≤ 1000) && decide (S.made.length ≤ 1000) && S.inodes.all (fun x => decide (x.ents.length ≤ 1000) && decide (-1000000 ≤ x.num ∧ x.num ≤ 1000000) && x.ents.all fun e => decide (-1000000 ≤ e.2 ∧ e.2 ≤ 1000000)) && S.made.all (fun m => decide (-1000000 ≤ m ∧ m ≤ 1000000))) = true) : S.small := by
  simp only [Bool.and_eq_true, decide_eq_true_eq, List.all_eq_true] at h
  obtain ⟨⟨⟨⟨h1, h2⟩, h3⟩, h4⟩, h5⟩ := h
  refine ⟨h1, h2, h3, fun i => ?_, fun i => ?_, fun i k => ?_, fun i => ?_⟩
  · exact getD_case (fun x : Ino => x.ents.length ≤ 1000) S.inodes noIno (fun x hx => (h4 x hx).1.1) (by decide) i
  · exact getD_case (fun x : Ino => -1000000 ≤ x.num ∧ x.num ≤ 1000000) S.inodes noIno (fun x hx => (h4 x hx).1.2) (by decide) i
  · exact getD_case (fun x : Ino => -1000000 ≤ (x.ents.getD k (ByteArray.empty, 0)).2 ∧ (x.ents.getD k (ByteArray.empty, 0)).2 ≤ 1000000) S.inodes noIno (fun x hx => getD_case (fun e : ByteArray × Int => -1000000 ≤ e.2 ∧ e.2 ≤ 1000000) x.ents _ (fun e he => (h4 x hx).2 e he) (by decide) k) (getD_case (fun e : ByteArray × Int => -1000000 ≤ e.2 ∧ e.2 ≤ 1000000) [] _ (fun e he => absurd he (by simp)) (by decide) k) i
  · exact getD_case (fun m : Int => -1000000 ≤ m ∧ m ≤ 1000000) S.made 0 (fun m hm => h5 m hm) (by decide) i
theorem sNew_small : sNew.small := small_of (by kernel_rfl)
theorem sA_small : sA.small := small_of (by kernel_rfl)
theorem rise_nil : RiseF [] := List.Pairwise.nil
theorem rise_one (f : Fnd) : RiseF [f] := List.pairwise_singleton _ _
set_option maxRecDepth 1000000 in
theorem awake_calls (w : World) : Calls Try.prog 25 #[] w fun e w' => e = .returned (.bool true) ∧ Below w.heap.size w w' := by
  go_enter Try.func25, Try.ntmps25
  go_wp2_with (fail)
  refine (New1 w).mono ?_
  rintro e w1 ⟨g, gm, rfl, hB1, hg, hgm, hI, hM⟩
  go_wp2_with (fail)
  have HI1 := Lib.hid (hI.alloc (.cells #[.slice (some ⟨g, 0, none⟩) 1 1, .slice none 0 0, .slice (some ⟨gm, 0, none⟩) 1 1] 26))
  have HM1 := Lib.hid (hM.alloc (.cells #[.slice (some ⟨g, 0, none⟩) 1 1, .slice none 0 0, .slice (some ⟨gm, 0, none⟩) 1 1] 26))
  have HS1 := Lib.hid (Blk.new w1 26 #[.slice (some ⟨g, 0, none⟩) 1 1, .slice none 0 0, .slice (some ⟨gm, 0, none⟩) 1 1])
  have HBW := Lib.hid (hB1.alloc hB1.size (.cells #[.slice (some ⟨g, 0, none⟩) 1 1, .slice none 0 0, .slice (some ⟨gm, 0, none⟩) 1 1] 26))
  have hw1 := hB1.size
  clear hI hM hB1
  refine (Copy1_calls HI1.out HM1.out).mono ?_
  generalize w1.alloc (.cells #[.slice (some ⟨g, 0, none⟩) 1 1, .slice none 0 0, .slice (some ⟨gm, 0, none⟩) 1 1] 26) = wa at *
  generalize w1.heap.size = sb at *
  rintro e w2 ⟨g1, c2, g2, c3, ge, rfl, hB2, hO1, hO2⟩
  have HI2 := Lib.hid (Blk.of_heap (hB2.block _ HI1.out.lt) HI1.out)
  have HM2 := Lib.hid (Blk.of_heap (hB2.block _ HM1.out.lt) HM1.out)
  have HS2 := Lib.hid (Blk.of_heap (hB2.block _ HS1.out.lt) HS1.out)
  have HBW2 := Lib.hid (HBW.out.trans (hB2.mono HBW.out.size))
  have hg1 := (own_type hO1 rfl).1
  have HT2 := Lib.hid (Blk.new w2 26 #[.slice (some ⟨g1, 0, none⟩) 1 c2, .slice none 0 0, .slice (some ⟨g2, 0, none⟩) 1 c3])
  have hwa := HBW.out.size
  obtain ⟨wb, hwb⟩ : ∃ wb, wb = (w2.alloc (.cells #[.slice (some ⟨g1, 0, none⟩) 1 c2, .slice none 0 0, .slice (some ⟨g2, 0, none⟩) 1 c3] 26)).alloc (.cells #[.string ⟨#[97]⟩, .int .i64 2] 58) := ⟨_, rfl⟩
  have HI3 := Lib.hid (show Blk wb _ _ _ from hwb ▸ (HI2.out.alloc _).alloc _)
  have HM3 := Lib.hid (show Blk wb _ _ _ from hwb ▸ (HM2.out.alloc _).alloc _)
  have HS3 := Lib.hid (show Blk wb _ _ _ from hwb ▸ (HS2.out.alloc _).alloc _)
  have HT3 := Lib.hid (show Blk wb _ _ _ from hwb ▸ HT2.out.alloc _)
  have HE3 := Lib.hid (show Blk wb (w2.heap.size + 1) 58 #[.string ⟨#[97]⟩, .int .i64 2] from hwb ▸ Blk.newAt _ _ _ (by simp))
  have HO3 := Lib.hid (show wb.ownsRow _ _ _ _ _ _ from hwb ▸ (hO1.alloc _).alloc _)
  have HP3 := Lib.hid (show wb.ownsRow _ _ _ _ _ _ from hwb ▸ (hO2.alloc _).alloc _)
  have HBW3 := Lib.hid (show Below w.heap.size w wb from hwb ▸ (HBW2.out.alloc HBW2.out.size _).alloc (by have := HBW2.out.size; simp; omega) _)
  have k2 : wb.cell? ⟨g1, 2, none⟩ = some (.slice (some ⟨ge, 0, none⟩) 0 0) := HO3.out.cellAt 2 (by decide)
  have f2 : wb.frozen? ⟨g1, 2, none⟩ = false := HO3.out.frozenAt 2
  rw [hwb] at k2 f2
  have HG := Lib.hid HI1.out.lt
  clear hB2 hO1 hO2 HI1 HM1 HS1 HBW HI2 HM2 HS2 HT2
  go_upto_region 4 with (fail)
  rw [← hwb]
  have hq1 := (own_type HO3.out rfl).2
  obtain ⟨cq, hq1⟩ := hq1
  have hne : g ≠ g1 := by have := HI3.out; have h2 := hg1; have h3 := HG.out; omega
  have HI4 := Lib.hid (HI3.out.far (p := ⟨g1, 2, none⟩) hne (.slice (some ⟨w2.heap.size + 1, 0, none⟩) 1 1))
  have HM4 := Lib.hid (HM3.out.far (p := ⟨g1, 2, none⟩) (HM3.out.ne_ hq1 (by decide)) (.slice (some ⟨w2.heap.size + 1, 0, none⟩) 1 1))
  have HS4 := Lib.hid (HS3.out.far (p := ⟨g1, 2, none⟩) (HS3.out.ne_ hq1 (by decide)) (.slice (some ⟨w2.heap.size + 1, 0, none⟩) 1 1))
  have HT4 := Lib.hid (HT3.out.far (p := ⟨g1, 2, none⟩) (HT3.out.ne_ hq1 (by decide)) (.slice (some ⟨w2.heap.size + 1, 0, none⟩) 1 1))
  have HE4 := Lib.hid (HE3.out.far (p := ⟨g1, 2, none⟩) (HE3.out.ne_ hq1 (by decide)) (.slice (some ⟨w2.heap.size + 1, 0, none⟩) 1 1))
  have HP4 := Lib.hid (own_far HP3.out hq1 (by decide) 2 (.slice (some ⟨w2.heap.size + 1, 0, none⟩) 1 1))
  have HO4 := Lib.hid (HO3.out.stored 2 (.slice (some ⟨w2.heap.size + 1, 0, none⟩) 1 1))
  have HB4 := Lib.hid (HBW3.out.setCell (p := ⟨g1, 2, none⟩) (by show w.heap.size ≤ g1; omega) (.slice (some ⟨w2.heap.size + 1, 0, none⟩) 1 1))
  clear hq1 k2 f2 hwb HI3 HM3 HS3 HT3 HE3 HP3 HO3 HBW3 hne
  generalize w2.heap.size + 1 = eb at *
  generalize w2.heap.size = tb at *
  generalize wb.setCell ⟨g1, 2, none⟩ (.slice (some ⟨eb, 0, none⟩) 1 1) = wc at *
  go_wp2_with (fail)
  refine (Image0 wc).mono ?_
  rintro e w5 ⟨rfl, hB5⟩
  have HI5 := Lib.hid (Blk.of_heap (hB5.block _ HI4.out.lt) HI4.out)
  have HM5 := Lib.hid (Blk.of_heap (hB5.block _ HM4.out.lt) HM4.out)
  have HS5 := Lib.hid (Blk.of_heap (hB5.block _ HS4.out.lt) HS4.out)
  have HT5 := Lib.hid (Blk.of_heap (hB5.block _ HT4.out.lt) HT4.out)
  have HE5 := Lib.hid (Blk.of_heap (hB5.block _ HE4.out.lt) HE4.out)
  have HP5 := Lib.hid (own_below HP4.out hB5)
  have HO5 := Lib.hid (own_below HO4.out.1 hB5)
  have HB5 := Lib.hid (HB4.out.trans (hB5.mono HB4.out.size))
  clear hB5 HI4 HM4 HS4 HT4 HE4 HP4 HO4 HB4
  have s0 : w5.cell? ⟨sb, 0, none⟩ = some (.slice (some ⟨g, 0, none⟩) 1 1) := HS5.out.cell 0
  have s1 : w5.cell? ⟨sb, 1, none⟩ = some (.slice none 0 0) := HS5.out.cell 1
  have s2 : w5.cell? ⟨sb, 2, none⟩ = some (.slice (some ⟨gm, 0, none⟩) 1 1) := HS5.out.cell 2
  have HSN := Lib.hid (show StM w5 (.slice (some ⟨g, 0, none⟩) 1 1) (.slice none 0 0) (.slice (some ⟨gm, 0, none⟩) 1 1) (fun _ => .slice none 0 0) sNew from one_stm (l := []) (RowAt.blk HI5.out (Nat.le_refl _) (fun i j hi hj => by
    have : i = 0 := by omega
    subst this
    have : j = 0 ∨ j = 1 ∨ j = 2 ∨ j = 3 := by omega
    rcases this with rfl | rfl | rfl | rfl <;> rfl)) (RowAt.nil_ _ _ _) (RowAt.blk HM5.out (Nat.le_refl _) (fun i j hi hj => by
    have : i = 0 := by omega
    subst this
    have : j = 0 := by omega
    subst this
    rfl)))
  go_wp2_with (fail)
  refine (State_calls HSN.out sNew_small (E := []) rise_nil (by rw [ev_new])).mono ?_
  rintro e w6 ⟨v, rfl, hB6, hown6⟩
  obtain ⟨VA, vcap, rfl⟩ := (ownF_row hown6).form
  have HE6 := Lib.hid (Blk.of_heap (hB6.block _ HE5.out.lt) HE5.out)
  have HT6 := Lib.hid (Blk.of_heap (hB6.block _ HT5.out.lt) HT5.out)
  have HP6 := Lib.hid (own_below HP5.out hB6)
  have HO6 := Lib.hid (own_below HO5.out hB6)
  have HB6 := Lib.hid (HB5.out.trans (hB6.mono HB5.out.size))
  clear hB6 hown6 s0 s1 s2 HI5 HM5 HS5 HT5 HE5 HP5 HO5 HB5 HSN
  have t0 : w6.cell? ⟨tb, 0, none⟩ = some (.slice (some ⟨g1, 0, none⟩) 1 c2) := HT6.out.cell 0
  have t1 : w6.cell? ⟨tb, 1, none⟩ = some (.slice none 0 0) := HT6.out.cell 1
  have t2 : w6.cell? ⟨tb, 2, none⟩ = some (.slice (some ⟨g2, 0, none⟩) 1 c3) := HT6.out.cell 2
  have HSA := Lib.hid (show StM w6 (.slice (some ⟨g1, 0, none⟩) 1 c2) (.slice none 0 0) (.slice (some ⟨g2, 0, none⟩) 1 c3) (fun _ => .slice (some ⟨eb, 0, none⟩) 1 1) sA from one_stm (l := [(⟨#[97]⟩, 2)]) (own_row1 HO6.out) (RowAt.blk HE6.out (Nat.le_refl _) (fun i j hi hj => by
    have hi' : i < 1 := hi
    have : i = 0 := by omega
    subst this
    have : j = 0 ∨ j = 1 := by omega
    rcases this with rfl | rfl <;> rfl)) (own_row1i HP6.out))
  go_wp2_with (fail)
  refine (State_calls HSA.out sA_small (E := fA) (rise_one _) (by rw [ev_a])).mono ?_
  rintro e w7 ⟨v7, rfl, hB7, hown7⟩
  have HB7 := Lib.hid (HB6.out.trans (hB7.mono HB6.out.size))
  have HR7 := Lib.hid ((ownF_row hown7).keep ((Below.refl _ w7).alloc (Nat.le_refl _) (.cells #[.int .i64 2, .int .i64 1, .string ⟨#[97]⟩] 64)))
  have HL7 := Lib.hid (show RowAt (w7.alloc (.cells #[.int .i64 2, .int .i64 1, .string ⟨#[97]⟩] 64)) (.slice (some ⟨w7.heap.size, 0, none⟩) 1 1) fA.length 3 (fndC fA) from RowAt.blk (Blk.new w7 _ _) (Nat.le_refl _) (fun i j hi hj => by
    have hi' : i < 1 := hi
    have : i = 0 := by omega
    subst this
    have : j = 0 ∨ j = 1 ∨ j = 2 := by omega
    rcases this with rfl | rfl | rfl <;> rfl))
  obtain ⟨A7, cap7, rfl⟩ := HR7.out.form
  clear hB7 hown7 HSA HO6 HP6 HE6 HT6 HB6 t0 t1 t2
  go_wp2_with (fail)
  refine (same_fnd HR7.out HL7.out (by decide)).mono ?_
  rintro e w8 ⟨rfl, d, rfl⟩
  go_wp2_with (go_at_call 24; refine (num_calls _ _).mono ?_; rintro e w' ⟨rfl, rfl⟩)
  go_ret
  have := HB7.out.alloc HB7.out.size (.cells #[.int .i64 2, .int .i64 1, .string ⟨#[97]⟩] 64)
  exact ⟨rfl, this.os, this.tape, this.output, this.size, this.block⟩
end Go.Proofs.Ytenlffhoinialaa
