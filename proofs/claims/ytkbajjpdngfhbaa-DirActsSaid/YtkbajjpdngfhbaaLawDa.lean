
/- law9: SameEntrys; awake. -/
import Derived.Test.YtkbajjpdngfhbaaLawDm
namespace Go.Proofs.Ytkbajjpdngfhbaa
open Go.RowKit
set_option maxHeartbeats 1000000
theorem encE_at (D : List Ent) (k : Nat) (h : k < D.length) : (D.flatMap encE)[k * 2]? = some (.string D[k].1) ∧ (D.flatMap encE)[k * 2 + 1]? = some (.int .i64 D[k].2) := by
  constructor
  · rw [flatE_get, show k * 2 / 2 = k by omega, List.getElem?_eq_getElem h, show k * 2 % 2 = 0 by omega]
    rfl
  · rw [flatE_get, show (k * 2 + 1) / 2 = k by omega, List.getElem?_eq_getElem h, show (k * 2 + 1) % 2 = 1 by omega]
    rfl
theorem same_ents (D : List Ent) (v v' : Value) (w : World) (h : Sl w 2 v D.length (D.flatMap encE)) (h' : Sl w 2 v' D.length (D.flatMap encE)) (hl : D.length ≤ 1000000) :
    Calls Try.prog 17 #[v, v'] w fun e w' => e = .returned (.bool true) ∧ ∃ k, w' = w.drewN k := by
  obtain ⟨_, A, cap, rfl, hc, h⟩ := h
  obtain ⟨_, A', cap', rfl, hc', h'⟩ := h'
  have H := Lib.hid h
  have H' := Lib.hid h'
  clear h h'
  go_enter Try.func17, Try.ntmps17
  go_wp2
  go_loopw [5] (fun i wr => ∃ k : Nat, k ≤ D.length ∧ i = .int .i64 k ∧ ∃ d, wr = w.drewN d) (fun i _ => D.length - (intOf i).toNat)
  case atStart => exact ⟨0, Nat.zero_le _, rfl, 0, rfl⟩
  case round =>
    obtain ⟨k, hk, rfl, d, rfl⟩ := hrel
    by_cases hlt : k < D.length
    · obtain ⟨g, off, rfl, hcell⟩ := H.out (by omega)
      obtain ⟨g', off', rfl, hcell'⟩ := H'.out (by omega)
      obtain ⟨ea, eb⟩ := encE_at D k hlt
      have q1 := hcell _ _ ea
      have q2 : w.cell? ⟨g, off + k * 2 + 1, none⟩ = _ := hcell _ _ eb
      have q3 := hcell' _ _ ea
      have q4 : w.cell? ⟨g', off' + k * 2 + 1, none⟩ = _ := hcell' _ _ eb
      clear hcell hcell' ea eb H H'
      generalize D[k].1 = x1 at *
      generalize (D[k].2 : Int) = x2 at *
      go_wp2
      go_quiet (fail)
      go_wp2
      go_roundw
      case rel => exact ⟨k + 1, by omega, by go_num, _, rfl⟩
      case measure => simp [intOf]; omega
    · go_wp2
      go_ret
      exact ⟨rfl, _, rfl⟩
def nmB : ByteArray := ⟨#[98]⟩
def nmC : ByteArray := ⟨#[99]⟩
def nmZ : ByteArray := ⟨#[122]⟩
theorem chkB : ncheck nmB = 0 := by kernel_rfl
theorem chkC : ncheck nmC = 0 := by kernel_rfl
theorem bkB : nbucket nmB = nbucket nmB := rfl
theorem mayE_ok {n : Nat} {c : Int} {l : List ByteArray} (h0 : 0 ≤ c) (h1 : c < n) (hl : ∀ s ∈ l, ncheck s = 0) : mayE n c l = 0 := by
  unfold mayE allOk
  rw [if_pos ⟨⟨h0, h1⟩, List.all_eq_true.2 fun s hs => by simp [hl s hs]⟩]
theorem Uniq.val {D : List Ent} (h : Uniq D) {s : ByteArray} {u v : Nat} (h1 : (s, u) ∈ D) (h2 : (s, v) ∈ D) : u = v := by
  induction D with
  | nil => cases h1
  | cons e D ih =>
    unfold Uniq at h
    rw [List.pairwise_cons] at h
    rw [List.mem_cons] at h1 h2
    rcases h1 with rfl | h1
    · rcases h2 with h2 | h2
      · exact (Prod.mk.inj h2).2.symm
      · exact absurd (rfl : (s, u).1 = (s, v).1) (h.1 (s, v) h2)
    · rcases h2 with rfl | h2
      · exact absurd (rfl : (s, v).1 = (s, u).1) (h.1 (s, u) h1)
      · exact ih h.2 h1 h2
section
variable {D D' : List Ent} {n : Nat} {c v r e : Int} {s t : ByteArray}
theorem InsD.new (h : InsD D n c s v e D') (hm : mayE n c [s] = 0) (h1 : 1 ≤ v) (h2 : v < 2147483648) (hn : ∀ u, (s, u) ∉ D) (hc : cntB D (nbucket s) < 4) : e = 0 ∧ D' = (s, v.toNat) :: D := by
  rcases h with ⟨_, _, h | h | h⟩ | ⟨_, ⟨⟨u, hu⟩, _⟩ | ⟨_, ⟨h, _⟩ | ⟨_, h, h'⟩⟩⟩
  · rw [hm] at h; cases h
  · omega
  · omega
  · exact absurd hu (hn u)
  · omega
  · exact ⟨h, h'⟩
theorem InsD.old (h : InsD D n c s v e D') (hm : mayE n c [s] = 0) (h1 : 1 ≤ v) (h2 : v < 2147483648) {u : Nat} (hu : (s, u) ∈ D) : e = 901 ∧ D' = D := by
  rcases h with ⟨_, _, h | h | h⟩ | ⟨_, ⟨_, h, h'⟩ | ⟨h, _⟩⟩
  · rw [hm] at h; cases h
  · omega
  · omega
  · exact ⟨h, h'⟩
  · exact absurd hu (h u)
theorem InsD.err (h : InsD D n c s v e D') (hm : mayE n c [s] = 900) : e = 900 ∧ D' = D := by
  rcases h with ⟨h, h', _⟩ | ⟨⟨h, _⟩, _⟩
  · exact ⟨h, h'⟩
  · rw [hm] at h; cases h
theorem InsD.full (h : InsD D n c s v e D') (hm : mayE n c [s] = 0) (h1 : 1 ≤ v) (h2 : v < 2147483648) (hn : ∀ u, (s, u) ∉ D) (hc : 4 ≤ cntB D (nbucket s)) : e = 902 ∧ D' = D := by
  rcases h with ⟨_, _, h | h | h⟩ | ⟨_, ⟨⟨u, hu⟩, _⟩ | ⟨_, ⟨_, h, h'⟩ | ⟨h, _⟩⟩⟩
  · rw [hm] at h; cases h
  · omega
  · omega
  · exact absurd hu (hn u)
  · exact ⟨h, h'⟩
  · omega
theorem FindD.yes (h : FindD D n c s r e) (hm : mayE n c [s] = 0) (hq : Uniq D) {u : Nat} (hu : (s, u) ∈ D) : r = (u : Int) ∧ e = 0 := by
  rcases h with ⟨h, _⟩ | ⟨_, ⟨v, hv, h, h'⟩ | ⟨h, _⟩⟩
  · rw [hm] at h; cases h
  · rw [hq.val hu hv]; exact ⟨h, h'⟩
  · exact absurd hu (h u)
theorem FindD.no (h : FindD D n c s r e) (hm : mayE n c [s] = 0) (hn : ∀ u, (s, u) ∉ D) : r = 0 ∧ e = 903 := by
  rcases h with ⟨h, _⟩ | ⟨_, ⟨v, hv, _⟩ | ⟨_, h, h'⟩⟩
  · rw [hm] at h; cases h
  · exact absurd hv (hn v)
  · exact ⟨h, h'⟩
theorem FindD.err (h : FindD D n c s r e) (hm : mayE n c [s] = 900) : r = 0 ∧ e = 900 := by
  rcases h with ⟨_, h, h'⟩ | ⟨h, _⟩
  · exact ⟨h, h'⟩
  · rw [hm] at h; cases h
theorem RemD.no (h : RemD D n c s e D') (hm : mayE n c [s] = 0) (hn : ∀ u, (s, u) ∉ D) : e = 903 ∧ D' = D := by
  rcases h with ⟨h, _⟩ | ⟨_, ⟨u, h, _⟩ | ⟨_, h, h'⟩⟩
  · rw [hm] at h; cases h
  · exact absurd (h.mem_iff.2 (List.mem_cons_self)) (hn u)
  · exact ⟨h, h'⟩
theorem RemD.yes (h : RemD D n c s e D') (hm : mayE n c [s] = 0) (hq : Uniq D) {u : Nat} (hu : (s, u) ∈ D) : e = 0 ∧ D.Perm ((s, u) :: D') := by
  rcases h with ⟨h, _⟩ | ⟨_, ⟨v, h, h'⟩ | ⟨h, _⟩⟩
  · rw [hm] at h; cases h
  · have : u = v := hq.val hu (h.mem_iff.2 (List.mem_cons_self))
    subst this
    exact ⟨h', h⟩
  · exact absurd hu (h u)
theorem MovD.ok (h : MovD D n c s t e D') (hm : mayE n c [s, t] = 0) (hq : Uniq D) {u : Nat} (hu : (s, u) ∈ D) (hn : ∀ v, (t, v) ∉ D) (hc : nbucket t = nbucket s ∨ cntB D (nbucket t) < 4) : e = 0 ∧ ∃ R, D.Perm ((s, u) :: R) ∧ D' = (t, u) :: R := by
  rcases h with ⟨h, _⟩ | ⟨_, ⟨h, _⟩ | ⟨v, hv, ⟨⟨x, hx⟩, _⟩ | ⟨_, ⟨h1, h2, _⟩ | ⟨_, h, R, h', h''⟩⟩⟩⟩
  · rw [hm] at h; cases h
  · exact absurd hu (h u)
  · exact absurd hx (hn x)
  · omega
  · have : u = v := hq.val hu hv
    subst this
    exact ⟨h, R, h', h''⟩
end
theorem cntB_le (D : List Ent) (b : Nat) : cntB D b ≤ D.length := List.length_filter_le _ _
theorem mayE_core4 (l : List ByteArray) {n : Nat} {c : Int} (h : c < 0 ∨ (n : Int) ≤ c) : mayE n c l = 900 := by
  unfold mayE
  rw [if_neg (fun h' => by omega)]
set_option maxRecDepth 1000000 in
theorem awake_d (w : World) : Calls Try.prog 19 #[] w fun e w' => e = .returned (.bool true) ∧ Below w.heap.size w w' := by
  have m0 : ∀ c : Int, 0 ≤ c → c < 4 → mayE 4 c [nmB] = 0 := fun c h0 h1 => mayE_ok h0 h1 (by intro s hs; rw [List.mem_singleton] at hs; rw [hs]; exact chkB)
  have m1 : ∀ c : Int, 0 ≤ c → c < 4 → mayE 4 c [nmC] = 0 := fun c h0 h1 => mayE_ok h0 h1 (by intro s hs; rw [List.mem_singleton] at hs; rw [hs]; exact chkC)
  have m2 : mayE 4 0 [nmB, nmC] = 0 := mayE_ok (by omega) (by omega) (by intro s hs; simp at hs; rcases hs with rfl | rfl; exact chkB; exact chkC)
  have hbc : nmB ≠ nmC := by decide
  have M0 := Lib.hid m0
  have M1 := Lib.hid m1
  have M2 := Lib.hid m2
  have HBC := Lib.hid hbc
  clear m0 m1 m2 hbc
  go_enter Try.func19, Try.ntmps19
  go_wp2_with (fail)
  refine (made_d w (P := fun _ => True) trivial).mono ?_
  rintro e w1 ⟨a, d, rfl, hge, hS, hB⟩
  have HB := Lib.hid hB
  clear hB
  go_wp2_with (fail)
  refine (insert_d hS (by omega) 0 nmB 5 (S := fun _ => True) (Cl.true_ _ _ _) (fun _ _ _ _ => trivial)).mono ?_
  rintro e w2 ⟨r, D2, rfl, hi, hS2, hK2⟩
  obtain ⟨rfl, rfl⟩ := hi.new (M0.out 0 (by omega) (by omega)) (by omega) (by omega) (fun u h => by cases h) (by decide)
  have HB2 := Lib.hid (HB.out.trans (hK2.below fun _ h => .inl h))
  clear hi hS hK2
  go_wp2_with (fail)
  refine (insert_d hS2 (by omega) 1 nmB 6 (S := fun _ => True) (Cl.true_ _ _ _) (fun _ _ _ _ => trivial)).mono ?_
  rintro e w3 ⟨r, D3, rfl, hi, hS3, hK3⟩
  obtain ⟨rfl, rfl⟩ := hi.old (M0.out 1 (by omega) (by omega)) (by omega) (by omega) (u := 5) (by simp)
  have HB3 := Lib.hid (HB2.out.trans (hK3.below fun _ h => .inl h))
  clear hi hS2 hK3
  go_wp2_with (fail)
  refine (find_d hS3 (by omega) 2 nmB (S := fun _ => True) (Cl.true_ _ _ _) (fun _ _ _ => trivial)).mono ?_
  rintro e w4 ⟨x, y, rfl, hf, hS4, hK4⟩
  obtain ⟨rfl, rfl⟩ := hf.yes (M0.out 2 (by omega) (by omega)) hS3.uniq (u := 5) (by simp)
  have HB4 := Lib.hid (HB3.out.trans (hK4.below fun _ h => .inl h))
  clear hf hS3 hK4
  go_wp2_with (fail)
  refine (find_d hS4 (by omega) 2 nmC (S := fun _ => True) (Cl.true_ _ _ _) (fun _ _ _ => trivial)).mono ?_
  rintro e w5 ⟨x, y, rfl, hf, hS5, hK5⟩
  obtain ⟨rfl, rfl⟩ := hf.no (M1.out 2 (by omega) (by omega)) (fun u h => by
    rw [List.mem_singleton] at h
    exact HBC.out (Prod.mk.inj h).1.symm)
  have HB5 := Lib.hid (HB4.out.trans (hK5.below fun _ h => .inl h))
  clear hf hS4 hK5
  go_wp2_with (fail)
  refine (move_d hS5 (by omega) 0 nmB nmC (S := fun _ => True) (Cl.true_ _ _ _) (fun _ _ _ => trivial)).mono ?_
  rintro e w6 ⟨r, D6, rfl, hmv, hS6, hK6⟩
  obtain ⟨rfl, R, hp, rfl⟩ := hmv.ok M2.out hS5.uniq (u := 5) (by simp) (fun u h => by
    rw [List.mem_singleton] at h
    exact HBC.out (Prod.mk.inj h).1.symm) (.inr (Nat.lt_of_le_of_lt (cntB_le _ _) (by decide)))
  have hR : R = [] := by
    have := hp.length_eq
    simpa using this.symm
  subst hR
  have HB6 := Lib.hid (HB5.out.trans (hK6.below fun _ h => .inl h))
  clear hmv hS5 hK6 hp
  go_wp2_with (fail)
  refine (remove_d hS6 (by omega) 0 nmB (S := fun _ => True) (Cl.true_ _ _ _) (fun _ _ _ _ => trivial)).mono ?_
  rintro e w7 ⟨r, D7, rfl, hr, hS7, hK7⟩
  obtain ⟨rfl, rfl⟩ := hr.no (M0.out 0 (by omega) (by omega)) (fun u h => by
    rw [List.mem_singleton] at h
    exact HBC.out (Prod.mk.inj h).1)
  have HB7 := Lib.hid (HB6.out.trans (hK7.below fun _ h => .inl h))
  clear hr hS6 hK7
  go_wp2_with (fail)
  refine (insert_d hS7 (by omega) 4 nmZ 1 (S := fun _ => True) (Cl.true_ _ _ _) (fun _ _ _ _ => trivial)).mono ?_
  rintro e w8 ⟨r, D8, rfl, hi, hS8, hK8⟩
  obtain ⟨rfl, rfl⟩ := hi.err (mayE_core4 _ (by omega))
  have HB8 := Lib.hid (HB7.out.trans (hK8.below fun _ h => .inl h))
  clear hi hS7 hK8
  go_wp2_with (go_at_call 11; refine (num_calls _ _).mono ?_; rintro e w' ⟨rfl, rfl⟩)
  refine (list_d hS8 (by omega) 3 (S := fun _ => True) (Cl.true_ _ _ _) (fun _ _ _ => trivial)).mono ?_
  rintro e w9 ⟨v, D9, rfl, hl, hown, hS9, hK9⟩
  have hD9 : D9 = [(nmC, 5)] := by
    rcases hl with ⟨h, _⟩ | ⟨_, h, _⟩
    · rw [mayE_ok (by omega) (by omega) (fun s hs => by cases hs)] at h; cases h
    · exact List.perm_singleton.1 h
  subst hD9
  have HO := Lib.hid hown
  have HB9 := Lib.hid (HB8.out.trans (hK9.below fun _ h => .inl h))
  clear hl hown hS8 hS9 hK9
  go_wp2_with (fail)
  have hs1 : Sl (w9.alloc (Obj.cells #[Value.string ⟨#[99]⟩, Value.int IntKind.i64 5] 54)) 2 v 1 ([(nmC, 5)].flatMap encE) := (Sl.ofOwn HO.out).below (below_alloc _ _)
  have hs2 := Sl.lit w9 (cs := #[Value.string ⟨#[99]⟩, Value.int IntKind.i64 5]) (T := 54) (n := 1) (size := 2) (xs := [(nmC, 5)].flatMap encE) rfl rfl
  have HSM := Lib.hid (same_ents [(nmC, 5)] _ _ _ hs1 hs2 (by decide))
  clear hs1 hs2
  refine HSM.out.mono ?_
  rintro e w10 ⟨rfl, k, rfl⟩
  go_wp2_with (fail)
  go_ret
  exact ⟨rfl, HB9.out.trans ((((Keeps.ofBelow (below_alloc _ _)).drewN k).below fun _ h => h).mono (by have := HB9.out.size; omega))⟩
end Go.Proofs.Ytkbajjpdngfhbaa
