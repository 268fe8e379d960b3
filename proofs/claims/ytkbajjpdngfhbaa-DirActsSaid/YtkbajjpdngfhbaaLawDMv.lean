
/- DirMoves: the walk. -/
import Derived.Test.YtkbajjpdngfhbaaLawDa
namespace Go.Proofs.Ytkbajjpdngfhbaa
open Go.RowKit
set_option maxHeartbeats 2000000
theorem MovD.err {D D' : List Ent} {n : Nat} {c e : Int} {s t : ByteArray} (h : MovD D n c s t e D') (hm : mayE n c [s, t] = 900) : e = 900 ∧ D' = D := by
  rcases h with ⟨_, h, h'⟩ | ⟨h, _⟩
  · exact ⟨h, h'⟩
  · rw [hm] at h; cases h
theorem MovD.old {D D' : List Ent} {n : Nat} {c e : Int} {s t : ByteArray} (h : MovD D n c s t e D') (hm : mayE n c [s, t] = 0) {u v : Nat} (hu : (s, u) ∈ D) (hv : (t, v) ∈ D) : e = 901 ∧ D' = D := by
  rcases h with ⟨h, _⟩ | ⟨_, ⟨h, _⟩ | ⟨x, hx, ⟨_, h, h'⟩ | ⟨h, _⟩⟩⟩
  · rw [hm] at h; cases h
  · exact absurd hu (h u)
  · exact ⟨h, h'⟩
  · exact absurd hv (h v)
theorem mayE_bad {n : Nat} {c : Int} {l : List ByteArray} {s : ByteArray} (hs : s ∈ l) (h : ncheck s ≠ 0) : mayE n c l = 900 := by
  unfold mayE allOk
  rw [if_neg]
  rintro ⟨_, h'⟩
  have := List.all_eq_true.1 h' s hs
  simp at this
  exact h this
theorem mayE_one {n : Nat} {c : Int} {s : ByteArray} (h0 : 0 ≤ c) (h1 : c < n) (h : ncheck s = 0) : mayE n c [s] = 0 := mayE_ok h0 h1 (by intro s' hs; rw [List.mem_singleton] at hs; rw [hs]; exact h)
theorem mayE_two {n : Nat} {c : Int} {s t : ByteArray} (h0 : 0 ≤ c) (h1 : c < n) (h : ncheck s = 0) (h' : ncheck t = 0) : mayE n c [s, t] = 0 := mayE_ok h0 h1 (by intro s' hs; simp at hs; rcases hs with rfl | rfl; exact h; exact h')
/-- What the calls of the statement answer together. -/
theorem moves_plain {A B : ByteArray} {v : Nat} {r1 r2 x y z u : Int} {D1 D2 : List Ent} (hv : 1 ≤ v ∧ v < 2147483647) (h1 : InsD [] 4 0 A v r1 D1) (h2 : MovD D1 4 1 A B r2 D2) (h3 : FindD D2 4 2 B x y) (h4 : FindD D2 4 3 A z u) (hq1 : Uniq D1) (hq : Uniq D2) :
    ((ncheck A ≠ 0 ∨ ncheck B ≠ 0) ∧ r2 = 900) ∨ (ncheck A = 0 ∧ ncheck B = 0 ∧ A = B ∧ r2 = 901 ∧ x = v) ∨
    (ncheck A = 0 ∧ ncheck B = 0 ∧ A ≠ B ∧ r1 = 0 ∧ r2 = 0 ∧ x = v ∧ y = 0 ∧ u = 903 ∧ D2 = [(B, v)]) := by
  by_cases ha : ncheck A = 0
  · by_cases hb : ncheck B = 0
    · obtain ⟨rfl, rfl⟩ := h1.new (mayE_one (by omega) (by omega) ha) (by omega) (by omega) (fun u h => by cases h) (by simp [cntB])
      rw [Int.toNat_natCast] at *
      by_cases hab : A = B
      · subst hab
        obtain ⟨rfl, rfl⟩ := h2.old (mayE_two (by omega) (by omega) ha ha) (u := v) (v := v) (by simp) (by simp)
        obtain ⟨rfl, rfl⟩ := h3.yes (mayE_one (by omega) (by omega) ha) hq (u := v) (by simp)
        exact .inr (.inl ⟨ha, ha, rfl, rfl, rfl⟩)
      · obtain ⟨rfl, R, hp, rfl⟩ := h2.ok (mayE_two (by omega) (by omega) ha hb) hq1 (u := v) (by simp) (fun q h => by
          rw [List.mem_singleton] at h
          exact hab (Prod.mk.inj h).1.symm) (.inr (Nat.lt_of_le_of_lt (cntB_le _ _) (by simp)))
        have hR : R = [] := by
          have := hp.length_eq
          simpa using this.symm
        subst hR
        obtain ⟨rfl, rfl⟩ := h3.yes (mayE_one (by omega) (by omega) hb) hq (u := v) (by simp)
        obtain ⟨rfl, rfl⟩ := h4.no (mayE_one (by omega) (by omega) ha) (fun q h => by
          rw [List.mem_singleton] at h
          exact hab (Prod.mk.inj h).1)
        exact .inr (.inr ⟨ha, hb, hab, rfl, rfl, rfl, rfl, rfl, rfl⟩)
    · exact .inl ⟨.inr hb, (h2.err (mayE_bad (s := B) (by simp) hb)).1⟩
  · exact .inl ⟨.inl ha, (h2.err (mayE_bad (s := A) (by simp) ha)).1⟩
set_option maxRecDepth 1000000 in
theorem moves_walk (w : World) (A : ByteArray) (hA : A.size ≤ 1000000000000000000) (B : ByteArray) (hB : B.size ≤ 1000000000000000000) (num : Int) (_ : (Lit.int .i64 num).wf = true) :
    Calls Try.prog 5 #[.string A, .string B, .int .i64 num] w fun e w' => e = .returned (.bool true) ∧ Below w.heap.size w w' := by
  obtain ⟨v, hv, hv1, hv2⟩ : ∃ v : Nat, (1 + num % 1024 : Int) = v ∧ 1 ≤ v ∧ v < 2147483647 := ⟨(1 + num % 1024).toNat, by omega, by omega, by omega⟩
  have HV := Lib.hid (And.intro hv1 hv2)
  have ev : IntKind.i64.wrap (1 + num % 1024) = (v : Int) := by rw [hv]; exact IntWalk.i64_in _ (by omega)
  clear hv hv1 hv2
  go_enter Try.func5, Try.ntmps5
  go_wp2_with (fail)
  refine (awake_d w).mono ?_
  rintro e w0 ⟨rfl, hB0⟩
  have HB0 := Lib.hid hB0
  clear hB0
  go_wp2_with (fail)
  refine (made_d w0 (P := fun _ => True) trivial).mono ?_
  rintro e w1 ⟨a, d, rfl, hge, hS, hB1⟩
  have hlt : ∀ b, b < w.heap.size → ins (fun b => b < w0.heap.size) d b := fun b hb => .inl (Nat.lt_of_lt_of_le hb HB0.out.size)
  have HB := Lib.hid (bel_then HB0.out hB1)
  clear hB1
  go_wp2_with (fail)
  refine (insert_d hS (by omega) 0 A v (S := fun _ => True) (Cl.true_ _ _ _) (fun _ _ _ _ => trivial)).mono ?_
  rintro e w2 ⟨r1, D1, rfl, hi, hS2, hK2⟩
  have HI := Lib.hid hi
  have HB2 := Lib.hid (HB.out.trans (hK2.below hlt))
  clear hi hS hK2
  go_wp2_with (fail)
  refine (move_d hS2 (by omega) 1 A B (S := fun _ => True) (Cl.true_ _ _ _) (fun _ _ _ => trivial)).mono ?_
  rintro e w3 ⟨r2, D2, rfl, hmv, hS3, hK3⟩
  have HM := Lib.hid hmv
  have HQ1 := Lib.hid hS2.uniq
  have HB3 := Lib.hid (HB2.out.trans (hK3.below hlt))
  clear hmv hS2 hK3
  go_wp2_with (fail)
  refine (find_d hS3 (by omega) 2 B (S := fun _ => True) (Cl.true_ _ _ _) (fun _ _ _ => trivial)).mono ?_
  rintro e w4 ⟨x, y, rfl, hf, hS4, hK4⟩
  have HF := Lib.hid hf
  have HB4 := Lib.hid (HB3.out.trans (hK4.below hlt))
  clear hf hS3 hK4
  go_wp2_with (fail)
  refine (find_d hS4 (by omega) 3 A (S := fun _ => True) (Cl.true_ _ _ _) (fun _ _ _ => trivial)).mono ?_
  rintro e w5 ⟨z, u, rfl, hf, hS5, hK5⟩
  have HF2 := Lib.hid hf
  have HQ := Lib.hid hS4.uniq
  have HB5 := Lib.hid (HB4.out.trans (hK5.below hlt))
  clear hf hS4 hK5
  have HS5 := Lib.hid hS5
  clear hS5
  rcases moves_plain HV.out HI.out HM.out HF.out HF2.out HQ1.out HQ.out with ⟨hbad, rfl⟩ | ⟨ha, hb, rfl, rfl, rfl⟩ | ⟨ha, hb, hab, rfl, rfl, rfl, rfl, rfl, rfl⟩
  · have HA := Lib.hid (fun W => rcheck_calls A hA W)
    have HBB := Lib.hid (fun W => rcheck_calls B hB W)
    clear HI HM HF HF2 HQ HQ1 HS5
    generalize ncheck A = ca at *
    generalize ncheck B = cb at *
    by_cases hca : ca = 0
    · have hcb : ¬ cb = 0 := by omega
      clear hbad
      subst hca
      go_wp2_with (fail)
      refine (HA.out _).mono ?_
      rintro e w' ⟨rfl, k1, rfl⟩
      go_wp2_with (fail)
      refine (HBB.out _).mono ?_
      rintro e w' ⟨rfl, k2, rfl⟩
      go_wp2_with (go_at_call 11; refine (num_calls _ _).mono ?_; rintro e w' ⟨rfl, rfl⟩)
      go_ret
      exact ⟨rfl, ((Keeps.ofBelow HB5.out).drewN _).below fun _ h => h⟩
    · clear hbad
      go_wp2_with (fail)
      refine (HA.out _).mono ?_
      rintro e w' ⟨rfl, k1, rfl⟩
      go_wp2_with (go_at_call 11; refine (num_calls _ _).mono ?_; rintro e w' ⟨rfl, rfl⟩)
      go_ret
      exact ⟨rfl, ((Keeps.ofBelow HB5.out).drewN _).below fun _ h => h⟩
  · have HA := Lib.hid (fun W => rcheck_calls A hA W)
    rw [ha] at HA
    clear HI HM HF HF2 HQ HQ1 HS5
    go_wp2_with (fail)
    refine (HA.out _).mono ?_
    rintro e w' ⟨rfl, k1, rfl⟩
    go_wp2_with (fail)
    refine (HA.out _).mono ?_
    rintro e w' ⟨rfl, k2, rfl⟩
    go_wp2_with (go_at_call 11; refine (num_calls _ _).mono ?_; rintro e w' ⟨rfl, rfl⟩)
    go_ret
    exact ⟨by simp, ((Keeps.ofBelow HB5.out).drewN _).below fun _ h => h⟩
  · have HA := Lib.hid (fun W => rcheck_calls A hA W)
    have HBB := Lib.hid (fun W => rcheck_calls B hB W)
    rw [ha] at HA
    rw [hb] at HBB
    have hne : (A.toList == B.toList) = false := by
      rw [beq_eq_false_iff_ne]
      exact fun h => hab (toList_inj h)
    have hv3 := HV.out
    have ev2 : IntKind.i64.wrap ((v : Int) + 1) = ((v + 1 : Nat) : Int) := by rw [IntWalk.i64_in _ (by omega)]; omega
    have HAB := Lib.hid hab
    have HCA := Lib.hid ha
    clear HI HM HF HF2 HQ HQ1 hv3 hab ha hb
    go_wp2_with (fail)
    refine (HA.out _).mono ?_
    rintro e w' ⟨rfl, k1, rfl⟩
    go_wp2_with (fail)
    refine (HBB.out _).mono ?_
    rintro e w' ⟨rfl, k2, rfl⟩
    go_wp2_with (fail)
    refine (insert_d (HS5.out.drewN (k1 + k2)) (by omega) 0 A ((v : Int) + 1) (S := fun _ => True) (Cl.true_ _ _ _) (fun _ _ _ _ => trivial)).mono ?_
    rintro e w6 ⟨r6, D6, rfl, hi, hS6, hK6⟩
    obtain ⟨rfl, rfl⟩ := hi.new (mayE_one (by omega) (by omega) HCA.out) (by have := HV.out; omega) (by have := HV.out; omega) (fun q h => by
      rw [List.mem_singleton] at h
      exact HAB.out (Prod.mk.inj h).1) (Nat.lt_of_le_of_lt (cntB_le _ _) (by simp))
    have HB6 := Lib.hid (HB5.out.trans ((((Keeps.ofBelow (Below.refl w5.heap.size w5)).drewN (k1 + k2)).below fun _ h => h).mono HB5.out.size))
    have HB7 := Lib.hid (HB6.out.trans (hK6.below hlt))
    clear hi hK6
    go_wp2_with (go_at_call 11; refine (num_calls _ _).mono ?_; rintro e w' ⟨rfl, rfl⟩)
    refine (list_d hS6 (by omega) 0 (S := fun _ => True) (Cl.true_ _ _ _) (fun _ _ _ => trivial)).mono ?_
    rintro e w9 ⟨vv, D9, rfl, hl, hown, hS9, hK9⟩
    have hl2 : D9.length = 2 := by
      rcases hl with ⟨h, _⟩ | ⟨_, h, _⟩
      · rw [mayE_ok (by omega) (by omega) (fun s hs => by cases hs)] at h; cases h
      · rw [h.length_eq]; rfl
    obtain ⟨g, cap, rfl, _, _⟩ := hown.form (by omega)
    have HB9 := Lib.hid (HB7.out.trans (hK9.below hlt))
    rw [hl2]
    clear hl hown hS9 hK9 hS6
    go_wp2_with (fail)
    go_ret
    exact ⟨rfl, HB9.out⟩
end Go.Proofs.Ytkbajjpdngfhbaa
