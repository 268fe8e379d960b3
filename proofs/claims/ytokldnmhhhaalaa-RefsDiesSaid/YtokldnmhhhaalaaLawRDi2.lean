
/- RefsDies: the walk. -/
import Derived.Test.YtokldnmhhhaalaaLawRDi
namespace Go.Proofs.Ytokldnmhhhaalaa
open Go.RowKit
set_option maxHeartbeats 1000000

theorem C22.to {T : Int → Int → Int} {p00 p01 p10 p11 g0 g1 f0 f1 e k0 k1 p00' p01' p10' p11' g0' g1' f0' f1' e' k0' k1' : Int} (h : C22 T p00 p01 p10 p11 g0 g1 f0 f1 e k0 k1) (h1 : p00 = p00') (h2 : p01 = p01') (h3 : p10 = p10') (h4 : p11 = p11') (h5 : g0 = g0') (h6 : g1 = g1') (h7 : f0 = f0') (h8 : f1 = f1') (h9 : e = e') (h10 : k0 = k0') (h11 : k1 = k1') : C22 T p00' p01' p10' p11' g0' g1' f0' f1' e' k0' k1' := by
  subst h1 h2 h3 h4 h5 h6 h7 h8 h9 h10 h11
  exact h
def ktv (M : Int) (t : Nat) : Int := if M = 0 then (if t = 0 then 0 else if t = 1 then 1 else 5) else 0
theorem nextK_pos {g kn : Int} (b : Bool) (hg : g ≠ 0) (hk : kn = 0 ∨ kn = 2) : nextK g kn b = 0 := by
  unfold nextK
  rw [if_neg hg]
  rcases hk with rfl | rfl <;> rfl
theorem kfun_02 (p : Int) : kfun p 0 = 0 ∨ kfun p 0 = 2 := by
  unfold kfun add2
  split
  · exact .inl rfl
  · exact .inr rfl
theorem ktv_next {M p : Int} {t : Nat} (hp : M = 0 → t = 0 → p ≠ 0) (hp2 : t ≠ 0 → p = 0) (ht : t < 3) : nextK M (kfun 0 (kfun p (ktv M t))) true = ktv M (t + 1) := by
  have h3 : t = 0 ∨ t = 1 ∨ t = 2 := by omega
  by_cases hM : M = 0
  · subst hM
    rcases h3 with rfl | rfl | rfl
    · have := hp rfl rfl
      simp [ktv, kfun, nextK, add2, this]
    · have := hp2 (by omega)
      simp [ktv, kfun, nextK, this]
    · have := hp2 (by omega)
      simp [ktv, kfun, nextK, this]
  · have e1 : ∀ t, ktv M t = 0 := fun t => by unfold ktv; rw [if_neg hM]
    rw [e1, e1]
    have e2 : kfun 0 (kfun p 0) = kfun p 0 := rfl
    rw [e2]
    exact nextK_pos _ hM (kfun_02 p)

set_option maxRecDepth 100000 in
theorem rdies_walk (w : World) (many : Int) (_ : (Lit.int .i64 many).wf = true) (left : Int) (_ : (Lit.int .i64 left).wf = true) :
    Calls Try.prog 5 #[.int .i64 many, .int .i64 left] w fun e w' => e = .returned (.bool true) ∧ Below w.heap.size w w' := by
  obtain ⟨K, hK, hK1, hK2⟩ : ∃ n : Nat, 1 + many % 16 = n ∧ 1 ≤ n ∧ n ≤ 16 := ⟨(1 + many % 16).toNat, by omega, by omega, by omega⟩
  obtain ⟨M, hM, hM1⟩ : ∃ n : Nat, (if (K : Int) < left % 16 then (K : Int) else left % 16) = n ∧ n ≤ K := by
    by_cases e : (K : Int) < left % 16
    · exact ⟨K, by rw [if_pos e], Nat.le_refl _⟩
    · exact ⟨(left % 16).toNat, by rw [if_neg e]; omega, by omega⟩
  have HM := Lib.hid hM
  clear hM
  go_enter Try.func5, Try.ntmps5
  go_wp2_with (fail)
  refine (awake6 w).mono ?_
  rintro e w1 ⟨rfl, hB⟩
  go_wp2_with (fail)
  refine (new_to (ws := List.replicate 100 0) (ts := List.replicate 2 []) (Bd.below w1) (by omega) (by omega) rfl rfl).mono ?_
  rintro e w2 ⟨a, rfl, hA, hKK⟩
  have hP1 : ArP (fun b => b < w1.heap.size) w2 a (List.replicate 100 0) 2 0 (fun _ => True) := ArP.new 2 trivial hA
  go_wp2_with (fail)
  refine (rsNew hP1 0 2 (by omega) (by omega) (by omega) (by omega)).mono ?_
  rintro e w3 ⟨x, rfl, hS3, hK3⟩
  have HB := Lib.hid hB
  have HST := Lib.hid (show ∃ L, S22 L w1 w3 x a 0 0 false 0 0 0 0 0 0 0 0 0 0 0 from
    ⟨ins (fun b => b < w1.heap.size) x, (hKK.trans hK3).below fun _ h => h, fun b h => .inl h, _, hS3, TOk.zero, ⟨rfl, rfl, rfl, rfl, rfl, rfl, rfl, rfl, rfl, rfl, rfl⟩, fun h => by cases h⟩)
  clear hB hA hKK hP1 hS3 hK3
  obtain ⟨L, hST⟩ := HST.out
  have HS := Lib.hid hST
  clear hST HST
  go_wp2_with (fail)
  clear hK
  go_loopw [10] (fun i wr => ∃ t : Nat, i = .int .i64 t ∧ t ≤ K ∧ S22 L w1 wr x a (2000 * t) (2 * t) (decide (0 < t)) ((t + 1) / 2) t (t / 2) 0 0 0 0 0 0 0 0) (fun i _ => K - (intOf i).toNat)
  case atStart => exact ⟨0, rfl, by omega, HS.out⟩
  case round =>
    clear HS
    obtain ⟨t, rfl, ht, hS⟩ := hrel
    by_cases hlt : t < K
    · have hlt' : (t : Int) < (K : Int) := by omega
      have ht0 : (0 : Int) ≤ (t : Int) := by omega
      obtain ⟨c, hc, hc2⟩ : ∃ c : Int, (t : Int) % 2 = c ∧ (c = 0 ∨ c = 1) := ⟨_, rfl, by omega⟩
      have HI := Lib.hid (s22Inc hS (by omega) (by omega) c 0 hc2 (.inl rfl) true (fun _ => by
        by_cases e : t = 0
        · right; subst e; exact ⟨hc.symm, rfl⟩
        · left; simp; omega) rfl)
      clear hS
      go_wp2_with (fail)
      refine HI.out.mono ?_
      rintro e w4 ⟨rfl, hS4⟩
      have hS4 := hS4.eq (p00' := ((t + 1 : Nat) + 1) / 2) (p01' := t) (p10' := (t + 1 : Nat) / 2) (p11' := 0) (by rcases hc2 with h | h <;> subst h <;> simp <;> omega) (by rw [if_neg (by omega)]) (by rcases hc2 with h | h <;> subst h <;> simp <;> omega) (by rw [if_neg (by omega)]) rfl rfl rfl rfl rfl rfl rfl (Nat.le_refl _) (Int.le_refl _) (by omega)
      have HI2 := Lib.hid (s22Inc hS4 (by omega) (by omega) 0 1 (.inl rfl) (.inr rfl) true (fun _ => .inl rfl) rfl)
      clear hS4
      go_wp2_with (fail)
      refine HI2.out.mono ?_
      rintro e w5 ⟨rfl, hS5⟩
      have hS5 := hS5.eq (p00' := ((t + 1 : Nat) + 1) / 2) (p01' := (t + 1 : Nat)) (p10' := (t + 1 : Nat) / 2) (p11' := 0) (m' := 2000 * (t + 1)) (i' := 2 * (t + 1 : Nat)) rfl (by simp) rfl rfl rfl rfl rfl rfl rfl rfl rfl (by omega) (by omega) (by omega)
      clear hc
      go_wp2_with (fail)
      go_roundw
      case rel => exact ⟨t + 1, by go_num, by omega, by rw [show decide (0 < t + 1) = true by simp]; exact hS5⟩
      case measure => simp [intOf]; omega
    · obtain rfl : t = K := by omega
      have hlt' : ¬ (t : Int) < (t : Int) := by omega
      rw [show decide (0 < t) = true by simp; omega] at hS
      have HF := Lib.hid (s22Flush hS (by omega) (by omega) 0 (.inl rfl) fun T hC hE => hC.f0n)
      clear hS
      go_wp2_with (fail)
      refine HF.out.mono ?_
      rintro e w4 ⟨rfl, hS4⟩
      have HF2 := Lib.hid (s22Flush (q00 := 0) (q01 := 0) (q10 := 0) (q11 := 0) (h0 := t) (h1 := t) (r0 := 0) (r1 := 0) (e2 := 1) (l0 := 0) (l1 := 0) hS4 (by omega) (by omega) 1 (.inr rfl) fun T hC hE =>
        (hC.f1y (hE rfl)).to rfl rfl rfl rfl (by omega) (by omega) rfl rfl rfl (nextK_pos _ (by omega) (by rcases kfun_02 ((↑t + 1) / 2) with h | h <;> rw [h] <;> first | exact kfun_02 _ | (unfold kfun; split <;> decide))) (nextK_pos _ (by omega) (kfun_02 _)))
      clear hS4
      go_wp2_with (fail)
      refine HF2.out.mono ?_
      rintro e w5 ⟨rfl, hS5⟩
      have HS5 := Lib.hid hS5
      have hmin := HM.out
      clear hS5 HF HF2
      go_wp2_with (fail)
      clear hmin
      go_loopw [12] (fun i wr => ∃ s : Nat, i = .int .i64 s ∧ s ≤ t - M ∧ S22 L w1 wr x a (34000 + 1000 * s) (34 + s) true 0 0 (-s) 0 t t 0 0 1 0 0) (fun i _ => t - (intOf i).toNat)
      case atStart => exact ⟨0, rfl, by omega, HS5.out.eq rfl rfl rfl rfl rfl rfl rfl rfl rfl rfl rfl (by omega) (by omega) (by omega)⟩
      case round =>
        clear HS5
        obtain ⟨s, rfl, hs, hS⟩ := hrel
        by_cases hsl : s < t - M
        · have hsl' : (s : Int) < (t : Int) - (M : Int) := by omega
          have HD := Lib.hid (s22Dec hS (by omega) (by omega))
          clear hS
          go_wp2_with (fail)
          refine HD.out.mono ?_
          rintro e w6 ⟨rfl, hS6⟩
          have HS6 := Lib.hid hS6
          clear hS6
          go_wp2_with (fail)
          go_roundw
          case rel => exact ⟨s + 1, by go_num, by omega, HS6.out.eq rfl rfl (by omega) rfl rfl rfl rfl rfl rfl rfl rfl (by omega) (by omega) (by omega)⟩
          case measure => simp [intOf]; omega
        · obtain rfl : s = t - M := by omega
          have hsl' : ¬ ((t - M : Nat) : Int) < (t : Int) - (M : Int) := by omega
          have HD := Lib.hid (s22Dead hS rfl (ds := []) rfl)
          clear hS
          go_wp2_with (fail)
          refine HD.out.mono ?_
          rintro e w6 ⟨A6, c6, rfl, _, hS6⟩
          have HS6 := Lib.hid hS6
          clear hS6 HD
          go_wp2_with (fail)
          clear hsl hsl' hlt hlt' hs
          go_loopw [14] (fun i wr => ∃ u : Nat, i = .int .i64 u ∧ u ≤ 3 ∧ S22 L w1 wr x a (60000 + 2000 * u) (60 + 2 * u) true 0 0 (if u = 0 then -((t - M : Nat) : Int) else 0) 0 (if u = 0 then t else M) t 0 0 (1 + u) (ktv M u) 0) (fun i _ => 3 - (intOf i).toNat)
          case atStart => exact ⟨0, rfl, by omega, HS6.out.eq rfl rfl (by rw [if_pos rfl]) rfl (by rw [if_pos rfl]) rfl rfl rfl rfl (by unfold ktv; split <;> rfl) rfl (by omega) (by omega) (by omega)⟩
          case round =>
            clear HS6
            obtain ⟨u, rfl, hu, hS⟩ := hrel
            by_cases hu3 : u < 3
            · have hu3' : (u : Int) < 3 := by omega
              have HF := Lib.hid (s22Flush hS (by omega) (by omega) 1 (.inr rfl) fun T hC hE => hC.f1n)
              clear hS
              go_wp2_with (fail)
              refine HF.out.mono ?_
              rintro e w7 ⟨rfl, hS7⟩
              have HF2 := Lib.hid (s22Flush (q00 := 0) (q01 := 0) (q10 := 0) (q11 := 0) (h0 := M) (h1 := t) (r0 := 0) (r1 := 0) (e2 := 1 + (u + 1 : Nat)) (l0 := ktv M (u + 1)) (l1 := 0) hS7 (by omega) (by omega) 0 (.inl rfl) fun T hC hE =>
                (hC.f0y (hE rfl)).to rfl rfl rfl rfl (by split <;> omega) (by omega) rfl rfl (by omega) (by
                  rw [show (if u = 0 then (t : Int) else (M : Int)) + (if u = 0 then -((t - M : Nat) : Int) else 0) + 0 = M by split <;> omega]
                  exact ktv_next (fun h h2 => by rw [if_pos h2]; omega) (fun h => by rw [if_neg h]) hu3) (nextK_pos _ (by omega) (.inl rfl)))
              clear hS7 HF
              go_wp2_with (fail)
              refine HF2.out.mono ?_
              rintro e w8 ⟨rfl, hS8⟩
              have HS8 := Lib.hid hS8
              clear hS8 HF2
              go_wp2_with (fail)
              go_roundw
              case rel => exact ⟨u + 1, by go_num, by omega, HS8.out.eq rfl rfl (by rw [if_neg (by omega)]) rfl (by rw [if_neg (by omega)]) rfl rfl rfl rfl rfl rfl (by omega) (by omega) (by omega)⟩
              case measure => simp [intOf]; omega
            · obtain rfl : u = 3 := by omega
              have hS := hS.eq (e' := 4) rfl rfl rfl rfl rfl rfl rfl rfl (by omega) rfl rfl (Nat.le_refl _) (Int.le_refl _) (by omega)
              by_cases hM0 : M = 0
              · subst hM0
                have HDD := Lib.hid (s22Dead hS rfl (ds := [0]) (by simp [ktv]))
                clear hS hu3 hu
                go_wp2_with (go_at_call 19; refine (num_calls _ _).mono ?_; rintro e w' ⟨rfl, rfl⟩)
                refine HDD.out.mono ?_
                rintro e w7 ⟨A7, c7, rfl, hs7, hS7⟩
                have HS7 := Lib.hid hS7
                have HSL := Lib.hid hs7
                have HE := Lib.hid (s22Epoch hS7)
                clear hS7 hs7 HDD
                go_wp2_with (go_at_call 19; refine (num_calls _ _).mono ?_; rintro e w' ⟨rfl, rfl⟩)
                refine HE.out.mono ?_
                rintro e w8 ⟨rfl, d8, rfl⟩
                go_wp2_with (go_at_call 19; refine (num_calls _ _).mono ?_; rintro e w' ⟨rfl, rfl⟩)
                refine (same_ints [0] _ _ _ ((HSL.out.drewN d8).below ((Below.refl _ _).alloc (Nat.le_refl _) _)) (Sl.lit _ rfl rfl) (by decide)).mono ?_
                rintro e w9 ⟨rfl, d9, rfl⟩
                go_wp2_with (go_at_call 19; refine (num_calls _ _).mono ?_; rintro e w' ⟨rfl, rfl⟩)
                go_ret
                exact ⟨rfl, below_drewN' ((below_drewN' (bel_then HB.out HS7.out.keeps) d8).alloc (bel_then HB.out HS7.out.keeps).size _) _⟩
              · have HDD := Lib.hid (s22Dead hS rfl (ds := []) (by simp [ktv, hM0]))
                have hM1 : ((M : Int) == 0) = false := by simp; omega
                have hM2 : (0 : Int) < (M : Int) := by omega
                clear hS hM0 hu3 hu
                go_wp2_with (go_at_call 19; refine (num_calls _ _).mono ?_; rintro e w' ⟨rfl, rfl⟩)
                refine HDD.out.mono ?_
                rintro e w7 ⟨A7, c7, rfl, hs7, hS7⟩
                have HS7 := Lib.hid hS7
                have HE := Lib.hid (s22Epoch hS7)
                clear hS7 hs7 HDD
                go_wp2_with (go_at_call 19; refine (num_calls _ _).mono ?_; rintro e w' ⟨rfl, rfl⟩)
                refine HE.out.mono ?_
                rintro e w8 ⟨rfl, d8, rfl⟩
                go_wp2_with (go_at_call 19; refine (num_calls _ _).mono ?_; rintro e w' ⟨rfl, rfl⟩)
                go_ret
                exact ⟨rfl, below_drewN' (bel_then HB.out HS7.out.keeps) _⟩
end Go.Proofs.Ytokldnmhhhaalaa
