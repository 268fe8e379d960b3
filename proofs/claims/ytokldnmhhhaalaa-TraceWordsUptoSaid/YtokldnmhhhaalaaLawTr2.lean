
/- TraceEither, Traces: the walks. -/
import Derived.Test.YtokldnmhhhaalaaLawTr
namespace Go.Proofs.Ytokldnmhhhaalaa
open Go.RowKit
set_option maxHeartbeats 1000000

theorem meetT_comm (t s : List Acc) : meetT t s = meetT s t := by
  rw [Bool.eq_iff_iff, meetT_iff, meetT_iff]
  constructor
  · rintro ⟨x, hx, y, hy, e, h⟩; exact ⟨y, hy, x, hx, e.symm, h.symm⟩
  · rintro ⟨x, hx, y, hy, e, h⟩; exact ⟨y, hy, x, hx, e.symm, h.symm⟩
theorem WSt.pos {t : List Acc} {us : List Int} (h : WSt t true us) : 0 < us.length ↔ ∃ x ∈ t, x.2 = true := by
  constructor
  · intro hp
    obtain ⟨x, hx, hw, _⟩ := (h.mem _).1 (nth_mem hp)
    exact ⟨x, hx, hw rfl⟩
  · rintro ⟨x, hx, hw⟩
    have := (h.mem x.1).2 ⟨x, hx, fun _ => hw, rfl⟩
    exact List.length_pos_of_mem this
theorem meetT_self {t : List Acc} {us : List Int} (h : WSt t true us) : meetT t t = decide (0 < us.length) := by
  rw [Bool.eq_iff_iff, meetT_iff, decide_eq_true_iff, h.pos]
  constructor
  · rintro ⟨x, hx, y, hy, _, hw | hw⟩
    · exact ⟨x, hx, hw⟩
    · exact ⟨y, hy, hw⟩
  · rintro ⟨x, hx, hw⟩
    exact ⟨x, hx, x, hx, rfl, .inl hw⟩
theorem meetT_none {t s : List Acc} {us vs : List Int} (h : WSt t true us) (h' : WSt s true vs) (h0 : us.length = 0) (h1 : vs.length = 0) : meetT t s = false := by
  rcases Bool.eq_false_or_eq_true (meetT t s) with e | e
  · obtain ⟨x, hx, y, hy, _, hw | hw⟩ := meetT_iff.1 e
    · have := h.pos.2 ⟨x, hx, hw⟩; omega
    · have := h'.pos.2 ⟨y, hy, hw⟩; omega
  · exact e

theorem slice_form {w : World} {B : Nat} {u : Value} {us : List Int} (h : IntRow w B u us) : ∃ A c, u = .slice A us.length c := by
  obtain ⟨A, c, h, _⟩ := h.form
  exact ⟨A, c, h⟩
/-- What a walk is told of a lent argument. -/
theorem Accs.sl {w wr : World} {A : Option Addr} {len cap : Nat} {t : List Acc} (h : Accs w A len cap t) (hb : Below w.heap.size w wr) : Sl wr 2 (.slice A len cap) t.length (encAccs t) := h.2.1.below hb

set_option maxRecDepth 100000 in
theorem teither_walk (w : World) {A : Option Addr} {len cap : Nat} {t : List Acc} (hx : Accs w A len cap t) (hl : len * 16 ≤ 140737488351232) {A' : Option Addr} {len' cap' : Nat} {s : List Acc} (hx' : Accs w A' len' cap' s) (hl' : len' * 16 ≤ 140737488351232) :
    Calls Try.prog 9 #[.slice A len cap, .slice A' len' cap'] w fun e w' => e = .returned (.bool true) ∧ Below w.heap.size w w' := by
  have lt : t.length ≤ 8796093022208 := by rw [hx.1]; omega
  have ls : s.length ≤ 8796093022208 := by rw [hx'.1]; omega
  have HT := Lib.hid (fun (W : World) (hb : Below w.heap.size w W) => hx.sl hb)
  have HS := Lib.hid (fun (W : World) (hb : Below w.heap.size w W) => hx'.sl hb)
  clear hx hx' hl hl'
  go_enter Try.func9, Try.ntmps9
  go_wp2_with (fail)
  refine (awake23 w).mono ?_
  rintro e w1 ⟨rfl, b⟩
  have B1 := Lib.hid b
  clear b
  obtain ⟨m, hm⟩ : ∃ m, meetT t s = m := ⟨_, rfl⟩
  have HM := Lib.hid hm
  have HM2 := Lib.hid (show meetT s t = m by rw [meetT_comm, hm])
  clear hm
  go_wp2_with (fail)
  refine (tmeet_calls (HT.out _ B1.out) (HS.out _ B1.out) lt ls).mono ?_
  rintro e w2 ⟨he, b⟩
  rw [HM.out] at he
  subst he
  have B2 := Lib.hid (bel_then B1.out b)
  clear b
  go_wp2_with (fail)
  refine (tmeet_calls (HS.out _ B2.out) (HT.out _ B2.out) ls lt).mono ?_
  rintro e w3 ⟨he, b⟩
  rw [HM2.out] at he
  subst he
  have B3 := Lib.hid (bel_then B2.out b)
  clear b
  go_wp2_with (fail)
  refine (tmeet_calls (HT.out _ B3.out) (HT.out _ B3.out) lt lt).mono ?_
  rintro e w4 ⟨he, b⟩
  obtain ⟨mm, hmm⟩ : ∃ mm, meetT t t = mm := ⟨_, rfl⟩
  rw [hmm] at he
  subst he
  have B4 := Lib.hid (bel_then B3.out b)
  have HMM := Lib.hid hmm
  clear b hmm
  go_wp2_with (fail)
  refine (twrites_calls (HT.out _ B4.out) lt).mono ?_
  rintro e w5 ⟨u5, us5, rfl, g, r, b⟩
  have G5 := Lib.hid g
  have R5 := Lib.hid r
  have B5 := Lib.hid (bel_then B4.out b)
  obtain ⟨A5, c5, rfl⟩ := slice_form r
  have hmm2 : mm = decide (0 < us5.length) := by rw [← HMM.out, meetT_self g]
  clear g r b
  have HP5 := Lib.hid hmm2
  have hc5 : (mm = true ∧ 0 < us5.length) ∨ (mm = false ∧ us5.length = 0) := by
    by_cases h : 0 < us5.length
    · left; exact ⟨by rw [hmm2]; simpa using h, h⟩
    · right; exact ⟨by rw [hmm2]; simpa using h, by omega⟩
  clear hmm2
  generalize us5.length = n5 at *
  have key : ∀ {K : Prop}, ((mm = true → 0 < n5 → K)) → (mm = false → n5 = 0 → K) → K := fun h1 h2 => by
    rcases hc5 with ⟨a, b⟩ | ⟨a, b⟩
    · exact h1 a b
    · exact h2 a b
  clear key
  rcases hc5 with ⟨rfl, hp⟩ | ⟨rfl, rfl⟩
  all_goals (
    try (have hp' : (0 : Int) < (n5 : Int) := by omega)
    go_wp2_with (fail)
    refine (twords_calls (HT.out _ B5.out) lt).mono ?_
    rintro e w6 ⟨u6, us6, rfl, g, r, b⟩
    have G6 := Lib.hid g
    have R6 := Lib.hid r
    have B6 := Lib.hid (bel_then B5.out b)
    obtain ⟨A6, c6, hf, hc6, hcm, ho⟩ := r.form
    subst hf
    have HO := Lib.hid ho
    have h6 : us6.length ≤ 8796093022208 := by have := g.len; omega
    clear g r b hc6 hcm ho
    go_wp2_with (fail)
    go_loopw [6] (fun i wr => ∃ k : Nat, i = .int .i64 ((k : Int) + 1) ∧ (k ≤ us6.length) ∧ ∃ d, wr = w6.drewN d) (fun i _ => us6.length + 1 - (intOf i).toNat)
    case atStart => exact ⟨0, rfl, by omega, 0, rfl⟩
    case round =>
      obtain ⟨k, rfl, hk, d, rfl⟩ := hrel
      by_cases hlt : k + 1 < us6.length
      · have hlt' : (k : Int) + 1 < (us6.length : Int) := by omega
        obtain ⟨g6, rfl, _, hcell⟩ := HO.out (by omega)
        have q1 := (hcell k (by omega)).1
        have q2 : w6.cell? ⟨g6, k + 1, none⟩ = _ := (hcell (k + 1) hlt).1
        have hup := G6.out.up.lt (i := k) (j := k + 1) (by omega) hlt
        have e1 : IntKind.i64.wrap ((k : Int) + 1 - 1) = (k : Int) := by rw [IntKind.wrap_i64]; omega
        have e2 : ((k : Int) + 1).toNat = k + 1 := by omega
        have e3 : (0 : Int) ≤ (k : Int) + 1 := by omega
        have e4 : (0 : Int) ≤ (k : Int) := by omega
        have e5 : (k : Int) < (us6.length : Int) := by omega
        clear hcell
        generalize nth us6 k = x at *
        generalize nth us6 (k + 1) = y at *
        have hxy : decide (y ≤ x) = false := by simpa using hup
        clear hup
        go_wp2
        go_quiet (fail)
        clear e1 e2 hxy
        go_wp2
        go_roundw
        case rel => exact ⟨k + 1, by go_num, by omega, _, rfl⟩
        case measure => simp [intOf]; omega
      · have hlt' : ¬ (k : Int) + 1 < (us6.length : Int) := by omega
        have B7 := Lib.hid (below_drewN' B6.out d)
        go_wp2_with (fail)
        refine (twrites_calls (HT.out _ B7.out) lt).mono ?_
        rintro e w7 ⟨u7, us7, rfl, g, r, b⟩
        have G7 := Lib.hid g
        have B8 := Lib.hid (bel_then B7.out b)
        obtain ⟨A7, c7, rfl⟩ := slice_form r
        clear g r b
        by_cases h7 : 0 < us7.length
        · have h7' : (0 : Int) < (us7.length : Int) := by omega
          go_wp2_with (fail)
          go_ret
          exact ⟨rfl, B8.out⟩
        · have h7' : ¬ (0 : Int) < (us7.length : Int) := by omega
          go_wp2_with (fail)
          refine (twrites_calls (HS.out _ B8.out) ls).mono ?_
          rintro e w8 ⟨u8, us8, rfl, g, r, b⟩
          have G8 := Lib.hid g
          have B9 := Lib.hid (bel_then B8.out b)
          obtain ⟨A8, c8, rfl⟩ := slice_form r
          clear g r b
          by_cases h8 : 0 < us8.length
          · have h8' : (0 : Int) < (us8.length : Int) := by omega
            go_wp2_with (fail)
            go_ret
            exact ⟨rfl, B9.out⟩
          · have h8' : ¬ (0 : Int) < (us8.length : Int) := by omega
            have HF := Lib.hid (meetT_none G7.out G8.out (by omega) (by omega))
            go_wp2_with (fail)
            refine (tmeet_calls (HT.out _ B9.out) (HS.out _ B9.out) lt ls).mono ?_
            rintro e w9 ⟨he, b⟩
            rw [HF.out] at he
            subst he
            have B10 := Lib.hid (bel_then B9.out b)
            clear b
            go_wp2_with (fail)
            go_ret
            exact ⟨rfl, B10.out⟩)

theorem own_below {w w' : World} {base : Nat} {e : TypeId} {size k : Nat} {v : Value} {xs : List Value} (h : w.ownsRow base e size v k xs) (hb : Below w.heap.size w w') : w'.ownsRow base e size v k xs := by
  refine ⟨h.1, ?_⟩
  rcases h.2 with h2 | ⟨g, cap, cur, hv, hg, hh, rest⟩
  · exact .inl h2
  · exact .inr ⟨g, cap, cur, hv, hg, by rw [hb.block g (lt_of_block hh)]; exact hh, rest⟩
theorem IntRow.below {w w' : World} {B : Nat} {v : Value} {us : List Int} (h : IntRow w B v us) (hb : Below w.heap.size w w') : IntRow w' B v us := own_below h hb
/-- The reference's words, as the walks use them. -/
theorem rwords_calls {w : World} {v : Value} {t : List Acc} (b : Bool) (h : Sl w 2 v t.length (encAccs t)) (hl : t.length ≤ 8796093022208) :
    Calls Try.prog 33 #[v, .bool b] w fun e w' => ∃ u us, e = .returned u ∧ WSt t b us ∧ IntRow w' w.heap.size u us ∧ Below w.heap.size w w' := by
  refine (words_fullL t v b w h hl).mono ?_
  rintro e w' ⟨u, us, rfl, hW⟩
  exact ⟨u, us, rfl, by have := hW.st; rwa [List.take_length] at this, hW.own, hW.keeps⟩
/-- A row behind the spoiling of another. -/
theorem IntRow.spoilt {w w' : World} {B : Nat} {v u : Value} {us : List Int} (h : IntRow w B v us) (hne : ∀ b, v.ownBlock = some b → u.ownBlock ≠ some b) (hK : Keeps (fun b => u.ownBlock ≠ some b) w w') : IntRow w' B v us := by
  refine ⟨h.1, ?_⟩
  rcases h.2 with h2 | ⟨g, cap, cur, hv, hg, hh, rest⟩
  · exact .inl h2
  · exact .inr ⟨g, cap, cur, hv, hg, by rw [hK.block g (hne g (by rw [hv]; rfl))]; exact hh, rest⟩
set_option maxRecDepth 100000 in
theorem traces_walk (w : World) {A : Option Addr} {len cap : Nat} {t : List Acc} (hx : Accs w A len cap t) (hl : len * 16 ≤ 140737488351232) {A' : Option Addr} {len' cap' : Nat} {s : List Acc} (hx' : Accs w A' len' cap' s) (hl' : len' * 16 ≤ 140737488351232) :
    Calls Try.prog 8 #[.slice A len cap, .slice A' len' cap'] w fun e w' => e = .returned (.bool true) ∧ Below w.heap.size w w' := by
  have lt : t.length ≤ 8796093021952 := by rw [hx.1]; omega
  have ls : s.length ≤ 8796093021952 := by rw [hx'.1]; omega
  have ltl := hx.1
  have lsl := hx'.1
  have HT := Lib.hid (fun (W : World) (hb : Below w.heap.size w W) => hx.sl hb)
  have HS := Lib.hid (fun (W : World) (hb : Below w.heap.size w W) => hx'.sl hb)
  have HL1 := Lib.hid (show Calls Try.prog 29 #[.slice A len cap] w fun e w' => ∃ g c, e = .returned (.slice (some ⟨g, 0, none⟩) len c) ∧ w'.ownsRow w.heap.size 73 2 (.slice (some ⟨g, 0, none⟩) (len + 2) c) (len + 2) (encAccs t ++ marks) ∧ Below w.heap.size w w' from
    lend_calls t (by have := hx.2.1; rwa [hx.1] at this) hx.1 lt)
  have HL2 := Lib.hid (fun (W : World) (hb : Below w.heap.size w W) => show Calls Try.prog 29 #[.slice A' len' cap'] W fun e w' => ∃ g c, e = .returned (.slice (some ⟨g, 0, none⟩) len' c) ∧ w'.ownsRow W.heap.size 73 2 (.slice (some ⟨g, 0, none⟩) (len' + 2) c) (len' + 2) (encAccs s ++ marks) ∧ Below W.heap.size W w' from
    lend_calls s (by have := hx'.sl hb; rwa [hx'.1] at this) hx'.1 ls)
  clear hx hx' hl hl'
  go_enter Try.func8, Try.ntmps8
  go_wp2_with (fail)
  refine HL1.out.mono ?_
  rintro e w1 ⟨g1, c1, rfl, o, b⟩
  have O1 := Lib.hid o
  have B1 := Lib.hid b
  clear o b HL1
  go_wp2_with (fail)
  refine (HL2.out _ B1.out).mono ?_
  rintro e w2 ⟨g2, c2, rfl, o, b⟩
  have O2 := Lib.hid o
  have B2' := Lib.hid b
  have B2 := Lib.hid (bel_then B1.out b)
  have LX := Lib.hid (fun (W : World) (hb : Below w2.heap.size w2 W) => show Sl W 2 (.slice (some ⟨g1, 0, none⟩) len c1) t.length (encAccs t) by
    have := lent_sl t ltl (own_below O1.out (bel_then B2'.out hb))
    rwa [← ltl] at this ⊢)
  have LY := Lib.hid (fun (W : World) (hb : Below w2.heap.size w2 W) => show Sl W 2 (.slice (some ⟨g2, 0, none⟩) len' c2) s.length (encAccs s) by
    have := lent_sl s lsl (own_below O2.out hb)
    rwa [← lsl] at this ⊢)
  have KX := Lib.hid (fun (W : World) (hb : Below w2.heap.size w2 W) (ha : Sl W 2 (.slice A len cap) t.length (encAccs t)) => kept_calls t (by rwa [ltl] at ha) ltl (by omega) (own_below O1.out (bel_then B2'.out hb)))
  have KY := Lib.hid (fun (W : World) (hb : Below w2.heap.size w2 W) (ha : Sl W 2 (.slice A' len' cap') s.length (encAccs s)) => kept_calls s (by rwa [lsl] at ha) lsl (by omega) (own_below O2.out hb))
  clear o b HL2 O1 O2 B2'
  have lt' : t.length ≤ 8796093022208 := by omega
  have ls' : s.length ≤ 8796093022208 := by omega
  clear lt ls ltl lsl
  go_wp2_with (fail)
  refine (twords_calls (LX.out _ (Below.refl _ _)) lt').mono ?_
  rintro e w3 ⟨u3, us3, rfl, g, r, b⟩
  have G3 := Lib.hid g
  have R3 := Lib.hid r
  have B3 := Lib.hid b
  clear g r b
  go_wp2_with (fail)
  refine (twords_calls (LX.out _ B3.out) lt').mono ?_
  rintro e w4 ⟨u4, us4, rfl, g, r, b⟩
  have G4 := Lib.hid g
  have R4 := Lib.hid r
  have B34 := Lib.hid b
  have B4 := Lib.hid (bel_then B3.out b)
  clear g r b
  go_wp2_with (fail)
  refine (twrites_calls (LX.out _ B4.out) lt').mono ?_
  rintro e w5 ⟨u5, us5, rfl, g, r, b⟩
  have G5 := Lib.hid g
  have R5 := Lib.hid r
  have B45 := Lib.hid b
  have B5 := Lib.hid (bel_then B4.out b)
  clear g r b
  obtain ⟨m, hm⟩ : ∃ m, meetT t s = m := ⟨_, rfl⟩
  have HM := Lib.hid hm
  clear hm
  go_wp2_with (fail)
  refine (tmeet_calls (LX.out _ B5.out) (LY.out _ B5.out) lt' ls').mono ?_
  rintro e w6 ⟨he, b⟩
  rw [HM.out] at he
  subst he
  have B56 := Lib.hid b
  have B6 := Lib.hid (bel_then B5.out b)
  clear b
  go_wp2_with (fail)
  refine (rmeet_calls t s (HT.out _ (bel_then B2.out B6.out)) (HS.out _ (bel_then B2.out B6.out)) lt' ls').mono ?_
  rintro e w7 ⟨he, d7, rfl⟩
  rw [HM.out] at he
  subst he
  have B7 := Lib.hid (below_drewN' B6.out d7)
  have B57 := Lib.hid (below_drewN' B56.out d7)
  have hmm : (m != m) = false := by simp
  go_wp2_with (fail)
  refine (rwords_calls false (HT.out _ (bel_then B2.out B7.out)) lt').mono ?_
  rintro e w8 ⟨u8, us8, rfl, g, r, b⟩
  have G8 := Lib.hid g
  have R8 := Lib.hid r
  have B8 := Lib.hid (bel_then B7.out b)
  have B58 := Lib.hid (bel_then B57.out b)
  clear g r b hmm
  go_wp2_with (fail)
  refine (same_rows ((R3.out.below B34.out).below (bel_then B45.out B58.out)).sl R8.out.sl (G3.out.one G8.out) (by have := G3.out.len; omega)).mono ?_
  rintro e w9 ⟨rfl, d9, rfl⟩
  have B9 := Lib.hid (below_drewN' B8.out d9)
  have B59 := Lib.hid (below_drewN' B58.out d9)
  go_wp2_with (fail)
  refine (rwords_calls true (HT.out _ (bel_then B2.out B9.out)) lt').mono ?_
  rintro e w10 ⟨u10, us10, rfl, g, r, b⟩
  have G10 := Lib.hid g
  have R10 := Lib.hid r
  have B10 := Lib.hid (bel_then B9.out b)
  have B510 := Lib.hid (bel_then B59.out b)
  clear g r b
  go_wp2_with (fail)
  refine (same_rows (R5.out.below B510.out).sl R10.out.sl (G5.out.one G10.out) (by have := G5.out.len; omega)).mono ?_
  rintro e w11 ⟨rfl, d11, rfl⟩
  have B11 := Lib.hid (below_drewN' B10.out d11)
  have B511 := Lib.hid (below_drewN' B510.out d11)
  go_wp2_with (fail)
  refine (KX.out _ B11.out (HT.out _ (bel_then B2.out B11.out))).mono ?_
  rintro e w12 ⟨rfl, d12, rfl⟩
  have B12 := Lib.hid (show Below w2.heap.size w2 (w10.drewN (d11 + d12)) from below_drewN' B10.out _)
  have B512 := Lib.hid (show Below w5.heap.size w5 (w10.drewN (d11 + d12)) from below_drewN' B510.out _)
  go_wp2_with (fail)
  refine (KY.out _ B12.out (HS.out _ (bel_then B2.out B12.out))).mono ?_
  rintro e w13 ⟨rfl, d13, rfl⟩
  have B13 := Lib.hid (show Below w2.heap.size w2 (w10.drewN (d11 + d12 + d13)) from below_drewN' B10.out _)
  have B513 := Lib.hid (show Below w5.heap.size w5 (w10.drewN (d11 + d12 + d13)) from below_drewN' B510.out _)
  have R3' := Lib.hid ((R3.out.below B34.out).below (bel_then B45.out B513.out))
  have R4' := Lib.hid (R4.out.below (bel_then B45.out B513.out))
  have HNE := Lib.hid (show ∀ b, u4.ownBlock = some b → u3.ownBlock ≠ some b from fun b h4 h3 => by
    have h5 := own_geT R4.out h4
    have h6 := (R3.out.lt b h3).2
    omega)
  have HNB := Lib.hid (show ∀ b, b < w2.heap.size → u3.ownBlock ≠ some b from fun b hb h3 => by
    have h5 := own_geT R3.out h3
    omega)
  have L3 := Lib.hid (show us3.length ≤ 8796093022208 by have := G3.out.len; omega)
  clear KX KY LX LY B3 B4 B5 B6 B7 B57 B8 B58 B9 B59 B10 B510 B11 B511 B12 B512 B56 B34 B45 R5 R8 R10 G5 G8 G10 R3 R4
  go_wp2_with (fail)
  refine (spoil_anyL (v := u3) R3'.out L3.out).mono ?_
  rintro e w14 ⟨rfl, hK⟩
  have R44 := Lib.hid (R4'.out.spoilt HNE.out hK)
  have B14 := Lib.hid (show Below w.heap.size w w14 from
    (bel_then B2.out B13.out).trans (hK.below fun b hb => HNB.out b (Nat.lt_of_lt_of_le hb B2.out.size)))
  clear hK R3' R4' HNE HNB B13 B513
  go_wp2_with (fail)
  refine (rwords_calls false (HT.out _ B14.out) lt').mono ?_
  rintro e w15 ⟨u15, us15, rfl, g, r, b⟩
  have G15 := Lib.hid g
  have R15 := Lib.hid r
  have B15' := Lib.hid b
  have B15 := Lib.hid (bel_then B14.out b)
  clear g r b
  go_wp2_with (fail)
  refine (same_rows (R44.out.below B15'.out).sl R15.out.sl (G4.out.one G15.out) (by have := G4.out.len; omega)).mono ?_
  rintro e w16 ⟨rfl, d16, rfl⟩
  have B16 := Lib.hid (below_drewN' B15.out d16)
  go_wp2_with (fail)
  refine (awake23 _).mono ?_
  rintro e w17 ⟨rfl, b⟩
  have B17 := Lib.hid (bel_then B16.out b)
  clear b
  go_wp2_with (fail)
  go_ret
  exact ⟨rfl, B17.out⟩
end Go.Proofs.Ytokldnmhhhaalaa
