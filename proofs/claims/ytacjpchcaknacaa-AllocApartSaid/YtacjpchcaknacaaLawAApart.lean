
/- AllocApart: the walk. -/
import Derived.Test.YtacjpchcaknacaaLawAlloc
import Derived.Test.YtacjpchcaknacaaWords
namespace Go.Proofs.Ytacjpchcaknacaa
open Go.RowKit
set_option maxHeartbeats 2000000

theorem meets_false (t t' : List Acc) (v v' : Value) (w : World) (h : Sl w 2 v t.length (encAccs t)) (h' : Sl w 2 v' t'.length (encAccs t')) (hl : t.length ≤ 1099511627776) (hl' : t'.length ≤ 1099511627776)
    (hno : ∀ x ∈ t, ∀ y ∈ t', x.1 ≠ y.1) :
    Calls Try.prog 47 #[v, v'] w fun e w' => e = .returned (.bool false) ∧ Below w.heap.size w w' := by
  have H2 := Lib.hid (fun W (hb : Below w.heap.size w W) => words_full t' v' false W (h'.below hb) hl')
  have H1 := Lib.hid (words_full t v false w h hl)
  have HN := Lib.hid hno
  have HLL := Lib.hid hl
  have HLL' := Lib.hid hl'
  clear h h' hno
  go_enter Try.func47, Try.ntmps47
  go_wp2_with (fail)
  refine H1.out.mono ?_
  rintro e w1 ⟨u, us, rfl, hW1⟩
  go_wp2_with (fail)
  refine (H2.out _ hW1.keeps).mono ?_
  rintro e w2 ⟨u', us', rfl, hW2⟩
  have hsl1 := hW1.own.sl.below hW2.keeps
  have hsl2 := hW2.own.sl
  have hB := hW1.keeps.trans (hW2.keeps.mono hW1.keeps.size)
  have hno2 : ∀ i j, i < us.length → j < us'.length → nth us i ≠ nth us' j := by
    intro i j hi hj e
    obtain ⟨x, hx, _, ex⟩ := (hW1.st.mem _).1 (nth_mem hi)
    obtain ⟨y, hy, _, ey⟩ := (hW2.st.mem _).1 (nth_mem hj)
    exact HN.out x (List.mem_of_mem_take hx) y (List.mem_of_mem_take hy) (by rw [ex, ey, e])
  have hlu : us.length ≤ 1099511627776 := Nat.le_trans hW1.st.len (Nat.le_trans (List.length_take_le _ _) HLL.out)
  have hlu' : us'.length ≤ 1099511627776 := Nat.le_trans hW2.st.len (Nat.le_trans (List.length_take_le _ _) HLL'.out)
  clear hW1 hW2 H1 H2
  obtain ⟨_, A, cap, rfl, hc, h⟩ := hsl1
  obtain ⟨_, A', cap', rfl, hc', h'⟩ := hsl2
  have H := Lib.hid h
  have H' := Lib.hid h'
  have HNO := Lib.hid hno2
  have HB := Lib.hid hB
  clear h h' hno2 hB
  go_wp2
  go_loopw [7] (fun i wr => ∃ k : Nat, k ≤ us.length ∧ i = .int .i64 k ∧ ∃ d, wr = w2.drewN d) (fun i _ => us.length - (intOf i).toNat)
  case atStart => exact ⟨0, Nat.zero_le _, rfl, 0, rfl⟩
  case round =>
    obtain ⟨k, hk, rfl, d, rfl⟩ := hrel
    by_cases hlt : k < us.length
    · obtain ⟨g, off, rfl, hcell⟩ := H.out (by omega)
      have q1 := hcell _ _ (ints_at hlt)
      have HM := Lib.hid (fun j => HNO.out k j hlt)
      clear hcell H
      generalize nth us k = x1 at *
      go_wp2
      go_loopw [8] (fun i wr => ∃ j : Nat, j ≤ us'.length ∧ i = .int .i64 j ∧ ∃ d, wr = w2.drewN d) (fun i _ => us'.length - (intOf i).toNat)
      case atStart => exact ⟨0, Nat.zero_le _, rfl, _, rfl⟩
      case round =>
        obtain ⟨j, hj, rfl, d2, rfl⟩ := hrel
        by_cases hlt2 : j < us'.length
        · obtain ⟨g', off', rfl, hcell'⟩ := H'.out (by omega)
          have q3 := hcell' _ _ (ints_at hlt2)
          have hne := HM.out j hlt2
          clear hcell' H'
          generalize nth us' j = y1 at *
          have he : (x1 == y1) = false := by simpa using hne
          clear hne
          go_wp2
          go_quiet (fail)
          go_wp2
          go_roundw
          case rel => exact ⟨j + 1, by omega, by go_num, _, rfl⟩
          case measure => simp [intOf]; omega
        · go_wp2
          go_roundw
          case rel => exact ⟨k + 1, by omega, by go_num, _, rfl⟩
          case measure => simp [intOf]; omega
    · go_wp2
      go_ret
      exact ⟨rfl, below_drewN' HB.out d⟩

theorem piece_more {had beg : Int → Bool} {z q : Int} : ∀ (n : Nat) (r : Int), Piece had beg z q r → (z - q - r).toNat ≤ n → ∃ r', Piece had beg z q r' ∧ PieceEnd had beg z q r' := by
  intro n
  induction n with
  | zero =>
    intro r hp hn
    have := hp.fit
    exact ⟨r, hp, .inl (by omega)⟩
  | succ n ih =>
    intro r hp hn
    have := hp.fit
    have h1 := hp.n1
    by_cases e0 : q + r = z
    · exact ⟨r, hp, .inl e0⟩
    rcases Bool.eq_false_or_eq_true (had (q + r)) with e1 | e1
    · rcases Bool.eq_false_or_eq_true (beg (q + r)) with e2 | e2
      · exact ⟨r, hp, .inr (.inr e2)⟩
      · refine ih (r + 1) ⟨by omega, by omega, fun i h2 h3 => ?_⟩ (by omega)
        by_cases e : i = q + r
        · subst e; exact ⟨e1, e2⟩
        · exact hp.mid i h2 (by omega)
    · exact ⟨r, hp, .inr (.inl e1)⟩
theorem piece_ex {had beg : Int → Bool} {z q : Int} (hq : q < z) : ∃ r, Piece had beg z q r ∧ PieceEnd had beg z q r :=
  piece_more (z - q - 1).toNat 1 ⟨by omega, by omega, fun i h1 h2 => by omega⟩ (Nat.le_refl _)

/-- Each core touches its own share alone. -/
def apP (n : Nat) (B : Int → Int) (s : Int) (ts : List (List Acc)) : Prop := ∀ d : Int, 0 ≤ d → d < n → ∀ y ∈ tr ts d, B d ≤ y.1 ∧ y.1 < B d + s
theorem apP.cl {n : Nat} {B : Int → Int} {s : Int} (c : Int) (hc : 0 ≤ c ∧ c < n) {e : Int} (he : e = B c + s) : Cl n (apP n B s) c (shSet (B c) e) := by
  intro ts x hl hp hx d d0 d1 y hy
  rw [tr_noted x ⟨hc.1, by omega⟩ d0] at hy
  split at hy
  · rename_i e'
    subst e'
    rcases List.mem_append.1 hy with hy | hy
    · exact hp d d0 d1 y hy
    · rw [List.mem_singleton.1 hy]; unfold shSet at hx; omega
  · exact hp d d0 d1 y hy
theorem apP.clear {n : Nat} {B : Int → Int} {s : Int} (c : Int) (ts : List (List Acc)) (hp : apP n B s ts) : apP n B s (ts.set c.toNat []) := by
  intro d d0 d1 y hy
  unfold tr at hy
  rw [List.getD_eq_getElem?_getD, List.getElem?_set] at hy
  split at hy
  · split at hy <;> simp at hy
  · exact hp d d0 d1 y (by unfold tr; rw [List.getD_eq_getElem?_getD]; exact hy)

def Shs (ws : List Int) (n : Nat) (B : Int → Int) (k z : Int) : Prop := ∀ d : Int, 0 ≤ d → d < n → ∃ had beg, Sh ws (B d) k z had beg
theorem Shs.next {ws ws' : List Int} {n : Nat} {B : Int → Int} {k z s c : Int} (h : Shs ws n B k z) (hs : s = 2 * k + z) (hd : ∀ c d : Int, c ≠ d → 0 ≤ c → c < n → 0 ≤ d → d < n → B c + s ≤ B d ∨ B d + s ≤ B c) (hc : 0 ≤ c ∧ c < n)
    {had beg : Int → Bool} (hS : Sh ws' (B c) k z had beg) (hW : Within ws ws' (B c) (B c + 2 * k + z)) : Shs ws' n B k z := by
  intro d d0 d1
  by_cases e : d = c
  · subst e; exact ⟨_, _, hS⟩
  · obtain ⟨h1, g1, hS1⟩ := h d d0 d1
    refine ⟨h1, g1, hS1.keep hW ?_⟩
    have := hd d c e d0 d1 hc.1 hc.2
    omega

structure ApAt (L : Nat → Prop) (w wr : World) (x a n m : Nat) (B : Int → Int) (s k z : Int) : Prop where
  keeps : Below w.heap.size w wr
  al : AlcAt L wr x a 0 s k
  rest : ∃ ws, Shs ws n B k z ∧ ArP L wr a ws n m (apP n B s)

set_option maxRecDepth 100000 in
theorem aapart_walk (w : World) {A : Option Addr} {len cap : Nat} {xs : List Int} (hx : Ints w A len cap xs) (cores : Int) (_ : (Lit.int .i64 cores).wf = true) :
    Calls Try.prog 12 #[.slice A len cap, .int .i64 cores] w fun e w' => e = .returned (.bool true) ∧ Below w.heap.size w w' := by
  have hle := hx.len_le
  have HX := Lib.hid hx
  clear hx
  obtain ⟨n, hn, hn2, hn5⟩ : ∃ n : Nat, 2 + cores % 4 = n ∧ 2 ≤ n ∧ n ≤ 5 := ⟨(2 + cores % 4).toNat, by omega, by omega, by omega⟩
  obtain ⟨s, hs⟩ : ∃ s : Int, (1024 : Int).tdiv n = s := ⟨_, rfl⟩
  obtain ⟨k, hk⟩ : ∃ k : Int, (s + 61) / 62 = k := ⟨_, rfl⟩
  obtain ⟨z, hz⟩ : ∃ z : Int, s - 2 * k = z := ⟨_, rfl⟩
  have hsb : 204 ≤ s ∧ s ≤ 512 ∧ s * n ≤ 1024 := by
    have h5 : n = 2 ∨ n = 3 ∨ n = 4 ∨ n = 5 := by omega
    rcases h5 with rfl | rfl | rfl | rfl <;> (subst hs; decide)
  have hB : ∀ d : Int, d < n → 0 ≤ d → 0 ≤ d * s ∧ d * s + s ≤ 1024 := by
    intro d h1 h0
    have h2 : (d + 1) * s ≤ n * s := Int.mul_le_mul_of_nonneg_right (by omega) (by omega)
    have h3 : (n : Int) * s = s * n := Int.mul_comm _ _
    have h4 : (d + 1) * s = d * s + s := by rw [Int.add_mul, Int.one_mul]
    exact ⟨Int.mul_nonneg h0 (by omega), by omega⟩
  have hdd : ∀ c d : Int, c ≠ d → 0 ≤ c → c < n → 0 ≤ d → d < n → (0 + c * s) + s ≤ 0 + d * s ∨ (0 + d * s) + s ≤ 0 + c * s := by
    intro c d hcd c0 c1 d0 d1
    have key : ∀ u v : Int, u < v → u * s + s ≤ v * s := fun u v h => by
      have h2 : (u + 1) * s ≤ v * s := Int.mul_le_mul_of_nonneg_right (by omega) (by omega)
      have h4 : (u + 1) * s = u * s + s := by rw [Int.add_mul, Int.one_mul]
      omega
    rcases Int.lt_or_lt_of_ne hcd with h | h
    · have := key c d h; omega
    · have := key d c h; omega
  obtain ⟨B, hBd⟩ : ∃ B : Int → Int, B = fun d => 0 + d * s := ⟨_, rfl⟩
  have HBD := Lib.hid (show ∀ d, 0 + d * s = B d from fun d => by rw [hBd])
  have HDD := Lib.hid (show ∀ c d : Int, c ≠ d → 0 ≤ c → c < n → 0 ≤ d → d < n → B c + s ≤ B d ∨ B d + s ≤ B c by rw [hBd]; exact hdd)
  have HBB := Lib.hid (show ∀ d : Int, 0 ≤ d → d < n → 0 ≤ B d ∧ B d + s ≤ 1024 by rw [hBd]; intro d h0 h1; have := hB d h1 h0; show 0 ≤ 0 + d * s ∧ 0 + d * s + s ≤ 1024; omega)
  have HZ := Lib.hid hz
  have HS := Lib.hid hs
  have HK := Lib.hid hk
  have hsz : s = 2 * k + z := by omega
  have hkk : 0 ≤ k ∧ k ≤ 10 := by omega
  have hzz : 0 ≤ z ∧ z ≤ 62 * k := by omega
  have HSZ := Lib.hid hsz
  clear hB hdd hBd hz hs hk hsz
  go_enter Try.func12, Try.ntmps12
  go_wp2_with (fail)
  refine (awake4 w).mono ?_
  rintro e w1 ⟨rfl, hB⟩
  go_wp2_with (fail)
  refine (new_to (ws := List.replicate 1024 0) (ts := List.replicate n []) (Bd.below w1) (by omega) (by omega) rfl (by rw [Int.toNat_natCast])).mono ?_
  rintro e w2 ⟨a, rfl, hA, hK⟩
  have hP1 : ArP (fun b => b < w1.heap.size) w2 a (List.replicate 1024 0) n 0 (apP n B s) := ArP.new n (by intro d _ _ y hy; rw [tr_rep] at hy; cases hy) hA
  go_wp2_with (fail)
  refine (anew_ok hP1 0 1024 s k (by omega) (by omega) (by omega) (by simp) HS.out (by omega) HK.out (fun i _ _ => rd_rep _ _)).mono ?_
  rintro e w3 ⟨x, rfl, hx, nx, _, hP2, hK2⟩
  have LL := Lib.hid (show ∀ b, b < w1.heap.size → ins (fun b => b < w1.heap.size) x b from fun b h => ins.old h)
  have HB := Lib.hid hB
  have HST := Lib.hid (show ApAt (ins (fun b => b < w1.heap.size) x) w1 w3 x a n 0 B s k z from ⟨(hK.trans hK2).below fun _ h => h, hx, _, fun d d0 d1 => ⟨_, _, Sh.zero (HBB.out d d0 d1).1 hkk.1 hzz.1 hzz.2 (by have := (HBB.out d d0 d1).2; have := HSZ.out; simp; omega) (fun i _ _ => rd_rep _ _)⟩, hP2⟩)
  clear hA hK hP1 hx nx hP2 hK2 hB
  generalize ins (fun b => b < w1.heap.size) x = L at *
  go_wp2_with (go_at_call 18; refine (num_calls _ _).mono ?_; rintro e w' ⟨rfl, rfl⟩)
  go_loopw [10] (fun i wr => ∃ c : Nat, i = .int .i64 c ∧ c ≤ n ∧ ApAt L w1 wr x a n 0 B s k z) (fun i _ => n - (intOf i).toNat)
  case atStart => exact ⟨0, rfl, by omega, HST.out⟩
  case round =>
    clear HST
    obtain ⟨c, rfl, hc, hbel, hx, ws, hS, hP⟩ := hrel
    have HX' := Lib.hid hx
    have HSH := Lib.hid hS
    have HBEL := Lib.hid hbel
    clear hx hS hbel
    by_cases hlt : c < n
    · have hlt' : (c : Int) < (n : Int) := by omega
      go_wp2_with (fail)
      refine (clear_p hP (c := (c : Int)) ⟨by omega, by omega⟩ (fun ts hl hp => apP.clear _ ts hp)).mono ?_
      rintro e w4 ⟨rfl, hP4, hK4⟩
      go_wp2_with (fail)
      go_roundw
      case rel => exact ⟨c + 1, by go_num, by omega, HBEL.out.trans (hK4.below LL.out), HX'.out.keep hK4, ws, HSH.out, hP4⟩
      case measure => simp [intOf]; omega
    · have hlt' : ¬ (c : Int) < (n : Int) := by omega
      have HST := Lib.hid (show ApAt L w1 wr x a n 0 B s k z from ⟨HBEL.out, HX'.out, ws, HSH.out, hP⟩)
      clear hP hlt
      go_wp2_with (fail)
      clear hlt' hc
      go_loopw [11] (fun i wr => ∃ j : Nat, i = .int .i64 j ∧ j ≤ len ∧ j ≤ 40 ∧ ApAt L w1 wr x a n (500000 * j) B s k z) (fun i _ => len - (intOf i).toNat)
      case atStart => exact ⟨0, rfl, by omega, by omega, HST.out⟩
      case round =>
        clear HST
        obtain ⟨j, rfl, hj, hj3, hbel, hx, ws, hS, hP⟩ := hrel
        have HXA := Lib.hid hx
        have HSH := Lib.hid hS
        have HBEL := Lib.hid hbel
        by_cases hboth : j < len ∧ j < 40
        · obtain ⟨hlt, hlt2⟩ := hboth
          have hlt3 : (j : Int) < 40 := by omega
          obtain ⟨gp, off, rfl, q1, _, _⟩ := HX.out.at_ hlt (bel_then HB.out hbel)
          generalize hv : nth xs j = v at *
          have HV := Lib.hid hv
          clear hv
          have hjm : j % n < n := Nat.mod_lt _ (by omega)
          obtain ⟨c, hcm⟩ : ∃ c : Nat, j % n = c := ⟨_, rfl⟩
          rw [hcm] at hjm
          have e1 : (j : Int).tmod (n : Int) = (c : Int) := by rw [Int.tmod_eq_emod_of_nonneg (by omega), ← hcm]; simp
          have e2 : (j : Int) % (n : Int) = (c : Int) := by rw [← hcm]; simp
          have e3 : ((n : Int) == 0) = false := by simp; omega
          have hcn : 0 ≤ (c : Int) ∧ (c : Int) < (n : Int) := by omega
          clear hcm
          obtain ⟨had, beg, hSc⟩ := HSH.out (c : Int) hcn.1 hcn.2
          have HSC := Lib.hid hSc
          have HCL := Lib.hid (apP.cl (n := n) (B := B) (s := s) (c : Int) hcn (e := B c + 2 * k + z) (by have := HSZ.out; omega))
          clear hx hS hbel hSc
          go_wp2_with (fail)
          refine (aget_calls HXA.out hP (by omega) HSC.out (c : Int) (HBD.out _) HZ.out hcn (1 + v % 8) (by omega) HCL.out).mono ?_
          rintro e w4 hG
          clear e1 e2 e3
          rcases hG with ⟨q, q0, q2, hF, hmin, he, ws4, hS4, hW4, hP4, hK4⟩ | ⟨hno, he, hP4, hK4⟩
          · obtain ⟨at4, hat4⟩ : ∃ u : Int, u = B c + 2 * k + q := ⟨_, rfl⟩
            rw [← hat4] at he
            subst he
            obtain ⟨r', hp', he'⟩ := piece_ex (had := upto had q (1 + v % 8) true) (beg := updB beg q true) (z := z) (q := q) (by omega)
            have hb4 := HBEL.out.trans (hK4.below LL.out)
            have HSH4 := Lib.hid (HSH.out.next HSZ.out HDD.out hcn hS4 hW4)
            have HS4 := Lib.hid hS4
            have HX4 := Lib.hid (HXA.out.keep hK4)
            have HB4 := Lib.hid hb4
            obtain ⟨gp', off', hA', q4, _, _⟩ := HX.out.at_ hlt (bel_then HB.out hb4)
            cases hA'
            rw [HV.out] at q4
            have HF := Lib.hid (show at4 = B c + 2 * k + q ∧ 0 ≤ q ∧ q < z ∧ updB beg q true q = true ∧ Piece (upto had q (1 + v % 8) true) (updB beg q true) z q r' ∧ PieceEnd (upto had q (1 + v % 8) true) (updB beg q true) z q r' from ⟨hat4, q0, by omega, by simp [updB], hp', he'⟩)
            clear hF hmin hS4 hW4 hat4 hp' he' hb4 q1
            by_cases hbit : v / 8 % 2 * 8 = 8
            · have hbit2 : (v / 8 % 2 * 8 == 8) = true := by simpa using hbit
              clear hbit
              go_wp2_with (go_at_call 18; refine (num_calls _ _).mono ?_; rintro e w' ⟨rfl, rfl⟩)
              refine (afree_at HX4.out hP4 (by omega) HS4.out (c : Int) (HBD.out _) HZ.out hcn q r' HF.out.1 HF.out.2.1 HF.out.2.2.1 HF.out.2.2.2.1 HF.out.2.2.2.2.1 HF.out.2.2.2.2.2 HCL.out).mono ?_
              rintro e w5 ⟨rfl, ws5, hS5, hW5, hP5, hK5⟩
              have HSH5 := Lib.hid (HSH4.out.next HSZ.out HDD.out hcn hS5 hW5)
              clear hS5 hW5
              go_wp2_with (go_at_call 18; refine (num_calls _ _).mono ?_; rintro e w' ⟨rfl, rfl⟩)
              go_roundw
              case rel => exact ⟨j + 1, by go_num, by omega, by omega, HB4.out.trans (hK5.below LL.out), HX4.out.keep hK5, ws5, HSH5.out, hP5.mono (by omega)⟩
              case measure => simp [intOf]; omega
            · have hbit2 : (v / 8 % 2 * 8 == 8) = false := by simpa using hbit
              clear hbit
              go_wp2_with (go_at_call 18; refine (num_calls _ _).mono ?_; rintro e w' ⟨rfl, rfl⟩)
              go_roundw
              case rel => exact ⟨j + 1, by go_num, by omega, by omega, HB4.out, HX4.out, ws4, HSH4.out, hP4.mono (by omega)⟩
              case measure => simp [intOf]; omega
          · subst he
            have HB4 := Lib.hid (HBEL.out.trans (hK4.below LL.out))
            have HX4 := Lib.hid (HXA.out.keep hK4)
            clear hno q1
            go_wp2_with (go_at_call 18; refine (num_calls _ _).mono ?_; rintro e w' ⟨rfl, rfl⟩)
            go_roundw
            case rel => exact ⟨j + 1, by go_num, by omega, by omega, HB4.out, HX4.out, ws, HSH.out, hP4.mono (by omega)⟩
            case measure => simp [intOf]; omega
        · have hex : ¬ j < len ∨ (j < len ∧ ¬ ((j : Int) < 40)) := by omega
          have HS := Lib.hid (show ArP L wr a ws n 30000000 (apP n B s) ∧ Below w1.heap.size w1 wr from ⟨hP.mono (by omega), HBEL.out⟩)
          clear hx hS hbel hP hboth HXA HSH HBEL
          rcases hex with hjl | ⟨hjl, hj300⟩
          all_goals (
            go_wp2
            go_loopw [16] (fun i wr => ∃ c : Nat, i = .int .i64 c ∧ c ≤ n ∧ ArP L wr a ws n 30000000 (apP n B s) ∧ Below w1.heap.size w1 wr) (fun i _ => n - (intOf i).toNat)
            case atStart => exact ⟨0, rfl, by omega, HS.out⟩
            case round =>
              clear HS
              obtain ⟨c, rfl, hc, hP, hB⟩ := hrel
              by_cases hlc : c < n
              · have hlc' : (c : Int) < (n : Int) := by omega
                go_wp2
                go_loopw [17] (fun i wr => ∃ d : Nat, i = .int .i64 d ∧ d ≤ c ∧ ArP L wr a ws n 30000000 (apP n B s) ∧ Below w1.heap.size w1 wr) (fun i _ => c - (intOf i).toNat)
                case atStart => exact ⟨0, rfl, by omega, hP, hB⟩
                case round =>
                  clear hP hB
                  obtain ⟨d, rfl, hd, hP, hB⟩ := hrel
                  by_cases hld : d < c
                  · have hld' : (d : Int) < (c : Int) := by omega
                    have TC := Lib.hid (fun W (h : ArP L W a ws n 30000000 (apP n B s)) => trace_p h (by omega) (c := (c : Int)) ⟨by omega, by omega⟩ (Q := fun t => ∀ y ∈ t, B c ≤ y.1 ∧ y.1 < B c + s) (fun ts _ hp => hp c (by omega) (by omega)))
                    have TD := Lib.hid (fun W (h : ArP L W a ws n 30000000 (apP n B s)) => trace_p h (by omega) (c := (d : Int)) ⟨by omega, by omega⟩ (Q := fun t => ∀ y ∈ t, B d ≤ y.1 ∧ y.1 < B d + s) (fun ts _ hp => hp d (by omega) (by omega)))
                    have HDC := Lib.hid (HDD.out (c : Int) (d : Int) (by omega) (by omega) (by omega) (by omega) (by omega))
                    go_wp2_with (fail)
                    refine (TC.out _ hP).mono ?_
                    rintro e w4 ⟨v4, t4, rfl, hq4, hl4, hs4, hB4⟩
                    have hP4 := hP.below hB4
                    go_wp2_with (fail)
                    refine (TD.out _ hP4).mono ?_
                    rintro e w5 ⟨v5, t5, rfl, hq5, hl5, hs5, hB5⟩
                    have hP5 := hP4.below hB5
                    go_wp2_with (fail)
                    refine (meet_false t4 t5 v4 v5 w5 (hs4.below hB5) hs5 hl4 hl5 (fun y hy z' hz' e => by
                      have h1 := hq4 y hy
                      have h2 := hq5 z' hz'
                      have h3 := HDC.out
                      omega)).mono ?_
                    rintro e w6 ⟨rfl, d6, rfl⟩
                    have hP6 := hP5.drewN d6
                    have hB6 := below_drewN' (bel_then (bel_then hB hB4) hB5) d6
                    clear hs4 hs5 hq4 hq5 hP4 hP5 hB4 hB5 hB hP
                    go_wp2_with (fail)
                    refine (TC.out _ hP6).mono ?_
                    rintro e w7 ⟨v7, t7, rfl, hq7, hl7, hs7, hB7⟩
                    have hP7 := hP6.below hB7
                    go_wp2_with (fail)
                    refine (words_full t7 v7 false w7 hs7 hl7).mono ?_
                    rintro e w8 ⟨u8, us8, rfl, hW8⟩
                    have hP8 := hP7.below hW8.keeps
                    have hB8 := bel_then (bel_then hB6 hB7) hW8.keeps
                    obtain ⟨A8, c8, hv8, hc8, _, _⟩ := hW8.own.form
                    have hl8 : us8.length ≤ 1099511627776 := Nat.le_trans hW8.st.len (Nat.le_trans (List.length_take_le _ _) hl7)
                    subst hv8
                    clear hs7 hq7 hP6 hP7 hB6 hB7 hW8
                    by_cases hpos : 0 < us8.length
                    · have hpos' : (0 : Int) < (us8.length : Int) := by omega
                      go_wp2_with (fail)
                      refine (TC.out _ hP8).mono ?_
                      rintro e w9 ⟨v9, t9, rfl, hq9, hl9, hs9, hB9⟩
                      have hP9 := hP8.below hB9
                      go_wp2_with (fail)
                      refine (TD.out _ hP9).mono ?_
                      rintro e w10 ⟨v10, t10, rfl, hq10, hl10, hs10, hB10⟩
                      have hP10 := hP9.below hB10
                      go_wp2_with (fail)
                      refine (meets_false t9 t10 v9 v10 w10 (hs9.below hB10) hs10 hl9 hl10 (fun y hy z' hz' e => by
                        have h1 := hq9 y hy
                        have h2 := hq10 z' hz'
                        have h3 := HDC.out
                        omega)).mono ?_
                      rintro e w11 ⟨rfl, hB11⟩
                      have hP11 := hP10.below hB11
                      have hBB := bel_then (bel_then (bel_then hB8 hB9) hB10) hB11
                      clear hs9 hs10 hq9 hq10 hP9 hP10 hB9 hB10 hB11 hB8 hP8
                      go_wp2
                      go_roundw
                      case rel => exact ⟨d + 1, by go_num, by omega, hP11, hBB⟩
                      case measure => simp [intOf]; omega
                    · have hpos' : ¬ (0 : Int) < (us8.length : Int) := by omega
                      go_wp2
                      go_roundw
                      case rel => exact ⟨d + 1, by go_num, by omega, hP8, hB8⟩
                      case measure => simp [intOf]; omega
                  · have hld' : ¬ (d : Int) < (c : Int) := by omega
                    go_wp2
                    go_roundw
                    case rel => exact ⟨c + 1, by go_num, by omega, hP, hB⟩
                    case measure => simp [intOf]; omega
              · have hlc' : ¬ (c : Int) < (n : Int) := by omega
                go_wp2
                go_ret
                exact ⟨rfl, bel_then HB.out hB⟩)
end Go.Proofs.Ytacjpchcaknacaa
