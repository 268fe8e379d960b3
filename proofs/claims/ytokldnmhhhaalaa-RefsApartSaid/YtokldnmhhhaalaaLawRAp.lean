
/- RefsApart: the walk. -/
import Derived.Test.YtokldnmhhhaalaaLawREp
import Derived.Test.YtokldnmhhhaalaaTraces
namespace Go.Proofs.Ytokldnmhhhaalaa
open Go.RowKit
set_option maxHeartbeats 1000000

/-- Each core touches its own row alone. -/
def rwP (n : Nat) (f o : Int) (ts : List (List Acc)) : Prop := ∀ d : Int, 0 ≤ d → d < n → ∀ y ∈ tr ts d, rwSet f o d y
theorem rwP.cl {n : Nat} {f o : Int} (c : Int) (hc : 0 ≤ c ∧ c < n) : Cl n (rwP n f o) c (rwSet f o c) := by
  intro ts x hl hp hx d d0 d1 y hy
  rw [tr_noted x ⟨hc.1, by omega⟩ d0] at hy
  split at hy
  · rename_i e'
    subst e'
    rcases List.mem_append.1 hy with hy | hy
    · exact hp d d0 d1 y hy
    · rw [List.mem_singleton.1 hy]; exact hx
  · exact hp d d0 d1 y hy
theorem rwP.clear {n : Nat} {f o : Int} (c : Int) (ts : List (List Acc)) (hp : rwP n f o ts) : rwP n f o (ts.set c.toNat []) := by
  intro d d0 d1 y hy
  unfold tr at hy
  rw [List.getD_eq_getElem?_getD, List.getElem?_set] at hy
  split at hy
  · split at hy <;> simp at hy
  · exact hp d d0 d1 y (by unfold tr; rw [List.getD_eq_getElem?_getD]; exact hy)
theorem rwSet_apart {f o c d : Int} (ho : 0 ≤ o) (hcd : d < c) {y z : Acc} (hy : rwSet f o c y) (hz : rwSet f o d z) : y.1 ≠ z.1 := by
  unfold rwSet at hy hz
  have := row_lt hcd (show 0 ≤ o + 2 by omega)
  omega

structure RP (L : Nat → Prop) (w1 wr : World) (x a n m : Nat) (i : Int) : Prop where
  keeps : Below w1.heap.size w1 wr
  low : ∀ b, b < w1.heap.size → L b
  rc : RcAt L wr x a 3 8
  t : ∃ ws T, Mx ws 3 n 8 T ∧ TOk T n 8 i ∧ ArP L wr a ws n m (rwP n 3 8)

section
variable {L : Nat → Prop} {w1 w : World} {x a n m : Nat} {i : Int}
theorem RP.mono {m' : Nat} (h : RP L w1 w x a n m i) (hm : m ≤ m') : RP L w1 w x a n m' i := by
  obtain ⟨ws, T, h1, h2, h3⟩ := h.t
  exact ⟨h.keeps, h.low, h.rc, ws, T, h1, h2, h3.mono hm⟩
theorem rpInc (h : RP L w1 w x a n m i) (hm : m ≤ 1099511500000) (hi : i < 900) (c j : Int) (hc : 0 ≤ c ∧ c < n) (hj : 0 ≤ j ∧ j < 8) :
    Calls Try.prog 15 #[.pointer (some ⟨x, 0, none⟩), .int .i64 c, .int .i64 j] w fun e w' => e = .returned (.int .i64 0) ∧ RP L w1 w' x a n (m + 3) (i + 1) := by
  obtain ⟨ws, T, hM, hT, hA⟩ := h.t
  have hb := hT.part c j hc.1 hc.2 hj.1 hj.2
  have h0 := hT.i0
  obtain ⟨c', rfl⟩ := Int.eq_ofNat_of_zero_le hc.1
  refine rinc_calls ((rcount_ok h.rc hA (by omega) hM (c' : Int) j 1 hc hj (v := T c' j + 1) (by unfold wrap64; omega) (hT.ever c' (by omega)) (fun _ h => h) (rwP.cl _ hc)).mono ?_)
  rintro e w' ⟨rfl, ws', hM', hA', hK⟩
  exact ⟨rfl, h.keeps.trans (hK.below h.low), h.low, h.rc.keep hK, ws', _, hM', hT.count hi (by omega) hc hj (.inl rfl), hA'⟩
theorem rpDec (h : RP L w1 w x a n m i) (hm : m ≤ 1099511500000) (hi : i < 900) (c j : Int) (hc : 0 ≤ c ∧ c < n) (hj : 0 ≤ j ∧ j < 8) :
    Calls Try.prog 14 #[.pointer (some ⟨x, 0, none⟩), .int .i64 c, .int .i64 j] w fun e w' => e = .returned (.int .i64 0) ∧ RP L w1 w' x a n (m + 3) (i + 1) := by
  obtain ⟨ws, T, hM, hT, hA⟩ := h.t
  have hb := hT.part c j hc.1 hc.2 hj.1 hj.2
  have h0 := hT.i0
  obtain ⟨c', rfl⟩ := Int.eq_ofNat_of_zero_le hc.1
  refine rdec_calls ((rcount_ok h.rc hA (by omega) hM (c' : Int) j (-1) hc hj (v := T c' j + -1) (by unfold wrap64; omega) (hT.ever c' (by omega)) (fun _ h => h) (rwP.cl _ hc)).mono ?_)
  rintro e w' ⟨rfl, ws', hM', hA', hK⟩
  exact ⟨rfl, h.keeps.trans (hK.below h.low), h.low, h.rc.keep hK, ws', _, hM', hT.count hi (by omega) hc hj (.inr rfl), hA'⟩
theorem rpClear (h : RP L w1 w x a n m i) (c : Int) (hc : 0 ≤ c ∧ c < n) :
    Calls Try.prog 26 #[.pointer (some ⟨a, 0, none⟩), .int .i64 c] w fun e w' => e = .returned (.int .i64 0) ∧ RP L w1 w' x a n m i := by
  obtain ⟨ws, T, hM, hT, hA⟩ := h.t
  refine (clear_p hA hc (fun ts hl hp => rwP.clear c ts hp)).mono ?_
  rintro e w' ⟨rfl, hA', hK⟩
  exact ⟨rfl, h.keeps.trans (hK.below h.low), h.low, h.rc.keep hK, ws, T, hM, hT, hA'⟩
theorem RP.below {w' : World} (h : RP L w1 w x a n m i) (hB : Below w.heap.size w w') : RP L w1 w' x a n m i := by
  obtain ⟨ws, T, hM, hT, hA⟩ := h.t
  have hlt := h.rc.2.1.lt
  exact ⟨bel_then h.keeps hB, h.low, ⟨h.rc.1, (hB.block _ hlt).trans h.rc.2.1, h.rc.2.2⟩, ws, T, hM, hT, hA.below hB⟩
theorem rpTrace (h : RP L w1 w x a n m i) (hm : m ≤ 1099511627776) {c : Int} (hc : 0 ≤ c ∧ c < n) :
    Calls Try.prog 28 #[.pointer (some ⟨a, 0, none⟩), .int .i64 c] w fun e w' => ∃ v t, e = .returned v ∧ (∀ y ∈ t, rwSet 3 8 c y) ∧ t.length ≤ 1099511627776 ∧ Sl w' 2 v t.length (encAccs t) ∧ Below w.heap.size w w' := by
  obtain ⟨ws, T, hM, hT, hA⟩ := h.t
  exact trace_p hA hm hc (Q := fun t => ∀ y ∈ t, rwSet 3 8 c y) fun ts _ hp => hp c hc.1 hc.2
end

set_option maxRecDepth 100000 in
theorem rapart_walk (w : World) {A : Option Addr} {len cap : Nat} {xs : List Int} (hx : Ints w A len cap xs) (cores : Int) (_ : (Lit.int .i64 cores).wf = true) :
    Calls Try.prog 7 #[.slice A len cap, .int .i64 cores] w fun e w' => e = .returned (.bool true) ∧ Below w.heap.size w w' := by
  have hle := hx.len_le
  have HX := Lib.hid hx
  clear hx
  obtain ⟨n, hn, hn2, hn5⟩ : ∃ n : Nat, 2 + cores % 4 = n ∧ 2 ≤ n ∧ n ≤ 5 := ⟨(2 + cores % 4).toNat, by omega, by omega, by omega⟩
  go_enter Try.func7, Try.ntmps7
  go_wp2_with (fail)
  refine (awake6 w).mono ?_
  rintro e w1 ⟨rfl, hB⟩
  go_wp2_with (fail)
  refine (new_to (ws := List.replicate 1000 0) (ts := List.replicate n []) (Bd.below w1) (by omega) (by omega) rfl (by rw [Int.toNat_natCast])).mono ?_
  rintro e w2 ⟨a, rfl, hA, hK⟩
  have hP1 : ArP (fun b => b < w1.heap.size) w2 a (List.replicate 1000 0) n 0 (rwP n 3 8) := ArP.new n (by intro d _ _ y hy; rw [tr_rep] at hy; cases hy) hA
  go_wp2_with (fail)
  refine (rnew_ok hP1 3 8 (by omega) (by omega) (by omega) (by omega)).mono ?_
  rintro e w3 ⟨x, rfl, hx, _, _, hP2, hK2⟩
  have HB := Lib.hid hB
  have HST := Lib.hid (show ∃ L, RP L w1 w3 x a n 0 0 from
    ⟨ins (fun b => b < w1.heap.size) x, (hK.trans hK2).below fun _ h => h, fun b h => .inl h, hx, _, _, Mx.zero (by omega) (by omega) (by omega) (by omega), TOk.zero, hP2⟩)
  obtain ⟨L, HST⟩ := HST.out
  have HST := Lib.hid HST
  clear hA hK hP1 hx hP2 hK2 hB
  go_wp2_with (go_at_call 19; refine (num_calls _ _).mono ?_; rintro e w' ⟨rfl, rfl⟩)
  clear hn
  go_loopw [10] (fun i wr => ∃ c : Nat, i = .int .i64 c ∧ c ≤ n ∧ RP L w1 wr x a n 0 0) (fun i _ => n - (intOf i).toNat)
  case atStart => exact ⟨0, rfl, by omega, HST.out⟩
  case round =>
    clear HST
    obtain ⟨c, rfl, hc, hS⟩ := hrel
    have HS := Lib.hid hS
    clear hS
    by_cases hlt : c < n
    · have hlt' : (c : Int) < (n : Int) := by omega
      go_wp2_with (fail)
      refine (rpClear HS.out (c : Int) ⟨by omega, by omega⟩).mono ?_
      rintro e w4 ⟨rfl, hS4⟩
      go_wp2_with (fail)
      go_roundw
      case rel => exact ⟨c + 1, by go_num, by omega, hS4⟩
      case measure => simp [intOf]; omega
    · have hlt' : ¬ (c : Int) < (n : Int) := by omega
      clear hlt
      go_wp2_with (fail)
      clear hlt' hc
      go_loopw [11] (fun i wr => ∃ j : Nat, i = .int .i64 j ∧ j ≤ len ∧ j ≤ 60 ∧ RP L w1 wr x a n (3 * j) j) (fun i _ => len - (intOf i).toNat)
      case atStart => exact ⟨0, rfl, by omega, by omega, HS.out⟩
      case round =>
        clear HS
        obtain ⟨j, rfl, hj, hj3, hS⟩ := hrel
        have HS := Lib.hid hS
        have hb := bel_then HB.out hS.keeps
        by_cases hboth : j < len ∧ j < 60
        · obtain ⟨hlt, hlt2⟩ := hboth
          have hlt3 : (j : Int) < 60 := by omega
          obtain ⟨gp, off, rfl, q1, _, _⟩ := HX.out.at_ hlt hb
          generalize nth xs j = v at *
          have hjm : j % n < n := Nat.mod_lt _ (by omega)
          obtain ⟨c, hcm⟩ : ∃ c : Nat, j % n = c := ⟨_, rfl⟩
          rw [hcm] at hjm
          have e1 : (j : Int).tmod (n : Int) = (c : Int) := by rw [Int.tmod_eq_emod_of_nonneg (by omega), ← hcm]; simp
          have e2 : (j : Int) % (n : Int) = (c : Int) := by rw [← hcm]; simp
          have e3 : ((n : Int) == 0) = false := by simp; omega
          have hcn : 0 ≤ (c : Int) ∧ (c : Int) < (n : Int) := by omega
          have HI := Lib.hid (rpInc hS (by omega) (by omega) (c : Int) (v % 8) hcn (by omega))
          have HD := Lib.hid (rpDec hS (by omega) (by omega) (c : Int) (v % 8) hcn (by omega))
          clear hcm hS hb
          by_cases hbit : v / 8 % 2 * 8 = 8
          · have hbit2 : (v / 8 % 2 * 8 == 8) = true := by simpa using hbit
            clear hbit
            go_wp2_with (fail)
            refine HI.out.mono ?_
            rintro e w4 ⟨rfl, hS4⟩
            clear e1 e2 e3
            go_wp2_with (fail)
            go_roundw
            case rel => exact ⟨j + 1, by go_num, by omega, by omega, hS4⟩
            case measure => simp [intOf]; omega
          · have hbit2 : (v / 8 % 2 * 8 == 8) = false := by simpa using hbit
            clear hbit
            go_wp2_with (fail)
            refine HD.out.mono ?_
            rintro e w4 ⟨rfl, hS4⟩
            clear e1 e2 e3
            go_wp2_with (fail)
            go_roundw
            case rel => exact ⟨j + 1, by go_num, by omega, by omega, hS4⟩
            case measure => simp [intOf]; omega
        · have hex : ¬ j < len ∨ (j < len ∧ ¬ ((j : Int) < 60)) := by omega
          clear hS hb hboth
          rcases hex with hjl | ⟨hjl, hj300⟩
          all_goals (
            go_wp2
            go_loopw [13] (fun i wx => ∃ c : Nat, i = .int .i64 c ∧ c ≤ n ∧ RP L w1 wx x a n (3 * j) j) (fun i _ => n - (intOf i).toNat)
            case atStart => exact ⟨0, rfl, by omega, HS.out⟩
            case round =>
              clear HS
              obtain ⟨c, rfl, hc, hS⟩ := hrel
              have HS := Lib.hid hS
              clear hS
              by_cases hlc : c < n
              · have hlc' : (c : Int) < (n : Int) := by omega
                go_wp2
                go_loopw [14] (fun i wx => ∃ d : Nat, i = .int .i64 d ∧ d ≤ c ∧ RP L w1 wx x a n (3 * j) j) (fun i _ => c - (intOf i).toNat)
                case atStart => exact ⟨0, rfl, by omega, HS.out⟩
                case round =>
                  clear HS
                  obtain ⟨d, rfl, hd, hS⟩ := hrel
                  by_cases hld : d < c
                  · have hld' : (d : Int) < (c : Int) := by omega
                    have TC := Lib.hid (fun W (h : RP L w1 W x a n (3 * j) j) => rpTrace h (by omega) (c := (c : Int)) ⟨by omega, by omega⟩)
                    have TD := Lib.hid (fun W (h : RP L w1 W x a n (3 * j) j) => rpTrace h (by omega) (c := (d : Int)) ⟨by omega, by omega⟩)
                    have HLD := Lib.hid hld'
                    go_wp2_with (fail)
                    refine (TC.out _ hS).mono ?_
                    rintro e w4 ⟨v4, t4, rfl, hq4, hl4, hs4, hB4⟩
                    have hS4 := hS.below hB4
                    go_wp2_with (fail)
                    refine (TD.out _ hS4).mono ?_
                    rintro e w5 ⟨v5, t5, rfl, hq5, hl5, hs5, hB5⟩
                    have hS5 := hS4.below hB5
                    go_wp2_with (fail)
                    refine (meet_false t4 t5 v4 v5 w5 (hs4.below hB5) hs5 hl4 hl5 (fun y hy z' hz' e => absurd e (rwSet_apart (by omega) HLD.out (hq4 y hy) (hq5 z' hz')))).mono ?_
                    rintro e w6 ⟨rfl, d6, rfl⟩
                    have hS6 := hS5.below (below_drewN' (Below.refl _ _) d6)
                    clear hs4 hs5 hq4 hq5 hS4 hS5 hB4 hB5 hS
                    go_wp2
                    go_roundw
                    case rel => exact ⟨d + 1, by go_num, by omega, hS6⟩
                    case measure => simp [intOf]; omega
                  · have hld' : ¬ (d : Int) < (c : Int) := by omega
                    go_wp2
                    go_roundw
                    case rel => exact ⟨c + 1, by go_num, by omega, hS⟩
                    case measure => simp [intOf]; omega
              · have hlc' : ¬ (c : Int) < (n : Int) := by omega
                go_wp2
                go_ret
                exact ⟨rfl, bel_then HB.out HS.out.keeps⟩)
end Go.Proofs.Ytokldnmhhhaalaa
