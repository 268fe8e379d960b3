
/- RefsFlushed: the walk. -/
import Derived.Test.YtokldnmhhhaalaaLawREp
namespace Go.Proofs.Ytokldnmhhhaalaa
open Go.RowKit
set_option maxHeartbeats 1000000

/-- A row of ints in a block. -/
def BlkI (w : World) (g : Nat) (xs : List Int) : Prop := Blk w g 3 (xs.map (Value.int .i64)).toArray
theorem BlkI.cell {w : World} {g : Nat} {xs : List Int} (h : BlkI w g xs) {i : Nat} (hi : i < xs.length) : w.cell? ⟨g, i, none⟩ = some (.int .i64 (nth xs i)) := by
  rw [Blk.cell h]; simp [hi, List.getD, nth]
theorem BlkI.frozen {w : World} {g : Nat} {xs : List Int} (h : BlkI w g xs) (i : Nat) : w.frozen? ⟨g, i, none⟩ = false := Blk.frozen h i
theorem BlkI.set {w : World} {g : Nat} {xs : List Int} (h : BlkI w g xs) (i : Nat) (v : Int) : BlkI (w.setCell ⟨g, i, none⟩ (.int .i64 v)) g (xs.set i v) := by
  have := Blk.set_ h i (.int .i64 v)
  unfold BlkI
  simpa [List.map_set] using this
theorem nth_set (xs : List Int) (c r : Nat) (v : Int) (hc : c < xs.length) : nth (xs.set c v) r = if r = c then v else nth xs r := by
  unfold nth
  by_cases e : r = c
  · subst e; simp [List.getD, hc]
  · simp [List.getD, e, Ne.symm e]

theorem sumP_congr {T T' : Int → Int → Int} {j : Int} {k : Nat} (h : ∀ r : Nat, r < k → T r j = T' r j) : sumP T j k = sumP T' j k := by
  induction k with
  | zero => rfl
  | succ k ih => unfold sumP; rw [ih fun r hr => h r (by omega), h k (by omega)]
theorem sumP_upd {T T' : Int → Int → Int} {j v : Int} {c : Nat} (hv : T' c j = v) : ∀ {k : Nat}, (∀ r : Nat, r < k → r ≠ c → T' r j = T r j) → sumP T' j k = sumP T j k + if c < k then v - T c j else 0
  | 0, _ => by simp [sumP]
  | k + 1, h => by
    unfold sumP
    rw [sumP_upd hv (k := k) fun r hr hne => h r (by omega) hne]
    by_cases e : k = c
    · subst e
      rw [if_neg (by omega), if_pos (by omega), hv]
      omega
    · rw [h k (by omega) e]
      by_cases e2 : c < k
      · rw [if_pos e2, if_pos (by omega)]; omega
      · rw [if_neg e2, if_neg (by omega)]; omega
theorem sumP_zero {T : Int → Int → Int} {j : Int} {k : Nat} (h : ∀ r : Nat, r < k → T r j = 0) : sumP T j k = 0 := by
  induction k with
  | zero => rfl
  | succ k ih => unfold sumP; rw [ih fun r hr => h r (by omega), h k (by omega)]; rfl

/-- What counts and then c flushes make: the sums. -/
structure FI (T : Int → Int → Int) (n : Nat) (xs : List Int) (c : Nat) (i : Int) : Prop where
  ok : TOk T n 4 i
  len : xs.length = 4
  tot : ∀ j : Nat, j < 4 → T n j + sumP T j n = nth xs j
  zer : ∀ r j : Nat, r < c → j < 4 → T r j = 0
  fl : ∀ r : Nat, r < n → c < n → T r 4 = if r < c then 1 else 0
  ep : T n 4 = if c < n then 0 else 1
theorem FI.zero {n : Nat} (hn : 1 ≤ n) : FI (fun _ _ => 0) n [0, 0, 0, 0] 0 0 := by
  refine ⟨TOk.zero, rfl, fun j hj => ?_, fun _ _ _ _ => rfl, fun r _ _ => by rw [if_neg (by omega)], by rw [if_pos (by omega)]⟩
  rw [sumP_zero (fun _ _ => rfl)]
  have : j = 0 ∨ j = 1 ∨ j = 2 ∨ j = 3 := by omega
  rcases this with rfl | rfl | rfl | rfl <;> rfl
theorem cntT_row {T : Int → Int → Int} {o c j v : Int} (r k : Int) (hk : k ≤ o) : cntT T o c j v r k = if r = c ∧ k = j then v else T r k := by
  simp only [cntT, upd2]
  rw [if_neg (by omega)]
theorem FI.count {T : Int → Int → Int} {n : Nat} {xs : List Int} {i : Int} (h : FI T n xs 0 i) (hi : i < 900) {c j : Nat} {b : Int} (hc : c < n) (hj : j < 4) (hb : b = 1 ∨ b = -1) : FI (cntT T 4 c j (T c j + b)) n (xs.set j (nth xs j + b)) 0 (i + 1) := by
  refine ⟨h.ok.count hi (by omega) ⟨by omega, by omega⟩ ⟨by omega, by omega⟩ hb, by simpa using h.len, fun k hk => ?_, fun r k hr _ => absurd hr (by omega), fun r hr _ => ?_, ?_⟩
  · rw [cntT_row _ _ (by omega), if_neg (by omega), nth_set _ _ _ _ (by rw [h.len]; exact hj)]
    have ht := h.tot k hk
    by_cases e : k = j
    · subst e
      rw [sumP_upd (T := T) (c := c) (v := T c k + b) (by rw [cntT_row _ _ (by omega), if_pos ⟨rfl, rfl⟩]) (fun r _ hne => by rw [cntT_row _ _ (by omega), if_neg (by omega)]), if_pos hc, if_pos rfl]
      omega
    · rw [sumP_congr (T' := T) (fun r _ => by rw [cntT_row _ _ (by omega), if_neg (by omega)]), if_neg e, ht]
  · rw [cntT_row _ _ (by omega), if_neg (by omega)]
    exact h.fl r hr (by omega)
  · rw [cntT_row _ _ (by omega), if_neg (by omega)]
    exact h.ep
theorem FI.flush {T : Int → Int → Int} {n : Nat} {xs : List Int} {i : Int} {c : Nat} (h : FI T n xs c i) (hi : i < 900) (hc : c < n) : FI (flushT T n 4 c) n xs (c + 1) (i + 1) := by
  have hup : upB T 4 c n = decide (c + 1 = n) := by
    rw [Bool.eq_iff_iff, upB_iff, decide_eq_true_iff]
    constructor
    · intro hu
      rcases Nat.lt_or_ge (c + 1) n with h1 | h1
      · have h2 := hu (c + 1) h1 (by omega)
        rw [h.fl (c + 1) h1 hc, if_neg (by omega)] at h2
        exact absurd rfl h2
      · omega
    · intro e r hr hne
      rw [h.fl r hr hc, if_pos (by omega)]
      omega
  refine ⟨h.ok.flush hi ⟨by omega, by omega⟩, h.len, fun k hk => ?_, fun r k hr hk => ?_, fun r hr hc1 => ?_, ?_⟩
  · have e1 : flushT T n 4 c n k = T n k + T c k := by unfold flushT; rw [if_pos (by omega), if_neg (by omega), if_pos rfl]
    rw [e1, sumP_upd (T := T) (c := c) (v := 0) (by unfold flushT; rw [if_pos (by omega), if_pos rfl]) (fun r hr hne => by unfold flushT; rw [if_pos (by omega), if_neg (by omega), if_neg (by omega), if_neg (by omega)]), if_pos hc]
    have := h.tot k hk
    omega
  · unfold flushT
    rw [if_pos (by omega)]
    by_cases e : r = c
    · rw [if_pos (by omega)]
    · rw [if_neg (by omega), if_neg (by omega), if_neg (by omega)]
      exact h.zer r k (by omega) hk
  · unfold flushT
    rw [if_neg (by omega), if_pos rfl, hup, if_neg (by simp; omega)]
    by_cases e : r = c
    · rw [if_pos (by omega), if_pos (by omega)]
    · rw [if_neg (by omega), h.fl r hr hc]
      by_cases e2 : r < c
      · rw [if_pos e2, if_pos (by omega)]
      · rw [if_neg e2, if_neg (by omega)]
  · unfold flushT
    rw [if_neg (by omega), if_pos rfl, hup]
    have he := h.ep
    rw [if_pos hc] at he
    by_cases e : c + 1 = n
    · rw [if_pos (by simpa using e), if_neg (by omega), if_pos rfl, if_neg (by omega), he]; rfl
    · rw [if_neg (by simpa using e), if_neg (by omega), if_pos (by omega), he]

structure FlW (L : Nat → Prop) (w1 wr : World) (x a n m g : Nat) (xs : List Int) (c : Nat) (i : Int) : Prop where
  keeps : Below w1.heap.size w1 wr
  low : ∀ b, b < w1.heap.size → L b
  lg : L g
  gl : w1.heap.size ≤ g
  row : BlkI wr g xs
  rs : ∃ T, RS L wr x a 0 4 n m T ∧ FI T n xs c i
theorem FlW.len {L : Nat → Prop} {w1 wr : World} {x a n m g : Nat} {xs : List Int} {c : Nat} {i : Int} (h : FlW L w1 wr x a n m g xs c i) : xs.length = 4 := by
  obtain ⟨T, _, h⟩ := h.rs
  exact h.len

theorem RS.setCell {L : Nat → Prop} {w : World} {a x n m : Nat} {f o : Int} {T : Int → Int → Int} (h : RS L w x a f o n m T) {p : Addr} (hp : L p.block) (hne : x ≠ p.block) (v : Value) : RS L (w.setCell p v) x a f o n m T :=
  ⟨⟨h.rc.1, h.rc.2.1.far hne v, h.rc.2.2⟩, by obtain ⟨ws, h1, h2⟩ := h.ar; exact ⟨ws, h1, h2.setCell hp v⟩⟩

section
variable {L : Nat → Prop} {w1 w : World} {x a n m g : Nat} {xs : List Int} {i : Int}
theorem FI.bd {T : Int → Int → Int} {c : Nat} (h : FI T n xs c i) (hn : n ≤ 8) {j : Nat} (hj : j < 4) : -1000000 ≤ nth xs j ∧ nth xs j ≤ 1000000 := by
  have h1 := h.tot j hj
  have h2 := h.ok.glob j (by omega) (by omega)
  have h3 := h.ok.sum_bd (j := j) ⟨by omega, by omega⟩ n (Nat.le_refl _)
  have h4 := h.ok.i0
  omega
theorem FlW.step (h : FlW L w1 w x a n m g xs 0 i) {w' : World} {T T' : Int → Int → Int} {o : Nat} {b : Int} (ho : o < 4) (hF : FI T n xs 0 i) (hS' : RS L w' x a 0 4 n (m + 3) T') (hF' : FI T' n (xs.set o (nth xs o + b)) 0 (i + 1)) (hK : Keeps L w w') :
    w'.cell? ⟨g, o, none⟩ = some (.int .i64 (nth xs o)) ∧ w'.frozen? ⟨g, o, none⟩ = false ∧ (-1000000 ≤ nth xs o ∧ nth xs o ≤ 1000000) ∧ FlW L w1 (w'.setCell ⟨g, o, none⟩ (.int .i64 (nth xs o + b))) x a n (m + 3) g (xs.set o (nth xs o + b)) 0 (i + 1) := by
  have hrow : BlkI w' g xs := hK.blk h.row h.lg
  have hn8 := hS'.n_
  have hne : x ≠ g := fun e => by have h1 := hS'.rc.2.1; rw [e] at h1; exact absurd rfl (Blk.ne_ h1 hrow (by decide))
  exact ⟨hrow.cell (by rw [hF.len]; exact ho), hrow.frozen o, hF.bd hn8.2 ho, (h.keeps.trans (hK.below h.low)).setCell h.gl _, h.low, h.lg, h.gl, hrow.set o _, T', hS'.setCell h.lg hne _, hF'⟩
theorem flInc (h : FlW L w1 w x a n m g xs 0 i) (hm : m ≤ 1099511500000) (hi : i < 900) {c o : Nat} (hc : c < n) (ho : o < 4) :
    Calls Try.prog 15 #[.pointer (some ⟨x, 0, none⟩), .int .i64 c, .int .i64 o] w fun e w' => e = .returned (.int .i64 0) ∧ w'.cell? ⟨g, o, none⟩ = some (.int .i64 (nth xs o)) ∧ w'.frozen? ⟨g, o, none⟩ = false ∧ (-1000000 ≤ nth xs o ∧ nth xs o ≤ 1000000) ∧ FlW L w1 (w'.setCell ⟨g, o, none⟩ (.int .i64 (nth xs o + 1))) x a n (m + 3) g (xs.set o (nth xs o + 1)) 0 (i + 1) := by
  obtain ⟨T, hS, hF⟩ := h.rs
  refine (rsInc hS (by omega) hF.ok c o ⟨by omega, by omega⟩ ⟨by omega, by omega⟩).mono ?_
  rintro e w' ⟨rfl, hS', hK⟩
  exact ⟨rfl, h.step ho hF hS' (hF.count hi hc ho (.inl rfl)) hK⟩
theorem flDec (h : FlW L w1 w x a n m g xs 0 i) (hm : m ≤ 1099511500000) (hi : i < 900) {c o : Nat} (hc : c < n) (ho : o < 4) :
    Calls Try.prog 14 #[.pointer (some ⟨x, 0, none⟩), .int .i64 c, .int .i64 o] w fun e w' => e = .returned (.int .i64 0) ∧ w'.cell? ⟨g, o, none⟩ = some (.int .i64 (nth xs o)) ∧ w'.frozen? ⟨g, o, none⟩ = false ∧ (-1000000 ≤ nth xs o ∧ nth xs o ≤ 1000000) ∧ FlW L w1 (w'.setCell ⟨g, o, none⟩ (.int .i64 (nth xs o - 1))) x a n (m + 3) g (xs.set o (nth xs o - 1)) 0 (i + 1) := by
  obtain ⟨T, hS, hF⟩ := h.rs
  refine (rsDec hS (by omega) hF.ok c o ⟨by omega, by omega⟩ ⟨by omega, by omega⟩).mono ?_
  rintro e w' ⟨rfl, hS', hK⟩
  exact ⟨rfl, h.step ho hF hS' (hF.count hi hc ho (.inr rfl)) hK⟩
theorem flFlush {c : Nat} (h : FlW L w1 w x a n m g xs c i) (hm : m ≤ 1099511400000) (hi : i < 900) (hc : c < n) :
    Calls Try.prog 16 #[.pointer (some ⟨x, 0, none⟩), .int .i64 c] w fun e w' => e = .returned (.int .i64 0) ∧ FlW L w1 w' x a n (m + 1000) g xs (c + 1) (i + 1) := by
  obtain ⟨T, hS, hF⟩ := h.rs
  refine (rsFlush hS (by omega) hF.ok c ⟨by omega, by omega⟩).mono ?_
  rintro e w' ⟨rfl, hS', hK⟩
  exact ⟨rfl, h.keeps.trans (hK.below h.low), h.low, h.lg, h.gl, hK.blk h.row h.lg, _, hS', hF.flush hi hc⟩
theorem FlW.drewN {c : Nat} (h : FlW L w1 w x a n m g xs c i) (d : Nat) : FlW L w1 (w.drewN d) x a n m g xs c i := by
  obtain ⟨T, hS, hF⟩ := h.rs
  exact ⟨below_drewN' h.keeps _, h.low, h.lg, h.gl, h.row, T, hS.drewN d, hF⟩
theorem flGlobal (h : FlW L w1 w x a n m g xs n i) {j : Nat} (hj : j < 4) :
    Calls Try.prog 17 #[.pointer (some ⟨x, 0, none⟩), .int .i64 j] w fun e w' => e = .returned (.tuple #[.int .i64 (nth xs j), .int .i64 0]) ∧ ∃ d, w' = w.drewN d := by
  obtain ⟨T, hS, hF⟩ := h.rs
  refine rsGlobalV hS j ⟨by omega, by omega⟩ ?_
  have h1 := hF.tot j hj
  rw [sumP_zero (fun r hr => hF.zer r j hr hj)] at h1
  omega
theorem flTotal (h : FlW L w1 w x a n m g xs n i) {j : Nat} (hj : j < 4) :
    Calls Try.prog 18 #[.pointer (some ⟨x, 0, none⟩), .int .i64 j] w fun e w' => e = .returned (.tuple #[.int .i64 (nth xs j), .int .i64 0]) ∧ ∃ d, w' = w.drewN d := by
  obtain ⟨T, hS, hF⟩ := h.rs
  exact rsTotalV hS hF.ok j ⟨by omega, by omega⟩ (hF.tot j hj)
theorem flEpoch (h : FlW L w1 w x a n m g xs n i) :
    Calls Try.prog 20 #[.pointer (some ⟨x, 0, none⟩)] w fun e w' => e = .returned (.int .i64 1) ∧ ∃ d, w' = w.drewN d := by
  obtain ⟨T, hS, hF⟩ := h.rs
  exact rsEpochV hS (by rw [hF.ep, if_neg (by omega)])
end

set_option maxRecDepth 100000 in
theorem rflushed_walk (w : World) {A : Option Addr} {len cap : Nat} {xs : List Int} (hx : Ints w A len cap xs) (cores : Int) (_ : (Lit.int .i64 cores).wf = true) :
    Calls Try.prog 3 #[.slice A len cap, .int .i64 cores] w fun e w' => e = .returned (.bool true) ∧ Below w.heap.size w w' := by
  have hle := hx.len_le
  have HX := Lib.hid hx
  clear hx
  obtain ⟨n, hn, hn1, hn4⟩ : ∃ n : Nat, 1 + cores % 4 = n ∧ 1 ≤ n ∧ n ≤ 4 := ⟨(1 + cores % 4).toNat, by omega, by omega, by omega⟩
  go_enter Try.func3, Try.ntmps3
  go_wp2_with (fail)
  refine (awake6 w).mono ?_
  rintro e w1 ⟨rfl, hB⟩
  go_wp2_with (fail)
  refine (new_to (ws := List.replicate 200 0) (ts := List.replicate n []) (Bd.below w1) (by omega) (by omega) rfl (by rw [Int.toNat_natCast])).mono ?_
  rintro e w2 ⟨a, rfl, hA, hK⟩
  have hP1 : ArP (fun b => b < w1.heap.size) w2 a (List.replicate 200 0) n 0 (fun _ => True) := ArP.new n trivial hA
  go_wp2_with (fail)
  refine (rsNew hP1 0 4 (by omega) (by omega) (by omega) (by omega)).mono ?_
  rintro e w3 ⟨x, rfl, hS3, hK3⟩
  have HB := Lib.hid hB
  have HST := Lib.hid (show ∃ L, FlW L w1 (w3.alloc (.cells #[.int .i64 0, .int .i64 0, .int .i64 0, .int .i64 0] 3)) x a n 0 w3.heap.size [0, 0, 0, 0] 0 0 from by
    have hk := (hK.trans hK3).below fun _ h => h
    refine ⟨ins (ins (fun b => b < w1.heap.size) x) w3.heap.size, ?_, fun b h => .inl (.inl h), .inr rfl, hk.size, Blk.new _ _ _, _, ⟨⟨.inl hS3.rc.1, hS3.rc.2.1.alloc _, hS3.rc.2.2⟩, ?_⟩, FI.zero hn1⟩
    · exact hk.alloc hk.size _
    · obtain ⟨ws, h1, h2⟩ := hS3.ar
      exact ⟨ws, h1, h2.allocIns _⟩)
  obtain ⟨L, HST⟩ := HST.out
  have HST := Lib.hid HST
  clear hB hA hK hP1 hS3 hK3
  go_wp2_with (fail)
  clear hn
  go_loopw [11] (fun i wr => ∃ (j : Nat) (ys : List Int), i = .int .i64 j ∧ j ≤ len ∧ j ≤ 80 ∧ FlW L w1 wr x a n (3 * j) w3.heap.size ys 0 j) (fun i _ => len - (intOf i).toNat)
  case atStart => exact ⟨0, _, rfl, by omega, by omega, HST.out⟩
  case round =>
    clear HST
    obtain ⟨j, ys, rfl, hj, hj8, hS⟩ := hrel
    have HS := Lib.hid hS
    have hb := bel_then HB.out hS.keeps
    have hyl := hS.len
    generalize hgg : w3.heap.size = g at *
    clear hgg
    by_cases hboth : j < len ∧ j < 80
    · obtain ⟨hlt, hlt2⟩ := hboth
      have hlt3 : (j : Int) < 80 := by omega
      obtain ⟨gp, off, rfl, q1, _, _⟩ := HX.out.at_ hlt hb
      generalize nth xs j = v at *
      obtain ⟨u, hu⟩ : ∃ u : Nat, (IntKind.u64.wrap v).tdiv 4 = u := by
        have h1 := u64_nn v
        exact ⟨((IntKind.u64.wrap v).tdiv 4).toNat, by rw [Int.tdiv_eq_ediv_of_nonneg h1.1]; omega⟩
      have hub : (u : Int) < 18446744073709551616 := by
        have h1 := u64_nn v
        rw [Int.tdiv_eq_ediv_of_nonneg h1.1] at hu
        omega
      have hu2 : IntKind.u64.wrap (u : Int) = (u : Int) := by rw [IntKind.wrap_u64]; omega
      clear hub
      have e2 : IntKind.u64.wrap (n : Int) = (n : Int) := by rw [IntKind.wrap_u64]; omega
      have e3 : ((n : Int) == 0) = false := by simp; omega
      have hjm : u % n < n := Nat.mod_lt _ (by omega)
      obtain ⟨c, hcm⟩ : ∃ c : Nat, u % n = c := ⟨_, rfl⟩
      rw [hcm] at hjm
      have e1 : (u : Int).tmod (n : Int) = (c : Int) := by rw [Int.tmod_eq_emod_of_nonneg (by omega), ← hcm]; simp
      have e4 : IntKind.u64.wrap (c : Int) = (c : Int) := by rw [IntKind.wrap_u64]; omega
      have hcn : 0 ≤ (c : Int) ∧ (c : Int) < (n : Int) := by omega
      obtain ⟨o, ho, ho4⟩ : ∃ o : Nat, v % 4 = o ∧ o < 4 := ⟨(v % 4).toNat, by omega, by omega⟩
      have ho4' : (o : Int) < 4 := by omega
      have hoc : 0 ≤ (o : Int) ∧ (o : Int) < 4 := by omega
      have HI := Lib.hid (fun d => flInc (hS.drewN d) (by omega) (by omega) (c := c) (o := o) hjm ho4)
      have HD := Lib.hid (fun d => flDec (hS.drewN d) (by omega) (by omega) (c := c) (o := o) hjm ho4)
      have hol : (o : Int) < (4 : Int) := by omega
      have ho0 : (0 : Int) ≤ (o : Int) := by omega
      clear hcm hb hS
      generalize nth ys o = y at *
      by_cases hbit : v / 64 % 2 * 64 = 64
      · have hbit2 : (v / 64 % 2 * 64 == 64) = true := by simpa using hbit
        clear hbit
        go_wp2
        go_quiet (fail)
        clear hu hu2 e1 e2 e3 e4 ho
        go_wp2_with (fail)
        refine (HD.out _).mono ?_
        rintro e w4 ⟨rfl, q4, q5, hy, hS4⟩
        have HS4 := Lib.hid hS4
        have hy2 : IntKind.i64.wrap (y - 1) = y - 1 := IntWalk.i64_in _ (by omega)
        clear hS4
        go_wp2_with (fail)
        clear q4 q5 hy2
        go_roundw
        case rel => exact ⟨j + 1, _, by go_num, by omega, by omega, HS4.out⟩
        case measure => simp [intOf]; omega
      · have hbit2 : (v / 64 % 2 * 64 == 64) = false := by simpa using hbit
        clear hbit
        go_wp2
        go_quiet (fail)
        clear hu hu2 e1 e2 e3 e4 ho
        go_wp2_with (fail)
        refine (HI.out _).mono ?_
        rintro e w4 ⟨rfl, q4, q5, hy, hS4⟩
        have HS4 := Lib.hid hS4
        have hy2 : IntKind.i64.wrap (y + 1) = y + 1 := IntWalk.i64_in _ (by omega)
        clear hS4
        go_wp2_with (fail)
        clear q4 q5 hy2
        go_roundw
        case rel => exact ⟨j + 1, _, by go_num, by omega, by omega, HS4.out⟩
        case measure => simp [intOf]; omega
    · have hex : ¬ j < len ∨ (j < len ∧ ¬ ((j : Int) < 80)) := by omega
      clear hS hb hboth
      rcases hex with hj1 | ⟨hj1, hj2⟩
      all_goals (
        go_wp2_with (fail)
        go_loopw [14] (fun i wx => ∃ c : Nat, i = .int .i64 c ∧ c ≤ n ∧ FlW L w1 wx x a n (3 * j + 1000 * c) g ys c (j + c)) (fun i _ => n - (intOf i).toNat)
        case atStart => exact ⟨0, rfl, by omega, by simpa using HS.out⟩
        case round =>
          clear HS
          obtain ⟨c, rfl, hc, hS⟩ := hrel
          have HS := Lib.hid hS
          by_cases hcn : c < n
          · have hcn' : (c : Int) < (n : Int) := by omega
            have HF := Lib.hid (flFlush hS (by omega) (by omega) hcn)
            clear hS
            go_wp2_with (fail)
            refine HF.out.mono ?_
            rintro e w4 ⟨rfl, hS4⟩
            have HS4 := Lib.hid hS4
            clear hS4
            go_wp2_with (fail)
            go_roundw
            case rel => exact ⟨c + 1, by go_num, by omega, by have h := HS4.out; rw [show 3 * j + 1000 * (c + 1) = 3 * j + 1000 * c + 1000 by omega, show ((j : Int) + ((c + 1 : Nat) : Int)) = (j : Int) + c + 1 by omega]; exact h⟩
            case measure => simp [intOf]; omega
          · obtain rfl : c = n := by omega
            have hcn' : ¬ (c : Int) < (c : Int) := by omega
            clear hS
            go_wp2_with (fail)
            go_loopw [15] (fun i wx => ∃ o : Nat, i = .int .i64 o ∧ o ≤ 4 ∧ FlW L w1 wx x a c (3 * j + 1000 * c) g ys c (j + c)) (fun i _ => 4 - (intOf i).toNat)
            case atStart => exact ⟨0, rfl, by omega, HS.out⟩
            case round =>
              clear HS
              obtain ⟨o, rfl, ho, hS⟩ := hrel
              have HS := Lib.hid hS
              by_cases ho4 : o < 4
              · have ho4' : (o : Int) < 4 := by omega
                have HG := Lib.hid (fun d => flGlobal (hS.drewN d) ho4)
                have HT := Lib.hid (fun d => flTotal (hS.drewN d) ho4)
                have q1 := hS.row.cell (i := o) (by rw [hyl]; exact ho4)
                clear hS
                generalize nth ys o = y at *
                go_wp2_with (go_at_call 19; refine (num_calls _ _).mono ?_; rintro e w' ⟨rfl, rfl⟩)
                refine (HG.out 0).mono ?_
                rintro e w4 ⟨rfl, d4, rfl⟩
                go_wp2_with (go_at_call 19; refine (num_calls _ _).mono ?_; rintro e w' ⟨rfl, rfl⟩)
                refine (HT.out _).mono ?_
                rintro e w5 ⟨rfl, d5, rfl⟩
                go_wp2_with (go_at_call 19; refine (num_calls _ _).mono ?_; rintro e w' ⟨rfl, rfl⟩)
                go_roundw
                case rel => exact ⟨o + 1, by go_num, by omega, HS.out.drewN _⟩
                case measure => simp [intOf]; omega
              · have ho4' : ¬ (o : Int) < 4 := by omega
                have HE := Lib.hid (flEpoch hS)
                clear hS
                go_wp2_with (go_at_call 19; refine (num_calls _ _).mono ?_; rintro e w' ⟨rfl, rfl⟩)
                refine HE.out.mono ?_
                rintro e w4 ⟨rfl, d4, rfl⟩
                go_wp2_with (go_at_call 19; refine (num_calls _ _).mono ?_; rintro e w' ⟨rfl, rfl⟩)
                go_ret
                exact ⟨rfl, below_drewN' (bel_then HB.out HS.out.keeps) _⟩)
end Go.Proofs.Ytokldnmhhhaalaa
