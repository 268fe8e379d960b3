
/- RefsEpochs: the walk. -/
import Derived.Test.YtokldnmhhhaalaaLawRefs
namespace Go.Proofs.Ytokldnmhhhaalaa
open Go.RowKit
set_option maxHeartbeats 1000000

/-- Have the first k? -/
def allTo (hs : List Bool) : Nat → Bool
  | 0 => true
  | k + 1 => allTo hs k && hs.getD k false
theorem allTo_iff {hs : List Bool} {k : Nat} : allTo hs k = true ↔ ∀ r, r < k → hs.getD r false = true := by
  induction k with
  | zero => simp [allTo]
  | succ k ih =>
    unfold allTo
    rw [Bool.and_eq_true, ih]
    constructor
    · rintro ⟨h1, h2⟩ r hr
      by_cases e : r = k
      · subst e; exact h2
      · exact h1 r (by omega)
    · intro h
      exact ⟨fun r hr => h r (by omega), h k (by omega)⟩

def boolsObj (n : Nat) : Obj := .cells (List.replicate n (Value.bool false)).toArray 4
theorem info_bool : (Try.prog.info? 4).map (fun i => (i.zero, i.size, i.bytes)) = some (some (.bool false), 1, 1) := by kernel_rfl
theorem make_bools (n : Nat) (hn : n ≤ 1000) (W : World) : (Instr.makeSlice 42 (.int .i64 (n : Int)) (.int .i64 (n : Int))).run Try.prog W = .ok (.slice (some ⟨W.heap.size, 0, none⟩) n n) (W.alloc (boolsObj n)) := by
  obtain ⟨i0, hi, hz0, hz1, hz2⟩ := info_parts info_bool
  have h := run_make_rowN (P := Try.prog) 42 4 i0 _ Try.underlying42 hi hz0 .i64 .i64 n n (Nat.le_refl _) (by rw [hz2]; omega) (by omega) W
  simp only [hz1, Nat.mul_one, Value.cells, madeCells_one] at h
  exact h
/-- A row of bools in a block. -/
def BlkB (w : World) (g : Nat) (hs : List Bool) : Prop := Blk w g 4 (hs.map Value.bool).toArray
theorem BlkB.new (w : World) (n : Nat) : BlkB (w.alloc (boolsObj n)) w.heap.size (List.replicate n false) := by
  unfold BlkB boolsObj
  rw [List.map_replicate]
  exact Blk.new _ _ _
theorem BlkB.cell {w : World} {g : Nat} {hs : List Bool} (h : BlkB w g hs) {i : Nat} (hi : i < hs.length) : w.cell? ⟨g, i, none⟩ = some (.bool (hs.getD i false)) := by
  rw [Blk.cell h]; simp [hi, List.getD]
theorem BlkB.frozen {w : World} {g : Nat} {hs : List Bool} (h : BlkB w g hs) (i : Nat) : w.frozen? ⟨g, i, none⟩ = false := Blk.frozen h i
theorem BlkB.set {w : World} {g : Nat} {hs : List Bool} (h : BlkB w g hs) (i : Nat) (b : Bool) : BlkB (w.setCell ⟨g, i, none⟩ (.bool b)) g (hs.set i b) := by
  have := Blk.set_ h i (.bool b)
  unfold BlkB
  simpa [List.map_set] using this

/-- What Flushes alone make: who has flushed since. -/
structure EpI (T : Int → Int → Int) (n : Nat) (hs : List Bool) (want i : Int) : Prop where
  ok : TOk T n 1 i
  len : hs.length = n
  fl : ∀ r : Nat, r < n → T r 1 = if hs.getD r false = true then 1 else 0
  ev : ∀ r : Nat, r < n → T r 2 = 0
  dd : T ((n : Int) + 1) 0 / 4 % 2 = 0
  ep : T n 1 = want
theorem EpI.zero (n : Nat) : EpI (fun _ _ => 0) n (List.replicate n false) 0 0 := by
  refine ⟨TOk.zero, by simp, fun r hr => ?_, fun _ _ => rfl, rfl, rfl⟩
  simp [List.getD, hr]
theorem getD_set (hs : List Bool) (c r : Nat) (b : Bool) (hc : c < hs.length) : (hs.set c b).getD r false = if r = c then b else hs.getD r false := by
  by_cases e : r = c
  · subst e; simp [List.getD, hc]
  · simp [List.getD, e, Ne.symm e]
theorem cntO_zero {T : Int → Int → Int} {o : Int} {n : Nat} (h : ∀ r : Nat, r < n → T r (o + 1) = 0) : cntO T o n = 0 := by
  induction n with
  | zero => rfl
  | succ n ih => unfold cntO; rw [ih fun r hr => h r (by omega), h n (by omega)]; rfl
theorem EpI.up {T : Int → Int → Int} {n : Nat} {hs : List Bool} {want i : Int} (h : EpI T n hs want i) {c : Nat} (hc : c < n) : upB T 1 c n = allTo (hs.set c true) n := by
  rw [Bool.eq_iff_iff, upB_iff, allTo_iff]
  constructor
  · intro hu r hr
    rw [getD_set _ _ _ _ (by rw [h.len]; exact hc)]
    by_cases e : r = c
    · rw [if_pos e]
    · rw [if_neg e]
      have h1 := hu r hr (by omega)
      rw [h.fl r hr] at h1
      by_cases e2 : hs.getD r false = true
      · exact e2
      · rw [if_neg e2] at h1; omega
  · intro ha r hr hne
    have h1 := ha r hr
    rw [getD_set _ _ _ _ (by rw [h.len]; exact hc), if_neg (by omega)] at h1
    rw [h.fl r hr, if_pos h1]
    omega
theorem EpI.dead {T : Int → Int → Int} {n : Nat} {hs : List Bool} {want i : Int} (h : EpI T n hs want i) {c : Nat} : flushT T n 1 c ((n : Int) + 1) 0 / 4 % 2 = 0 ∨ ¬ c < n := by
  by_cases hc : c < n
  · left
    have h7 := h.ok.kn 0 (by omega) (by omega)
    have hd := h.dd
    have hk : knF T n c 0 / 4 % 2 = 0 := by unfold knF add2; split <;> omega
    have hz : bitOf (cntO T 1 n) (0 : Int).toNat = false := by rw [cntO_zero h.ev]; exact bitOf_zero _
    unfold flushT
    rw [if_pos (by omega), if_neg (by omega), if_neg (by omega), if_pos rfl]
    split
    · unfold nextK
      rw [hz]
      split
      · rw [if_neg (by simp)]; omega
      · omega
    · exact hk
  · exact .inr hc
theorem EpI.flushY {T : Int → Int → Int} {n : Nat} {hs : List Bool} {want i : Int} (h : EpI T n hs want i) {c : Nat} (hc : c < n) (hi : i < 900) (ha : allTo (hs.set c true) n = true) : EpI (flushT T n 1 c) n (List.replicate n false) (want + 1) (i + 1) := by
  have hu := h.up hc
  rw [ha] at hu
  refine ⟨h.ok.flush hi ⟨by omega, by omega⟩, by simp, fun r hr => ?_, fun r hr => ?_, ?_, ?_⟩
  · unfold flushT
    rw [if_neg (by omega), if_pos rfl, if_pos hu, if_pos (by omega)]
    simp [List.getD, hr]
  · unfold flushT
    rw [if_neg (by omega), if_neg (by omega)]
    exact h.ev r hr
  · rcases h.dead (c := c) with h1 | h1
    · exact h1
    · exact absurd hc h1
  · unfold flushT
    rw [if_neg (by omega), if_pos rfl, if_pos hu, if_neg (by omega), if_pos rfl, h.ep]
theorem EpI.flushN {T : Int → Int → Int} {n : Nat} {hs : List Bool} {want i : Int} (h : EpI T n hs want i) {c : Nat} (hc : c < n) (hi : i < 900) (ha : allTo (hs.set c true) n = false) : EpI (flushT T n 1 c) n (hs.set c true) want (i + 1) := by
  have hu := h.up hc
  rw [ha] at hu
  refine ⟨h.ok.flush hi ⟨by omega, by omega⟩, by simpa using h.len, fun r hr => ?_, fun r hr => ?_, ?_, ?_⟩
  · unfold flushT
    rw [if_neg (by omega), if_pos rfl, hu, if_neg (by simp), getD_set _ _ _ _ (by rw [h.len]; exact hc)]
    by_cases e : r = c
    · rw [if_pos (by omega), if_pos e, if_pos rfl]
    · rw [if_neg (by omega), if_neg e]; exact h.fl r hr
  · unfold flushT
    rw [if_neg (by omega), if_neg (by omega)]
    exact h.ev r hr
  · rcases h.dead (c := c) with h1 | h1
    · exact h1
    · exact absurd hc h1
  · unfold flushT
    rw [if_neg (by omega), if_pos rfl, hu, if_neg (by simp), if_neg (by omega), h.ep]

theorem rsDeadLen {L : Nat → Prop} {w : World} {a x n m : Nat} {f o : Int} {T : Int → Int → Int} (h : RS L w x a f o n m T) {k : Nat} (hk : (deads T n o.toNat).length = k) :
    Calls Try.prog 23 #[.pointer (some ⟨x, 0, none⟩)] w fun e w' => ∃ A cap, e = .returned (.slice A k cap) ∧ RS L w' x a f o n m T ∧ Keeps L w w' := by
  have hx := h.lx
  refine (rsDead h).mono ?_
  rintro e w' ⟨v, rfl, hown, hS, hK⟩
  rw [hk] at hown
  rcases hown.2 with ⟨rfl, rfl⟩ | ⟨g', cap, cur, rfl, _⟩
  · exact ⟨none, 0, rfl, hS.sub (fun _ h => .inl h) hx, hK⟩
  · exact ⟨_, cap, rfl, hS.sub (fun _ h => .inl h) hx, hK⟩

/-- The walk's state: the counts, and a row of bools. -/
structure EpW (L : Nat → Prop) (w1 wr : World) (x a n m g : Nat) (T : Int → Int → Int) (hs : List Bool) : Prop where
  keeps : Below w1.heap.size w1 wr
  low : ∀ b, b < w1.heap.size → L b
  lg : L g
  gl : w1.heap.size ≤ g
  row : BlkB wr g hs
  rs : RS L wr x a 0 1 n m T

set_option maxRecDepth 100000 in
theorem repochs_walk (w : World) {A : Option Addr} {len cap : Nat} {xs : List Int} (hx : Ints w A len cap xs) (cores : Int) (_ : (Lit.int .i64 cores).wf = true) :
    Calls Try.prog 6 #[.slice A len cap, .int .i64 cores] w fun e w' => e = .returned (.bool true) ∧ Below w.heap.size w w' := by
  have hle := hx.len_le
  have HX := Lib.hid hx
  clear hx
  obtain ⟨n, hn, hn1, hn4⟩ : ∃ n : Nat, 1 + cores % 4 = n ∧ 1 ≤ n ∧ n ≤ 4 := ⟨(1 + cores % 4).toNat, by omega, by omega, by omega⟩
  have HMK := Lib.hid (fun W : World => make_bools n (by omega) W)
  go_enter Try.func6, Try.ntmps6
  go_wp2_with (fail)
  refine (awake6 w).mono ?_
  rintro e w1 ⟨rfl, hB⟩
  go_wp2_with (fail)
  refine (new_to (ws := List.replicate 100 0) (ts := List.replicate n []) (Bd.below w1) (by omega) (by omega) rfl (by rw [Int.toNat_natCast])).mono ?_
  rintro e w2 ⟨a, rfl, hA, hK⟩
  have hP1 : ArP (fun b => b < w1.heap.size) w2 a (List.replicate 100 0) n 0 (fun _ => True) := ArP.new n trivial hA
  go_wp2_with (fail)
  refine (rsNew hP1 0 1 (by omega) (by omega) (by omega) (by omega)).mono ?_
  rintro e w3 ⟨x, rfl, hS3, hK3⟩
  have HB := Lib.hid hB
  have hmk := HMK.out
  have HST := Lib.hid (show ∃ L, EpW L w1 (w3.alloc (boolsObj n)) x a n 0 w3.heap.size (fun _ _ => 0) (List.replicate n false) from by
    have hk := (hK.trans hK3).below fun _ h => h
    refine ⟨ins (ins (fun b => b < w1.heap.size) x) w3.heap.size, ?_, fun b h => .inl (.inl h), .inr rfl, hk.size, BlkB.new _ _, ⟨⟨.inl hS3.rc.1, hS3.rc.2.1.alloc _, hS3.rc.2.2⟩, ?_⟩⟩
    · exact hk.alloc hk.size _
    · obtain ⟨ws, h1, h2⟩ := hS3.ar
      exact ⟨ws, h1, h2.allocIns _⟩)
  clear hB hA hK hP1 hS3 hK3
  go_wp2_with (fail)
  clear hmk hn
  go_loopw [11, 10, 12] (fun v hv i wr => ∃ (k g m : Nat) (L : Nat → Prop) (T : Int → Int → Int) (hs : List Bool) (want : Int), i = .int .i64 k ∧ k ≤ len ∧ k ≤ 100 ∧ v = .int .i64 want ∧ 0 ≤ want ∧ want ≤ k ∧ hv = .slice (some ⟨g, 0, none⟩) n n ∧ m ≤ 1000 * k ∧
    EpI T n hs want k ∧ EpW L w1 wr x a n m g T hs) (fun _ _ i _ => len - (intOf i).toNat)
  case atStart =>
    obtain ⟨L, hL⟩ := HST.out
    exact ⟨0, _, 0, L, _, _, 0, rfl, by omega, by omega, rfl, by omega, by omega, rfl, by omega, EpI.zero n, hL⟩
  case round =>
    clear HST
    obtain ⟨k, g, m, L, T, hs, want, rfl, hk, hk1, rfl, hw0, hw1, rfl, hm, hI, hW⟩ := hrel
    have HI := Lib.hid hI
    have HW := Lib.hid hW
    have hb : Below w.heap.size w wr := bel_then HB.out hW.keeps
    by_cases hboth : k < len ∧ k < 100
    · obtain ⟨hlt, hlt2⟩ := hboth
      have hlt3 : (k : Int) < 100 := by omega
      obtain ⟨gp, off, rfl, q1, _, _⟩ := HX.out.at_ hlt hb
      generalize nth xs k = v at *
      obtain ⟨c, hc, hcn⟩ := u64_tmod v n (by omega)
      have e2 : IntKind.u64.wrap (n : Int) = (n : Int) := by rw [IntKind.wrap_u64]; omega
      have e3 : ((n : Int) == 0) = false := by simp; omega
      have hcn' : c < n := by omega
      have HFL := Lib.hid (rsFlush hW.rs (by omega) hI.ok (c : Int) ⟨by omega, hcn⟩)
      have hc0 : (0 : Int) ≤ (c : Int) := by omega
      clear hI hW hb
      go_wp2_with (fail)
      refine HFL.out.mono ?_
      rintro e w4 ⟨rfl, hS4, hK4⟩
      clear hc e2 e3
      have hrow4 : BlkB w4 g hs := hK4.blk HW.out.row HW.out.lg
      have q4 := hrow4.cell (i := c) (by rw [HI.out.len]; exact hcn')
      have q5 := hrow4.frozen c
      have HW4 := Lib.hid (show EpW L w1 (w4.setCell ⟨g, c, none⟩ (.bool true)) x a n (m + 1000) g (flushT T n 1 c) (hs.set c true) from
        ⟨(HW.out.keeps.trans (hK4.below HW.out.low)).setCell HW.out.gl _, HW.out.low, HW.out.lg, HW.out.gl, hrow4.set c true,
          ⟨⟨hS4.rc.1, hS4.rc.2.1.far (by intro e; have := hS4.rc.2.1; rw [show x = g from e] at this; exact absurd rfl (Blk.ne_ this hrow4 (by decide))) _, hS4.rc.2.2⟩, by obtain ⟨ws, h1, h2⟩ := hS4.ar; exact ⟨ws, h1, h2.setCell HW.out.lg _⟩⟩⟩)
      clear hS4 hK4 hrow4 HW q1 HFL
      go_wp2_with (fail)
      clear q4 q5
      go_loopw [14, 15] (fun al jv wx => ∃ j : Nat, jv = .int .i64 j ∧ j ≤ n ∧ al = .bool (allTo (hs.set c true) j) ∧ EpW L w1 wx x a n (m + 1000) g (flushT T n 1 c) (hs.set c true)) (fun _ jv _ => n - (intOf jv).toNat)
      case atStart => exact ⟨0, rfl, by omega, rfl, HW4.out⟩
      case round =>
        clear HW4
        obtain ⟨j, rfl, hj, rfl, hW⟩ := hrel
        have HW := Lib.hid hW
        by_cases hjn : j < n
        · have hjn' : (j : Int) < (n : Int) := by omega
          have hj0 : (0 : Int) ≤ (j : Int) := by omega
          have q6 := hW.row.cell (i := j) (by rw [List.length_set, HI.out.len]; exact hjn)
          have HAL := Lib.hid (show allTo (hs.set c true) (j + 1) = (allTo (hs.set c true) j && (hs.set c true).getD j false) from rfl)
          clear hW
          generalize (hs.set c true).getD j false = bj at *
          generalize allTo (hs.set c true) j = aj at *
          cases aj
          · go_wp2_with (fail)
            go_roundw
            case rel => exact ⟨j + 1, by go_num, by omega, by rw [HAL.out]; rfl, HW.out⟩
            case measure => simp [intOf]; omega
          · go_wp2_with (fail)
            go_roundw
            case rel => exact ⟨j + 1, by go_num, by omega, by rw [HAL.out]; rfl, HW.out⟩
            case measure => simp [intOf]; omega
        · obtain rfl : j = n := by omega
          have hjn' : ¬ (j : Int) < (j : Int) := by omega
          clear hW
          generalize hal : allTo (hs.set c true) j = al at *
          have HAL := Lib.hid hal
          clear hal
          cases al
          · have HI4 := Lib.hid (HI.out.flushN hcn' (by omega) HAL.out)
            have HE := Lib.hid (rsEpochV HW.out.rs HI4.out.ep)
            go_wp2_with (fail)
            refine HE.out.mono ?_
            rintro e w6 ⟨rfl, d6, rfl⟩
            have HW6 := Lib.hid (show EpW L w1 (wr.drewN d6) x a j (m + 1000) g (flushT T j 1 c) (hs.set c true) from ⟨below_drewN' HW.out.keeps _, HW.out.low, HW.out.lg, HW.out.gl, HW.out.row, HW.out.rs.drewN d6⟩)
            go_wp2_with (fail)
            go_roundw
            case rel => exact ⟨k + 1, g, m + 1000, L, _, _, want, by go_num, by omega, by omega, rfl, by omega, by omega, rfl, by omega, HI4.out, HW6.out⟩
            case measure => simp [intOf]; omega
          · have HI4 := Lib.hid (HI.out.flushY hcn' (by omega) HAL.out)
            have hwb : wr.heap.size < (wr.alloc (boolsObj j)).heap.size := by simp
            have HW5 := Lib.hid (show EpW (ins L wr.heap.size) w1 (wr.alloc (boolsObj j)) x a j (m + 1000) wr.heap.size (flushT T j 1 c) (List.replicate j false) from
              ⟨HW.out.keeps.alloc HW.out.keeps.size _, fun b hb => .inl (HW.out.low b hb), .inr rfl, HW.out.keeps.size, BlkB.new _ _, ⟨⟨.inl HW.out.rs.rc.1, HW.out.rs.rc.2.1.alloc _, HW.out.rs.rc.2.2⟩, by obtain ⟨ws, h1, h2⟩ := HW.out.rs.ar; exact ⟨ws, h1, h2.allocIns _⟩⟩⟩)
            have HE := Lib.hid (rsEpochV HW5.out.rs HI4.out.ep)
            have hmk := HMK.out
            have hw2 : IntKind.i64.wrap (want + 1) = want + 1 := IntWalk.i64_in _ (by omega)
            clear hwb
            go_wp2_with (fail)
            clear hmk hw2
            refine HE.out.mono ?_
            rintro e w6 ⟨rfl, d6, rfl⟩
            have HW6 := Lib.hid (show EpW (ins L wr.heap.size) w1 ((wr.alloc (boolsObj j)).drewN d6) x a j (m + 1000) wr.heap.size (flushT T j 1 c) (List.replicate j false) from ⟨below_drewN' HW5.out.keeps _, HW5.out.low, HW5.out.lg, HW5.out.gl, HW5.out.row, HW5.out.rs.drewN d6⟩)
            go_wp2_with (fail)
            go_roundw
            case rel => exact ⟨k + 1, wr.heap.size, m + 1000, _, _, _, want + 1, by go_num, by omega, by omega, rfl, by omega, by omega, rfl, by omega, HI4.out, HW6.out⟩
            case measure => simp [intOf]; omega
    · have hex : ¬ k < len ∨ (k < len ∧ ¬ ((k : Int) < 100)) := by omega
      have HD := Lib.hid (rsDeadLen hW.rs (k := 0) (by show (deads T n (1 : Int).toNat).length = 0; have := hI.dd; simp [deads, this]))
      clear hI hW hb hboth
      rcases hex with hj1 | ⟨hj1, hj2⟩
      all_goals (
        go_wp2_with (go_at_call 19; refine (num_calls _ _).mono ?_; rintro e w' ⟨rfl, rfl⟩)
        refine HD.out.mono ?_
        rintro e w4 ⟨A4, c4, rfl, hS4, hK4⟩
        go_wp2_with (go_at_call 19; refine (num_calls _ _).mono ?_; rintro e w' ⟨rfl, rfl⟩)
        go_ret
        exact ⟨rfl, bel_then HB.out (HW.out.keeps.trans (hK4.below HW.out.low))⟩)
end Go.Proofs.Ytokldnmhhhaalaa
