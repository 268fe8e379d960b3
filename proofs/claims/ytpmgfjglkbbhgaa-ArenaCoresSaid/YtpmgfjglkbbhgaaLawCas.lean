/- ArenaCas: the walk. -/
import Derived.Test.YtpmgfjglkbbhgaaLawSums
import Derived.Deep.RegionHeld3
namespace Go.Proofs.Ytpmgfjglkbbhgaa
open Go.RowKit
set_option maxHeartbeats 400000

def ints (xs : List Int) : Array Value := (xs.map (Value.int .i64)).toArray
def bools (xs : List Bool) : Array Value := (xs.map Value.bool).toArray
theorem Blk.intAt {w : World} {g : Nat} {t : TypeId} {xs : List Int} (h : Blk w g t (ints xs)) {k : Nat} (hk : k < xs.length) : w.cell? ⟨g, k, none⟩ = some (.int .i64 (nth xs k)) := by
  rw [h.cell]; simp [ints, nth, hk, List.getD]
theorem Blk.intSet {w : World} {g : Nat} {t : TypeId} {xs : List Int} (h : Blk w g t (ints xs)) (k : Nat) (v : Int) : Blk (w.setCell ⟨g, k, none⟩ (.int .i64 v)) g t (ints (xs.set k v)) := by
  have := h.set_ k (.int .i64 v)
  simpa [ints, List.map_set] using this
def nthB (xs : List Bool) (k : Nat) : Bool := xs.getD k false
theorem Blk.boolAt {w : World} {g : Nat} {t : TypeId} {xs : List Bool} (h : Blk w g t (bools xs)) {k : Nat} (hk : k < xs.length) : w.cell? ⟨g, k, none⟩ = some (.bool (nthB xs k)) := by
  rw [h.cell]; simp [bools, nthB, hk, List.getD]
theorem Blk.boolSet {w : World} {g : Nat} {t : TypeId} {xs : List Bool} (h : Blk w g t (bools xs)) (k : Nat) (v : Bool) : Blk (w.setCell ⟨g, k, none⟩ (.bool v)) g t (bools (xs.set k v)) := by
  have := h.set_ k (.bool v)
  simpa [bools, List.map_set] using this

/-- The loop's relation: n turns are done. -/
structure CasAt (L : Nat → Prop) (w1 wr : World) (a bs bh k : Nat) (n d : Int) : Prop where
  ls : L bs
  lh : L bh
  ne : bs ≠ bh
  n0 : 0 ≤ n
  nk : n ≤ k
  keeps : Below w1.heap.size w1 wr
  rest : ∃ ss hs ts, ss.length = 4 ∧ hs.length = 4 ∧ Blk wr bs 3 (ints ss) ∧ Blk wr bh 4 (bools hs) ∧ ts.length = 4 ∧ Short (2 * k) ts ∧ ArAt L wr a [n * d] ts

/-- A store into one of the two local rows. -/
theorem CasAt.locals {L : Nat → Prop} {w1 wr w4 : World} {a bs bh k : Nat} {n d : Int} {ss : List Int} {hs : List Bool} {ts : List (List Acc)} (ls : L bs) (lh : L bh) (ne : bs ≠ bh)
    (gs : w1.heap.size ≤ bs) (gh : w1.heap.size ≤ bh) (n0 : 0 ≤ n) (nk : n ≤ k + 1) (hB : Below w1.heap.size w1 wr) (hK : Keeps L wr w4) (hL : ∀ b, b < w1.heap.size → L b)
    (hss : ss.length = 4) (hhs : hs.length = 4) (bs4 : Blk w4 bs 3 (ints ss)) (bh4 : Blk w4 bh 4 (bools hs)) (hts : ts.length = 4) (hsh : Short (2 * k + 1) ts) (hA : ArAt L w4 a [n * d] ts) (c : Nat) (v : Int) (q : Bool) :
    CasAt L w1 ((w4.setCell ⟨bs, c, none⟩ (.int .i64 v)).setCell ⟨bh, c, none⟩ (.bool q)) a bs bh (k + 1) n d ∧ CasAt L w1 (w4.setCell ⟨bh, c, none⟩ (.bool q)) a bs bh (k + 1) n d := by
  have hb4 : Below w1.heap.size w1 w4 := hB.trans (hK.below hL)
  constructor
  · exact ⟨ls, lh, ne, n0, by omega, (hb4.setCell gs _).setCell gh _, ss.set c v, hs.set c q, ts, by simpa using hss, by simpa using hhs, (bs4.intSet c v).far (p := ⟨bh, c, none⟩) ne _, (bh4.far (p := ⟨bs, c, none⟩) (Ne.symm ne) _).boolSet c q, hts, hsh.mono (by omega), (hA.setCell (p := ⟨bs, c, none⟩) ls _).setCell (p := ⟨bh, c, none⟩) lh _⟩
  · exact ⟨ls, lh, ne, n0, by omega, hb4.setCell gh _, ss, hs.set c q, ts, hss, by simpa using hhs, bs4.far (p := ⟨bh, c, none⟩) ne _, bh4.boolSet c q, hts, hsh.mono (by omega), hA.setCell (p := ⟨bh, c, none⟩) lh _⟩

set_option maxRecDepth 100000 in
theorem cas_walk (w : World) {A : Option Addr} {len cap : Nat} {xs : List Int} (hx : Ints w A len cap xs) (by_ : Int) (_ : (Lit.int .i64 by_).wf = true) :
    Calls Try.prog 3 #[.slice A len cap, .int .i64 by_] w fun e w' => e = .returned (.bool true) ∧ Below w.heap.size w w' := by
  have hle := hx.len_le
  have HX := Lib.hid hx
  clear hx
  have d0 : 0 ≤ by_ % 8 ∧ by_ % 8 < 8 := by omega
  generalize hd : by_ % 8 = d8 at *
  go_enter Try.func3, Try.ntmps3
  go_wp2_with (go_at_call 18; refine (num_calls _ _).mono ?_; rintro e w' ⟨rfl, rfl⟩)
  refine (awake2 w).mono ?_
  rintro e w1 ⟨rfl, hB⟩
  go_wp2_with (go_at_call 18; refine (num_calls _ _).mono ?_; rintro e w' ⟨rfl, rfl⟩)
  refine (new_to (ws := [0]) (ts := List.replicate 4 []) (Bd.below w1) (by omega) (by omega) rfl rfl).mono ?_
  rintro e w2 ⟨a, rfl, hA, hK⟩
  go_wp2_with (go_at_call 18; refine (num_calls _ _).mono ?_; rintro e w' ⟨rfl, rfl⟩)
  have LS := hA.bd
  have HA := Lib.hid ((hA.allocIns (.cells #[.int .i64 0, .int .i64 0, .int .i64 0, .int .i64 0] 3)).allocIns (.cells #[.bool false, .bool false, .bool false, .bool false] 4))
  have HB := Lib.hid hB
  have z2 : w2.heap.size ≤ w2.heap.size := Nat.le_refl _
  have HS : CasAt (ins (ins (fun b => b < w1.heap.size) w2.heap.size) (w2.heap.size + 1)) w1 ((w2.alloc (.cells #[.int .i64 0, .int .i64 0, .int .i64 0, .int .i64 0] 3)).alloc (.cells #[.bool false, .bool false, .bool false, .bool false] 4)) a w2.heap.size (w2.heap.size + 1) 0 0 (1 + d8) := by
    refine ⟨ins.old (ins.new _ _), ins.new _ _, by omega, by omega, by omega, ?_, [0, 0, 0, 0], [false, false, false, false], List.replicate 4 [], rfl, rfl, (Blk.new w2 _ _).alloc _, Blk.newAt _ _ _ (by simp), rfl, by intro t ht; simp at ht; simp [ht], ?_⟩
    · exact ((hK.below fun _ h => h).alloc hK.size _).alloc (by simp; have := hK.size; omega) _
    · have := HA.out
      rw [World.size_alloc] at this
      simpa using this
  have LL := Lib.hid (show ∀ b, b < w1.heap.size → ins (ins (fun b => b < w1.heap.size) w2.heap.size) (w2.heap.size + 1) b from fun b h => ins.old (ins.old h))
  have hsz := hK.size
  clear HA hA hK hB LS z2
  go_loopw [9, 11] (fun done i wr => ∃ (k : Nat) (n : Int), i = .int .i64 k ∧ k ≤ len ∧ k ≤ 200 ∧ done = .int .i64 n ∧ CasAt (ins (ins (fun b => b < w1.heap.size) w2.heap.size) (w2.heap.size + 1)) w1 wr a w2.heap.size (w2.heap.size + 1) k n (1 + d8)) (fun _ i _ => len - (intOf i).toNat)
  case atStart => exact ⟨0, 0, rfl, Nat.zero_le _, by omega, rfl, HS⟩
  case round =>
    clear HS
    obtain ⟨k, n, rfl, hk, hk1, rfl, hS⟩ := hrel
    generalize ins (ins (fun b => b < w1.heap.size) w2.heap.size) (w2.heap.size + 1) = L at *
    obtain ⟨ls, lh, ne, n0, nk, hbel, ss, hs, ts, hss, hhs, bs, bh, hts, hsh, hA⟩ := hS
    by_cases hlt : k < len ∧ k < 200
    · obtain ⟨hlt, hlt2⟩ := hlt
      have hlt3 : (k : Int) < 200 := by omega
      obtain ⟨g, off, rfl, hcell, hv1, hv2⟩ := HX.out.at_ hlt (bel_then HB.out hbel)
      generalize nth xs k = x at *
      obtain ⟨c, hc, hc4⟩ : ∃ c : Nat, x % 4 = c ∧ c < 4 := ⟨(x % 4).toNat, by omega, by omega⟩
      have qh := bh.boolAt (k := c) (by omega)
      have qs := bs.intAt (k := c) (by omega)
      have fh := bh.frozen c
      have fs := bs.frozen c
      generalize nthB hs c = has at *
      generalize nth ss c = sv at *
      cases has
      · go_wp2_with (go_at_call 18; refine (num_calls _ _).mono ?_; rintro e w' ⟨rfl, rfl⟩)
        refine (load_to (r := n * (1 + d8)) hA (Room.of hsh (by omega)) ⟨by omega, by rw [hts]; omega⟩ (by simp) rfl rfl).mono ?_
        clear qh qs fh fs hcell
        rintro e w4 ⟨rfl, hA4, hK4⟩
        have bs4 := hK4.blk bs ls
        have bh4 := hK4.blk bh lh
        have qh := bh4.boolAt (k := c) (by omega)
        have qs := bs4.intAt (k := c) (by omega)
        have fh := bh4.frozen c
        have fs := bs4.frozen c
        go_wp2_with (go_at_call 18; refine (num_calls _ _).mono ?_; rintro e w' ⟨rfl, rfl⟩)
        go_roundw
        case rel => exact ⟨k + 1, n, by go_num, by omega, by omega, rfl, (CasAt.locals ls lh ne hsz (by omega) n0 (by omega) hbel hK4 LL.out hss hhs bs4 bh4 (by simpa using hts) (hsh.noted _) hA4 c _ _).1⟩
        case measure => simp [intOf]; omega
      · by_cases he : n * (1 + d8) = sv
        · have hmul : n * (1 + d8) ≤ 1600 ∧ 0 ≤ n * (1 + d8) := by
            constructor
            · have h1 : n * (1 + d8) ≤ 200 * 8 := Int.mul_le_mul (by omega) (by omega) (by omega) (by omega)
              omega
            · exact Int.mul_nonneg n0 (by omega)
          have hsucc : (n + 1) * (1 + d8) = sv + (1 + d8) := by rw [Int.add_mul, Int.one_mul, he]
          rw [he] at hmul hA
          have HE := Lib.hid he
          have HSU := Lib.hid hsucc
          clear he hsucc
          have hwr : IntKind.i64.wrap (sv + (1 + d8)) = sv + (1 + d8) := IntWalk.i64_in _ (by omega)
          have c0 : (0 : Int) ≤ (c : Int) := by omega
          have c4 : (c : Int) < 4 := by omega
          go_wp2_with (go_at_call 18; refine (num_calls _ _).mono ?_; rintro e w' ⟨rfl, rfl⟩)
          go_region_held3 (fun w' => w'.cell? ⟨w2.heap.size, c, none⟩ = some (.int .i64 sv)) (first | exact qs | exact hK4.cellOf ls qs)
            ((go_at_call 19; refine (cas_yes_to (ws' := [sv + (1 + d8)]) hA.drew (Room.of hsh (by omega)) ⟨by omega, by rw [hts]; omega⟩ (by simp) rfl rfl rfl).mono ?_; rintro e w4 ⟨rfl, hA4, hK4⟩))
          have bs4 := hK4.blk bs ls
          have bh4 := hK4.blk bh lh
          clear qh qs fh fs hcell
          have qh := bh4.boolAt (k := c) (by omega)
          have fh := bh4.frozen c
          go_wp2_with (go_at_call 18; refine (num_calls _ _).mono ?_; rintro e w' ⟨rfl, rfl⟩)
          go_roundw
          case rel =>
            have hA5 : ArAt L w4 a [(n + 1) * (1 + d8)] (noted ts c (0, true)) := by rw [HSU.out]; exact hA4
            exact ⟨k + 1, n + 1, by go_num, by omega, by omega, rfl, (CasAt.locals (ss := ss) ls lh ne hsz (by omega) (by omega) (by omega) hbel.drew hK4 LL.out hss hhs bs4 bh4 (by simpa using hts) (hsh.noted _) hA5 c 0 false).2⟩
          case measure => simp [intOf]; omega
        · have c0 : (0 : Int) ≤ (c : Int) := by omega
          have c4 : (c : Int) < 4 := by omega
          have HE := Lib.hid he
          clear he
          go_wp2_with (go_at_call 18; refine (num_calls _ _).mono ?_; rintro e w' ⟨rfl, rfl⟩)
          go_region_held3 (fun w' => w'.cell? ⟨w2.heap.size, c, none⟩ = some (.int .i64 sv)) (first | exact qs | exact hK4.cellOf ls qs)
            ((go_at_call 19; refine (cas_no_to hA.drew (Room.of hsh (by omega)) ⟨by omega, by rw [hts]; omega⟩ (by simp) (by exact HE.out) rfl).mono ?_; rintro e w4 ⟨rfl, hA4, hK4⟩))
          have bs4 := hK4.blk bs ls
          have bh4 := hK4.blk bh lh
          clear qh qs fh fs hcell
          have qh := bh4.boolAt (k := c) (by omega)
          have fh := bh4.frozen c
          go_wp2_with (go_at_call 18; refine (num_calls _ _).mono ?_; rintro e w' ⟨rfl, rfl⟩)
          go_roundw
          case rel =>
            exact ⟨k + 1, n, by go_num, by omega, by omega, rfl, (CasAt.locals (ss := ss) ls lh ne hsz (by omega) n0 (by omega) hbel.drew hK4 LL.out hss hhs bs4 bh4 (by simpa using hts) (hsh.noted _) hA4 c 0 false).2⟩
          case measure => simp [intOf]; omega
    · have hmul : n * (1 + d8) ≤ 1600 ∧ 0 ≤ n * (1 + d8) := by
        constructor
        · have h1 : n * (1 + d8) ≤ 200 * 8 := Int.mul_le_mul (by omega) (by omega) (by omega) (by omega)
          omega
        · exact Int.mul_nonneg n0 (by omega)
      have hwm : IntKind.i64.wrap (n * (1 + d8)) = n * (1 + d8) := IntWalk.i64_in _ (by omega)
      by_cases hlt : k < len
      · have hlt3 : ¬ (k : Int) < 200 := by omega
        go_wp2_with (go_at_call 18; refine (num_calls _ _).mono ?_; rintro e w' ⟨rfl, rfl⟩)
        refine (load_to (r := n * (1 + d8)) hA (Room.of hsh (by omega)) ⟨by omega, by rw [hts]; omega⟩ (by simp) rfl rfl).mono ?_
        rintro e w4 ⟨rfl, hA4, hK4⟩
        go_wp2_with (go_at_call 18; refine (num_calls _ _).mono ?_; rintro e w' ⟨rfl, rfl⟩)
        go_ret
        exact ⟨rfl, bel_then HB.out (hbel.trans (hK4.below LL.out))⟩
      · go_wp2_with (go_at_call 18; refine (num_calls _ _).mono ?_; rintro e w' ⟨rfl, rfl⟩)
        refine (load_to (r := n * (1 + d8)) hA (Room.of hsh (by omega)) ⟨by omega, by rw [hts]; omega⟩ (by simp) rfl rfl).mono ?_
        rintro e w4 ⟨rfl, hA4, hK4⟩
        go_wp2_with (go_at_call 18; refine (num_calls _ _).mono ?_; rintro e w' ⟨rfl, rfl⟩)
        go_ret
        exact ⟨rfl, bel_then HB.out (hbel.trans (hK4.below LL.out))⟩
end Go.Proofs.Ytpmgfjglkbbhgaa
