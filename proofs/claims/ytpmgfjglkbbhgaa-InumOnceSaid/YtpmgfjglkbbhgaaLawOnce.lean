/- InumOnce: the walk. -/
import Derived.Test.YtpmgfjglkbbhgaaLawInum
namespace Go.Proofs.Ytpmgfjglkbbhgaa
open Go.RowKit
set_option maxHeartbeats 400000

theorem info_bool : (Try.prog.info? 4).map (fun i => (i.zero, i.size, i.bytes)) = some (some (.bool false), 1, 1) := by kernel_rfl

def bools (xs : List Bool) : Array Value := (xs.map Value.bool).toArray
def nthB (xs : List Bool) (k : Nat) : Bool := xs.getD k false
theorem Blk.boolAt {w : World} {g : Nat} {t : TypeId} {xs : List Bool} (h : Blk w g t (bools xs)) {k : Nat} (hk : k < xs.length) : w.cell? ⟨g, k, none⟩ = some (.bool (nthB xs k)) := by
  rw [h.cell]; simp [bools, nthB, hk, List.getD]
theorem Blk.boolSet {w : World} {g : Nat} {t : TypeId} {xs : List Bool} (h : Blk w g t (bools xs)) (k : Nat) (v : Bool) : Blk (w.setCell ⟨g, k, none⟩ (.bool v)) g t (bools (xs.set k v)) := by
  have := h.set_ k (.bool v)
  simpa [bools, List.map_set] using this
theorem nthB_set {xs : List Bool} {k j : Nat} {v : Bool} (hk : k < xs.length) : nthB (xs.set k v) j = if j = k then v else nthB xs j := by
  unfold nthB
  by_cases e : j = k
  · subst e; simp [List.getD, hk]
  · simp [List.getD, e, Ne.symm e]

def noBools : Obj := .cells (List.replicate 258 (Value.bool false)).toArray 4
/-- What was given so far: of core c the numbers 2 + c + 8 j, j below its count. -/
structure OnceAt (L : Nat → Prop) (w1 wr : World) (x a g : Nat) (f : Int) (k : Nat) : Prop where
  lg : L g
  keeps : Below w1.heap.size w1 wr
  nums : NumsAt L wr x a f
  rest : ∃ ws m xs, (ws.length : Int) = f + 8 ∧ (∀ c, 0 ≤ c → c < 8 → 0 ≤ rd ws (f + c) ∧ rd ws (f + c) ≤ 32) ∧ xs.length = 258 ∧ Blk wr g 4 (bools xs) ∧
    (∀ c j : Nat, c < 8 → j < 32 → nthB xs (2 + c + 8 * j) = decide ((j : Int) < rd ws (f + c))) ∧ m ≤ 2 * k ∧ ArP L wr a ws 8 m (fun _ => True)

/-- A number more. -/
theorem OnceAt.next {L : Nat → Prop} {w1 wq w4 : World} {x a g k c j m : Nat} {f : Int} {ws : List Int} {xs : List Bool} (lg : L g) (hg : w1.heap.size ≤ g) (hL : ∀ b, b < w1.heap.size → L b) (hB : Below w1.heap.size w1 wq) (hK : Keeps L wq w4) (hx : NumsAt L wq x a f) (hxg : x ≠ g) (hf : 0 ≤ f)
    (hwl : (ws.length : Int) = f + 8) (hw : ∀ c, 0 ≤ c → c < 8 → 0 ≤ rd ws (f + c) ∧ rd ws (f + c) ≤ 32) (hxl : xs.length = 258) (hb : Blk wq g 4 (bools xs))
    (hs : ∀ c j : Nat, c < 8 → j < 32 → nthB xs (2 + c + 8 * j) = decide ((j : Int) < rd ws (f + c))) (hc : c < 8) (hj : j < 32) (hrd : rd ws (f + c) = j) (hm : m ≤ 2 * (k + 1))
    (hP : ArP L w4 a (wr ws (f + c) (j + 1)) 8 m (fun _ => True)) : OnceAt L w1 (w4.setCell ⟨g, 2 + c + 8 * j, none⟩ (.bool true)) x a g f (k + 1) := by
  refine ⟨lg, (hB.trans (hK.below hL)).setCell hg _, ⟨hx.1, (hK.blk hx.2 hx.1).far (p := ⟨g, _, none⟩) hxg _⟩, _, m, xs.set (2 + c + 8 * j) true, by simpa using hwl, ?_, by simpa using hxl, (hK.blk hb lg).boolSet _ _, ?_, hm, hP.setCell (p := ⟨g, _, none⟩) lg _⟩
  · intro c' h0 h1
    rw [rd_wr ⟨by omega, by omega⟩ (by omega)]
    split
    · omega
    · exact hw c' h0 h1
  · intro c' j' h0 h1
    rw [nthB_set (by omega), rd_wr ⟨by omega, by omega⟩ (by omega)]
    by_cases e : c' = c
    · subst e
      rw [if_pos rfl]
      by_cases e2 : j' = j
      · subst e2; rw [if_pos rfl]; simp; omega
      · rw [if_neg (by omega), hs c' j' h0 h1, hrd]
        simp; omega
    · rw [if_neg (by omega), if_neg (by omega)]
      exact hs c' j' h0 h1

set_option maxRecDepth 100000 in
theorem ionce_walk (w : World) {A : Option Addr} {len cap : Nat} {xs : List Int} (hx : Ints w A len cap xs) (from_ : Int) (_ : (Lit.int .i64 from_).wf = true) :
    Calls Try.prog 9 #[.slice A len cap, .int .i64 from_] w fun e w' => e = .returned (.bool true) ∧ Below w.heap.size w w' := by
  have hle := hx.len_le
  have HX := Lib.hid hx
  clear hx
  have hf0 : 0 ≤ from_ % 16 ∧ from_ % 16 < 16 := by omega
  generalize hff : from_ % 16 = f at *
  obtain ⟨i0, hi, hz0, hz1, hz2⟩ := info_parts info_bool
  have hmk : ∀ W : World, (Instr.makeSlice 28 (.int .i64 258) (.int .i64 258)).run Try.prog W = .ok (.slice (some ⟨W.heap.size, 0, none⟩) 258 258) (W.alloc noBools) := by
    have h := run_make_rowN (P := Try.prog) 28 4 i0 _ Try.underlying28 hi hz0 .i64 .i64 258 258 (Nat.le_refl _) (by rw [hz2]; omega) (by omega)
    simp only [hz1, Nat.mul_one, Value.cells, madeCells_one] at h
    exact h
  have HMK := Lib.hid hmk
  clear hmk hi hz0 hz1 hz2
  go_enter Try.func9, Try.ntmps9
  go_wp2_with (go_at_call 18; refine (num_calls _ _).mono ?_; rintro e w' ⟨rfl, rfl⟩)
  refine (awake10 w).mono ?_
  rintro e w1 ⟨rfl, hB⟩
  go_wp2_with (go_at_call 18; refine (num_calls _ _).mono ?_; rintro e w' ⟨rfl, rfl⟩)
  refine (new_to (ws := List.replicate (f + 8).toNat 0) (ts := List.replicate 8 []) (Bd.below w1) (by omega) (by omega) rfl rfl).mono ?_
  rintro e w2 ⟨a, rfl, hA, hK⟩
  go_wp2_with (go_at_call 18; refine (num_calls _ _).mono ?_; rintro e w' ⟨rfl, rfl⟩)
  have hP1 : ArP (fun b => b < w1.heap.size) w2 a (List.replicate (f + 8).toNat 0) 8 0 (fun _ => True) := ArP.new 8 trivial hA
  refine (inum_new_ok hP1 f (by omega) (by simp; omega) (fun i _ _ => rd_rep _ _)).mono ?_
  rintro e w3 ⟨x, rfl, hx, nx, _, hP2, hK2⟩
  have hmk := HMK.out w3
  go_wp2_with (go_at_call 18; refine (num_calls _ _).mono ?_; rintro e w' ⟨rfl, rfl⟩)
  clear hmk
  have HB := Lib.hid hB
  have hsz := hP2.lt
  have hs3 : w1.heap.size ≤ w3.heap.size := Nat.le_trans hK.size hK2.size
  have xl : x < w3.heap.size := hx.2.lt
  have HS : OnceAt (ins (ins (fun b => b < w1.heap.size) x) w3.heap.size) w1 (w3.alloc noBools) x a w3.heap.size f 0 := by
    refine ⟨ins.new _ _, ((hK.trans hK2).below fun _ h => h).alloc hs3 _, ⟨ins.old hx.1, hx.2.alloc _⟩, _, 0, List.replicate 258 false, by simp; omega, fun c _ _ => by rw [rd_rep]; omega, by simp, ?_, ?_, by omega, hP2.allocIns _⟩
    · have e : bools (List.replicate 258 false) = (List.replicate 258 (Value.bool false)).toArray := by simp [bools]
      rw [e]
      exact Blk.new w3 _ _
    · intro c j hc hj
      rw [rd_rep]
      have e : nthB (List.replicate 258 false) (2 + c + 8 * j) = false := by
        unfold nthB
        rw [List.getD_eq_getElem?_getD, List.getElem?_replicate]
        split <;> rfl
      rw [e]
      simp
  have LL := Lib.hid (show ∀ b, b < w1.heap.size → ins (ins (fun b => b < w1.heap.size) x) w3.heap.size b from fun b h => ins.old (ins.old h))
  have hxg : x ≠ w3.heap.size := by omega
  clear hB hA hK hP1 hx nx hP2 hK2 hsz xl
  generalize ins (ins (fun b => b < w1.heap.size) x) w3.heap.size = L at *
  generalize w3.heap.size = g at *
  go_loopw [11] (fun i wr => ∃ (k : Nat), i = .int .i64 k ∧ k ≤ len ∧ k ≤ 100 ∧ OnceAt L w1 wr x a g f k) (fun i _ => len - (intOf i).toNat)
  case atStart => exact ⟨0, rfl, by omega, by omega, HS⟩
  case round =>
    clear HS
    obtain ⟨k, rfl, hk, hk1, lg, hbel, hx, ws, m, bs, hwl, hw, hbl, hb, hs, hm, hP⟩ := hrel
    by_cases hlt : k < len ∧ k < 100
    · obtain ⟨hlt, hlt2⟩ := hlt
      have hlt3 : (k : Int) < 100 := by omega
      obtain ⟨gp, off, rfl, hcell, hv1, hv2⟩ := HX.out.at_ hlt (bel_then HB.out hbel)
      generalize nth xs k = v at *
      obtain ⟨c, hc, hc8⟩ : ∃ c : Nat, v % 8 = c ∧ c < 8 := ⟨(v % 8).toNat, by omega, by omega⟩
      obtain ⟨r0, r1⟩ := hw c (by omega) (by omega)
      by_cases hfull : rd ws (f + c) = 32
      · have HW := Lib.hid hw
        have HSS := Lib.hid hs
        clear hw hs
        go_wp2_with (go_at_call 18; refine (num_calls _ _).mono ?_; rintro e w' ⟨rfl, rfl⟩)
        refine (next_full hx hP (by omega) c (by omega) (by omega) (by omega) (by omega) (by omega) (by omega) (Cl.true_ _ _ _)).mono ?_
        rintro e w4 ⟨rfl, hP4, hK4⟩
        go_wp2_with (go_at_call 18; refine (num_calls _ _).mono ?_; rintro e w' ⟨rfl, rfl⟩)
        go_roundw
        case rel => exact ⟨k + 1, by go_num, by omega, by omega, lg, hbel.trans (hK4.below LL.out), hx.keep hK4, ws, m + 1, bs, hwl, HW.out, hbl, hK4.blk hb lg, HSS.out, by omega, hP4⟩
        case measure => simp [intOf]; omega
      · obtain ⟨j, hj⟩ := Int.eq_ofNat_of_zero_le r0
        have hj32 : j < 32 := by omega
        have hsv := hs c j hc8 hj32
        rw [hj] at hsv
        simp only [Int.lt_irrefl, decide_false] at hsv
        have qs := hb.boolAt (k := 2 + c + 8 * j) (by omega)
        rw [hsv] at qs
        have HW := Lib.hid hw
        have HSS := Lib.hid hs
        have HJ := Lib.hid hj
        have HF := Lib.hid hfull
        clear hw hs hsv r0 r1 hfull
        go_wp2_with (go_at_call 18; refine (num_calls _ _).mono ?_; rintro e w' ⟨rfl, rfl⟩)
        refine (next_ok hx hP (by omega) c (by omega) (by omega) (by omega) (by omega) (by rw [HJ.out]; omega) (by rw [HJ.out]; omega) (Cl.true_ _ _ _)).mono ?_
        rintro e w4 ⟨rfl, hP4, hK4⟩
        rw [HJ.out] at hP4
        rw [HJ.out]
        clear hj
        have hcn := coreOf_num c j ⟨by omega, by omega⟩ (by omega)
        have hvn : 2 + (c : Int) + 8 * (j : Int) = ((2 + c + 8 * j : Nat) : Int) := by omega
        rw [hvn] at hcn ⊢
        clear hvn
        have q4 := hK4.cellOf (p := ⟨g, 2 + c + 8 * j, none⟩) lg qs
        have f4 := (hK4.blk hb lg).frozen (2 + c + 8 * j)
        clear qs hcell
        have hvl : 2 + c + 8 * j < 258 := by omega
        have hv2 : 2 ≤ 2 + c + 8 * j := by omega
        generalize hvd : 2 + c + 8 * j = vn at *
        have HVD := Lib.hid hvd
        clear hvd
        go_wp2_with (first | (go_at_call 18; refine (num_calls _ _).mono ?_; rintro e w' ⟨rfl, rfl⟩) | (go_at_call 28; refine (core_of_calls _ (by omega) _).mono ?_; rintro e w' ⟨rfl, rfl⟩; rw [hcn]))
        go_roundw
        case rel =>
          refine ⟨k + 1, by go_num, by omega, by omega, ?_⟩
          rw [← HVD.out]
          exact OnceAt.next lg (by omega) LL.out hbel hK4 hx hxg hf0.1 hwl HW.out hbl hb HSS.out hc8 hj32 HJ.out (by omega) hP4
        case measure => simp [intOf]; omega
    · have HW := Lib.hid hw
      have HSS := Lib.hid hs
      clear hw hs
      by_cases hlt : k < len
      · have hlt3 : ¬ (k : Int) < 100 := by omega
        go_wp2_with (go_at_call 18; refine (num_calls _ _).mono ?_; rintro e w' ⟨rfl, rfl⟩)
        refine (inum_new_no hP (f + 1) (by omega) (by omega)).mono ?_
        rintro e w' ⟨rfl, rfl⟩
        go_wp2_with (go_at_call 18; refine (num_calls _ _).mono ?_; rintro e w' ⟨rfl, rfl⟩)
        refine (inum_new_nil 0 _).mono ?_
        rintro e w' ⟨rfl, rfl⟩
        go_wp2_with (go_at_call 18; refine (num_calls _ _).mono ?_; rintro e w' ⟨rfl, rfl⟩)
        go_ret
        exact ⟨rfl, bel_then HB.out hbel⟩
      · go_wp2_with (go_at_call 18; refine (num_calls _ _).mono ?_; rintro e w' ⟨rfl, rfl⟩)
        refine (inum_new_no hP (f + 1) (by omega) (by omega)).mono ?_
        rintro e w' ⟨rfl, rfl⟩
        go_wp2_with (go_at_call 18; refine (num_calls _ _).mono ?_; rintro e w' ⟨rfl, rfl⟩)
        refine (inum_new_nil 0 _).mono ?_
        rintro e w' ⟨rfl, rfl⟩
        go_wp2_with (go_at_call 18; refine (num_calls _ _).mono ?_; rintro e w' ⟨rfl, rfl⟩)
        go_ret
        exact ⟨rfl, bel_then HB.out hbel⟩
end Go.Proofs.Ytpmgfjglkbbhgaa
