
/- InumNexts: the walk. -/
import Derived.Test.YtpmgfjglkbbhgaaWords
import Derived.Test.YtpmgfjglkbbhgaaLawInum
import Derived.Test.YtpmgfjglkbbhgaaTraces
namespace Go.Proofs.Ytpmgfjglkbbhgaa
open Go.RowKit
set_option maxHeartbeats 1000000

def intsA (xs : List Int) : Array Value := (xs.map (Value.int .i64)).toArray
theorem Blk.intAt {w : World} {g : Nat} {t : TypeId} {xs : List Int} (h : Blk w g t (intsA xs)) {k : Nat} (hk : k < xs.length) : w.cell? ⟨g, k, none⟩ = some (.int .i64 (nth xs k)) := by
  rw [h.cell]; simp [intsA, nth, hk, List.getD]
theorem Blk.intSet {w : World} {g : Nat} {t : TypeId} {xs : List Int} (h : Blk w g t (intsA xs)) (k : Nat) (v : Int) : Blk (w.setCell ⟨g, k, none⟩ (.int .i64 v)) g t (intsA (xs.set k v)) := by
  have := h.set_ k (.int .i64 v)
  simpa [intsA, List.map_set] using this
theorem nth_set {xs : List Int} {k j : Nat} {v : Int} (hk : k < xs.length) : nth (xs.set k v) j = if j = k then v else nth xs j := by
  unfold nth
  by_cases e : j = k
  · subst e; simp [List.getD, hk]
  · simp [List.getD, e, Ne.symm e]
theorem nth_rep (n k : Nat) : nth (List.replicate n 0) k = 0 := by
  unfold nth
  rw [List.getD_eq_getElem?_getD, List.getElem?_replicate]
  split <;> rfl
def zerosObj (n : Nat) : Obj := .cells (intsA (List.replicate n 0)) 3
theorem make_ints (n : Nat) (hn : n ≤ 100000) (W : World) : (Instr.makeSlice 22 (.int .i64 (n : Int)) (.int .i64 (n : Int))).run Try.prog W = .ok (.slice (some ⟨W.heap.size, 0, none⟩) n n) (W.alloc (zerosObj n)) := by
  obtain ⟨i0, hi, hz0, hz1, hz2⟩ := info_parts info_intW
  have h := run_make_rowN (P := Try.prog) 22 3 i0 _ Try.underlying22 hi hz0 .i64 .i64 n n (Nat.le_refl _) (by rw [hz2]; omega) (by omega) W
  simp only [hz1, Nat.mul_one, Value.cells, madeCells_one] at h
  rw [h]
  unfold zerosObj intsA
  simp

theorem both_nil (t t' : List Acc) (v v' : Value) (w : World) (h : Sl w 2 v t.length (encAccs t)) (h' : Sl w 2 v' t'.length (encAccs t')) (hl : t.length ≤ 1099511627776) (hl' : t'.length ≤ 1099511627776)
    (hno : ∀ x ∈ t, ∀ y ∈ t', x.1 ≠ y.1) :
    Calls Try.prog 35 #[v, v'] w fun e w' => e = .returned (.slice none 0 0) ∧ Below w.heap.size w w' := by
  have H2 := Lib.hid (fun W (hb : Below w.heap.size w W) => words_full t' v' false W (h'.below hb) hl')
  have H1 := Lib.hid (words_full t v false w h hl)
  have HN := Lib.hid hno
  have HLL := Lib.hid hl
  have HLL' := Lib.hid hl'
  clear h h' hno
  go_enter Try.func35, Try.ntmps35
  go_wp2_with (fail)
  refine H1.out.mono ?_
  rintro e w1 ⟨u, us, rfl, hW1⟩
  go_wp2_with (fail)
  refine (H2.out _ hW1.keeps).mono ?_
  rintro e w2 ⟨u', us', rfl, hW2⟩
  have hsl1 := hW1.own.sl.below hW2.keeps
  have hsl2 := hW2.own.sl
  have hB := hW1.keeps.trans (hW2.keeps.mono hW1.keeps.size)
  have hno2 : ∀ i j, i < us.length → j < us'.length → nth us i ≠ nth us' j := by
    intro i j hi hj e
    obtain ⟨x, hx, _, ex⟩ := (hW1.st.mem _).1 (nth_mem hi)
    obtain ⟨y, hy, _, ey⟩ := (hW2.st.mem _).1 (nth_mem hj)
    exact HN.out x (List.mem_of_mem_take hx) y (List.mem_of_mem_take hy) (by rw [ex, ey, e])
  have hlu : us.length ≤ 1099511627776 := Nat.le_trans hW1.st.len (Nat.le_trans (List.length_take_le _ _) HLL.out)
  have hlu' : us'.length ≤ 1099511627776 := Nat.le_trans hW2.st.len (Nat.le_trans (List.length_take_le _ _) HLL'.out)
  clear hW1 hW2 H1 H2
  obtain ⟨_, A, cap, rfl, hc, h⟩ := hsl1
  obtain ⟨_, A', cap', rfl, hc', h'⟩ := hsl2
  have H := Lib.hid h
  have H' := Lib.hid h'
  have HNO := Lib.hid hno2
  have HB := Lib.hid hB
  clear h h' hno2 hB
  go_wp2
  go_loopw [7, 8] (fun o i wr => o = .slice none 0 0 ∧ ∃ k : Nat, k ≤ us.length ∧ i = .int .i64 k ∧ ∃ d, wr = w2.drewN d) (fun _ i _ => us.length - (intOf i).toNat)
  case atStart => exact ⟨rfl, 0, Nat.zero_le _, rfl, 0, rfl⟩
  case round =>
    obtain ⟨rfl, k, hk, rfl, d, rfl⟩ := hrel
    by_cases hlt : k < us.length
    · obtain ⟨g, off, rfl, hcell⟩ := H.out (by omega)
      have q1 := hcell _ _ (ints_at hlt)
      have HM := Lib.hid (fun j => HNO.out k j hlt)
      clear hcell H
      generalize nth us k = x1 at *
      go_wp2
      go_loopw [7, 9] (fun o i wr => o = .slice none 0 0 ∧ ∃ j : Nat, j ≤ us'.length ∧ i = .int .i64 j ∧ ∃ d, wr = w2.drewN d) (fun _ i _ => us'.length - (intOf i).toNat)
      case atStart => exact ⟨rfl, 0, Nat.zero_le _, rfl, _, rfl⟩
      case round =>
        obtain ⟨rfl, j, hj, rfl, d2, rfl⟩ := hrel
        by_cases hlt2 : j < us'.length
        · obtain ⟨g', off', rfl, hcell'⟩ := H'.out (by omega)
          have q3 := hcell' _ _ (ints_at hlt2)
          have hne := HM.out j hlt2
          clear hcell' H'
          generalize nth us' j = y1 at *
          have he : (x1 == y1) = false := by simpa using hne
          clear hne
          go_wp2
          go_quiet (fail)
          go_wp2
          go_roundw
          case rel => exact ⟨rfl, j + 1, by omega, by go_num, _, rfl⟩
          case measure => simp [intOf]; omega
        · go_wp2
          go_roundw
          case rel => exact ⟨rfl, k + 1, by omega, by go_num, _, rfl⟩
          case measure => simp [intOf]; omega
    · go_wp2
      go_ret
      exact ⟨rfl, below_drewN' HB.out d⟩

/-- Each core touches its own word alone. -/
def own1 (k : Nat) (ts : List (List Acc)) : Prop := ∀ d : Int, 0 ≤ d → d < k → ∀ y ∈ tr ts d, y.1 = 3 + d
theorem own1.cl {k : Nat} (c : Int) (hc : 0 ≤ c ∧ c < k) : Cl k (own1 k) c (fun y => y.1 = 3 + c) := by
  intro ts x hl hp hx d d0 d1 y hy
  rw [tr_noted x ⟨hc.1, by omega⟩ d0] at hy
  split at hy
  · rename_i e
    subst e
    rcases List.mem_append.1 hy with hy | hy
    · exact hp d d0 d1 y hy
    · rw [List.mem_singleton.1 hy]; exact hx
  · exact hp d d0 d1 y hy
theorem own1.clear {k : Nat} (c : Int) (ts : List (List Acc)) (hp : own1 k ts) : own1 k (ts.set c.toNat []) := by
  intro d d0 d1 y hy
  unfold tr at hy
  rw [List.getD_eq_getElem?_getD, List.getElem?_set] at hy
  split at hy
  · split at hy <;> simp at hy
  · exact hp d d0 d1 y (by unfold tr; rw [List.getD_eq_getElem?_getD]; exact hy)

/-- What was given so far. -/
structure NxAt (L : Nat → Prop) (w wr : World) (x a g k j : Nat) : Prop where
  lg : L g
  keeps : Below w.heap.size w wr
  nums : NumsAt L wr x a 3
  rest : ∃ ws ms, ws.length = 20 ∧ ms.length = k ∧ Blk wr g 3 (intsA ms) ∧ (∀ c : Nat, c < k → rd ws (3 + c) = nth ms c ∧ 0 ≤ nth ms c ∧ nth ms c ≤ 32) ∧ ArP L wr a ws k (2 * j) (own1 k)

set_option maxRecDepth 100000 in
theorem inexts_walk (w : World) (cores : Int) (_ : (Lit.int .i64 cores).wf = true) {A : Option Addr} {len cap : Nat} {xs : List Int} (hx : Ints w A len cap xs) :
    Calls Try.prog 11 #[.int .i64 cores, .slice A len cap] w fun e w' => e = .returned (.bool true) ∧ Below w.heap.size w w' := by
  have hle := hx.len_le
  have HX := Lib.hid hx
  clear hx
  obtain ⟨k8, hk8, hk9⟩ : ∃ k8 : Nat, cores % 8 = k8 ∧ k8 < 8 := ⟨(cores % 8).toNat, by omega, by omega⟩
  have HMK := Lib.hid (fun W : World => show (Instr.makeSlice 22 (.int .i64 (1 + (k8 : Int))) (.int .i64 (1 + (k8 : Int)))).run Try.prog W = .ok (.slice (some ⟨W.heap.size, 0, none⟩) (1 + k8) (1 + k8)) (W.alloc (zerosObj (1 + k8))) by
    have := make_ints (1 + k8) (by omega) W
    rw [show ((1 + k8 : Nat) : Int) = 1 + (k8 : Int) by omega] at this
    exact this)
  go_enter Try.func11, Try.ntmps11
  go_wp2_with (go_at_call 18; refine (num_calls _ _).mono ?_; rintro e w' ⟨rfl, rfl⟩)
  refine (new_to (ws := List.replicate 20 0) (ts := List.replicate (1 + k8) []) (Bd.below w) (by omega) (by omega) rfl (by rw [show (1 + (k8 : Int)).toNat = 1 + k8 by omega])).mono ?_
  rintro e w2 ⟨a, rfl, hA, hK⟩
  go_wp2_with (go_at_call 18; refine (num_calls _ _).mono ?_; rintro e w' ⟨rfl, rfl⟩)
  have hP1 : ArP (fun b => b < w.heap.size) w2 a (List.replicate 20 0) (1 + k8) 0 (own1 (1 + k8)) := ArP.new (1 + k8) (by
    intro d _ _ y hy
    rw [tr_rep] at hy
    cases hy) hA
  refine (inum_new_ok hP1 3 (by omega) (by simp; omega) (fun i _ _ => rd_rep _ _)).mono ?_
  rintro e w3 ⟨x, rfl, hx, nx, _, hP2, hK2⟩
  go_wp2_with (go_at_call 18; refine (num_calls _ _).mono ?_; rintro e w' ⟨rfl, rfl⟩)
  have LL := Lib.hid (show ∀ b, b < w.heap.size → ins (fun b => b < w.heap.size) x b from fun b h => ins.old h)
  have hB := (hK.trans hK2).below fun _ h => h
  clear hA hK hP1 nx hK2
  generalize ins (fun b => b < w.heap.size) x = L0 at *
  have HS := Lib.hid (show NumsAt L0 w3 x a 3 ∧ ArP L0 w3 a (List.replicate 20 0) (1 + k8) 0 (own1 (1 + k8)) ∧ Below w.heap.size w w3 from ⟨hx, hP2, hB⟩)
  clear hx hP2 hB
  go_loopw [10] (fun i wr => ∃ c : Nat, i = .int .i64 c ∧ c ≤ 1 + k8 ∧ NumsAt L0 wr x a 3 ∧ ArP L0 wr a (List.replicate 20 0) (1 + k8) 0 (own1 (1 + k8)) ∧ Below w.heap.size w wr) (fun i _ => 1 + k8 - (intOf i).toNat)
  case atStart => exact ⟨0, rfl, by omega, HS.out⟩
  case round =>
    clear HS
    obtain ⟨c, rfl, hc, hx, hP, hB⟩ := hrel
    by_cases hlt : c < 1 + k8
    · have hlt' : (c : Int) < 1 + (k8 : Int) := by omega
      go_wp2_with (fail)
      refine (clear_p hP (c := (c : Int)) ⟨by omega, by omega⟩ (fun ts hl hp => own1.clear _ ts hp)).mono ?_
      rintro e w4 ⟨rfl, hP4, hK4⟩
      go_wp2
      go_roundw
      case rel => exact ⟨c + 1, by go_num, by omega, hx.keep hK4, hP4, hB.trans (hK4.below LL.out)⟩
      case measure => simp [intOf]; omega
    · have hlt' : ¬ (c : Int) < 1 + (k8 : Int) := by omega
      have hmk := HMK.out wr
      go_wp2
      clear hmk
      have HS : NxAt (ins L0 wr.heap.size) w (wr.alloc (zerosObj (1 + k8))) x a wr.heap.size (1 + k8) 0 :=
        ⟨ins.new _ _, hB.alloc hB.size _, ⟨ins.old hx.1, hx.2.alloc _⟩, _, List.replicate (1 + k8) 0, by simp, by simp, Blk.new wr _ _, fun c _ => by rw [rd_rep, nth_rep]; omega, hP.allocIns _⟩
      have LL := Lib.hid (show ∀ b, b < w.heap.size → ins L0 wr.heap.size b from fun b h => ins.old (LL.out b h))
      have hg0 : w.heap.size ≤ wr.heap.size := hB.size
      clear hx hP hB hlt hlt' hc
      generalize ins L0 wr.heap.size = L at *
      generalize wr.heap.size = g at *
      generalize wr.alloc (zerosObj (1 + k8)) = w4 at *
      go_loopw [12] (fun i wr => ∃ j : Nat, i = .int .i64 j ∧ j ≤ len ∧ j ≤ 300 ∧ NxAt L w wr x a g (1 + k8) j) (fun i _ => len - (intOf i).toNat)
      case atStart => exact ⟨0, rfl, by omega, by omega, HS⟩
      case round =>
        clear HS
        obtain ⟨j, rfl, hj, hj3, lg, hB, hx, ws, ms, hwl, hml, hb, hrd, hP⟩ := hrel
        have HRD := Lib.hid hrd
        have HML := Lib.hid hml
        have HWL := Lib.hid hwl
        clear hrd
        by_cases hboth : j < len ∧ j < 300
        · obtain ⟨hlt, hlt2⟩ := hboth
          have hlt3 : (j : Int) < 300 := by omega
          obtain ⟨gp, off, rfl, hcell, _, _⟩ := HX.out.at_ hlt hB
          generalize nth xs j = p at *
          obtain ⟨c, htm⟩ : ∃ c : Int, p.tmod (1 + (k8 : Int) + 2) = c + 1 := ⟨p.tmod (1 + (k8 : Int) + 2) - 1, by omega⟩
          have hbd := tmod_bd p (1 + (k8 : Int) + 2) (by omega)
          rw [htm] at hbd
          obtain ⟨hbd1, hbd2⟩ := hbd
          by_cases hbad : c < 0 ∨ ((1 + k8 : Nat) : Int) ≤ c
          · rcases hbad with hc | hc
            · go_wp2_with (go_at_call 18; refine (num_calls _ _).mono ?_; rintro e w' ⟨rfl, rfl⟩)
              refine (next_err hx hP c (.inl hc)).mono ?_
              rintro e w' ⟨rfl, rfl⟩
              go_wp2_with (go_at_call 18; refine (num_calls _ _).mono ?_; rintro e w' ⟨rfl, rfl⟩)
              go_roundw
              case rel => exact ⟨j + 1, by go_num, by omega, by omega, lg, hB, hx, ws, ms, HWL.out, HML.out, hb, HRD.out, hP.mono (by omega)⟩
              case measure => simp [intOf]; omega
            · have hc0 : 0 ≤ c := by omega
              have hc1 : ¬ c < 0 := by omega
              have hc2 : 1 + (k8 : Int) ≤ c := by omega
              go_wp2_with (go_at_call 18; refine (num_calls _ _).mono ?_; rintro e w' ⟨rfl, rfl⟩)
              refine (next_err hx hP c (.inr hc)).mono ?_
              rintro e w' ⟨rfl, rfl⟩
              go_wp2_with (go_at_call 18; refine (num_calls _ _).mono ?_; rintro e w' ⟨rfl, rfl⟩)
              go_roundw
              case rel => exact ⟨j + 1, by go_num, by omega, by omega, lg, hB, hx, ws, ms, HWL.out, HML.out, hb, HRD.out, hP.mono (by omega)⟩
              case measure => simp [intOf]; omega
          · obtain ⟨c, rfl⟩ : ∃ c' : Nat, c = c' := ⟨c.toNat, by omega⟩
            have hc : c < 1 + k8 := by omega
            have hc1 : ¬ (c : Int) < 0 := by omega
            have hc2 : ¬ 1 + (k8 : Int) ≤ (c : Int) := by omega
            obtain ⟨hr0, hr1, hr2⟩ := HRD.out c hc
            have qm := hb.intAt (k := c) (by omega)
            generalize hv : nth ms c = v at *
            have HV := Lib.hid hv
            have HR0 := Lib.hid hr0
            clear hv hr0 hbad
            by_cases hfull : v = 32
            · subst hfull
              go_wp2_with (go_at_call 18; refine (num_calls _ _).mono ?_; rintro e w' ⟨rfl, rfl⟩)
              refine (next_full hx hP (by omega) c (by omega) (by omega) (by omega) (by omega) (by rw [HR0.out]; omega) (by rw [HR0.out]; omega) (own1.cl _ (by omega))).mono ?_
              rintro e w4 ⟨rfl, hP4, hK4⟩
              have q4 := hK4.cellOf (p := ⟨g, c, none⟩) lg qm
              clear qm
              go_wp2_with (go_at_call 18; refine (num_calls _ _).mono ?_; rintro e w' ⟨rfl, rfl⟩)
              go_roundw
              case rel => exact ⟨j + 1, by go_num, by omega, by omega, lg, hB.trans (hK4.below LL.out), hx.keep hK4, ws, ms, HWL.out, HML.out, hK4.blk hb lg, HRD.out, hP4.mono (by omega)⟩
              case measure => simp [intOf]; omega
            · have hlt32 : v < 32 := by omega
              have hnf : ¬ 32 ≤ v := by omega
              go_wp2_with (go_at_call 18; refine (num_calls _ _).mono ?_; rintro e w' ⟨rfl, rfl⟩)
              refine (next_ok hx hP (by omega) c (by omega) (by omega) (by omega) (by omega) (by rw [HR0.out]; omega) (by rw [HR0.out]; omega) (own1.cl _ (by omega))).mono ?_
              rintro e w4 ⟨rfl, hP4, hK4⟩
              rw [HR0.out] at hP4
              rw [HR0.out]
              have q4 := hK4.cellOf (p := ⟨g, c, none⟩) lg qm
              have hb4 := hK4.blk hb lg
              have f4 := hb4.frozen c
              have hcn := Lib.hid (coreOf_num c v ⟨by omega, by omega⟩ (by omega))
              clear qm
              go_wp2_with (first | (go_at_call 18; refine (num_calls _ _).mono ?_; rintro e w' ⟨rfl, rfl⟩) | (go_at_call 28; refine (core_of_calls _ (by omega) _).mono ?_; rintro e w' ⟨rfl, rfl⟩; rw [hcn.out]))
              go_roundw
              case rel =>
                refine ⟨j + 1, by go_num, by omega, by omega, lg, (hB.trans (hK4.below LL.out)).setCell (p := ⟨g, c, none⟩) hg0 _, ⟨hx.1, (hK4.blk hx.2 hx.1).far (p := ⟨g, c, none⟩) (Blk.ne_ (hK4.blk hx.2 hx.1) hb4 (by decide)) _⟩, _, ms.set c (v + 1), by simpa using HWL.out, by simpa using HML.out, hb4.intSet c (v + 1), ?_, (hP4.setCell (p := ⟨g, c, none⟩) lg _).mono (by omega)⟩
                intro d hd
                have h3 := HRD.out d hd
                have hml := HML.out
                have hwl := HWL.out
                rw [nth_set (by omega), rd_wr ⟨by omega, by omega⟩ (by omega)]
                by_cases e : d = c
                · subst e; rw [if_pos rfl, if_pos rfl]; omega
                · rw [if_neg e, if_neg (by omega)]; exact h3
              case measure => simp [intOf]; omega
        · have hsp : j = len ∨ ¬ ((j : Int) < 300) := by omega
          have HS := Lib.hid (show ArP L wr a ws (1 + k8) 600 (own1 (1 + k8)) ∧ Below w.heap.size w wr from ⟨hP.mono (by omega), hB⟩)
          have HB2 := Lib.hid hboth
          clear hx hP hB hb hwl hml HRD HML HWL hboth
          have hex : ¬ j < len ∨ (j < len ∧ ¬ ((j : Int) < 300)) := by omega
          clear hsp
          rcases hex with hjl | ⟨hjl, hj300⟩
          all_goals (
            go_wp2
            go_loopw [16] (fun i wr => ∃ c : Nat, i = .int .i64 c ∧ c ≤ 1 + k8 ∧ ArP L wr a ws (1 + k8) 600 (own1 (1 + k8)) ∧ Below w.heap.size w wr) (fun i _ => 1 + k8 - (intOf i).toNat)
            case atStart => exact ⟨0, rfl, by omega, HS.out⟩
            case round =>
              clear HS
              obtain ⟨c, rfl, hc, hP, hB⟩ := hrel
              by_cases hlc : c < 1 + k8
              · have hlc' : (c : Int) < 1 + (k8 : Int) := by omega
                go_wp2
                go_loopw [17] (fun i wr => ∃ d : Nat, i = .int .i64 d ∧ d ≤ c ∧ ArP L wr a ws (1 + k8) 600 (own1 (1 + k8)) ∧ Below w.heap.size w wr) (fun i _ => c - (intOf i).toNat)
                case atStart => exact ⟨0, rfl, by omega, hP, hB⟩
                case round =>
                  clear hP hB
                  obtain ⟨d, rfl, hd, hP, hB⟩ := hrel
                  by_cases hld : d < c
                  · have hld' : (d : Int) < (c : Int) := by omega
                    go_wp2_with (fail)
                    refine (trace_p hP (by omega) (c := (c : Int)) ⟨by omega, by omega⟩ (Q := fun t => ∀ y ∈ t, y.1 = 3 + (c : Int)) (fun ts _ hp => hp c (by omega) (by omega))).mono ?_
                    rintro e w4 ⟨v4, t4, rfl, hq4, hl4, hs4, hB4⟩
                    have hP4 := hP.below hB4
                    go_wp2_with (fail)
                    refine (trace_p hP4 (by omega) (c := (d : Int)) ⟨by omega, by omega⟩ (Q := fun t => ∀ y ∈ t, y.1 = 3 + (d : Int)) (fun ts _ hp => hp d (by omega) (by omega))).mono ?_
                    rintro e w5 ⟨v5, t5, rfl, hq5, hl5, hs5, hB5⟩
                    have hP5 := hP4.below hB5
                    go_wp2_with (fail)
                    refine (both_nil t4 t5 v4 v5 w5 (hs4.below hB5) hs5 hl4 hl5 (fun y hy z hz e => by
                      have h1 := hq4 y hy
                      have h2 := hq5 z hz
                      omega)).mono ?_
                    rintro e w6 ⟨rfl, hB6⟩
                    have hP6 := hP5.below hB6
                    have hBB := bel_then (bel_then (bel_then hB hB4) hB5) hB6
                    clear hs4 hs5 hq4 hq5 hP4 hP5 hB4 hB5 hB6 hB hP
                    go_wp2
                    go_roundw
                    case rel => exact ⟨d + 1, by go_num, by omega, hP6, hBB⟩
                    case measure => simp [intOf]; omega
                  · have hld' : ¬ (d : Int) < (c : Int) := by omega
                    go_wp2
                    go_roundw
                    case rel => exact ⟨c + 1, by go_num, by omega, hP, hB⟩
                    case measure => simp [intOf]; omega
              · have hlc' : ¬ (c : Int) < 1 + (k8 : Int) := by omega
                go_wp2_with (fail)
                refine (awake10 wr).mono ?_
                rintro e w4 ⟨rfl, hB4⟩
                go_wp2
                go_ret
                exact ⟨rfl, bel_then hB hB4⟩)
end Go.Proofs.Ytpmgfjglkbbhgaa
