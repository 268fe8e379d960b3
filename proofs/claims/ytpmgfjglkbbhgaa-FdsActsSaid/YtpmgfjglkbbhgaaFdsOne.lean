
/- law12: one. -/
import Derived.Test.YtpmgfjglkbbhgaaFdsPg
import Derived.Deep.DeepCutAuto
namespace Go.Proofs.Ytpmgfjglkbbhgaa
open Go.RowKit
set_option maxHeartbeats 1000000

theorem hasArr_set (ws : List Int) (b : Int) {d : Int} (hd : 0 ≤ d ∧ d < 4) (hb : 0 ≤ b) (hl : b + 4 ≤ ws.length) (X : Int) : (hasArr ws b).setIfInBounds d.toNat (.int .i64 X) = hasArr (wr ws (b + d) X) b := by
  apply Array.ext
  · simp [hasArr]
  · intro i h1 h2
    have hi : i < 4 := by simpa [hasArr] using h1
    rw [Array.getElem_setIfInBounds]
    simp only [hasArr, List.getElem_toArray, List.getElem_map, List.getElem_range]
    by_cases e : d.toNat = i
    · have : b + (i : Int) = b + d := by omega
      rw [if_pos e, this, rd_wr (by omega) (by omega), if_pos rfl]
    · rw [if_neg e, rd_wr (by omega) (by omega), if_neg (by omega)]
    · simpa [hasArr] using hi
theorem first_zero (ws : List Int) (b : Int) : (∃ j : Nat, j < 4 ∧ rd ws (b + j) = 0 ∧ ∀ i : Nat, i < j → rd ws (b + i) ≠ 0) ∨ (∀ i : Nat, i < 4 → rd ws (b + i) ≠ 0) := by
  by_cases h : ∀ i : Nat, i < 4 → rd ws (b + i) ≠ 0
  · exact .inr h
  · left
    have : ∃ j : Nat, rd ws (b + j) = 0 ∧ j < 4 := by
      apply Classical.byContradiction
      intro hn
      exact h fun i hi hz => hn ⟨i, hz, hi⟩
    obtain ⟨j, hj⟩ := this
    induction j using Nat.strongRecOn with
    | _ j ih =>
      by_cases hm : ∃ i : Nat, i < j ∧ rd ws (b + i) = 0
      · obtain ⟨i, hi, hz⟩ := hm
        exact ih i hi ⟨hz, by omega⟩
      · exact ⟨j, hj.2, hj.1, fun i hi hz => hm ⟨i, hi, hz⟩⟩

theorem rd_wr_far {ws : List Int} {b d X i : Int} (h0 : 0 ≤ i) (hb : 0 ≤ b) (hi : i < b ∨ b + 4 ≤ i) (hd : 0 ≤ d ∧ d < 4) : rd (wr ws (b + d) X) i = rd ws i :=
  rd_wr_other (by omega)
/-- Behind one act of a core. -/
structure OneEnd (L : Nat → Prop) (w w' : World) (a gv : Nat) (f : Int) (n m : Nat) (P : List (List Acc) → Prop) (ws : List Int) (c : Int) (ws' : List Int) : Prop where
  len : ws'.length = ws.length
  other : ∀ i, 0 ≤ i → (i < f + c * 4 ∨ f + c * 4 + 4 ≤ i) → rd ws' i = rd ws i
  blk : Blk w' gv 3 (hasArr ws' (f + c * 4))
  ar : ArP L w' a ws' n (m + 5) P
  keeps : Keeps (fun b => L b ∧ b ≠ gv) w w'

section
variable {L : Nat → Prop} {w : World} {a x gv : Nat} {ws : List Int} {n m : Nat} {P : List (List Acc) → Prop} {f : Int}

theorem OneEnd.same {w4 : World} {o : Obj} {c : Int} {m' : Nat} (hbd : Bd L w) (hgv : L gv) (hb : Blk w gv 3 (hasArr ws (f + c * 4))) (hA : ArP (ins L w.heap.size) w4 a ws n m' P) (hm : m' ≤ m + 5) (hK : Keeps (ins L w.heap.size) (w.alloc o) w4) : OneEnd L w w4 a gv f n m P ws c ws :=
  ⟨rfl, fun _ _ _ => rfl, hK.blk (hb.alloc o) (ins.old hgv), (hA.sub fun _ => ins.old).mono hm, (((Keeps.refl L w).alloc hbd o).trans hK.out).sub fun _ h => h.1⟩
theorem OneEnd.set {w4 : World} {o : Obj} {c d X : Int} {m' : Nat} (hbd : Bd L w) (hgv : L gv) (hf : 0 ≤ f) (hl : f + 4 * n ≤ ws.length) (h0 : 0 ≤ c ∧ c < n) (hd : 0 ≤ d ∧ d < 4) (hb : Blk w gv 3 (hasArr ws (f + c * 4))) (hA : ArP (ins L w.heap.size) w4 a (wr ws (f + c * 4 + d) X) n m' P) (hm : m' ≤ m + 5)
    (hK : Keeps (ins L w.heap.size) (w.alloc o) w4) : OneEnd L w (w4.setCell ⟨gv, d.toNat, none⟩ (.int .i64 X)) a gv f n m P ws c (wr ws (f + c * 4 + d) X) := by
  have hb4 := hK.blk (hb.alloc o) (ins.old hgv)
  refine ⟨by simp, fun i h0 hi => rd_wr_far h0 (by omega) hi hd, ?_, ((hA.sub fun _ => ins.old).setCell (p := ⟨gv, d.toNat, none⟩) hgv _).mono hm, ?_⟩
  · have := hb4.set_ d.toNat (.int .i64 X)
    rw [hasArr_set ws (f + c * 4) hd (by omega) (by omega)] at this
    exact this
  · refine Keeps.setCell (p := ⟨gv, d.toNat, none⟩) ((((Keeps.refl L w).alloc hbd o).trans hK.out).sub fun _ h => h.1) (fun h => h.2 rfl) _

set_option maxRecDepth 100000 in
theorem one_ok (hx : FdsAt L w x a f) (h : ArP L w a ws n m P) (hm : m ≤ 1099511600000) (hgv : L gv) (K c X : Int) (hb : Blk w gv 3 (hasArr ws (f + c * 4))) (h0 : 0 ≤ c ∧ c < n) (hf : 0 ≤ f) (hl : f + 4 * n ≤ ws.length) (hc : Cl n P c (fdSet f c)) :
    Calls Try.prog 42 #[.pointer (some ⟨x, 0, none⟩), .slice (some ⟨gv, 0, none⟩) 4 4, .agg #[.int .i64 K, .int .i64 c, .int .i64 X]] w fun e w' => e = .returned (.bool true) ∧ ∃ ws', OneEnd L w w' a gv f n m P ws c ws' := by
  have hbd : Bd L w := h.bd
  have HX := Lib.hid (show FdsAt (ins L w.heap.size) (w.alloc (Obj.cells #[.int .i64 K, .int .i64 c, .int .i64 X] 76)) x a f from ⟨ins.old hx.1, hx.2.alloc _⟩)
  have HA := Lib.hid (h.allocIns (Obj.cells #[.int .i64 K, .int .i64 c, .int .i64 X] 76))
  have HC := Lib.hid hc
  have HB := Lib.hid hb
  have HBD := Lib.hid hbd
  have HGV := Lib.hid hgv
  have H0 := Lib.hid h0
  have HL := Lib.hid hl
  have HBX := Lib.hid (Blk.new w 76 #[.int .i64 K, .int .i64 c, .int .i64 X])
  have HFZ := Lib.hid (first_zero ws (f + c * 4))
  clear hx h hc hb hbd hgv hl
  go_enter Try.func42, Try.ntmps42
  go_wp2
  have HS := Lib.hid (show True from trivial)
  go_loopw [7, 8] (fun z i wr => ∃ k q : Nat, z = .int .i64 q ∧ i = .int .i64 k ∧ k ≤ 4 ∧ q ≤ k ∧ (q = 0 ↔ ∀ i : Nat, i < k → rd ws (f + c * 4 + i) ≠ 0) ∧ wr = w.alloc (Obj.cells #[.int .i64 K, .int .i64 c, .int .i64 X] 76)) (fun _ i _ => 4 - (intOf i).toNat)
  case atStart => exact ⟨0, 0, rfl, rfl, by omega, by omega, ⟨fun _ i hi => absurd hi (by omega), fun _ => rfl⟩, rfl⟩
  case round =>
    obtain ⟨k, q, rfl, rfl, hk, hq, hiff, rfl⟩ := hrel
    have HI := Lib.hid hiff
    clear hiff
    by_cases hlt : k < 4
    · have hlt' : (k : Int) < 4 := by omega
      have q1 : (w.alloc (Obj.cells #[.int .i64 K, .int .i64 c, .int .i64 X] 76)).cell? ⟨gv, k, none⟩ = _ := ((HB.out.alloc _).cell k).trans (hasArr_at ws (f + c * 4) hlt)
      generalize hv : rd ws (f + c * 4 + (k : Int)) = r at *
      have HV := Lib.hid hv
      clear hv
      by_cases hr : r = 0
      · have hr1 : (r == 0) = true := by simpa using hr
        go_wp2
        go_roundw
        case rel =>
          refine ⟨k + 1, q + 1, by go_num, by go_num, by omega, by omega, ⟨fun h => absurd h (by omega), fun h => ?_⟩, trivial⟩
          exact absurd (HV.out.trans hr) (h k (by omega))
        case measure => simp [intOf]; omega
      · have hr1 : (r == 0) = false := by simpa using hr
        go_wp2
        go_roundw
        case rel =>
          refine ⟨k + 1, q, rfl, by go_num, by omega, by omega, ⟨fun h i hi => ?_, fun h => HI.out.2 fun i hi => h i (by omega)⟩, trivial⟩
          by_cases e : i = k
          · subst e
            rw [HV.out]
            exact hr
          · exact HI.out.1 h i (by omega)
        case measure => simp [intOf]; omega
    · have h4 : k = 4 := by omega
      subst h4
      have HXB := Lib.hid (HBX.out.cell 0)
      have b0 := HBX.out.cell 0
      have b1 := HBX.out.cell 1
      have b2 := HBX.out.cell 2
      clear hlt
      by_cases hK4 : K < 4
      · as_aux_lemma =>
        go_upto_region 8 with (fail)
        by_cases hX : X < 1
        · have hop := Lib.hid (open_err HX.out HA.out c X (.inr hX))
          go_wp2_with (fail)
          refine hop.out.mono ?_
          rintro e w' ⟨rfl, rfl⟩
          go_wp2_with (go_at_call 18; refine (num_calls _ _).mono ?_; rintro e w' ⟨rfl, rfl⟩)
          go_ret
          exact ⟨rfl, ws, OneEnd.same HBD.out HGV.out HB.out HA.out (by omega) (Keeps.refl _ _)⟩
        · rcases HFZ.out with ⟨j, hj, hz, hnz⟩ | hnz
          · have hq0 : ((q : Int) == 0) = false := by
              have : q ≠ 0 := fun e => HI.out.1 e j hj hz
              simpa using this
            have hop := Lib.hid (open_ok HX.out HA.out (by omega) c X h0 (by omega) hf HL.out HC.out j hj hz hnz)
            go_wp2_with (fail)
            refine hop.out.mono ?_
            rintro e w4 ⟨rfl, hA4, hK4'⟩
            have HK4 := Lib.hid hK4'
            have hbv := hK4'.blk (HB.out.alloc _) (ins.old HGV.out)
            have c2 := (hK4'.blk HBX.out (ins.new _ _)).cell 2
            have cg := (hbv.cell j).trans (hasArr_at ws (f + c * 4) hj)
            have fg := hbv.frozen j
            rw [hz] at cg
            have hj4 : (j : Int) < 4 := by omega
            clear hbv b0 b1 b2 hK4'
            go_wp2_with (go_at_call 18; refine (num_calls _ _).mono ?_; rintro e w' ⟨rfl, rfl⟩)
            go_ret
            exact ⟨rfl, _, OneEnd.set (d := (j : Int)) HBD.out HGV.out hf HL.out h0 (by omega) HB.out hA4 (by omega) HK4.out⟩
          · have hq0 : q = 0 := HI.out.2 hnz
            subst hq0
            have hop := Lib.hid (open_full HX.out HA.out (by omega) c X h0 (by omega) hf HL.out HC.out hnz)
            go_wp2_with (fail)
            refine hop.out.mono ?_
            rintro e w4 ⟨rfl, hA4, hK4'⟩
            have HK4 := Lib.hid hK4'
            have c2 := (hK4'.blk HBX.out (ins.new _ _)).cell 2
            clear b0 b1 b2 hK4'
            go_wp2_with (go_at_call 18; refine (num_calls _ _).mono ?_; rintro e w' ⟨rfl, rfl⟩)
            go_ret
            exact ⟨rfl, ws, OneEnd.same HBD.out HGV.out HB.out hA4 (by omega) HK4.out⟩
      · obtain ⟨bi, hbi⟩ : ∃ bi : Bool, bi = (decide (0 ≤ X ∧ X < 4) && (rd ws (f + c * 4 + X) != 0)) := ⟨_, rfl⟩
        have HBI := Lib.hid hbi
        clear hbi
        go_upto_region 17 with (fail)
        go_cut [11] (fun s wx => s = .bool bi ∧ wx = w.alloc (Obj.cells #[.int .i64 K, .int .i64 c, .int .i64 X] 76))
        case first =>
          by_cases hX0 : X < 0
          · have hX1 : ¬ 0 ≤ X := by omega
            go_wp2_with (fail)
            go_meet
            case rel => exact ⟨congrArg Value.bool (by rw [HBI.out]; simp; intros; omega), rfl⟩
          · by_cases hX4 : 4 ≤ X
            · have hX1 : ¬ X < 4 := by omega
              go_wp2_with (fail)
              go_meet
              case rel => exact ⟨congrArg Value.bool (by rw [HBI.out]; simp; intros; omega), rfl⟩
            · have hX1 : 0 ≤ X := by omega
              have hX2 : X < 4 := by omega
              have q1 : (w.alloc (Obj.cells #[.int .i64 K, .int .i64 c, .int .i64 X] 76)).cell? ⟨gv, X.toNat, none⟩ = _ := ((HB.out.alloc _).cell X.toNat).trans (hasArr_at ws (f + c * 4) (by omega))
              rewrite [show ((X.toNat : Nat) : Int) = X by omega] at q1
              go_wp2_with (fail)
              go_meet
              case rel => exact ⟨congrArg Value.bool (by rw [HBI.out]; simp [hX1, hX2]), rfl⟩
        case rest =>
          obtain ⟨rfl, rfl⟩ := hcut
          have hin : bi = true → (0 ≤ X ∧ X < 4) ∧ rd ws (f + c * 4 + X) ≠ 0 := by
            intro e
            have h := HBI.out
            rw [e] at h
            simpa using h.symm
          have hou : bi = false → (X < 0 ∨ 4 ≤ X) ∨ ((0 ≤ X ∧ X < 4) ∧ rd ws (f + c * 4 + X) = 0) := by
            intro e
            have h := HBI.out
            rw [e] at h
            by_cases hX : 0 ≤ X ∧ X < 4
            · right
              exact ⟨hX, by simpa [hX.1, hX.2] using h.symm⟩
            · left; omega
          have HIN := Lib.hid hin
          have HOU := Lib.hid hou
          clear hin hou
          by_cases hK6 : K < 6
          · as_aux_lemma =>
            rcases Bool.eq_false_or_eq_true bi with hbi | hbi
            · obtain ⟨hX, hnz⟩ := HIN.out hbi
              subst hbi
              have hX0 := hX.1
              have hX4 := hX.2
              have hop := Lib.hid (close_ok HX.out HA.out (by omega) c X h0 hX hf HL.out HC.out hnz)
              clear hX
              go_wp2_with (fail)
              refine hop.out.mono ?_
              rintro e w4 ⟨rfl, hA4, hK4'⟩
              have HK4 := Lib.hid hK4'
              have hbv := hK4'.blk (HB.out.alloc _) (ins.old HGV.out)
              have c2 := (hK4'.blk HBX.out (ins.new _ _)).cell 2
              have cg := (hbv.cell X.toNat).trans (hasArr_at ws (f + c * 4) (by omega))
              have fg := hbv.frozen X.toNat
              rewrite [show ((X.toNat : Nat) : Int) = X by omega] at cg
              generalize rd ws (f + c * 4 + X) = rX at *
              clear hbv b0 b1 b2 hK4'
              go_wp2_with (go_at_call 18; refine (num_calls _ _).mono ?_; rintro e w' ⟨rfl, rfl⟩)
              go_ret
              exact ⟨rfl, _, OneEnd.set HBD.out HGV.out hf HL.out h0 ⟨hX0, hX4⟩ HB.out hA4 (by omega) HK4.out⟩
            · have hcl : Calls Try.prog 39 #[.pointer (some ⟨x, 0, none⟩), .int .i64 c, .int .i64 X] (w.alloc (Obj.cells #[.int .i64 K, .int .i64 c, .int .i64 X] 76)) fun e w' => e = .returned (.int .i64 1202) ∧ ArP (ins L w.heap.size) w' a ws n (m + 1) P ∧ Keeps (ins L w.heap.size) (w.alloc (Obj.cells #[.int .i64 K, .int .i64 c, .int .i64 X] 76)) w' := by
                rcases HOU.out hbi with hX | ⟨hX, hz⟩
                · refine (close_err c X rfl (get_out HX.out HA.out c X h0 hX)).mono ?_
                  rintro e w' ⟨rfl, rfl⟩
                  exact ⟨rfl, HA.out.mono (by omega), Keeps.refl _ _⟩
                · exact close_none HX.out HA.out (by omega) c X h0 hX hf HL.out HC.out hz
              subst hbi
              have hop := Lib.hid hcl
              clear hcl
              go_wp2_with (fail)
              refine hop.out.mono ?_
              rintro e w4 ⟨rfl, hA4, hK4'⟩
              have HK4 := Lib.hid hK4'
              clear hK4'
              go_wp2_with (go_at_call 18; refine (num_calls _ _).mono ?_; rintro e w' ⟨rfl, rfl⟩)
              go_ret
              exact ⟨rfl, ws, OneEnd.same HBD.out HGV.out HB.out hA4 (by omega) HK4.out⟩
          · as_aux_lemma =>
            rcases Bool.eq_false_or_eq_true bi with hbi | hbi
            · obtain ⟨hX, hnz⟩ := HIN.out hbi
              subst hbi
              have hX0 := hX.1
              have hX4 := hX.2
              have hop := get_in HX.out HA.out (by omega) c X h0 hX hf HL.out HC.out
              rewrite [if_neg hnz] at hop
              have hop := Lib.hid hop
              clear hX
              go_wp2_with (fail)
              refine hop.out.mono ?_
              rintro e w4 ⟨rfl, hA4, hK4'⟩
              have HK4 := Lib.hid hK4'
              have hbv := hK4'.blk (HB.out.alloc _) (ins.old HGV.out)
              have c2 := (hK4'.blk HBX.out (ins.new _ _)).cell 2
              have cg := (hbv.cell X.toNat).trans (hasArr_at ws (f + c * 4) (by omega))
              rewrite [show ((X.toNat : Nat) : Int) = X by omega] at cg
              generalize rd ws (f + c * 4 + X) = rX at *
              clear hbv b0 b1 b2 hK4'
              go_wp2_with (go_at_call 18; refine (num_calls _ _).mono ?_; rintro e w' ⟨rfl, rfl⟩)
              go_ret
              exact ⟨rfl, ws, OneEnd.same HBD.out HGV.out HB.out hA4 (by omega) HK4.out⟩
            · have hcl : Calls Try.prog 41 #[.pointer (some ⟨x, 0, none⟩), .int .i64 c, .int .i64 X] (w.alloc (Obj.cells #[.int .i64 K, .int .i64 c, .int .i64 X] 76)) fun e w' => e = .returned (.tuple #[.int .i64 0, .int .i64 1202]) ∧ ArP (ins L w.heap.size) w' a ws n (m + 1) P ∧ Keeps (ins L w.heap.size) (w.alloc (Obj.cells #[.int .i64 K, .int .i64 c, .int .i64 X] 76)) w' := by
                rcases HOU.out hbi with hX | ⟨hX, hz⟩
                · refine (get_out HX.out HA.out c X h0 hX).mono ?_
                  rintro e w' ⟨rfl, rfl⟩
                  exact ⟨rfl, HA.out.mono (by omega), Keeps.refl _ _⟩
                · have hop := get_in HX.out HA.out (by omega) c X h0 hX hf HL.out HC.out
                  rw [hz, if_pos rfl] at hop
                  exact hop
              subst hbi
              have hop := Lib.hid hcl
              clear hcl
              go_wp2_with (fail)
              refine hop.out.mono ?_
              rintro e w4 ⟨rfl, hA4, hK4'⟩
              have HK4 := Lib.hid hK4'
              clear hK4'
              go_wp2_with (go_at_call 18; refine (num_calls _ _).mono ?_; rintro e w' ⟨rfl, rfl⟩)
              go_ret
              exact ⟨rfl, ws, OneEnd.same HBD.out HGV.out HB.out hA4 (by omega) HK4.out⟩
end
end Go.Proofs.Ytpmgfjglkbbhgaa
