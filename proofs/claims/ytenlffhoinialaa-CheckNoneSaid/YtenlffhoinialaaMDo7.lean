/- The document's file system: Reached. (Printed in part by genheld.py.) -/
import Derived.Test.YtenlffhoinialaaMDo6
namespace Go.Proofs.Ytenlffhoinialaa
open Go.RowKit
set_option maxHeartbeats 1000000
attribute [local go_sem ↓] Go.wp_at_zero Go.wp_at_succ
theorem info_bool1 : (Try.prog.info? 4).map (fun i => (i.zero, i.size, i.bytes)) = some (some (.bool false), 1, 1) := by kernel_rfl
def boolsV (xs : List Bool) : Array Value := (xs.map Value.bool).toArray
def falseN (n : Nat) : Array Value := boolsV (List.replicate n false)
theorem boolsV_at {xs : List Bool} {i : Nat} (h : i < xs.length) : (boolsV xs)[i]? = some (.bool (xs.getD i false)) := by
  rw [getD_get h]
  unfold boolsV
  simp [h]
theorem boolsV_set (xs : List Bool) (i : Nat) (x : Bool) : (boolsV xs).setIfInBounds i (.bool x) = boolsV (xs.set i x) := by
  unfold boolsV
  rw [List.setIfInBounds_toArray, ← List.map_set]
theorem count_set_true : ∀ {xs : List Bool} {i : Nat}, i < xs.length → xs.getD i false = false → (xs.set i true).count false + 1 = xs.count false
  | [], i, h, _ => by simp at h
  | a :: xs, 0, h, e => by
    have : a = false := e
    subst this
    simp
  | a :: xs, i + 1, h, e => by
    have ih := count_set_true (xs := xs) (i := i) (by simpa using h) (by simpa using e)
    rw [List.set_cons_succ, List.count_cons, List.count_cons]
    omega
theorem QS.init {w : World} {base g off m cap : Nat} {ys : List Int} {x : Int} (h : QS w base (.slice (some ⟨g, off, none⟩) m cap) (ys ++ [x])) : QS w base (.slice (some ⟨g, off, none⟩) ys.length cap) ys ∧ ys.length + 1 ≤ cap := by
  obtain ⟨g', off', cap', cur, h1, h2, h3, h4, h5, h6⟩ := h
  injection h1 with e1 e2 e3
  injection e1 with e1
  injection e1 with e4 e5
  subst e4 e5 e3
  rw [List.length_append] at h2
  refine ⟨⟨g, off, cap, cur, rfl, by simp at h2; omega, h3, h4, h5, fun j y hj => h6 j y ?_⟩, by simpa using h2⟩
  rw [List.getElem?_append_left (List.getElem?_eq_some_iff.1 hj).1]; exact hj
set_option maxRecDepth 1000000 in
theorem Reached_calls {w : World} {iv ov mv : Value} {ev : Nat → Value} {S : St} (hS : StM w iv ov mv ev S) (hI : Inv S) :
    Calls Try.prog 47 #[.agg #[iv, ov, mv]] w fun e w' => ∃ (g : Nat) (bs : List Bool), e = .returned (.slice (some ⟨g, 0, none⟩) S.inodes.length S.inodes.length) ∧ bs.length = S.inodes.length ∧ Below w.heap.size w w' ∧ Blk w' g 4 (boolsV bs) := by
  obtain ⟨A, cap, rfl⟩ := hS.ino.form
  have hni := hI.ni
  have HEN := Lib.hid (fun i (hi : i < S.inodes.length) => (hI.en (Inv.ino_mem hi) : S.ne i ≤ 32))
  have HFI := Lib.hid (fun x i (h : firstIx S x = some i) => (show i < S.inodes.length from (firstIx_some h).1))
  have HAT := Lib.hid (fun (W : World) (hW : StM W (.slice A S.inodes.length cap) ov mv ev S) (x : Int) => At_calls hW (by omega : S.inodes.length ≤ 1000) x)
  have HS := Lib.hid hS
  have HOF := Lib.hid hS.opn.form
  have HMF := Lib.hid hS.mad.form
  obtain ⟨OA, ocap, hov⟩ := HOF.out
  obtain ⟨MA, mcap, hmv⟩ := HMF.out
  generalize S.opens.length = no at *
  generalize S.made.length = nm_ at *
  subst hov hmv
  obtain ⟨n, hnn⟩ : ∃ n, S.inodes.length = n := ⟨_, rfl⟩
  have HNN := Lib.hid hnn
  rw [hnn] at hni HEN HFI HAT HS ⊢
  clear hS hI hnn HOF HMF
  obtain ⟨j0_, hj, hy0, hy1, hy2⟩ := info_parts info_bool1
  have hmk : ∀ W : World, (Instr.makeSlice 82 (.int .i64 n) (.int .i64 n)).run Try.prog W = .ok (.slice (some ⟨W.heap.size, 0, none⟩) n n) (W.alloc (.cells (falseN n) 4)) := by
    intro W
    have h := run_make_rowN (P := Try.prog) (w := W) 82 4 j0_ _ Try.underlying82 hj hy0 .i64 .i64 n n (Nat.le_refl _) (by rw [hy2]; omega) (by omega)
    simp only [hy1, Nat.mul_one, Value.cells, madeCells_one] at h
    rw [show (List.replicate n (Value.bool false)).toArray = falseN n by unfold falseN boolsV; rw [List.map_replicate]] at h
    exact h
  have hmk := hmk (w.alloc (.cells #[.slice A n cap, .slice OA no ocap, .slice MA nm_ mcap] 26))
  clear hj hy0 hy1 hy2
  go_enter Try.func47, Try.ntmps47
  go_wp2_with (fail)
  clear hmk
  have HB0 := Lib.hid (show Below w.heap.size w (((w.alloc (.cells #[.slice A n cap, .slice OA no ocap, .slice MA nm_ mcap] 26)).alloc (.cells (falseN n) 4)).alloc (.cells #[.int .i64 1] 3)) from (((Below.refl _ _).alloc (Nat.le_refl _) _).alloc (by simp) _).alloc (by simp; omega) _)
  have HP0 := Lib.hid (((Blk.new w 26 #[.slice A n cap, .slice OA no ocap, .slice MA nm_ mcap]).alloc (.cells (falseN n) 4)).alloc (.cells #[.int .i64 1] 3))
  have HM0 := Lib.hid ((Blk.newAt (w.alloc (.cells #[.slice A n cap, .slice OA no ocap, .slice MA nm_ mcap] 26)) 4 (falseN n) (n := w.heap.size + 1) (by simp)).alloc (.cells #[.int .i64 1] 3))
  have HQ0 := Lib.hid (QS.lit ((w.alloc (.cells #[.slice A n cap, .slice OA no ocap, .slice MA nm_ mcap] 26)).alloc (.cells (falseN n) 4)) 1 (base := w.heap.size) (by simp; omega))
  have hsz : ((w.alloc (.cells #[.slice A n cap, .slice OA no ocap, .slice MA nm_ mcap] 26)).alloc (.cells (falseN n) 4)).heap.size = w.heap.size + 1 + 1 := by simp
  rw [hsz] at HQ0
  obtain ⟨p, hp⟩ : ∃ p, p = w.heap.size := ⟨_, rfl⟩
  have HP := Lib.hid hp
  rw [← hp] at HB0 HP0 HQ0 HM0 ⊢
  clear hp hsz
  generalize (((w.alloc (.cells #[.slice A n cap, .slice OA no ocap, .slice MA nm_ mcap] 26)).alloc (.cells (falseN n) 4)).alloc (.cells #[.int .i64 1] 3)) = W0 at *
  go_loopg [4] (n * 40 + 1) (fun f todo wr => ∃ (bs : List Bool) (xs : List Int), bs.length = n ∧ bs.count false * 40 + xs.length ≤ f ∧ f ≤ n * 40 + 1 ∧ Below p w wr ∧ Blk wr p 26 #[.slice A n cap, .slice OA no ocap, .slice MA nm_ mcap] ∧ Blk wr (p + 1) 4 (boolsV bs) ∧ QS wr p todo xs)
  case atStart => exact ⟨List.replicate n false, [1], List.length_replicate, (by rw [List.count_replicate]; simp), Nat.le_refl _, HB0.out, HP0.out, HM0.out, HQ0.out⟩
  case round =>
    obtain ⟨bs, xs, hbl, hms, hf, hb, hpb, hmb, hqs⟩ := hrel
    have HBL := Lib.hid hbl
    have HMS := Lib.hid hms
    have HF := Lib.hid hf
    have HB := Lib.hid hb
    have HPB := Lib.hid hpb
    have HMB := Lib.hid hmb
    have HQ := Lib.hid hqs
    obtain ⟨qg, qo, qc, rfl, hqc, hqcell⟩ := hqs.form
    have c0 : wr.cell? ⟨p, 0, none⟩ = some (.slice A n cap) := hpb.cell 0
    have c1 : wr.cell? ⟨p, 1, none⟩ = some (.slice OA no ocap) := hpb.cell 1
    have c2 : wr.cell? ⟨p, 2, none⟩ = some (.slice MA nm_ mcap) := hpb.cell 2
    clear hbl hms hf hb hpb hmb hqs
    rcases List.eq_nil_or_concat xs with rfl | ⟨ys, x, hcc⟩
    · go_wp2_with (fail)
      go_ret
      exact ⟨p + 1, bs, rfl, HBL.out, by rw [← HP.out]; exact HB.out, HMB.out⟩
    · rw [List.concat_eq_append] at hcc
      subst hcc
      have hx := hqcell ys.length x (by simp)
      rw [List.length_append] at hqc HMS HQ ⊢
      have HQI := Lib.hid HQ.out.init
      simp only [List.length_cons, List.length_nil, Nat.zero_add] at hqc HMS HQ ⊢
      obtain ⟨m, hm⟩ : ∃ m, ys.length = m := ⟨_, rfl⟩
      have HYM := Lib.hid hm
      rw [hm] at hx hqc HMS HQ HQI ⊢
      clear hqcell hm HQ
      have HSR := Lib.hid (HS.out.keep (by rw [← HP.out]; exact HB.out))
      have HCA := Lib.hid (HAT.out wr.drew (HSR.out.keep (show Below wr.heap.size wr wr.drew from ⟨rfl, rfl, rfl, Nat.le_refl _, fun _ _ => rfl⟩)) x)
      obtain ⟨ai, hai⟩ : ∃ a, atF S x = a := ⟨_, rfl⟩
      rw [hai] at HCA
      have HAI := Lib.hid hai
      clear hai
      have ej0 : (0 : Int) < (m : Int) + 1 := by omega
      have hm31 : m ≤ 20000 := by have := HMS.out; have := HF.out; omega
      have ej : IntKind.i64.wrap ((m : Int) + 1 - 1) = (m : Int) := by rw [IntWalk.i64_in _ (by omega)]; omega
      have ej2 : IntKind.i64.wrap (m : Int) = (m : Int) := IntWalk.i64_in _ (by omega)
      have ej3 : (0 : Int) ≤ (m : Int) := by omega
      have ej4 : (m : Int) < (m : Int) + 1 := by omega
      go_upto_region 4 with (fail)
      go_cut [5] (fun s wx => s = .int .i64 ai ∧ Below wr.heap.size wr wx)
      case first =>
        refine wp_region_held_drew (S := fun w' => w'.cell? ⟨p, 0, none⟩ = some (.slice A n cap) ∧ w'.cell? ⟨p, 1, none⟩ = some (.slice OA no ocap) ∧ w'.cell? ⟨p, 2, none⟩ = some (.slice MA nm_ mcap) ∧ w'.cell? ⟨qg, qo + m, none⟩ = some (.int .i64 x)) (by kernel_rfl) (⟨c0, c1, c2, hx⟩) (fun hHeld => ?_)
        refine wpAnyH_take (i := 0) (oi := ⟨some 15, _, _, _, _, _⟩) (v := .agg #[.slice A n cap, .slice OA no ocap, .slice MA nm_ mcap]) rfl (by kernel_rfl) (by kernel_rfl) (by kernel_rfl) (fun _ _ _ h => h) (Or.inl ⟨by kernel_rfl, fun w hSw => by go_simp⟩) (by assumption) ?_
        simp only [Act.put, lTA, lC0, lCS]
        refine wpAnyH_take (i := 1) (oi := ⟨some 16, _, _, _, _, _⟩) (v := .slice (some ⟨qg, qo, none⟩) (m + 1) qc) rfl (by kernel_rfl) (by kernel_rfl) (by kernel_rfl) (fun _ _ _ h => h) (Or.inl ⟨by kernel_rfl, fun w hSw => by go_simp⟩) (by assumption) ?_
        simp only [Act.put, lTA, lC0, lCS]
        refine wpAnyH_take (i := 2) (oi := ⟨some 17, _, _, _, _, _⟩) (v := .slice (some ⟨qg, qo, none⟩) (m + 1) qc) rfl (by kernel_rfl) (by kernel_rfl) (by kernel_rfl) (fun _ _ _ h => h) (Or.inl ⟨by kernel_rfl, fun w hSw => by go_simp⟩) (by assumption) ?_
        simp only [Act.put, lTA, lC0, lCS]
        refine wpAnyH_take (i := 3) (oi := ⟨some 18, _, _, _, _, _⟩) (v := .int .i64 (m + 1)) rfl (by kernel_rfl) (by kernel_rfl) (by kernel_rfl) (fun _ _ _ h => h) (Or.inl ⟨by kernel_rfl, fun w hSw => by go_simp⟩) (by assumption) ?_
        simp only [Act.put, lTA, lC0, lCS]
        refine wpAnyH_take (i := 4) (oi := ⟨some 19, _, _, _, _, _⟩) (v := .int .i64 m) rfl (by kernel_rfl) (by kernel_rfl) (by kernel_rfl) (fun _ _ _ h => h) (Or.inl ⟨by kernel_rfl, fun w hSw => by go_simp⟩) (by assumption) ?_
        simp only [Act.put, lTA, lC0, lCS]
        refine wpAnyH_take (i := 5) (oi := ⟨some 20, _, _, _, _, _⟩) (v := .pointer (some ⟨qg, qo + m, none⟩)) rfl (by kernel_rfl) (by kernel_rfl) (by kernel_rfl) (fun _ _ _ h => h) (Or.inl ⟨by kernel_rfl, fun w hSw => by go_simp⟩) (by assumption) ?_
        simp only [Act.put, lTA, lC0, lCS]
        refine wpAnyH_take (i := 6) (oi := ⟨some 21, _, _, _, _, _⟩) (v := .int .i64 x) rfl (by kernel_rfl) (by kernel_rfl) (by kernel_rfl) (fun _ _ _ h => h) (Or.inl ⟨by kernel_rfl, fun w hSw => by go_simp⟩) (by assumption) ?_
        simp only [Act.put, lTA, lC0, lCS]
        refine wpAnyH_ready (rs := [7]) (by kernel_rfl) (by simp) ?_
        refine AllReadyH.cons rfl (fun K hK => ?_) AllReadyH.nil
        go_simp
        refine HCA.out.mono ?_
        rintro e w2 ⟨rfl, hB2⟩
        show K _ _
        refine hK.out _ _ (⟨(hB2.cell (World.block_lt_of_cell? _ _ hHeld.1)).trans hHeld.1, (hB2.cell (World.block_lt_of_cell? _ _ hHeld.2.1)).trans hHeld.2.1, (hB2.cell (World.block_lt_of_cell? _ _ hHeld.2.2.1)).trans hHeld.2.2.1, (hB2.cell (World.block_lt_of_cell? _ _ hHeld.2.2.2)).trans hHeld.2.2.2⟩) (fun hHeld => ?_)
        clear hK K
        refine wpAnyH_take (i := 8) (oi := ⟨some 5, _, _, _, _, _⟩) (v := .int .i64 ai) rfl (by kernel_rfl) (by kernel_rfl) (by kernel_rfl) (fun _ _ _ h => h) (Or.inl ⟨by kernel_rfl, fun w hSw => by go_simp⟩) (by assumption) ?_
        simp only [Act.put, lTA, lC0, lCS]
        refine wpAnyH_done (by kernel_rfl) ?_ _
        go_wp2_with (fail)
        go_meet
        case rel => exact ⟨rfl, Below.trans (b := wr.drew) ⟨rfl, rfl, rfl, Nat.le_refl _, fun _ _ => rfl⟩ hB2⟩
      case rest =>
        obtain ⟨rfl, hbc⟩ := hcut
        have HPL := Lib.hid HPB.out.lt
        have HBc := Lib.hid (HB.out.trans (hbc.mono (Nat.le_of_lt HPL.out)))
        have HPc := Lib.hid (HPB.out.below hbc)
        have HMc := Lib.hid (HMB.out.below hbc)
        have HQc := Lib.hid (HQI.out.1.below hbc)
        have hqm := HQI.out.2
        clear c0 c1 c2 hx hbc HQI HPB HMB HCA HSR ej0 ej ej2 ej3 ej4
        have ej : (m : Int) + 1 - 1 = (m : Int) := by omega
        have ej1 : (m : Int) ≤ (qc : Int) := by omega
        have HFUEL := Lib.hid (show ∃ f', gk = f' + 1 from ⟨gk - 1, by have := HMS.out; omega⟩)
        obtain ⟨f', hf'⟩ := HFUEL.out
        rcases hfi : firstIx S x with _ | i
        · obtain rfl : ai = -1 := by rw [← HAI.out]; unfold atF; rw [hfi]; rfl
          clear hfi
          go_wp2_with (fail)
          go_roundg f'
          case measure => omega
          case rel => exact ⟨bs, ys, HBL.out, by have := HMS.out; rw [HYM.out]; omega, by have := HF.out; omega, HBc.out, HPc.out, HMc.out, HQc.out⟩
        · obtain rfl : ai = (i : Int) := by rw [← HAI.out]; unfold atF; rw [hfi]; rfl
          have hi := HFI.out x i hfi
          have HEL := Lib.hid (HEN.out i hi)
          have hi1 : (i : Int) < (n : Int) := by omega
          have hi2 : ¬ (i : Int) < 0 := by omega
          have hib : i < bs.length := by rw [HBL.out]; exact hi
          have m0 : wc.cell? ⟨p + 1, i, none⟩ = some (.bool (bs.getD i false)) := (HMc.out.cell i).trans (boolsV_at hib)
          have mf := HMc.out.frozen i
          have HCT := Lib.hid (fun (h : bs.getD i false = false) => count_set_true hib h)
          clear hfi HAI HFI HEN HAT
          generalize bs.getD i false = bv at *
          rcases bool_tf bv with rfl | rfl
          · go_wp2_with (fail)
            go_roundg f'
            case measure => omega
            case rel => exact ⟨bs, ys, HBL.out, by have := HMS.out; rw [HYM.out]; omega, by have := HF.out; omega, HBc.out, HPc.out, HMc.out, HQc.out⟩
          · have HCT2 := Lib.hid (show (bs.set i true).count false + 1 = bs.count false from HCT.out rfl)
            have HMd := Lib.hid (show Blk (wc.setCell ⟨p + 1, i, none⟩ (.bool true)) (p + 1) 4 (boolsV (bs.set i true)) by rw [← boolsV_set]; exact HMc.out.set_ i _)
            have HPd := Lib.hid (HPc.out.far (p := ⟨p + 1, i, none⟩) (by show p ≠ p + 1; omega) (.bool true))
            have HBd := Lib.hid (HBc.out.setCell (p := ⟨p + 1, i, none⟩) (by show p ≤ p + 1; omega) (.bool true))
            have HQd := Lib.hid (show QS (wc.setCell ⟨p + 1, i, none⟩ (.bool true)) p (.slice (some ⟨qg, qo, none⟩) m qc) ys by
              have := HQc.out
              obtain ⟨g', off', cap', cur, h1, h2, h3, h4, h5⟩ := this
              exact ⟨g', off', cap', cur, h1, h2, h3, h4.far (p := ⟨p + 1, i, none⟩) (Blk.ne_ h4 HMc.out (by decide)) _, h5⟩)
            clear HMc HPc HBc HQc hqm
            go_upto_region 8 with (fail)
            clear mf m0
            generalize wc.setCell ⟨p + 1, i, none⟩ (.bool true) = wd at *
            have hisz : p < wd.heap.size := HPd.out.lt
            go_wp2_with (fail)
            go_loopw [4, 6] (fun todo kk wr => ∃ (j : Nat) (zs : List Int), kk = .int .i64 j ∧ j ≤ S.ne i ∧ zs.length ≤ m + j ∧ Below p w wr ∧ Blk wr p 26 #[.slice A n cap, .slice OA no ocap, .slice MA nm_ mcap] ∧ Blk wr (p + 1) 4 (boolsV (bs.set i true)) ∧ QS wr p todo zs) (fun _ kk _ => S.ne i - (intOf kk).toNat)
            case atStart => exact ⟨0, ys, rfl, by omega, by rw [HYM.out]; omega, HBd.out, HPd.out, HMd.out, HQd.out⟩
            case round =>
              obtain ⟨j, zs, rfl, hj, hzl, hb, hpb, hmb, hqs⟩ := hrel
              have HZL := Lib.hid hzl
              have HB2 := Lib.hid hb
              have HP2 := Lib.hid hpb
              have HM2 := Lib.hid hmb
              have HQ2 := Lib.hid hqs
              obtain ⟨zg, zo, zc, rfl, -, -⟩ := hqs.form
              have c0 : wr.cell? ⟨p, 0, none⟩ = some (.slice A n cap) := hpb.cell 0
              clear hzl hb hpb hmb hqs
              have HSR := Lib.hid (HS.out.keep (by rw [← HP.out]; exact HB2.out))
              obtain ⟨-, hcap, ig, ioff, rfl, hcell⟩ := (show RowAt wr (.slice A n cap) n 4 (inoC S ev) by have := HSR.out.ino; rwa [HNN.out] at this).at_ hi
              have q1 : wr.cell? ⟨ig, ioff + i * 4 + 1, none⟩ = some (.bool (S.dir i)) := hcell 1 (by omega)
              have q2 : wr.cell? ⟨ig, ioff + i * 4 + 2, none⟩ = some (ev i) := hcell 2 (by omega)
              have HEP := Lib.hid (HSR.out.ent i (by rw [HNN.out]; exact hi))
              obtain ⟨EA, ecap, hev⟩ := HEP.out.form
              rw [hev] at q2 HEP
              have hel : S.ne i ≤ 32 := HEL.out
              clear hev hcell
              generalize S.dir i = dv at *
              obtain ⟨ne, hnn⟩ : ∃ x, S.ne i = x := ⟨_, rfl⟩
              have HNE := Lib.hid hnn
              rw [hnn] at q2 HEP hj hel
              have hzm : zs.length ≤ 100000 := by have := HZL.out; omega
              have HDONE := Lib.hid (show (bs.set i true).count false * 40 + zs.length ≤ f' by have := HZL.out; have := HMS.out; have := HCT2.out; omega)
              clear hnn
              by_cases hjn : j < ne
              · have hjn1 : (j : Int) < (ne : Int) := by omega
                obtain ⟨-, hecap, eg, eoff, rfl, hecell⟩ := HEP.out.at_ hjn
                have r1 : wr.cell? ⟨eg, eoff + j * 2 + 1, none⟩ = some (.int .i64 (S.enu i j)) := hecell 1 (by omega)
                clear hecell
                rcases bool_tf dv with rfl | rfl
                · generalize S.enu i j = y at *
                  have HQ3 := Lib.hid (HQ2.out.alloc (Obj.cells #[.int .i64 y] 3))
                  have HP3 := Lib.hid (HP2.out.alloc (Obj.cells #[.int .i64 y] 3))
                  have HM3 := Lib.hid (HM2.out.alloc (Obj.cells #[.int .i64 y] 3))
                  have HN3 := Lib.hid (Blk.new wr 3 #[.int .i64 y])
                  have HB3 := Lib.hid (HB2.out.alloc (by have := HP2.out.lt; omega) (Obj.cells #[.int .i64 y] 3))
                  go_wp2_with (at_builtin; refine wpList_push _ rfl (.tmp 58) (.tmp 69) rfl p _ _ rfl HQ3.out (by omega) (by have := HP3.out.lt; omega) wr.heap.size y rfl (HN3.out.cell 0) ?_; intro v6 w6 row6 hQ6 hG6 hR6; have HQ6 := Lib.hid hQ6; have HG6 := Lib.hid hG6; have HR6 := Lib.hid hR6; clear hQ6 hG6 hR6)
                  go_roundw
                  case rel => exact ⟨j + 1, zs ++ [y], by go_num, by rw [HNE.out]; omega, by rw [List.length_append]; have := HZL.out; simp; omega, HB3.out.trans ⟨HG6.out.os, HG6.out.tape, HG6.out.output, HG6.out.size, fun q hq => HG6.out.block q (by have := HP3.out.lt; omega) (fun e => by have := (HR6.out q e.symm).1; omega)⟩, Blk.of_heap (HG6.out.block _ HP3.out.lt (fun e => by obtain ⟨_, cs, hb⟩ := HR6.out _ e.symm; exact Blk.ne_ HP3.out hb (by decide) rfl)) HP3.out, Blk.of_heap (HG6.out.block _ HM3.out.lt (fun e => by obtain ⟨_, cs, hb⟩ := HR6.out _ e.symm; exact Blk.ne_ HM3.out hb (by decide) rfl)) HM3.out, HQ6.out⟩
                  case measure =>
                    simp only [intOf]
                    rw [HNE.out]
                    omega
                · clear r1
                  go_wp2_with (fail)
                  go_roundg f'
                  case measure => omega
                  case rel => exact ⟨_, zs, by rw [List.length_set]; exact HBL.out, HDONE.out, by have := HF.out; omega, HB2.out, HP2.out, HM2.out, HQ2.out⟩
              · obtain rfl : j = ne := by omega
                go_wp2_with (fail)
                go_roundg f'
                case measure => omega
                case rel => exact ⟨_, zs, by rw [List.length_set]; exact HBL.out, HDONE.out, by have := HF.out; omega, HB2.out, HP2.out, HM2.out, HQ2.out⟩
end Go.Proofs.Ytenlffhoinialaa
