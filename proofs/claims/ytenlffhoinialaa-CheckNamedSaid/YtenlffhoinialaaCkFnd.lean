
/- check: found. -/
import Derived.Test.YtenlffhoinialaaCkFndS
import Derived.IntWalk
import Derived.Deep.CutBlock
namespace Go.Proofs.Ytenlffhoinialaa
open Go.RowKit
set_option maxHeartbeats 2000000
attribute [local go_sem ↓] Go.wp_at_zero Go.wp_at_succ
set_option maxRecDepth 1000000 in
theorem found_calls {w0 w : World} {c sb : Nat} {iv ov mv : Value} {ev : Nat → Value} {S : St} {D : List Fnd} (h : Ck w0 w c sb iv ov mv D) (hS : StM w0 iv ov mv ev S) (hs : S.small) :
    Calls Try.prog 75 #[.pointer (some ⟨c, 0, none⟩)] w fun e w' => ∃ fb mb nf nm, e = .returned (.tuple #[.map (some fb), .map (some mb)]) ∧ At w0 w w' c sb iv ov mv D ∧ MapB w' fb nf (foundB S) ∧ MapI w' mb nm (fun x => (manyF S x : Nat)) := by
  obtain ⟨A, cap, rfl⟩ := hS.ino.form
  have hn := hs.ni
  have HN0 := Lib.hid hs.ni
  have hw0 : w0.heap.size ≤ w.heap.size := h.bel.size
  have HC := Lib.hid h
  have HS := Lib.hid hS
  have HSm := Lib.hid hs
  clear h hS hs
  obtain ⟨n, hnn⟩ : ∃ n, S.inodes.length = n := ⟨_, rfl⟩
  rw [hnn] at hn HC HS
  have HI := Lib.hid (show RowAt w0 (.slice A n cap) n 4 (inoC S ev) from hnn ▸ HS.out.ino)
  have HNN := Lib.hid hnn
  clear hnn
  have hmm := @run_makeMap Try.prog
  go_enter Try.func75, Try.ntmps75
  go_upto_region 1 with (fail)
  go_cut [4, 5] (fun m1 m2 wx => ∃ fb mb, m1 = .map (some fb) ∧ m2 = .map (some mb) ∧ w.heap.size ≤ fb ∧ w.heap.size ≤ mb ∧ fb ≠ mb ∧ At w0 w wx c sb (.slice A n cap) ov mv D ∧ MapB wx fb 1 (fun x => [1].contains x) ∧ MapI wx mb 0 (fun _ => 0))
  case first =>
    have HM1 := Lib.hid (MapB.made w)
    have HA1 := Lib.hid ((At.start HC.out).alloc (.map #[] 0))
    go_wp2_with (with_reducible refine wpList_setB _ rfl (.tmp 14) (.const (.int .i64 1)) (.const (.bool true)) (.inr rfl) w.heap.size 0 (fun _ => false) rfl HM1.out (by decide) 1 (by decide) rfl true rfl ?_; intro w1 hM1 hG1)
    have hob := HM1.out.obj
    have HA2 := Lib.hid (((HA1.out.turn hob (Nat.le_refl _) hw0 hG1).alloc (.map #[] 0)))
    have HM2 := Lib.hid (hM1.alloc (.map #[] 0))
    have HM3 := Lib.hid (MapI.made w1)
    have hlt : w.heap.size < w1.heap.size := by have := hG1.size; simp at this; omega
    go_meet
    case rel => exact ⟨_, _, rfl, rfl, Nat.le_refl _, by omega, by omega, HA2.out, HM2.out.congr (fun i => by by_cases e : i = 1 <;> simp [e]), HM3.out⟩
  case rest =>
    obtain ⟨fb, mb, rfl, rfl, hfb, hmb, hfm, hat, hmB, hmI⟩ := hcut
    have HAT := Lib.hid hat
    have HMB := Lib.hid hmB
    have HMI := Lib.hid hmI
    have c0 := hat.1.c0
    have s0 := hat.1.s0
    clear hat hmB hmI HC
    go_wp2_with (fail)
    clear c0 s0
    go_loopw [25] (fun i wr => ∃ k : Nat, i = .int .i64 k ∧ k ≤ n ∧ At w0 w wr c sb (.slice A n cap) ov mv D ∧ MapB wr fb 1 (fun x => [1].contains x) ∧ MapI wr mb (manyTo S k).length (fun x => ((manyTo S k).count x : Nat))) (fun i _ => n - (intOf i).toNat)
    case atStart => exact ⟨0, rfl, by omega, HAT.out, HMB.out, HMI.out⟩
    case round =>
      obtain ⟨k, rfl, hk, hat, hmB, hmI⟩ := hrel
      have HAT := Lib.hid hat
      have HMB := Lib.hid hmB
      have HMI := Lib.hid hmI
      clear hat hmB hmI
      by_cases hp : k < n
      ·
        --[
        obtain ⟨-, hcap, g, off, rfl, hcell⟩ := (HI.out.keep HAT.out.1.bel).at_ hp
        have q0 : wr.cell? ⟨g, off + k * 4, none⟩ = some (.int .i64 (S.num k)) := hcell 0 (by omega)
        have q1 : wr.cell? ⟨g, off + k * 4 + 1, none⟩ = some (.bool (S.dir k)) := hcell 1 (by omega)
        have q2 : wr.cell? ⟨g, off + k * 4 + 2, none⟩ = some (ev k) := hcell 2 (by omega)
        have q3 : wr.cell? ⟨g, off + k * 4 + 3, none⟩ = some (.string (S.dat k)) := hcell 3 (by omega)
        have hp1 : (k : Int) < n := by omega
        clear hcell
        have hent := HS.out.ent k (by rw [HNN.out]; exact hp)
        obtain ⟨EA, ecap, hev⟩ := hent.form
        rw [hev] at q2 hent
        have hne := HSm.out.en k
        have HENT := Lib.hid hent
        have HMS := Lib.hid (manyTo_succ S k)
        have HML := Lib.hid (manyTo_len S HSm.out k (by omega))
        have HSN := Lib.hid (entsTo_snoc S k)
        have HEU := Lib.hid (fun j => HSm.out.enu k j)
        have HEO := Lib.hid (show entsOf S k = (List.range (S.ne k)).map (S.enu k) from rfl)
        clear hent hev
        generalize hnee : S.ne k = ne at *
        have HNE := Lib.hid hnee
        clear hnee
        generalize S.num k = x at *
        generalize S.dir k = dv at *
        generalize S.dat k = dt at *
        have HX := Lib.hid (Blk.new wr 56 #[.int .i64 x, .bool dv, .slice EA ne ecap, .string dt])
        have HAX := Lib.hid (HAT.out.alloc (Obj.cells #[Value.int IntKind.i64 x, Value.bool dv, Value.slice EA ne ecap, Value.string dt] 56))
        have HBX := Lib.hid (HMB.out.alloc (Obj.cells #[Value.int IntKind.i64 x, Value.bool dv, Value.slice EA ne ecap, Value.string dt] 56))
        have HIX := Lib.hid (HMI.out.alloc (Obj.cells #[Value.int IntKind.i64 x, Value.bool dv, Value.slice EA ne ecap, Value.string dt] 56))
        have hxw : w.heap.size ≤ wr.heap.size := HAT.out.2.size
        clear HAT HMB HMI
        go_wp2_with (fail)
        clear q0 q1 q2 q3
        obtain ⟨wy, hwy⟩ : ∃ wy, wy = wr.alloc (Obj.cells #[Value.int IntKind.i64 x, Value.bool dv, Value.slice EA ne ecap, Value.string dt] 56) := ⟨_, rfl⟩
        rw [← hwy] at HX HAX HBX HIX ⊢
        clear hwy
        generalize wr.heap.size = xg at *
        go_loopw [32] (fun i wr => ∃ j : Nat, i = .int .i64 j ∧ j ≤ ne ∧ At w0 w wr c sb (.slice (some ⟨g, off, none⟩) n cap) ov mv D ∧ MapB wr fb 1 (fun x => [1].contains x) ∧ MapI wr mb (manyTo S k ++ if dv then (List.range j).map (S.enu k) else []).length (fun x => ((manyTo S k ++ if dv then (List.range j).map (S.enu k) else []).count x : Nat)) ∧ Blk wr xg 56 #[.int .i64 x, .bool dv, .slice EA ne ecap, .string dt]) (fun i _ => ne - (intOf i).toNat)
        case atStart => exact ⟨0, rfl, by omega, HAX.out, HBX.out, by simpa using HIX.out, HX.out⟩
        case round =>
          obtain ⟨j, rfl, hj, hat, hmB, hmI, hbx⟩ := hrel
          have HAT := Lib.hid hat
          have HMB := Lib.hid hmB
          have HBL := Lib.hid hbx
          by_cases hpj : j < ne
          · have HMI := Lib.hid hmI
            clear hat hmB hmI hbx HAX HBX HIX HX
            obtain ⟨-, -, eg, eoff, rfl, hcell⟩ := (HENT.out.keep HAT.out.1.bel).at_ hpj
            have q0 : wr.cell? ⟨eg, eoff + j * 2, none⟩ = some (.string (S.enm k j)) := hcell 0 (by omega)
            have q1 : wr.cell? ⟨eg, eoff + j * 2 + 1, none⟩ = some (.int .i64 (S.enu k j)) := hcell 1 (by omega)
            have hp2 : (j : Int) < ne := by omega
            have hnu := HEU.out j
            have HSJ := Lib.hid (HSN.out j)
            clear hcell
            generalize S.enm k j = nm at *
            generalize S.enu k j = nu at *
            have HBL2 := Lib.hid (HBL.out.alloc (Obj.cells #[.string nm, .int .i64 nu] 58))
            have HAT2 := Lib.hid (HAT.out.alloc (Obj.cells #[.string nm, .int .i64 nu] 58))
            have HMB2 := Lib.hid (HMB.out.alloc (Obj.cells #[.string nm, .int .i64 nu] 58))
            have HMI2 := Lib.hid (HMI.out.alloc (Obj.cells #[.string nm, .int .i64 nu] 58))
            have x1 : (wr.alloc (Obj.cells #[.string nm, .int .i64 nu] 58)).cell? ⟨xg, 1, none⟩ = some (.bool dv) := HBL2.out.cell 1
            clear HBL HAT HMB HMI
            rcases bool_tf dv with rfl | rfl
            · have HL := Lib.hid (show (manyTo S k ++ (List.range (j + 1)).map (S.enu k)) = (manyTo S k ++ (List.range j).map (S.enu k)) ++ [nu] by rw [HSJ.out, List.append_assoc])
              have HMI2 := Lib.hid (show MapI (wr.alloc (Obj.cells #[.string nm, .int .i64 nu] 58)) mb (manyTo S k ++ (List.range j).map (S.enu k)).length (fun x => ((manyTo S k ++ (List.range j).map (S.enu k)).count x : Nat)) from HMI2.out)
              have HLL := Lib.hid (show (manyTo S k ++ (List.range j).map (S.enu k)).length ≤ 1001000 by rw [List.length_append, List.length_map, List.length_range]; have := HML.out; omega)
              generalize manyTo S k ++ (List.range j).map (S.enu k) = L at *
              have hlook := HMI2.out.look hnu
              have hcl : (L.count nu : Int) ≤ 1001000 := by have := List.count_le_length (a := nu) (l := L); have := HLL.out; omega
              have hc0 : (0 : Int) ≤ (L.count nu : Int) := by omega
              have HK := Lib.hid (show ∀ y : Int, y = (L.count nu : Int) + 1 → ∀ z, (if z = nu then y else (L.count z : Int)) = ((L ++ [nu]).count z : Nat) from fun y hy z => by rw [count_snoc, hy])
              generalize hcn : (L.count nu : Int) = cn at *
              have HCN := Lib.hid hcn
              clear hcn
              go_wp2_with (at_mapUpdate; refine wpList_setI _ rfl (.tmp 38) (.tmp 40) (.tmp 42) rfl mb L.length _ rfl HMI2.out (by have := HLL.out; omega) nu hnu rfl (cn + 1) ⟨by omega, by omega⟩ rfl ?_; intro w5 hM5 hG5)
              have hob := HMI2.out.obj
              have HR1 := Lib.hid (HAT2.out.turn hob hmb hw0 hG5)
              have HR2 := Lib.hid (HMB2.out.kept hG5 (fun e => hfm (Option.some.inj e)))
              have HR3 := Lib.hid (show MapI w5 mb (L ++ [nu]).length (fun x => ((L ++ [nu]).count x : Nat)) from by
                have := hM5.congr (fun z => HK.out (cn + 1) rfl z)
                simpa using this)
              have HR4 := Lib.hid (HBL2.out.turn hob hG5)
              clear hM5 hG5 hob hlook
              go_wp2_with (fail)
              go_roundw
              case rel => exact ⟨j + 1, by go_num, by omega, HR1.out, HR2.out, by rw [HL.out]; exact HR3.out, HR4.out⟩
              case measure =>
                simp only [intOf]
                omega
            · go_wp2_with (fail)
              go_roundw
              case rel => exact ⟨j + 1, by go_num, by omega, HAT2.out, HMB2.out, HMI2.out, HBL2.out⟩
              case measure =>
                simp only [intOf]
                omega
          · have e : j = ne := by omega
            subst e
            have HMI := Lib.hid (show MapI wr mb (manyTo S (k + 1)).length (fun x => ((manyTo S (k + 1)).count x : Nat)) by rw [HMS.out, HEO.out]; exact hmI)
            clear hat hmB hmI hbx HAX HBX HIX HX
            go_wp2_with (fail)
            go_roundw
            case rel => exact ⟨k + 1, by go_num, by omega, HAT.out, HMB.out, HMI.out⟩
            case measure =>
              simp only [intOf]
              omega
        --]
      · have e : k = n := by omega
        subst e
        have HM := Lib.hid (HMI.out.congr (fun x => (show (((manyTo S k).count x : Nat) : Int) = (manyF S x : Nat) by unfold manyF; rw [HNN.out])))
        clear HMI
        generalize (manyTo S k).length = nm at *
        have HQ := Lib.hid (QS.lit wr 1 HAT.out.2.size)
        have HAQ := Lib.hid (HAT.out.alloc (Obj.cells #[.int .i64 1] 3))
        have HBQ := Lib.hid (HMB.out.alloc (Obj.cells #[.int .i64 1] 3))
        have HIQ := Lib.hid (HM.out.alloc (Obj.cells #[.int .i64 1] 3))
        clear HAT HMB HM
        go_wp2_with (fail)
        obtain ⟨wy, hwy⟩ : ∃ wy, wy = wr.alloc (Obj.cells #[.int .i64 1] 3) := ⟨_, rfl⟩
        rw [← hwy] at HQ HAQ HBQ HIQ ⊢
        clear hwy
        generalize wr.heap.size = tb at *
        go_loopg [10] ((univ S).length + 2) (fun f todo wr => ∃ (F : List Int) (p : Nat), f + p = (univ S).length + 2 ∧ F.length + out (univ S) F ≤ (univ S).length + 1 ∧ p ≤ F.length ∧ foundF S = bfs S f F p ∧ At w0 w wr c sb (.slice A k cap) ov mv D ∧ QS wr w.heap.size todo (F.drop p) ∧ MapB wr fb F.length (fun x => F.contains x) ∧ MapI wr mb nm (fun x => (manyF S x : Nat)))
        case atStart => exact ⟨[1], 0, by omega, (by have := List.length_filter_le (fun x => !([1] : List Int).contains x) (univ S); unfold out; simp only [List.length_singleton]; omega), by simp, rfl, HAQ.out, HQ.out, HBQ.out, HIQ.out⟩
        case round =>
          obtain ⟨F, p, hf, hF, hpF, hbf, hat, hq, hmB, hmI⟩ := hrel
          have HAT := Lib.hid hat
          have HMB := Lib.hid hmB
          have HMI := Lib.hid hmI
          have HQ := Lib.hid hq
          have HBF := Lib.hid hbf
          have HFB := Lib.hid hF
          have HFP := Lib.hid hf
          obtain ⟨tg, toff, tcap, rfl, htc, htcell⟩ := hq.form
          clear hat hmB hmI hq hbf hF hf HAQ HBQ HIQ
          by_cases hp2 : p < F.length
          · obtain ⟨x, rest, hd⟩ : ∃ x rest, F.drop p = x :: rest := ⟨F[p], F.drop (p + 1), List.drop_eq_getElem_cons hp2⟩
            have hx := htcell 0 x (by rw [hd]; rfl)
            have HFX := Lib.hid (show F[p]? = some x by have := congrArg (fun l => l[0]?) hd; simpa using this)
            have HRS := Lib.hid (show rest = F.drop (p + 1) by have := congrArg List.tail hd; simpa using this.symm)
            rw [Nat.add_zero] at hx
            clear htcell
            have htn : 0 < (F.drop p).length := by rw [hd]; simp
            have htn2 : (0 : Int) < ((F.drop p).length : Int) := by omega
            have HTL := Lib.hid (show (F.drop p).length = rest.length + 1 by rw [hd]; rfl)
            have HDD := Lib.hid hd
            clear hd
            generalize (F.drop p).length = tl at *
            obtain ⟨wo, rfl⟩ : ∃ wo : World, wo = wr := ⟨_, rfl⟩
            go_upto_block 5 with (fail)
            go_cut [10] (fun todo wx => ∃ F' : List Int, F' = addAll F (kids S x) ∧ F'.length + out (univ S) F' ≤ (univ S).length + 1 ∧ p < F'.length ∧ At w0 w wx c sb (.slice A k cap) ov mv D ∧ QS wx w.heap.size todo (F'.drop p) ∧ MapB wx fb F'.length (fun x => F'.contains x) ∧ MapI wx mb nm (fun x => (manyF S x : Nat)))
            case first =>
              have hnr := HNN.out
              have HII := Lib.hid (show RowAt wo (.slice A k cap) S.inodes.length 4 (inoC S ev) by rw [hnr]; exact HI.out.keep HAT.out.1.bel)
              clear hnr
              rcases hfi : firstIx S x with _ | i
              · have HF := Lib.hid (first_none HAT.out.1.c0 HAT.out.1.s0 HII.out HN0.out hfi)
                have HKI := Lib.hid (show addAll F (kids S x) = F by unfold kids; rw [hfi]; rfl)
                clear hfi
                go_wp2_with (go_at_call 72; refine HF.out.mono ?_; rintro e w' ⟨rfl, hw⟩; obtain rfl := hw.symm)
                go_meet
                case rel => exact ⟨F, HKI.out.symm, HFB.out, hp2, HAT.out, HQ.out, HMB.out, HMI.out⟩
              · obtain ⟨g, off, rfl, hil, _, hcall⟩ := first_some HAT.out.1.c0 HAT.out.1.s0 HII.out HN0.out hfi
                have HF := Lib.hid hcall
                obtain ⟨-, -, g', off', e, hcell⟩ := HII.out.at_ hil
                injection e with e
                injection e with e1 e2
                subst e1 e2
                have y1 : wo.cell? ⟨g, off + i * 4 + 1, none⟩ = some (.bool (S.dir i)) := hcell 1 (by omega)
                have y2 : wo.cell? ⟨g, off + i * 4 + 2, none⟩ = some (ev i) := hcell 2 (by omega)
                have HKI := Lib.hid (show kids S x = if S.dir i then entsOf S i else [] by unfold kids; rw [hfi])
                have hent := HS.out.ent i hil
                obtain ⟨EA, ecap, hev⟩ := hent.form
                rw [hev] at y2 hent
                have hne := HSm.out.en i
                have HENT := Lib.hid hent
                have HSN := Lib.hid (entsTo_snoc S i)
                have HEU := Lib.hid (fun j => HSm.out.enu i j)
                have HMU := Lib.hid (fun j (h : j < S.ne i) => mem_univ hil h)
                have HEO := Lib.hid (show entsOf S i = (List.range (S.ne i)).map (S.enu i) from rfl)
                clear hfi hcall hcell hent hev
                generalize S.ne i = ne at *
                generalize S.dir i = dv at *
                rcases bool_tf dv with rfl | rfl
                · go_wp2_with (go_at_call 72; refine HF.out.mono ?_; rintro e w' ⟨rfl, hw⟩; obtain rfl := hw.symm)
                  clear hx y1 y2 HF
                  go_loopw [10, 70] (fun todo kk wr => ∃ (j : Nat) (Fj : List Int), kk = .int .i64 j ∧ j ≤ ne ∧ Fj = addAll F ((List.range j).map (S.enu i)) ∧ Fj.length + out (univ S) Fj ≤ (univ S).length + 1 ∧ p < Fj.length ∧ At w0 w wr c sb (.slice (some ⟨g, off, none⟩) k cap) ov mv D ∧ QS wr w.heap.size todo (Fj.drop p) ∧ MapB wr fb Fj.length (fun x => Fj.contains x) ∧ MapI wr mb nm (fun x => (manyF S x : Nat))) (fun _ kk _ => ne - (intOf kk).toNat)
                  case atStart => exact ⟨0, F, rfl, by omega, rfl, HFB.out, hp2, HAT.out, HQ.out, HMB.out, HMI.out⟩
                  case round =>
                    obtain ⟨j, Fj, rfl, hj, hFj, hFjb, hpj, hat, hq, hmB, hmI⟩ := hrel
                    have HAT := Lib.hid hat
                    have HMB := Lib.hid hmB
                    have HMI := Lib.hid hmI
                    have HQ := Lib.hid hq
                    have HFJ := Lib.hid hFj
                    have HFJB := Lib.hid hFjb
                    clear hat hmB hmI hq hFj hFjb
                    by_cases hlt : j < ne
                    · obtain ⟨-, -, eg, eoff, rfl, hcell⟩ := (HENT.out.keep HAT.out.1.bel).at_ hlt
                      have r0 : wr.cell? ⟨eg, eoff + j * 2, none⟩ = some (.string (S.enm i j)) := hcell 0 (by omega)
                      have r1 : wr.cell? ⟨eg, eoff + j * 2 + 1, none⟩ = some (.int .i64 (S.enu i j)) := hcell 1 (by omega)
                      have hlt2 : (j : Int) < ne := by omega
                      have hnu := HEU.out j
                      have HMX := Lib.hid (HMU.out j hlt)
                      have HSJ := Lib.hid (show addAll F ((List.range (j + 1)).map (S.enu i)) = add1 Fj (S.enu i j) by rw [HSN.out j, addAll_snoc, ← HFJ.out])
                      clear hcell HFJ
                      generalize S.enm i j = nme at *
                      generalize S.enu i j = nu at *
                      have HE := Lib.hid (Blk.new wr 58 #[.string nme, .int .i64 nu])
                      have HAT2 := Lib.hid (HAT.out.alloc (Obj.cells #[.string nme, .int .i64 nu] 58))
                      have HMB2 := Lib.hid (HMB.out.alloc (Obj.cells #[.string nme, .int .i64 nu] 58))
                      have HMI2 := Lib.hid (HMI.out.alloc (Obj.cells #[.string nme, .int .i64 nu] 58))
                      have HQ2 := Lib.hid (HQ.out.alloc (Obj.cells #[.string nme, .int .i64 nu] 58))
                      have hwr : w.heap.size ≤ wr.heap.size := HAT.out.2.size
                      clear HAT HMB HMI HQ
                      have hlook := HMB2.out.look hnu
                      generalize hcb : Fj.contains nu = cb at hlook
                      have HCB := Lib.hid hcb
                      clear hcb
                      have HUL := Lib.hid (univ_len S HSm.out)
                      rcases bool_tf cb with rfl | rfl
                      · have HS1 := Lib.hid (show Fj = addAll F ((List.range (j + 1)).map (S.enu i)) by rw [HSJ.out]; unfold add1; rw [if_pos HCB.out])
                        go_wp2_with (fail)
                        go_roundw
                        case rel => exact ⟨j + 1, Fj, by go_num, by omega, HS1.out, HFJB.out, hpj, HAT2.out, HQ2.out, HMB2.out, HMI2.out⟩
                        case measure =>
                          simp only [intOf]
                          omega
                      · have HS1 := Lib.hid (show Fj ++ [nu] = addAll F ((List.range (j + 1)).map (S.enu i)) by rw [HSJ.out]; unfold add1; rw [if_neg (by rw [HCB.out]; decide)])
                        have HO := Lib.hid (add1_out HMX.out HCB.out)
                        have hbase : w.heap.size ≤ wr.heap.size := hwr
                        have HLB := Lib.hid (show (Fj.drop p).length ≤ 1000000000 by rw [List.length_drop]; have := HFJB.out; have := HUL.out; omega)
                        go_wp2_with (first | (at_mapUpdate; refine wpList_setB _ rfl (.tmp 79) (.tmp 81) (.const (.bool true)) (.inl rfl) fb Fj.length _ rfl HMB2.out (by have := HFJB.out; have := HUL.out; omega) nu hnu rfl true rfl ?_; intro w5 hM5 hG5; have e1 : w5.cell? ⟨wr.heap.size, 1, none⟩ = some (.int .i64 nu) := (HE.out.turn HMB2.out.obj hG5).cell 1) | (at_builtin; refine wpList_push _ rfl (.tmp 82) (.tmp 85) rfl w.heap.size _ _ rfl ((HQ2.out.turn HMB2.out.obj hG5).alloc (Obj.cells #[.int .i64 nu] 3)) HLB.out (by have := hG5.size; simp at this ⊢; omega) w5.heap.size nu rfl ((Blk.new w5 3 #[.int .i64 nu]).cell 0) ?_; intro v6 w6 row6 hQ6 hG6 hR6))
                        have hob := HMB2.out.obj
                        have hbi := (HMI2.out.kept hG5 (fun e => hfm (Option.some.inj e).symm))
                        have HR1 := Lib.hid (((HAT2.out.turn hob hfb hw0 hG5).alloc (Obj.cells #[.int .i64 nu] 3)).row hw0 hG6 hR6)
                        have HR2 := Lib.hid ((hM5.alloc (Obj.cells #[.int .i64 nu] 3)).row hG6 hR6)
                        have HR3 := Lib.hid ((hbi.alloc (Obj.cells #[.int .i64 nu] 3)).row hG6 hR6)
                        have HR5 := Lib.hid (show QS w6 w.heap.size v6 ((Fj ++ [nu]).drop p) by rw [List.drop_append_of_le_length (by omega)]; exact hQ6)
                        clear hQ6 hG6 hR6 hM5 hG5 hbi hob e1 hlook
                        go_wp2_with (fail)
                        go_roundw
                        case rel => exact ⟨j + 1, Fj ++ [nu], by go_num, by omega, HS1.out, Nat.le_trans HO.out HFJB.out, by simp; omega, HR1.out, HR5.out, by rw [show (Fj ++ [nu]).length = Fj.length + 1 by simp]; exact HR2.out.congr (fun z => (contains_snoc Fj nu z).symm), HR3.out⟩
                        case measure =>
                          simp only [intOf]
                          omega
                    · have e : j = ne := by omega
                      subst e
                      have HFE := Lib.hid (show Fj = addAll F (kids S x) by rw [HFJ.out, HKI.out, HEO.out]; simp)
                      go_wp2_with (fail)
                      go_meet
                      case rel => exact ⟨Fj, HFE.out, HFJB.out, hpj, HAT.out, HQ.out, HMB.out, HMI.out⟩
                · have HKI := Lib.hid (show addAll F (kids S x) = F by rw [HKI.out, if_neg (by decide)]; rfl)
                  go_wp2_with (go_at_call 72; refine HF.out.mono ?_; rintro e w' ⟨rfl, hw⟩; obtain rfl := hw.symm)
                  go_meet
                  case rel => exact ⟨F, HKI.out.symm, HFB.out, hp2, HAT.out, HQ.out, HMB.out, HMI.out⟩
            case rest =>
              obtain ⟨F', hF', hFB', hp3, hat, hq, hmB, hmI⟩ := hcut
              have HAT2 := Lib.hid hat
              have HMB2 := Lib.hid hmB
              have HMI2 := Lib.hid hmI
              have HFB2 := Lib.hid hFB'
              obtain ⟨f, hff⟩ : ∃ f, gk = f + 1 := ⟨gk - 1, by
                have h1 := HFP.out
                have h2 := HFB.out
                omega⟩
              have HBN := Lib.hid (show foundF S = bfs S f F' (p + 1) by
                rw [HBF.out, hff, hF']
                show (match F[p]? with
                  | some x => bfs S f (addAll F (kids S x)) (p + 1)
                  | none => F) = _
                rw [HFX.out])
              have HFF := Lib.hid (show f + (p + 1) = (univ S).length + 2 by have := HFP.out; omega)
              have HFG := Lib.hid (show f < gk by omega)
              obtain ⟨y, rest', hd⟩ : ∃ y rest', F'.drop p = y :: rest' := ⟨F'[p], F'.drop (p + 1), List.drop_eq_getElem_cons hp3⟩
              have HR2 := Lib.hid (show rest' = F'.drop (p + 1) by have := congrArg List.tail hd; simpa using this.symm)
              rw [hd] at hq
              obtain ⟨qg, qo, qc, rfl, hqc, _⟩ := hq.form
              have HT := Lib.hid hq.tail
              simp only [List.length_cons] at hqc HT ⊢
              clear hat hq hmB hmI hFB' hF' hff hd HAT HMB HMI HQ HBF HFX HRS HFP hx
              generalize rest'.length = rl at *
              by_cases hc1 : qc = 1
              · subst hc1
                have e : rl = 0 := by omega
                subst e
                go_wp2_with (fail)
                go_roundg f
                case measure => exact HFG.out
                case rel => exact ⟨F', p + 1, HFF.out, HFB2.out, hp3, HBN.out, HAT2.out, HR2.out ▸ HT.out.1 (by first | rfl | trivial), HMB2.out, HMI2.out⟩
              · go_wp2_with (fail)
                go_roundg f
                case measure => exact HFG.out
                case rel => exact ⟨F', p + 1, HFF.out, HFB2.out, hp3, HBN.out, HAT2.out, HR2.out ▸ HT.out.2 hc1, HMB2.out, HMI2.out⟩
          · have hz : (F.drop p).length = 0 := by rw [List.length_drop]; omega
            have HFE := Lib.hid (show foundF S = F by
              rw [HBF.out]
              have hn : F[p]? = none := List.getElem?_eq_none (by omega)
              cases gk with
              | zero => rfl
              | succ f => show (match F[p]? with
                  | some x => bfs S f (addAll F (kids S x)) (p + 1)
                  | none => F) = F
                          rw [hn])
            rw [hz]
            clear htcell hz
            go_wp2_with (fail)
            go_ret2
            exact ⟨fb, mb, _, _, rfl, by rw [HNN.out]; exact HAT.out, HMB.out.congr (fun x => by unfold foundB; rw [HFE.out]), HMI.out⟩
end Go.Proofs.Ytenlffhoinialaa
