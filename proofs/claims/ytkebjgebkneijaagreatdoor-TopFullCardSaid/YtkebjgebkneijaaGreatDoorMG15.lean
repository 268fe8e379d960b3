/- Texts of one's own that a claim's last text rests on: CkBod CkState. -/
import Derived.Test.YtkebjgebkneijaaGreatDoorMG3
import Derived.IntWalk
import Derived.Test.YtkebjgebkneijaaGreatDoorMG14
set_option linter.unusedVariables false
set_option linter.unusedSimpArgs false
namespace Go.Proofs.YtkebjgebkneijaaGreatDoor
section
open Go.RowKit
set_option maxHeartbeats 2000000
attribute [local go_sem ↓] Go.wp_at_zero Go.wp_at_succ
theorem below_draw {w w' : World} (h : Below w.heap.size w w') : Below w.heap.size w w'.drew := ⟨h.os, h.tape, h.output, h.size, h.block⟩
theorem below_undraw {w w' : World} (h : Below w.drew.heap.size w.drew w') : Below w.heap.size w w' := ⟨h.os, h.tape, h.output, h.size, h.block⟩
set_option maxRecDepth 1000000 in
theorem bodies_calls {w0 w : World} {c sb : Nat} {iv ov mv : Value} {ev : Nat -> Value} {S : St} {D : List Fnd} (h : Ck w0 w c sb iv ov mv D) (hS : StM w0 iv ov mv ev S) (hs : S.small) (hD : D.length <= 100000000) :
  Calls Tryz.prog 31 #[.pointer (some ⟨c, 0, none⟩)] w fun e w' => e = .returned (.tuple #[]) /\ At w0 w w' c sb iv ov mv (D ++ bodiesF S) := by
 obtain ⟨A, cap, rfl⟩ := hS.ino.form
 have hn := hs.ni
 have HN0 := lhi hs.ni
 have HC := lhi h
 have hw0 : w0.heap.size <= w.heap.size := h.bel.size
 have HS := lhi hS
 have HSm := lhi hs
 clear h hS hs
 have HNF := lhi (show bodiesF S = (List.range S.inodes.length).flatMap (bodyAt S) from rfl)
 obtain ⟨n, hnn⟩ : ∃ n, S.inodes.length = n := ⟨_, rfl⟩
 rw [hnn] at hn HNF HC HS
 have c0 := HC.out.c0
 have s0 := HC.out.s0
 have HI := lhi (show RowAt w0 (.slice A n cap) n 4 (inoC S ev) from hnn ▸ HS.out.ino)
 have HNN := lhi hnn
 clear hnn
 go_enter Tryz.func31, Tryz.ntmps31
 go_wp2_with (fail)
 clear c0 s0
 go_loopw [16] (fun i wr => ∃ k : Nat, i = .int .i64 k /\ k <= n /\ At w0 w wr c sb (.slice A n cap) ov mv (D ++ (List.range k).flatMap (bodyAt S))) (fun i _ => n - (intOf i).toNat)
 case atStart => exact ⟨0, rfl, by omega, by simpa using At.start HC.out⟩
 case round =>
  obtain ⟨k, rfl, hk, hat⟩ := hrel
  have HAT := lhi hat
  have HLK := lhi (show (D ++ (List.range k).flatMap (bodyAt S)).length <= 104000000 by rw [List.length_append]; have := flat_len (bodyAt_len S HSm.out) k; omega)
  have HFS := lhi (flat_succ (bodyAt S) k)
  clear hat
  by_cases hp : k < n
  ·obtain ⟨D1, hD1⟩ : ∃ D1, D1 = D ++ (List.range k).flatMap (bodyAt S) := ⟨_, rfl⟩
   rw [<- hD1] at HAT HLK
   have HD1 := lhi (show D ++ (List.range (k + 1)).flatMap (bodyAt S) = D1 ++ bodyAt S k by rw [HFS.out, hD1, List.append_assoc])
   clear hD1 HFS HC
   obtain ⟨-, hcap, g, off, rfl, hcell⟩ := (HI.out.keep HAT.out.1.bel).at_ hp
   have q0 : wr.cell? ⟨g, off + k * 4, none⟩ = some (.int .i64 (S.num k)) := hcell 0 (by omega)
   have q1 : wr.cell? ⟨g, off + k * 4 + 1, none⟩ = some (.bool (S.dir k)) := hcell 1 (by omega)
   have q2 : wr.cell? ⟨g, off + k * 4 + 2, none⟩ = some (ev k) := hcell 2 (by omega)
   have q3 : wr.cell? ⟨g, off + k * 4 + 3, none⟩ = some (.string (S.dat k)) := hcell 3 (by omega)
   have hp1 : (k : Int) < n := by omega
   clear hcell
   have hent := HS.out.ent k (by rw [HNN.out]; exact hp)
   obtain ⟨EA, ecap, hev⟩ := hent.form
   rw [hev] at q2 hent
   have hne := HSm.out.en k
   have HENT := lhi hent
   have HB6 := lhi (show b6 S k = ((S.dir k && !(S.dat k).toList.isEmpty) || (!S.dir k && decide (0 < S.ne k)) || decide (256 < (S.dat k).size)) from rfl)
   have HBA := lhi (show bodyAt S k = one 6 (S.num k) nm0 (b6 S k) ++ if S.dir k then (List.range (S.ne k)).flatMap (entAt S k) else [] from rfl)
   have HEA := lhi (fun j => (show entAt S k j = one 2 (S.num k) (S.enm k j) (b2 S k j) ++ one 5 (S.num k) (S.enm k j) (b5 S k j) ++ one 7 (S.num k) nm0 (b7 S k j) from rfl))
   have HELEN := lhi (entAt_len S k)
   clear hent hev
   generalize entAt S k = entF at *
   generalize hnee : S.ne k = ne at *
   have HNE := lhi hnee
   clear hnee
   generalize S.num k = x at *
   generalize S.dir k = dv at *
   generalize S.dat k = dt at *
   generalize b6 S k = bb at *
   have HX := lhi (Blk.new wr 72 #[.int .i64 x, .bool dv, .slice EA ne ecap, .string dt])
   generalize ho : Obj.cells #[Value.int IntKind.i64 x, Value.bool dv, Value.slice EA ne ecap, Value.string dt] 72 = OX at HX
   have HO := lhi ho
   have HAX := lhi (HAT.out.alloc OX)
   go_upto_region 3 with (fail)
   go_cut [43] (fun s wx => s = .bool bb /\ wr.alloc OX = wx)
   case first =>
    have x1 : (wr.alloc OX).cell? ⟨wr.heap.size, 1, none⟩ = some (.bool dv) := HX.out.cell 1
    have x2 : (wr.alloc OX).cell? ⟨wr.heap.size, 2, none⟩ = some (.slice EA ne ecap) := HX.out.cell 2
    have x3 : (wr.alloc OX).cell? ⟨wr.heap.size, 3, none⟩ = some (.string dt) := HX.out.cell 3
    clear q0 q1 q2 q3 ho
    generalize wr.alloc OX = wy at *
    rcases bool_tf dv with rfl | rfl
    ·by_cases hd : dt.toList = []
     ·have hd2 : (!dt.toList.isEmpty) = false := by simp [hd]
      have hz : dt.size = 0 := by have := congrArg List.length hd; rw [ByteArray.toList_eq] at this; simpa using this
      have hz2 : ¬ (256 : Int) < (dt.size : Int) := by omega
      have HZ := lhi hz
      clear hz
      go_wp2_with (fail)
      go_meet
      case rel => exact ⟨by rw [HB6.out, hd2]; have := HZ.out; simp; omega, rfl⟩
     ·have hd2 : (!dt.toList.isEmpty) = true := by simp [hd]
      go_wp2_with (fail)
      go_meet
      case rel => exact ⟨by rw [HB6.out, hd2]; rfl, rfl⟩
    ·by_cases hz : (0 : Int) < (ne : Int)
     ·go_wp2_with (fail)
      go_meet
      case rel => exact ⟨by rw [HB6.out, decide_eq_true (show 0 < ne by omega)]; rfl, rfl⟩
     ·go_wp2_with (fail)
      go_meet
      case rel => exact ⟨by rw [HB6.out, decide_eq_false (show ¬ 0 < ne by omega)]; simp; omega, rfl⟩
   case rest =>
    obtain ⟨rfl, rfl⟩ := hcut
    have hxg : w.heap.size <= wr.heap.size := HAT.out.2.size
    clear q0 q1 q2 q3 ho HO HAT
    generalize wr.alloc OX = wy at *
    generalize wr.heap.size = xg at *
    go_upto_if 43 with (fail)
    go_cut [] (fun wx => At w0 w wx c sb (.slice (some ⟨g, off, none⟩) n cap) ov mv (D1 ++ one 6 x nm0 bb) /\ Blk wx xg 72 #[.int .i64 x, .bool dv, .slice EA ne ecap, .string dt])
    case first =>
     rcases bool_tf bb with rfl | rfl
     ·have x0 : wy.cell? ⟨xg, 0, none⟩ = some (.int .i64 x) := HX.out.cell 0
      have HA := lhi (add_calls HAX.out.1 (by have := HLK.out; omega) 6 x nm0)
      go_wp2_with (fail)
      refine HA.out.mono ?_
      rintro e w1 ⟨rfl, h1, h2⟩
      go_wp2_with (fail)
      go_meet
      case rel => exact ⟨HAX.out.to h1 h2, h2.blk HX.out (by decide) (by decide)⟩
     ·have HD := lhi (one_false D1 6 x nm0 rfl)
      go_wp2_with (fail)
      go_meet
      case rel => exact ⟨HD.out ▸ HAX.out, HX.out⟩
    case rest =>
     have HAZ := lhi hcut.1
     have HXZ := lhi hcut.2
     obtain ⟨D2, hD2⟩ : ∃ D2, D2 = D1 ++ one 6 x nm0 bb := ⟨_, rfl⟩
     have HLZ := lhi (show D2.length <= 104000001 by rw [hD2, List.length_append]; have := one_len 6 x nm0 bb; have := HLK.out; omega)
     rw [<- hD2] at HAZ
     have HD2 := lhi hD2
     clear hcut HAX HX HLK hD2 HB6
     have x1 : wc.cell? ⟨xg, 1, none⟩ = some (.bool dv) := HXZ.out.cell 1
     have x2 : wc.cell? ⟨xg, 2, none⟩ = some (.slice EA ne ecap) := HXZ.out.cell 2
     rcases bool_tf dv with rfl | rfl
     ·have HE := lhi (show ∀ L, L = (List.range ne).flatMap entF -> D ++ (List.range (k + 1)).flatMap (bodyAt S) = D2 ++ L by rintro L rfl; rw [HD1.out, HBA.out, HD2.out, if_pos rfl, List.append_assoc])
      have HBS := lhi (show Blk (wc.alloc (Obj.cells #[.int .i64 0, .int .i64 0, .int .i64 0, .int .i64 0, .int .i64 0, .int .i64 0, .int .i64 0, .int .i64 0] 147)) wc.heap.size 147 (cntA fun _ => 0) from Blk.new wc 147 (cntA fun _ => 0))
      have HXS := lhi (HXZ.out.alloc (Obj.cells #[.int .i64 0, .int .i64 0, .int .i64 0, .int .i64 0, .int .i64 0, .int .i64 0, .int .i64 0, .int .i64 0] 147))
      have HAS := lhi (HAZ.out.alloc (Obj.cells #[.int .i64 0, .int .i64 0, .int .i64 0, .int .i64 0, .int .i64 0, .int .i64 0, .int .i64 0, .int .i64 0] 147))
      have x2s : (wc.alloc (Obj.cells #[.int .i64 0, .int .i64 0, .int .i64 0, .int .i64 0, .int .i64 0, .int .i64 0, .int .i64 0, .int .i64 0] 147)).cell? ⟨xg, 2, none⟩ = some (.slice EA ne ecap) := HXS.out.cell 2
      have hsl : w.heap.size <= wc.heap.size := HAZ.out.2.size
      clear x2 HXZ HAZ
      go_wp2_with (fail)
      clear x1 x2s
      generalize wc.alloc (Obj.cells #[.int .i64 0, .int .i64 0, .int .i64 0, .int .i64 0, .int .i64 0, .int .i64 0, .int .i64 0, .int .i64 0] 147) = wl at *
      generalize wc.heap.size = sl at *
      go_loopw [54] (fun i wr => ∃ j : Nat, i = .int .i64 j /\ j <= ne /\ At w0 w wr c sb (.slice (some ⟨g, off, none⟩) n cap) ov mv (D2 ++ (List.range j).flatMap entF) /\ Blk wr xg 72 #[.int .i64 x, .bool true, .slice EA ne ecap, .string dt] /\ Blk wr sl 147 (cntA (cnt S k j))) (fun i _ => ne - (intOf i).toNat)
      case atStart => exact ⟨0, rfl, by omega, by simpa using HAS.out, HXS.out, HBS.out⟩
      case round =>
       obtain ⟨j, rfl, hj, hat, hbx, hbs⟩ := hrel
       have HAT := lhi hat
       have HBX := lhi hbx
       have HBS := lhi hbs
       have HLK := lhi (show (D2 ++ (List.range j).flatMap entF).length <= 104004000 by rw [List.length_append]; have := flat_len HELEN.out j; have := HLZ.out; omega)
       have HFS := lhi (flat_succ entF j)
       clear hat hbx hbs HAS HXS
       by_cases hp : j < ne
       ·obtain ⟨-, -, eg, eoff, rfl, hcell⟩ := (HENT.out.keep HAT.out.1.bel).at_ hp
        have q0 : wr.cell? ⟨eg, eoff + j * 2, none⟩ = some (.string (S.enm k j)) := hcell 0 (by omega)
        have q1 : wr.cell? ⟨eg, eoff + j * 2 + 1, none⟩ = some (.int .i64 (S.enu k j)) := hcell 1 (by omega)
        have hp2 : (j : Int) < ne := by omega
        clear hcell
        obtain ⟨Dj, hDj⟩ : ∃ Dj, Dj = D2 ++ (List.range j).flatMap entF := ⟨_, rfl⟩
        rw [<- hDj] at HAT HLK
        have HDJ := lhi (show D2 ++ (List.range (j + 1)).flatMap entF = Dj ++ entF j by rw [HFS.out, hDj, List.append_assoc])
        clear hDj HFS
        have HEJ := lhi (HEA.out j)
        obtain ⟨bb2, hb2⟩ : ∃ b, b = b2 S k j := ⟨_, rfl⟩
        obtain ⟨bb5, hb5⟩ : ∃ b, b = b5 S k j := ⟨_, rfl⟩
        obtain ⟨bb7, hb7⟩ : ∃ b, b = b7 S k j := ⟨_, rfl⟩
        rw [<- hb2, <- hb5, <- hb7] at HEJ
        have HB2 := lhi (show bb2 = (S.enu k j == 1 || (firstIx S (S.enu k j)).isNone) from hb2)
        have HB5 := lhi (show bb5 = (!(ncheck (S.enm k j) == 0) || (decide (0 < j) && nle (S.enm k j) (S.enm k (j - 1)))) from hb5)
        have HB7 := lhi (show bb7 = (cnt S k j (nbucket (S.enm k j)) == 4) from hb7)
        clear hb2 hb5 hb7
        have HCS := lhi (cnt_succ S k j)
        have hnb := nbucket_lt (S.enm k j)
        have HCL := lhi (cnt_le S k j)
        have hxg2 : w.heap.size <= wr.heap.size := HAT.out.2.size
        generalize S.enm k j = nm at *
        generalize S.enu k j = nu at *
        have HE := lhi (Blk.new wr 141 #[.string nm, .int .i64 nu])
        have HAX := lhi (HAT.out.alloc (Obj.cells #[.string nm, .int .i64 nu] 141))
        have HBX2 := lhi (HBX.out.alloc (Obj.cells #[.string nm, .int .i64 nu] 141))
        have HBS2 := lhi (HBS.out.alloc (Obj.cells #[.string nm, .int .i64 nu] 141))
        clear HBX HBS
        go_upto_region 10 with (fail)
        go_cut [68] (fun s wx => s = .bool bb2 /\ wr.alloc (Obj.cells #[.string nm, .int .i64 nu] 141) = wx)
        case first =>
         have e1 : (wr.alloc (Obj.cells #[.string nm, .int .i64 nu] 141)).cell? ⟨wr.heap.size, 1, none⟩ = some (.int .i64 nu) := HE.out.cell 1
         clear q0 q1
         generalize wr.alloc (Obj.cells #[.string nm, .int .i64 nu] 141) = wy at *
         by_cases h1 : nu = 1
         ·have h1' : (nu == 1) = true := by simp [h1]
          have HH := lhi h1
          clear h1
          go_wp2_with (fail)
          go_meet
          case rel => exact ⟨by rw [HB2.out, h1']; rfl, rfl⟩
         ·have h1' : (nu == 1) = false := by simp [h1]
          rcases hfi : firstIx S nu with _ | i
          ·have HF := lhi (first_none HAX.out.1.c0 HAX.out.1.s0 (by rw [HNN.out]; exact HI.out.keep HAX.out.1.bel) HN0.out hfi)
           rw [hfi] at HB2
           clear hfi
           go_wp2_with (go_at_call 73; refine HF.out.mono ?_; rintro e w' ⟨rfl, hw⟩; obtain rfl := hw.symm)
           go_meet
           case rel => exact ⟨by rw [HB2.out, h1']; rfl, rfl⟩
          ·obtain ⟨g', off', e, _, _, hcall⟩ := first_some HAX.out.1.c0 HAX.out.1.s0 (by rw [HNN.out]; exact HI.out.keep HAX.out.1.bel) HN0.out hfi
           have HF := lhi hcall
           rw [hfi] at HB2
           clear hfi e hcall
           go_wp2_with (go_at_call 73; refine HF.out.mono ?_; rintro e w' ⟨rfl, hw⟩; obtain rfl := hw.symm)
           go_meet
           case rel => exact ⟨by rw [HB2.out, h1']; rfl, rfl⟩
        case rest =>
         obtain ⟨rfl, rfl⟩ := hcut
         clear q0 q1 HAT
         generalize wr.alloc (Obj.cells #[.string nm, .int .i64 nu] 141) = wy at *
         generalize wr.heap.size = eb at *
         go_upto_if 68 with (fail)
         go_cut [] (fun wx => At w0 w wx c sb (.slice (some ⟨g, off, none⟩) n cap) ov mv (Dj ++ one 2 x nm bb2) /\ Blk wx xg 72 #[.int .i64 x, .bool true, .slice (some ⟨eg, eoff, none⟩) ne ecap, .string dt] /\ Blk wx sl 147 (cntA (cnt S k j)) /\ Blk wx eb 141 #[.string nm, .int .i64 nu])
         case first =>
          rcases bool_tf bb2 with rfl | rfl
          ·have x0 : wy.cell? ⟨xg, 0, none⟩ = some (.int .i64 x) := HBX2.out.cell 0
           have e0 : wy.cell? ⟨eb, 0, none⟩ = some (.string nm) := HE.out.cell 0
           have HA := lhi (add_calls HAX.out.1 (by have := HLK.out; omega) 2 x nm)
           go_wp2_with (fail)
           refine HA.out.mono ?_
           rintro e w1 ⟨rfl, h1, h2⟩
           go_wp2_with (fail)
           go_meet
           case rel => exact ⟨HAX.out.to h1 h2, h2.blk HBX2.out (by decide) (by decide), h2.blk HBS2.out (by decide) (by decide), h2.blk HE.out (by decide) (by decide)⟩
          ·have HD := lhi (one_false Dj 2 x nm rfl)
           go_wp2_with (fail)
           go_meet
           case rel => exact ⟨HD.out ▸ HAX.out, HBX2.out, HBS2.out, HE.out⟩
         case rest =>
          have HA3 := lhi hcut.1
          have HX3 := lhi hcut.2.1
          have HS3 := lhi hcut.2.2.1
          have HE3 := lhi hcut.2.2.2
          obtain ⟨D3, hD3⟩ : ∃ D3, D3 = Dj ++ one 2 x nm bb2 := ⟨_, rfl⟩
          have HL3 := lhi (show D3.length <= 104004001 by rw [hD3, List.length_append]; have := one_len 2 x nm bb2; have := HLK.out; omega)
          rw [<- hD3] at HA3
          have HD3 := lhi hD3
          clear hcut hD3 HAX HBX2 HBS2 HE HB2 HLK
          obtain ⟨wa, rfl⟩ : ∃ wa : World, wa = wc := ⟨_, rfl⟩
          have e0 : wa.cell? ⟨eb, 0, none⟩ = some (.string nm) := HE3.out.cell 0
          have HM := lhi (may_calls nm)
          go_upto_region 12 with (fail)
          go_cut [94] (fun s wx => s = .bool bb5 /\ Below wa.heap.size wa wx)
          case first =>
           by_cases hm : ncheck nm = 0
           ·have hm' : (ncheck nm == 0) = true := by simp [hm]
            have HM := lhi (by have := HM.out; rewrite [hm'] at this; exact this)
            rw [hm'] at HB5
            clear hm hm'
            by_cases hj0 : 0 < j
            ·obtain ⟨p, rfl⟩ : ∃ p, j = p + 1 := ⟨j - 1, by omega⟩
             obtain ⟨-, -, g', off', e, hcell⟩ := (HENT.out.keep HA3.out.1.bel).at_ (i := p) (by omega)
             injection e with e
             injection e with e1 e2
             subst e1 e2
             have p0 : wa.cell? ⟨eg, eoff + p * 2, none⟩ = some (.string (S.enm k p)) := hcell 0 (by omega)
             have x2 : wa.cell? ⟨xg, 2, none⟩ = some (.slice (some ⟨eg, eoff, none⟩) ne ecap) := HX3.out.cell 2
             have hl1 := World.block_lt_of_cell? wa _ p0
             have hj1 : decide (0 < p + 1) = true := decide_eq_true hj0
             have ej : IntKind.i64.wrap ((p : Int) + 1 - 1) = (p : Int) := by rw [IntWalk.i64_in _ (by omega)]; omega
             have ej2 : IntKind.i64.wrap (p : Int) = (p : Int) := IntWalk.i64_in _ (by omega)
             have ej3 : (0 : Int) <= (p : Int) := by omega
             have ej4 : (p : Int) < (ne : Int) := by omega
             have HB5 := lhi (show bb5 = nle nm (S.enm k p) by have := HB5.out; simpa using this)
             clear hcell
             generalize S.enm k p = pm at *
             go_region_held3 (fun w' => w'.cell? ⟨eb, 0, none⟩ = some (.string nm) /\ w'.cell? ⟨xg, 2, none⟩ = some (.slice (some ⟨eg, eoff, none⟩) ne ecap) /\ w'.cell? ⟨eg, eoff + p * 2, none⟩ = some (.string pm)) (first | exact ⟨e0, x2, p0⟩ | exact ⟨(hB.cell (p := ⟨eb, 0, none⟩) HE3.out.lt).trans e0, (hB.cell (p := ⟨xg, 2, none⟩) HX3.out.lt).trans x2, (hB.cell hl1).trans p0⟩) ((go_at_call 74; refine (HM.out _).mono ?_; rintro e w' ⟨rfl, hB⟩))
             go_wp2_with (fail)
             go_meet
             case rel => exact ⟨by rw [HB5.out]; rfl, by first | exact hB | (exact below_draw hB) | (exact below_undraw hB)⟩
            ·have hj1 : decide (0 < j) = false := decide_eq_false hj0
             refine wp_region_held_drew (S := fun w' => w'.cell? ⟨eb, 0, none⟩ = some (.string nm)) (by kernel_rfl) e0 (fun hHeld => ?_)
             refine wpAnyH_take (i := 0) (oi := ⟨some 75, _, _, _, _, _⟩) (v := .pointer (some ⟨eb, 0, none⟩)) rfl (by kernel_rfl) (by kernel_rfl) (by kernel_rfl) (fun _ _ _ h => h) (Or.inl ⟨by kernel_rfl, fun w hSw => by go_simp⟩) (by assumption) ?_
             simp only [Act.put, lTA, lC0, lCS]
             refine wpAnyH_take (i := 1) (oi := ⟨some 76, _, _, _, _, _⟩) (v := .string nm) rfl (by kernel_rfl) (by kernel_rfl) (by kernel_rfl) (fun _ _ _ h => h) (Or.inl ⟨by kernel_rfl, fun w hSw => by go_simp⟩) (by assumption) ?_
             simp only [Act.put, lTA, lC0, lCS]
             refine wpAnyH_ready (rs := [2]) (by kernel_rfl) (by simp) ?_
             refine AllReadyH.cons rfl (fun K hK => ?_) AllReadyH.nil
             go_simp
             refine (HM.out _).mono ?_
             rintro e w' ⟨rfl, hB⟩
             show K _ w'
             refine hK.out _ _ ((hB.cell (p := ⟨eb, 0, none⟩) HE3.out.lt).trans e0) (fun hHeld => ?_)
             clear hK K
             refine wpAnyH_take (i := 3) (oi := ⟨some 78, _, _, _, _, _⟩) (v := .bool false) rfl (by kernel_rfl) (by kernel_rfl) (by kernel_rfl) (fun _ _ _ h => h) (Or.inl ⟨by kernel_rfl, fun w hSw => by go_simp⟩) (by assumption) ?_
             simp only [Act.put, lTA, lC0, lCS]
             refine wpAnyH_take (i := 4) (oi := ⟨some 79, _, _, _, _, _⟩) (v := .bool false) rfl (by kernel_rfl) (by kernel_rfl) (by kernel_rfl) (fun _ _ _ h => h) (Or.inl ⟨by kernel_rfl, fun w hSw => by go_simp⟩) (by assumption) ?_
             simp only [Act.put, lTA, lC0, lCS]
             refine wpAnyH_take (i := 5) (oi := ⟨some 80, _, _, _, _, _⟩) (v := .int .i64 j) rfl (by kernel_rfl) (by kernel_rfl) (by kernel_rfl) (fun _ _ _ h => h) (Or.inl ⟨by kernel_rfl, fun w hSw => by go_simp⟩) (by assumption) ?_
             simp only [Act.put, lTA, lC0, lCS]
             refine wpAnyH_take (i := 6) (oi := ⟨some 81, _, _, _, _, _⟩) (v := .bool false) rfl (by kernel_rfl) (by kernel_rfl) (by kernel_rfl) (fun _ _ _ h => h) (Or.inl ⟨by kernel_rfl, fun w hSw => by go_simp⟩) (by assumption) ?_
             simp only [Act.put, lTA, lC0, lCS]
             refine wpAnyH_take (i := 7) (oi := ⟨some 82, _, _, _, _, _⟩) (v := .bool false) rfl (by kernel_rfl) (by kernel_rfl) (by kernel_rfl) (fun _ _ _ h => h) (Or.inl ⟨by kernel_rfl, fun w hSw => by go_simp⟩) (by assumption) ?_
             simp only [Act.put, lTA, lC0, lCS]
             refine wpAnyH_take (i := 8) (oi := ⟨some 83, _, _, _, _, _⟩) (v := undef) rfl (by kernel_rfl) (by kernel_rfl) (by kernel_rfl) (fun _ _ _ h => h) (Or.inr ⟨by kernel_rfl, rfl⟩) (by assumption) ?_
             simp only [Act.put, lTA, lC0, lCS]
             refine wpAnyH_take (i := 9) (oi := ⟨some 84, _, _, _, _, _⟩) (v := undef) rfl (by kernel_rfl) (by kernel_rfl) (by kernel_rfl) (fun _ _ _ h => h) (Or.inr ⟨by kernel_rfl, rfl⟩) (by assumption) ?_
             simp only [Act.put, lTA, lC0, lCS]
             refine wpAnyH_take (i := 10) (oi := ⟨some 85, _, _, _, _, _⟩) (v := undef) rfl (by kernel_rfl) (by kernel_rfl) (by kernel_rfl) (fun _ _ _ h => h) (Or.inr ⟨by kernel_rfl, rfl⟩) (by assumption) ?_
             simp only [Act.put, lTA, lC0, lCS]
             refine wpAnyH_take (i := 11) (oi := ⟨some 86, _, _, _, _, _⟩) (v := undef) rfl (by kernel_rfl) (by kernel_rfl) (by kernel_rfl) (fun _ _ _ h => h) (Or.inr ⟨by kernel_rfl, rfl⟩) (by assumption) ?_
             simp only [Act.put, lTA, lC0, lCS]
             refine wpAnyH_take (i := 12) (oi := ⟨some 87, _, _, _, _, _⟩) (v := undef) rfl (by kernel_rfl) (by kernel_rfl) (by kernel_rfl) (fun _ _ _ h => h) (Or.inr ⟨by kernel_rfl, rfl⟩) (by assumption) ?_
             simp only [Act.put, lTA, lC0, lCS]
             refine wpAnyH_take (i := 13) (oi := ⟨some 88, _, _, _, _, _⟩) (v := undef) rfl (by kernel_rfl) (by kernel_rfl) (by kernel_rfl) (fun _ _ _ h => h) (Or.inr ⟨by kernel_rfl, rfl⟩) (by assumption) ?_
             simp only [Act.put, lTA, lC0, lCS]
             refine wpAnyH_take (i := 14) (oi := ⟨some 89, _, _, _, _, _⟩) (v := undef) rfl (by kernel_rfl) (by kernel_rfl) (by kernel_rfl) (fun _ _ _ h => h) (Or.inr ⟨by kernel_rfl, rfl⟩) (by assumption) ?_
             simp only [Act.put, lTA, lC0, lCS]
             refine wpAnyH_take (i := 15) (oi := ⟨some 90, _, _, _, _, _⟩) (v := undef) rfl (by kernel_rfl) (by kernel_rfl) (by kernel_rfl) (fun _ _ _ h => h) (Or.inr ⟨by kernel_rfl, rfl⟩) (by assumption) ?_
             simp only [Act.put, lTA, lC0, lCS]
             refine wpAnyH_take (i := 16) (oi := ⟨some 91, _, _, _, _, _⟩) (v := undef) rfl (by kernel_rfl) (by kernel_rfl) (by kernel_rfl) (fun _ _ _ h => h) (Or.inr ⟨by kernel_rfl, rfl⟩) (by assumption) ?_
             simp only [Act.put, lTA, lC0, lCS]
             refine wpAnyH_take (i := 17) (oi := ⟨some 92, _, _, _, _, _⟩) (v := undef) rfl (by kernel_rfl) (by kernel_rfl) (by kernel_rfl) (fun _ _ _ h => h) (Or.inr ⟨by kernel_rfl, rfl⟩) (by assumption) ?_
             simp only [Act.put, lTA, lC0, lCS]
             refine wpAnyH_take (i := 18) (oi := ⟨some 93, _, _, _, _, _⟩) (v := .bool false) rfl (by kernel_rfl) (by kernel_rfl) (by kernel_rfl) (fun _ _ _ h => h) (Or.inl ⟨by kernel_rfl, fun w hSw => by go_simp⟩) (by assumption) ?_
             simp only [Act.put, lTA, lC0, lCS]
             refine wpAnyH_take (i := 19) (oi := ⟨some 94, _, _, _, _, _⟩) (v := .bool false) rfl (by kernel_rfl) (by kernel_rfl) (by kernel_rfl) (fun _ _ _ h => h) (Or.inl ⟨by kernel_rfl, fun w hSw => by go_simp⟩) (by assumption) ?_
             simp only [Act.put, lTA, lC0, lCS]
             refine wpAnyH_done (by kernel_rfl) ?_ _
             go_wp2_with (fail)
             go_meet
             case rel => exact ⟨by rw [HB5.out, hj1]; rfl, by first | exact hB | (exact below_draw hB) | (exact below_undraw hB)⟩
           ·have hm' : (ncheck nm == 0) = false := by simp [hm]
            have HM := lhi (by have := HM.out; rewrite [hm'] at this; exact this)
            rw [hm'] at HB5
            clear hm hm'
            refine wp_region_held_drew (S := fun w' => w'.cell? ⟨eb, 0, none⟩ = some (.string nm)) (by kernel_rfl) e0 (fun hHeld => ?_)
            refine wpAnyH_take (i := 0) (oi := ⟨some 75, _, _, _, _, _⟩) (v := .pointer (some ⟨eb, 0, none⟩)) rfl (by kernel_rfl) (by kernel_rfl) (by kernel_rfl) (fun _ _ _ h => h) (Or.inl ⟨by kernel_rfl, fun w hSw => by go_simp⟩) (by assumption) ?_
            simp only [Act.put, lTA, lC0, lCS]
            refine wpAnyH_take (i := 1) (oi := ⟨some 76, _, _, _, _, _⟩) (v := .string nm) rfl (by kernel_rfl) (by kernel_rfl) (by kernel_rfl) (fun _ _ _ h => h) (Or.inl ⟨by kernel_rfl, fun w hSw => by go_simp⟩) (by assumption) ?_
            simp only [Act.put, lTA, lC0, lCS]
            refine wpAnyH_ready (rs := [2]) (by kernel_rfl) (by simp) ?_
            refine AllReadyH.cons rfl (fun K hK => ?_) AllReadyH.nil
            go_simp
            refine (HM.out _).mono ?_
            rintro e w' ⟨rfl, hB⟩
            show K _ w'
            refine hK.out _ _ ((hB.cell (p := ⟨eb, 0, none⟩) HE3.out.lt).trans e0) (fun hHeld => ?_)
            clear hK K
            refine wpAnyH_take (i := 3) (oi := ⟨some 78, _, _, _, _, _⟩) (v := .bool true) rfl (by kernel_rfl) (by kernel_rfl) (by kernel_rfl) (fun _ _ _ h => h) (Or.inl ⟨by kernel_rfl, fun w hSw => by go_simp⟩) (by assumption) ?_
            simp only [Act.put, lTA, lC0, lCS]
            refine wpAnyH_take (i := 4) (oi := ⟨some 79, _, _, _, _, _⟩) (v := .bool true) rfl (by kernel_rfl) (by kernel_rfl) (by kernel_rfl) (fun _ _ _ h => h) (Or.inl ⟨by kernel_rfl, fun w hSw => by go_simp⟩) (by assumption) ?_
            simp only [Act.put, lTA, lC0, lCS]
            refine wpAnyH_take (i := 5) (oi := ⟨some 80, _, _, _, _, _⟩) (v := undef) rfl (by kernel_rfl) (by kernel_rfl) (by kernel_rfl) (fun _ _ _ h => h) (Or.inr ⟨by kernel_rfl, rfl⟩) (by assumption) ?_
            simp only [Act.put, lTA, lC0, lCS]
            refine wpAnyH_take (i := 6) (oi := ⟨some 81, _, _, _, _, _⟩) (v := undef) rfl (by kernel_rfl) (by kernel_rfl) (by kernel_rfl) (fun _ _ _ h => h) (Or.inr ⟨by kernel_rfl, rfl⟩) (by assumption) ?_
            simp only [Act.put, lTA, lC0, lCS]
            refine wpAnyH_take (i := 7) (oi := ⟨some 82, _, _, _, _, _⟩) (v := undef) rfl (by kernel_rfl) (by kernel_rfl) (by kernel_rfl) (fun _ _ _ h => h) (Or.inr ⟨by kernel_rfl, rfl⟩) (by assumption) ?_
            simp only [Act.put, lTA, lC0, lCS]
            refine wpAnyH_take (i := 8) (oi := ⟨some 83, _, _, _, _, _⟩) (v := undef) rfl (by kernel_rfl) (by kernel_rfl) (by kernel_rfl) (fun _ _ _ h => h) (Or.inr ⟨by kernel_rfl, rfl⟩) (by assumption) ?_
            simp only [Act.put, lTA, lC0, lCS]
            refine wpAnyH_take (i := 9) (oi := ⟨some 84, _, _, _, _, _⟩) (v := undef) rfl (by kernel_rfl) (by kernel_rfl) (by kernel_rfl) (fun _ _ _ h => h) (Or.inr ⟨by kernel_rfl, rfl⟩) (by assumption) ?_
            simp only [Act.put, lTA, lC0, lCS]
            refine wpAnyH_take (i := 10) (oi := ⟨some 85, _, _, _, _, _⟩) (v := undef) rfl (by kernel_rfl) (by kernel_rfl) (by kernel_rfl) (fun _ _ _ h => h) (Or.inr ⟨by kernel_rfl, rfl⟩) (by assumption) ?_
            simp only [Act.put, lTA, lC0, lCS]
            refine wpAnyH_take (i := 11) (oi := ⟨some 86, _, _, _, _, _⟩) (v := undef) rfl (by kernel_rfl) (by kernel_rfl) (by kernel_rfl) (fun _ _ _ h => h) (Or.inr ⟨by kernel_rfl, rfl⟩) (by assumption) ?_
            simp only [Act.put, lTA, lC0, lCS]
            refine wpAnyH_take (i := 12) (oi := ⟨some 87, _, _, _, _, _⟩) (v := undef) rfl (by kernel_rfl) (by kernel_rfl) (by kernel_rfl) (fun _ _ _ h => h) (Or.inr ⟨by kernel_rfl, rfl⟩) (by assumption) ?_
            simp only [Act.put, lTA, lC0, lCS]
            refine wpAnyH_take (i := 13) (oi := ⟨some 88, _, _, _, _, _⟩) (v := undef) rfl (by kernel_rfl) (by kernel_rfl) (by kernel_rfl) (fun _ _ _ h => h) (Or.inr ⟨by kernel_rfl, rfl⟩) (by assumption) ?_
            simp only [Act.put, lTA, lC0, lCS]
            refine wpAnyH_take (i := 14) (oi := ⟨some 89, _, _, _, _, _⟩) (v := undef) rfl (by kernel_rfl) (by kernel_rfl) (by kernel_rfl) (fun _ _ _ h => h) (Or.inr ⟨by kernel_rfl, rfl⟩) (by assumption) ?_
            simp only [Act.put, lTA, lC0, lCS]
            refine wpAnyH_take (i := 15) (oi := ⟨some 90, _, _, _, _, _⟩) (v := undef) rfl (by kernel_rfl) (by kernel_rfl) (by kernel_rfl) (fun _ _ _ h => h) (Or.inr ⟨by kernel_rfl, rfl⟩) (by assumption) ?_
            simp only [Act.put, lTA, lC0, lCS]
            refine wpAnyH_take (i := 16) (oi := ⟨some 91, _, _, _, _, _⟩) (v := undef) rfl (by kernel_rfl) (by kernel_rfl) (by kernel_rfl) (fun _ _ _ h => h) (Or.inr ⟨by kernel_rfl, rfl⟩) (by assumption) ?_
            simp only [Act.put, lTA, lC0, lCS]
            refine wpAnyH_take (i := 17) (oi := ⟨some 92, _, _, _, _, _⟩) (v := undef) rfl (by kernel_rfl) (by kernel_rfl) (by kernel_rfl) (fun _ _ _ h => h) (Or.inr ⟨by kernel_rfl, rfl⟩) (by assumption) ?_
            simp only [Act.put, lTA, lC0, lCS]
            refine wpAnyH_take (i := 18) (oi := ⟨some 93, _, _, _, _, _⟩) (v := undef) rfl (by kernel_rfl) (by kernel_rfl) (by kernel_rfl) (fun _ _ _ h => h) (Or.inr ⟨by kernel_rfl, rfl⟩) (by assumption) ?_
            simp only [Act.put, lTA, lC0, lCS]
            refine wpAnyH_take (i := 19) (oi := ⟨some 94, _, _, _, _, _⟩) (v := .bool true) rfl (by kernel_rfl) (by kernel_rfl) (by kernel_rfl) (fun _ _ _ h => h) (Or.inl ⟨by kernel_rfl, fun w hSw => by go_simp⟩) (by assumption) ?_
            simp only [Act.put, lTA, lC0, lCS]
            refine wpAnyH_done (by kernel_rfl) ?_ _
            go_wp2_with (fail)
            go_meet
            case rel => exact ⟨by rw [HB5.out]; rfl, by first | exact hB | (exact below_draw hB) | (exact below_undraw hB)⟩
          case rest =>
           obtain ⟨rfl, hB5'⟩ := hcut
           have HA4 := lhi (HA3.out.below hB5')
           have HX4 := lhi (Blk.of_heap (hB5'.block _ HX3.out.lt) HX3.out)
           have HS4 := lhi (Blk.of_heap (hB5'.block _ HS3.out.lt) HS3.out)
           have HE4 := lhi (Blk.of_heap (hB5'.block _ HE3.out.lt) HE3.out)
           clear hB5' HA3 HX3 HS3 HE3 HM e0 HB5
           go_upto_if 94 with (fail)
           obtain ⟨wb, rfl⟩ : ∃ wb : World, wb = wc := ⟨_, rfl⟩
           go_cut [] (fun wx => At w0 w wx c sb (.slice (some ⟨g, off, none⟩) n cap) ov mv (D3 ++ one 5 x nm bb5) /\ Blk wx xg 72 #[.int .i64 x, .bool true, .slice (some ⟨eg, eoff, none⟩) ne ecap, .string dt] /\ Blk wx sl 147 (cntA (cnt S k j)) /\ Blk wx eb 141 #[.string nm, .int .i64 nu])
           case first =>
            rcases bool_tf bb5 with rfl | rfl
            ·have x0 : wb.cell? ⟨xg, 0, none⟩ = some (.int .i64 x) := HX4.out.cell 0
             have e0 : wb.cell? ⟨eb, 0, none⟩ = some (.string nm) := HE4.out.cell 0
             have HA := lhi (add_calls HA4.out.1 (by have := HL3.out; omega) 5 x nm)
             go_wp2_with (fail)
             refine HA.out.mono ?_
             rintro e w1 ⟨rfl, h1, h2⟩
             go_wp2_with (fail)
             go_meet
             case rel => exact ⟨HA4.out.to h1 h2, h2.blk HX4.out (by decide) (by decide), h2.blk HS4.out (by decide) (by decide), h2.blk HE4.out (by decide) (by decide)⟩
            ·have HD := lhi (one_false D3 5 x nm rfl)
             go_wp2_with (fail)
             go_meet
             case rel => exact ⟨HD.out ▸ HA4.out, HX4.out, HS4.out, HE4.out⟩
           case rest =>
            have HA5 := lhi hcut.1
            have HX5 := lhi hcut.2.1
            have HS5 := lhi hcut.2.2.1
            have HE5 := lhi hcut.2.2.2
            obtain ⟨D5, hD5⟩ : ∃ D5, D5 = D3 ++ one 5 x nm bb5 := ⟨_, rfl⟩
            have HL5 := lhi (show D5.length <= 104004002 by rw [hD5, List.length_append]; have := one_len 5 x nm bb5; have := HL3.out; omega)
            rw [<- hD5] at HA5
            have HDE := lhi (show D2 ++ (List.range (j + 1)).flatMap entF = D5 ++ one 7 x nm0 bb7 by rw [HDJ.out, HEJ.out, hD5, HD3.out]; simp only [List.append_assoc])
            clear hcut hD5 HA4 HX4 HS4 HE4 HL3
            have e0 : wc.cell? ⟨eb, 0, none⟩ = some (.string nm) := HE5.out.cell 0
            have HBK := lhi (bucket_calls nm wc)
            generalize nbucket nm = q at *
            go_upto_region 15 with (go_at_call 75; refine HBK.out.mono ?_; rintro e w' ⟨rfl, hB6⟩)
            have HA6 := lhi (HA5.out.below hB6)
            have HX6 := lhi (Blk.of_heap (hB6.block _ HX5.out.lt) HX5.out)
            have HS6 := lhi (Blk.of_heap (hB6.block _ HS5.out.lt) HS5.out)
            clear hB6 HA5 HX5 HS5 HE5 HBK e0
            have hsx : w0.heap.size <= sl := by omega
            have hcl := HCL.out q
            have hq8 : (q : Int) < 8 := by omega
            have s1 : w'.cell? ⟨sl, q, none⟩ = some (.int .i64 (cnt S k j q : Nat)) := (HS6.out.cell q).trans (cntA_at _ hnb)
            have f1 : w'.frozen? ⟨sl, q, none⟩ = false := HS6.out.frozen q
            have HSS := lhi (show Blk (w'.setCell ⟨sl, q, none⟩ (.int .i64 ((cnt S k j q : Nat) + 1))) sl 147 (cntA (cnt S k (j + 1))) by
             have := HS6.out.set_ q (.int .i64 ((cnt S k j q : Nat) + 1))
             rwa [cntA_set (cnt S k j) (cnt S k (j + 1)) hnb (by rw [HCS.out, if_pos rfl]; omega) (fun i _ hi => by rw [HCS.out, if_neg (Ne.symm hi)]; rfl)] at this)
            have HXX := lhi (HX6.out.far (p := ⟨sl, q, none⟩) (HX6.out.ne_ HS6.out (by decide)) (.int .i64 ((cnt S k j q : Nat) + 1)))
            have HAA := lhi (show At w0 w (w'.setCell ⟨sl, q, none⟩ (.int .i64 ((cnt S k j q : Nat) + 1))) c sb (.slice (some ⟨g, off, none⟩) n cap) ov mv D5 from ⟨HA6.out.1.set HS6.out hsx (by decide) (by decide) (by decide) q _, HA6.out.2.set hsl q _⟩)
            clear HA6 HX6 HS6 HCS
            generalize cnt S k j q = cq at *
            by_cases hc4 : cq = 4
            ·subst hc4
             obtain rfl : bb7 = true := HB7.out
             have HXY := lhi (show Blk (w'.setCell ⟨sl, q, none⟩ (.int .i64 5)) xg 72 #[.int .i64 x, .bool true, .slice (some ⟨eg, eoff, none⟩) ne ecap, .string dt] from HXX.out)
             have HSY := lhi (show Blk (w'.setCell ⟨sl, q, none⟩ (.int .i64 5)) sl 147 (cntA (cnt S k (j + 1))) from HSS.out)
             have HAY := lhi (show At w0 w (w'.setCell ⟨sl, q, none⟩ (.int .i64 5)) c sb (.slice (some ⟨g, off, none⟩) n cap) ov mv D5 from HAA.out)
             have HA := lhi (add_calls HAY.out.1 (by have := HL5.out; omega) 7 x nm0)
             have x0 : (w'.setCell ⟨sl, q, none⟩ (.int .i64 5)).cell? ⟨xg, 0, none⟩ = some (.int .i64 x) := HXY.out.cell 0
             clear HXX HSS HAA
             have s1 : w'.cell? ⟨sl, q, none⟩ = some (.int .i64 4) := s1
             go_wp2_with (fail)
             refine HA.out.mono ?_
             rintro e w1 ⟨rfl, h1, h2⟩
             have HR := lhi (HAY.out.to h1 h2)
             have HR2 := lhi (h2.blk HXY.out (by decide) (by decide))
             have HR3 := lhi (h2.blk HSY.out (by decide) (by decide))
             clear h1 h2
             go_wp2_with (fail)
             go_roundw
             case rel => exact ⟨j + 1, by go_num, by omega, by rw [HDE.out]; exact HR.out, HR2.out, HR3.out⟩
             case measure =>
              simp only [intOf]
              omega
            ·have h4 : ((cq : Int) + 1 == 5) = false := by simp; omega
             have h4' : ((cq : Int) == 4) = false := by simp; omega
             obtain rfl : bb7 = false := by rw [HB7.out]; simp [hc4]
             have HD := lhi (one_false D5 7 x nm0 rfl)
             go_wp2_with (fail)
             go_roundw
             case rel => exact ⟨j + 1, by go_num, by omega, by rw [HDE.out, <- HD.out]; exact HAA.out, HXX.out, HSS.out⟩
             case measure =>
              simp only [intOf]
              omega
       ·have e : j = ne := by omega
        subst e
        go_wp2_with (fail)
        go_roundw
        case rel => exact ⟨k + 1, by go_num, by omega, by rw [HE.out _ rfl]; exact HAT.out⟩
        case measure =>
         simp only [intOf]
         omega
     ·have HE := lhi (show D ++ (List.range (k + 1)).flatMap (bodyAt S) = D2 by rw [HD1.out, HBA.out, HD2.out, if_neg (by decide), List.append_nil])
      go_wp2_with (fail)
      go_roundw
      case rel => exact ⟨k + 1, by go_num, by omega, by rw [HE.out]; exact HAZ.out⟩
      case measure =>
       simp only [intOf]
       omega
  ·have e : k = n := by omega
   subst e
   go_wp2_with (fail)
   go_end0
   exact ⟨rfl, by rw [HNN.out, HNF.out]; exact HAT.out⟩
end
section
open Go.RowKit Go.Shelf Go.Lib Go.Sort
set_option maxHeartbeats 1000000
theorem flatF_get : ∀ (D : List Fnd) (t : Nat), (D.flatMap encF)[t]? = (D[t / 3]?).bind fun e => (encF e)[t % 3]?
 | [], t => by simp
 | e :: D, t => by
  rw [List.flatMap_cons]
  by_cases h : t < 3
  ·have : t = 0 ∨ t = 1 ∨ t = 2 := by omega
   rcases this with rfl | rfl | rfl <;> simp [encF]
  ·have e1 : t / 3 = (t - 3) / 3 + 1 := by omega
   have e2 : t % 3 = (t - 3) % 3 := by omega
   rw [List.getElem?_append_right (by simp [encF]; omega), e1, List.getElem?_cons_succ, e2, <- flatF_get D (t - 3)]
   simp [encF]
theorem flatKF_eq (D : List Fnd) : flatK encF 3 D.toArray = (D.flatMap encF).toArray := by
 apply Array.ext
 ·rw [size_flatK, List.size_toArray, List.size_toArray, encF_len]
 ·intro t h1 h2
  have h3 : t < D.length * 3 := by rw [size_flatK] at h1; simpa using h1
  have ha := get_flatK encF 3 D.toArray t (by simpa using h3)
  rw [getElem!_pos (flatK encF 3 D.toArray) t h1] at ha
  rw [ha]
  have hb := flatF_get D t
  have hd : t / 3 < D.length := by omega
  rw [List.getElem?_eq_getElem (by rw [encF_len]; exact h3), List.getElem?_eq_getElem hd] at hb
  have hm : t % 3 < (encF D[t / 3]).length := by simp [encF]; omega
  simp only [Option.bind_some] at hb
  rw [List.getElem?_eq_getElem hm] at hb
  have hb := Option.some.inj hb
  simp only [List.getElem_toArray]
  rw [hb]
  have hx : D.toArray[t / 3]! = D[t / 3] := by simp [hd]
  rw [hx]
  exact getElem!_pos (encF D[t / 3]) (t % 3) hm
theorem holdsF_of {w : World} {base g cap : Nat} {D : List Fnd} (h : w.ownsRow base 83 3 (.slice (some ⟨g, 0, none⟩) D.length cap) D.length (D.flatMap encF)) : HoldsK encF 3 w g 0 D.toArray := by
 unfold HoldsK
 rw [flatKF_eq]
 intro j hj
 have hj' : j < (D.flatMap encF).length := by simpa using hj
 have hget : (D.flatMap encF)[j]? = some ((D.flatMap encF).toArray[j]!) := by
  rw [getElem!_pos (D.flatMap encF).toArray j hj, List.getElem_toArray, List.getElem?_eq_getElem hj']
 have hc := h.cells (g := g) rfl j _ hget
 have e : (⟨g, 0, none⟩ : Addr).add j = ⟨g, 0 + j, none⟩ := by unfold Addr.add; split <;> simp_all
 rw [e] at hc
 refine ⟨hc, ?_⟩
 rcases h.2 with ⟨hn, _⟩ | ⟨g', cap', cur, hv, _, hh, _⟩
 ·cases hn
 ·have : g = g' := by simpa [Value.ownBlock] using congrArg Value.ownBlock hv
  subst this
  exact (Blk.frozen (show Blk w g _ cur from hh) _)
theorem sortedF_heap {w : World} {g n : Nat} {D' : List Fnd} {os : Array Obj} (k : Nat) (hk : k < w.heap.size) :
  (sortWorldK encF 3 w g 0 n D'.toArray os).heap[k]? = if k = g then (w.heap[k]?).map (onCells (putCells id 0 (flatK encF 3 D'.toArray))) else w.heap[k]? := by
 unfold sortWorldK grow putRowK putRow mapBlock Sort.ahead
 show ((w.heap.modify g (onCells (putCells id 0 (flatK encF 3 D'.toArray)))) ++ os)[k]? = _
 rw [Array.getElem?_append_left (by simpa using hk), Array.getElem?_modify]
 by_cases e : g = k
 ·rw [if_pos e, if_pos e.symm]
 ·rw [if_neg e, if_neg (fun h => e h.symm)]
theorem sortedF_own {w : World} {base g cap n : Nat} {D D' : List Fnd} {os : Array Obj} (h : w.ownsRow base 83 3 (.slice (some ⟨g, 0, none⟩) D.length cap) D.length (D.flatMap encF)) (hl : D'.length = D.length) :
  (sortWorldK encF 3 w g 0 n D'.toArray os).ownsRow base 83 3 (.slice (some ⟨g, 0, none⟩) D'.length cap) D'.length (D'.flatMap encF) := by
 refine ⟨encF_len D', .inr ?_⟩
 rcases h.2 with ⟨hn, _⟩ | ⟨g', cap', cur, hv, hb, hh, h1, h2, h3, h4⟩
 ·cases hn
 ·have e1 : g = g' := by simpa [Value.ownBlock] using congrArg Value.ownBlock hv
  subst e1
  have e2 : cap = cap' := by
   injection hv
  subst e2
  have hg : g < w.heap.size := Blk.lt (show Blk w g _ cur from hh)
  refine ⟨g, cap, putCells id 0 (flatK encF 3 D'.toArray) cur, rfl, hb, ?_, by omega, h2, ?_, ?_⟩
  ·rw [sortedF_heap g hg, if_pos rfl, hh]
   rfl
  ·simp [putCells, h3]
  ·rw [flatKF_eq]
   have hle : D'.length * 3 <= cap * 3 := Nat.mul_le_mul_right _ (by omega)
   apply List.ext_getElem
   ·simp only [List.length_take, Array.length_toList, Array.size_mapIdx, encF_len, h3, putCells, List.size_toArray]
    omega
   ·intro j q1 q2
    rw [encF_len] at q2
    have hp : (0 <= j /\ j < 0 + (D'.flatMap encF).toArray.size) := by
     refine ⟨Nat.zero_le _, ?_⟩
     rw [List.size_toArray, encF_len]
     omega
    simp only [List.getElem_take, Array.getElem_toList, putCells, Array.getElem_mapIdx]
    rw [if_pos hp]
    have hq : j - 0 < (D'.flatMap encF).toArray.size := by rw [List.size_toArray, encF_len]; omega
    rw [getElem!_pos (D'.flatMap encF).toArray (j - 0) hq]
    simp
def rawF (S : St) : List Fnd := numbersF S ++ bodiesF S ++ treeF S ++ openF S
theorem ownF_row {w : World} {base : Nat} {v : Value} {D : List Fnd} (h : w.ownsRow base 83 3 v D.length (D.flatMap encF)) : RowAt w v D.length 3 (fndC D) := by
 rcases h.2 with ⟨rfl, h0⟩ | ⟨g, cap, cur, rfl, hb, hh, h1, _⟩
 ·rw [h0]; exact RowAt.nil_ _ _ _
 ·refine ⟨_, _, rfl, h1, fun _ => ⟨g, 0, rfl, fun i j hi hj => ?_⟩⟩
  have hc := h.cells (g := g) rfl (i * 3 + j) (fndC D i j) (by
   rw [flatF_get, show (i * 3 + j) / 3 = i by omega, show (i * 3 + j) % 3 = j by omega, List.getElem?_eq_getElem hi]
   have hf : fAt D i = D[i] := by simp [fAt, List.getD, hi]
   have : j = 0 ∨ j = 1 ∨ j = 2 := by omega
   rcases this with rfl | rfl | rfl <;> simp [encF, fndC, hf])
  rw [Addr.add_lit] at hc
  exact hc
def RiseF (D : List Fnd) : Prop := D.Pairwise ltF
theorem rise_of_sorted {D' : List Fnd} (hn : D'.Nodup) (h : SortedIn (ltOf cmpF) 0 D'.length D'.toArray) : RiseF D' := by
 unfold RiseF
 rw [List.pairwise_iff_getElem]
 intro i j hi hj hij
 have h2 := h i j (Nat.zero_le _) hij hj
 rw [getElem!_pos D'.toArray i (by simpa using hi), getElem!_pos D'.toArray j (by simpa using hj)] at h2
 simp only [List.getElem_toArray] at h2
 rcases ltF_tri D'[i] D'[j] with q | q | q
 ·exact q
 ·exact absurd q (List.pairwise_iff_getElem.1 hn i j hi hj hij)
 ·have := (ltOf_cmpF _ _).2 q
  rw [this] at h2
  cases h2
theorem rise_unique : ∀ {D E : List Fnd}, RiseF D -> RiseF E -> D.Perm E -> D = E
 | [], E, _, _, hp => (List.nil_perm.1 hp).symm
 | d :: D, [], _, _, hp => by simpa using hp.length_eq
 | d :: D, e :: E, hd, he, hp => by
  have h1 := List.pairwise_cons.1 hd
  have h2 := List.pairwise_cons.1 he
  have hde : d = e := by
   have m1 : d ∈ e :: E := hp.subset (List.mem_cons_self)
   have m2 : e ∈ d :: D := hp.symm.subset (List.mem_cons_self)
   rcases List.mem_cons.1 m1 with q | q
   ·exact q
   ·rcases List.mem_cons.1 m2 with r | r
    ·exact r.symm
    ·exact absurd (ltF_trans (h1.1 e r) (h2.1 d q)) (ltF_irrefl d)
  subst hde
  rw [rise_unique h1.2 h2.2 (List.perm_cons d |>.1 hp)]
theorem raw_len (S : St) (hs : S.small) : (rawF S).length <= 10000000 := by
 unfold rawF numbersF bodiesF treeF openF
 simp only [List.length_append]
 have h1 := one_len 1 1 nm0 (rootB S)
 have h2 := flat_len (numAt_len S) S.inodes.length
 have h3 := one_len 8 (-1) nm0 (manyB S)
 have h4 := flat_len (f := fun (i : Nat) => one 8 (i : Int) nm0 (madB S i)) (c := 1) (fun _ => one_len _ _ _ _) S.made.length
 have h5 := flat_len (bodyAt_len S hs) S.inodes.length
 have h6 := flat_len (treeAt_len S) S.inodes.length
 have h7 := flat_len (f := openAt S) (c := 1) (fun _ => one_len _ _ _ _) S.opens.length
 have := hs.ni
 have := hs.no
 have := hs.nm
 omega
theorem ck_sort {w0 w : World} {c sb : Nat} {v : Value} {D : List Fnd} (hbel : Below w0.heap.size w0 w) (hc : Blk w c 80 #[.pointer (some ⟨sb, 0, none⟩), v]) (hown : w.ownsRow w0.heap.size 83 3 v D.length (D.flatMap encF)) (hlen : D.length <= 10000000) :
  Calls Tryz.prog 34 #[v, .func (.func 35) #[] #[]] w fun e w' => e = .returned (.tuple #[]) /\ ∃ D' : List Fnd, D'.Perm D /\ SortedIn (ltOf cmpF) 0 D'.length D'.toArray /\ Below w0.heap.size w0 w' /\ Blk w' c 80 #[.pointer (some ⟨sb, 0, none⟩), v] /\ w'.ownsRow w0.heap.size 83 3 v D'.length (D'.flatMap encF) := by
 rcases hown.2 with ⟨rfl, h0⟩ | ⟨g, cap, cur, rfl, hb, hh, _⟩
 ·refine (AnyF.slices_SortFunc_none Tryz.sortFnd none 0 _ w).mono ?_
  rintro e w' ⟨rfl, rfl⟩
  exact ⟨rfl, D, .refl _, (by rw [h0]; intro i j _ _ hj; omega), hbel, hc, hown⟩
 ·have hg : g < w.heap.size := Blk.lt (show Blk w g _ cur from hh)
  have hgc : c ≠ g := Blk.ne_ hc (show Blk w g 83 cur from hh) (by decide)
  have hH := holdsF_of hown
  refine (sort_calls g 0 cap D.toArray w hH hg (by rw [List.size_toArray]; omega)).mono ?_
  rintro e w' ⟨rfl, D', n', os, hp, hs, rfl⟩
  obtain ⟨D', rfl⟩ : ∃ l : List Fnd, D' = l.toArray := ⟨D'.toList, rfl⟩
  have hsz : D'.length = D.length := by simpa using hp.1
  have hperm : D'.Perm D := by
   have := hp.2.2
   have e1 : D'.toArray.extract 0 D.toArray.size = D'.toArray := by rw [<- hp.1]; exact Array.extract_size
   have e2 : D.toArray.extract 0 D.toArray.size = D.toArray := Array.extract_size
   rw [e1, e2] at this
   simpa using this
  refine ⟨rfl, D', hperm, (by have := hs; rw [List.size_toArray, <- hsz] at this; exact this), ?_, ?_, ?_⟩
  ·refine hbel.trans ⟨rfl, rfl, rfl, ?_, fun k hk => ?_⟩
   ·show w.heap.size <= ((w.heap.modify g _) ++ os).size
    simp
   ·rw [sortedF_heap k (by have := hbel.size; omega), if_neg (by omega)]
  ·unfold Blk
   rw [sortedF_heap c hc.lt, if_neg hgc]
   exact hc
  ·have := sortedF_own (n := n') (os := os) hown hsz
   rw [hsz] at this ⊢
   exact this
set_option maxRecDepth 1000000 in
theorem State_calls {w : World} {iv ov mv : Value} {ev : Nat -> Value} {S : St} (hS : StM w iv ov mv ev S) (hs : S.small) {E : List Fnd} (hE : RiseF E) (hp : E.Perm (rawF S)) :
  Calls Tryz.prog 13 #[.agg #[iv, ov, mv]] w fun e w' => ∃ v, e = .returned v /\ Below w.heap.size w w' /\ w'.ownsRow w.heap.size 83 3 v E.length (E.flatMap encF) := by
 obtain ⟨A, cap, rfl⟩ := hS.ino.form
 obtain ⟨OA, ocap, rfl⟩ := hS.opn.form
 obtain ⟨MA, mcap, rfl⟩ := hS.mad.form
 have HS := lhi hS
 have HSm := lhi hs
 have HL := lhi (raw_len S hs)
 have HE := lhi hE
 have HP := lhi hp
 have HR := lhi (show rawF S = numbersF S ++ bodiesF S ++ treeF S ++ openF S from rfl)
 clear hS hs hE hp
 generalize S.inodes.length = n at *
 generalize S.opens.length = no at *
 generalize S.made.length = nm at *
 have HC : Ck w ((w.alloc (.cells #[.slice A n cap, .slice OA no ocap, .slice MA nm mcap] 32)).alloc (.cells #[.pointer (some ⟨w.heap.size, 0, none⟩), .slice none 0 0] 80)) (w.heap.size + 1) w.heap.size (.slice A n cap) (.slice OA no ocap) (.slice MA nm mcap) [] :=
  ⟨((Below.refl _ _).alloc (Nat.le_refl _) _).alloc (by simp) _, Nat.le_refl _, (Blk.new _ _ _).alloc _, by omega, _, Blk.newAt _ _ _ (by simp), World.ownsRow_nil _ _ _ _⟩
 have HC := lhi HC
 rename_i HC0
 clear HC0
 go_enter Tryz.func13, Tryz.ntmps13
 go_wp2_with (fail)
 refine (numbers_calls HC.out HS.out HSm.out (by simp)).mono ?_
 rintro e w1 ⟨rfl, h1⟩
 have H1 := lhi h1
 have HL1 := lhi (show ([] ++ numbersF S).length <= 10000000 by have := HL.out; rw [HR.out] at this; simp only [List.length_append, List.nil_append] at this ⊢; omega)
 clear h1 HC
 go_wp2_with (fail)
 refine (bodies_calls H1.out.1 HS.out HSm.out (by have := HL1.out; omega)).mono ?_
 rintro e w2 ⟨rfl, h2⟩
 have H2 := lhi h2
 have HL2 := lhi (show ([] ++ numbersF S ++ bodiesF S).length <= 10000000 by have := HL.out; rw [HR.out] at this; simp only [List.length_append, List.nil_append] at this ⊢; omega)
 clear h2 H1
 go_wp2_with (fail)
 refine (tree_calls H2.out.1 HS.out HSm.out (by have := HL2.out; omega)).mono ?_
 rintro e w3 ⟨rfl, h3⟩
 have H3 := lhi h3
 have HL3 := lhi (show ([] ++ numbersF S ++ bodiesF S ++ treeF S).length <= 10000000 by have := HL.out; rw [HR.out] at this; simp only [List.length_append, List.nil_append] at this ⊢; omega)
 clear h3 H2
 go_wp2_with (fail)
 refine (open_calls H3.out.1 HS.out HSm.out (by have := HL3.out; omega)).mono ?_
 rintro e w4 ⟨rfl, h4⟩
 have hD : [] ++ numbersF S ++ bodiesF S ++ treeF S ++ openF S = rawF S := by rw [HR.out, List.nil_append]
 rw [hD] at h4
 obtain ⟨v, hv1, hv2⟩ := h4.1.row
 have c1 : w4.cell? ⟨w.heap.size + 1, 1, none⟩ = some v := hv1.cell 1
 have HSO := lhi (ck_sort h4.1.bel hv1 hv2 HL.out)
 clear h4 H3 hD hv1 hv2
 go_wp2_with (fail)
 refine HSO.out.mono ?_
 rintro e w5 ⟨rfl, D', hperm, hsort, hbel, hck, hown⟩
 clear c1
 have c1 : w5.cell? ⟨w.heap.size + 1, 1, none⟩ = some v := hck.cell 1
 have hnd : D'.Nodup := (hperm.trans HP.out.symm).nodup_iff.2 (List.Pairwise.imp (S := fun a b : Fnd => a ≠ b) (fun {a b} (h : ltF a b) (e : a = b) => ltF_irrefl a (e ▸ h)) HE.out)
 have hDE : D' = E := rise_unique (rise_of_sorted hnd hsort) HE.out (hperm.trans HP.out.symm)
 subst hDE
 have HO := lhi hown
 have HB := lhi hbel
 have HCO := lhi (compact_calls (ownF_row hown) (by have := hperm.length_eq; have := HL.out; omega) (fun i hi => by
  have h := List.pairwise_iff_getElem.1 HE.out i (i + 1) (by omega) hi (by omega)
  have e1 : fAt D' (i + 1) = D'[i + 1] := by simp [fAt, List.getD, hi]
  have e2 : fAt D' i = D'[i] := by simp [fAt, List.getD, show i < D'.length by omega]
  rw [e1, e2]
  intro e
  rw [<- e] at h
  exact ltF_irrefl _ h))
 clear hperm hsort hbel hck hown hnd
 go_wp2_with (fail)
 refine HCO.out.mono ?_
 rintro e w6 ⟨rfl, d, rfl⟩
 go_wp2_with (fail)
 go_ret
 exact ⟨v, rfl, ⟨HB.out.os, HB.out.tape, HB.out.output, HB.out.size, HB.out.block⟩, HO.out⟩
theorem getD_case {A : Type} (P : A -> Prop) (l : List A) (d : A) (h : ∀ x ∈ l, P x) (hd : P d) (i : Nat) : P (l.getD i d) := by
 rw [List.getD]
 rcases hi : l[i]? with _ | x
 ·exact hd
 ·exact h x (List.mem_of_getElem? hi)
end
end Go.Proofs.YtkebjgebkneijaaGreatDoor
