/- Texts of one's own that a claim's last text rests on: CkTree. -/
import Derived.Test.YtkebjgebkneijaaGreatDoorMG12
import Derived.LaidEqlPtr
set_option linter.unusedVariables false
set_option linter.unusedSimpArgs false
namespace Go.Proofs.YtkebjgebkneijaaGreatDoor
open Go.RowKit
set_option maxHeartbeats 2000000
attribute [local go_sem ↓] Go.wp_at_zero Go.wp_at_succ
def b3 (S : St) (i : Nat) : Bool := S.dir i && (S.num i != 1 && ((manyF S (S.num i) : Nat) : Int) != 1)
def opB (S : St) (i : Nat) : Bool := !S.dir i && isOpenB S (S.num i)
def b4 (S : St) (i : Nat) : Bool := !(foundB S (S.num i) && (firstIx S (S.num i) == some i)) && !opB S i
def treeAt (S : St) (i : Nat) : List Fnd := one 3 (S.num i) nm0 (b3 S i) ++ one 4 (S.num i) nm0 (b4 S i)
def treeF (S : St) : List Fnd := (List.range S.inodes.length).flatMap (treeAt S)
theorem treeAt_len (S : St) (i : Nat) : (treeAt S i).length <= 2 := by
 unfold treeAt
 have := one_len 3 (S.num i) nm0 (b3 S i)
 have := one_len 4 (S.num i) nm0 (b4 S i)
 rw [List.length_append]; omega
theorem eql_ptr (w : World) (g x y : Nat) (b : Bool) (hb : decide (x = y) = b) : (binOp .eql 148 (.pointer (some ⟨g, x, none⟩)) (.pointer (some ⟨g, y, none⟩))).run Tryz.prog w = .ok (.bool b) w := by
 subst hb
 by_cases e : x = y
 ·subst e
  rw [decide_eq_true rfl]
  obtain ⟨j, hj⟩ : ∃ j, Tryz.prog.info? 72 = some j := Option.isSome_iff_exists.1 (by kernel_rfl)
  exact run_eql_ptr_same w _ Tryz.underlying148 hj
 ·rw [decide_eq_false e]
  obtain ⟨j, hj, hsz⟩ : ∃ j, Tryz.prog.info? 72 = some j /\ j.size ≠ 0 := by
   have h : (Tryz.prog.info? 72).map (fun i => i.size) = some 4 := by kernel_rfl
   obtain ⟨j, hj, h2⟩ := Option.map_eq_some_iff.1 h
   exact ⟨j, hj, by rw [h2]; decide⟩
  have hs : (sameAddr ⟨g, x, none⟩ ⟨g, y, none⟩).run Tryz.prog w = .ok false w := by simp [sameAddr]
  have h : ∀ d : Nat, (Op.equalIn (d + 1) 148 (.pointer (some ⟨g, x, none⟩)) (.pointer (some ⟨g, y, none⟩))).run Tryz.prog w = .ok false w := fun d => by
   simp [Op.equalIn, run_underlying Tryz.underlying148, sizeOf, typeInfo, hj, hsz, hs]
  simp only [binOp]
  simp [Op.equal, Op.maxDepth, h 9999]
theorem eql_nil (w : World) (a : Addr) : (binOp .eql 148 (.pointer none) (.pointer (some a))).run Tryz.prog w = .ok (.bool false) w := by
 have h : ∀ d : Nat, (Op.equalIn (d + 1) 148 (.pointer none) (.pointer (some a))).run Tryz.prog w = .ok false w := fun d => by
  simp [Op.equalIn, run_underlying Tryz.underlying148]
 simp only [binOp]
 simp [Op.equal, Op.maxDepth, h 9999]
set_option maxRecDepth 1000000 in
theorem tree_calls {w0 w : World} {c sb : Nat} {iv ov mv : Value} {ev : Nat -> Value} {S : St} {D : List Fnd} (h : Ck w0 w c sb iv ov mv D) (hS : StM w0 iv ov mv ev S) (hs : S.small) (hD : D.length <= 150000000) :
  Calls Tryz.prog 32 #[.pointer (some ⟨c, 0, none⟩)] w fun e w' => e = .returned (.tuple #[]) /\ At w0 w w' c sb iv ov mv (D ++ treeF S) := by
 have HFO := lhi (found_calls h hS hs)
 obtain ⟨A, cap, rfl⟩ := hS.ino.form
 obtain ⟨OA, ocap, rfl⟩ := hS.opn.form
 have hn := hs.ni
 have HN0 := lhi hs.ni
 have HO0 := lhi hs.no
 have HS := lhi hS
 have HSm := lhi hs
 have HO := lhi hS.opn
 clear h hS hs
 have HNF := lhi (show treeF S = (List.range S.inodes.length).flatMap (treeAt S) from rfl)
 obtain ⟨n, hnn⟩ : ∃ n, S.inodes.length = n := ⟨_, rfl⟩
 obtain ⟨no, hno⟩ : ∃ n, S.opens.length = n := ⟨_, rfl⟩
 rw [hnn] at hn HNF HS HFO
 rw [hno] at HS HFO HO
 have HI := lhi (show RowAt w0 (.slice A n cap) n 4 (inoC S ev) from hnn ▸ HS.out.ino)
 have HNN := lhi hnn
 have HNO := lhi hno
 clear hnn hno
 go_enter Tryz.func32, Tryz.ntmps32
 go_wp2_with (fail)
 refine HFO.out.mono ?_
 rintro e w1 ⟨fb, mb, nf, nm, rfl, hat, hmB, hmI⟩
 have HAT := lhi hat
 have HMB := lhi hmB
 have HMI := lhi hmI
 have c0 := hat.1.c0
 have s0 := hat.1.s0
 clear hat hmB hmI HFO
 go_wp2_with (fail)
 clear c0 s0
 go_loopw [20] (fun i wr => ∃ k : Nat, i = .int .i64 k /\ k <= n /\ At w0 w wr c sb (.slice A n cap) (.slice OA no ocap) mv (D ++ (List.range k).flatMap (treeAt S)) /\ MapB wr fb nf (foundB S) /\ MapI wr mb nm (fun x => (manyF S x : Nat))) (fun i _ => n - (intOf i).toNat)
 case atStart => exact ⟨0, rfl, by omega, by simpa using HAT.out, HMB.out, HMI.out⟩
 case round =>
  obtain ⟨k, rfl, hk, hat, hmB, hmI⟩ := hrel
  have HAT := lhi hat
  have HMB := lhi hmB
  have HMI := lhi hmI
  have HLK := lhi (show (D ++ (List.range k).flatMap (treeAt S)).length <= 150002000 by rw [List.length_append]; have := flat_len (treeAt_len S) k; omega)
  have HFS := lhi (flat_succ (treeAt S) k)
  clear hat hmB hmI
  by_cases hp : k < n
  ·obtain ⟨D1, hD1⟩ : ∃ D1, D1 = D ++ (List.range k).flatMap (treeAt S) := ⟨_, rfl⟩
   rw [<- hD1] at HAT HLK
   have HD1 := lhi (show D ++ (List.range (k + 1)).flatMap (treeAt S) = D1 ++ treeAt S k by rw [HFS.out, hD1, List.append_assoc])
   clear hD1 HFS
   obtain ⟨-, hcap, g, off, rfl, hcell⟩ := (HI.out.keep HAT.out.1.bel).at_ hp
   have q0 : wr.cell? ⟨g, off + k * 4, none⟩ = some (.int .i64 (S.num k)) := hcell 0 (by omega)
   have q1 : wr.cell? ⟨g, off + k * 4 + 1, none⟩ = some (.bool (S.dir k)) := hcell 1 (by omega)
   have q2 : wr.cell? ⟨g, off + k * 4 + 2, none⟩ = some (ev k) := hcell 2 (by omega)
   have q3 : wr.cell? ⟨g, off + k * 4 + 3, none⟩ = some (.string (S.dat k)) := hcell 3 (by omega)
   have hp1 : (k : Int) < n := by omega
   clear hcell
   have hent := HS.out.ent k (by rw [HNN.out]; exact hp)
   obtain ⟨EA, ecap, hev⟩ := hent.form
   rw [hev] at q2
   have hnum := HSm.out.num k
   obtain ⟨bb, hbb⟩ : ∃ b, b = b3 S k := ⟨_, rfl⟩
   obtain ⟨oo, hoo⟩ : ∃ b, b = opB S k := ⟨_, rfl⟩
   obtain ⟨cc, hcc⟩ : ∃ b, b = b4 S k := ⟨_, rfl⟩
   have HTA := lhi (show treeAt S k = one 3 (S.num k) nm0 bb ++ one 4 (S.num k) nm0 cc by rw [hbb, hcc]; rfl)
   have HB3 := lhi (show bb = (S.dir k && (S.num k != 1 && ((manyF S (S.num k) : Nat) : Int) != 1)) from hbb)
   have HBO := lhi (show oo = (!S.dir k && isOpenB S (S.num k)) from hoo)
   have HB4 := lhi (show cc = (!(foundB S (S.num k) && (firstIx S (S.num k) == some k)) && !oo) by rw [hcc, hoo]; rfl)
   clear hbb hoo hcc hent hev
   generalize S.ne k = ne at *
   generalize S.num k = x at *
   generalize S.dir k = dv at *
   generalize S.dat k = dt at *
   have HX := lhi (Blk.new wr 72 #[.int .i64 x, .bool dv, .slice EA ne ecap, .string dt])
   have HAX := lhi (HAT.out.alloc (Obj.cells #[Value.int IntKind.i64 x, Value.bool dv, Value.slice EA ne ecap, Value.string dt] 72))
   have HBX := lhi (HMB.out.alloc (Obj.cells #[Value.int IntKind.i64 x, Value.bool dv, Value.slice EA ne ecap, Value.string dt] 72))
   have HIX := lhi (HMI.out.alloc (Obj.cells #[Value.int IntKind.i64 x, Value.bool dv, Value.slice EA ne ecap, Value.string dt] 72))
   clear HAT HMB HMI
   go_upto_region 4 with (fail)
   clear q0 q1 q2 q3
   obtain ⟨wy, hwy⟩ : ∃ wy, wy = wr.alloc (Obj.cells #[Value.int IntKind.i64 x, Value.bool dv, Value.slice EA ne ecap, Value.string dt] 72) := ⟨_, rfl⟩
   rw [<- hwy] at HX HAX HBX HIX ⊢
   clear hwy
   generalize wr.heap.size = xg at *
   go_cut [38] (fun s wx => s = .bool bb /\ wy = wx)
   case first =>
    have x0 : wy.cell? ⟨xg, 0, none⟩ = some (.int .i64 x) := HX.out.cell 0
    have x1 : wy.cell? ⟨xg, 1, none⟩ = some (.bool dv) := HX.out.cell 1
    have hlook := HIX.out.look hnum
    generalize ((manyF S x : Nat) : Int) = mn at *
    rcases bool_tf dv with rfl | rfl
    ·by_cases h1 : x = 1
     ·have h1' : (x != 1) = false := by simp [h1]
      have HH := lhi h1
      clear h1
      go_wp2_with (fail)
      go_meet
      case rel => exact ⟨by rw [HB3.out, h1']; rfl, rfl⟩
     ·have h1' : (x != 1) = true := by simp [h1]
      go_wp2_with (fail)
      go_meet
      case rel => exact ⟨by rw [HB3.out, h1']; rfl, rfl⟩
    ·go_wp2_with (fail)
     go_meet
     case rel => exact ⟨by rw [HB3.out]; rfl, rfl⟩
   case rest =>
    obtain ⟨rfl, rfl⟩ := hcut
    go_upto_if 38 with (fail)
    go_cut [] (fun wx => At w0 w wx c sb (.slice (some ⟨g, off, none⟩) n cap) (.slice OA no ocap) mv (D1 ++ one 3 x nm0 bb) /\ MapB wx fb nf (foundB S) /\ MapI wx mb nm (fun x => (manyF S x : Nat)) /\ Blk wx xg 72 #[.int .i64 x, .bool dv, .slice EA ne ecap, .string dt])
    case first =>
     rcases bool_tf bb with rfl | rfl
     ·have x0 : wy.cell? ⟨xg, 0, none⟩ = some (.int .i64 x) := HX.out.cell 0
      have HA := lhi (add_calls HAX.out.1 (by have := HLK.out; omega) 3 x nm0)
      go_wp2_with (fail)
      refine HA.out.mono ?_
      rintro e w1 ⟨rfl, h1, h2⟩
      go_wp2_with (fail)
      go_meet
      case rel => exact ⟨HAX.out.to h1 h2, HBX.out.keepT h2, HIX.out.keepT h2, h2.blk HX.out (by decide) (by decide)⟩
     ·have HD := lhi (one_false D1 3 x nm0 rfl)
      go_wp2_with (fail)
      go_meet
      case rel => exact ⟨HD.out ▸ HAX.out, HBX.out, HIX.out, HX.out⟩
    case rest =>
     have HA3 := lhi hcut.1
     have HB3' := lhi hcut.2.1
     have HI3 := lhi hcut.2.2.1
     have HX3 := lhi hcut.2.2.2
     obtain ⟨D2, hD2⟩ : ∃ D2, D2 = D1 ++ one 3 x nm0 bb := ⟨_, rfl⟩
     have HL2 := lhi (show D2.length <= 150002001 by rw [hD2, List.length_append]; have := one_len 3 x nm0 bb; have := HLK.out; omega)
     rw [<- hD2] at HA3
     have HE := lhi (show D ++ (List.range (k + 1)).flatMap (treeAt S) = D2 ++ one 4 x nm0 cc by rw [HD1.out, HTA.out, hD2]; simp only [List.append_assoc])
     clear hcut hD2 HAX HBX HIX HX HB3 HLK
     obtain ⟨wa, rfl⟩ : ∃ wa : World, wa = wc := ⟨_, rfl⟩
     go_upto_region 6 with (fail)
     go_cut [6] (fun s wx => s = .bool oo /\ Below wa.heap.size wa wx)
     case first =>
      have x0 : wa.cell? ⟨xg, 0, none⟩ = some (.int .i64 x) := HX3.out.cell 0
      have x1 : wa.cell? ⟨xg, 1, none⟩ = some (.bool dv) := HX3.out.cell 1
      have c0 := HA3.out.1.c0
      have s1 := HA3.out.1.s1
      rcases bool_tf dv with rfl | rfl
      ·go_wp2_with (fail)
       go_meet
       case rel => exact ⟨by rw [HBO.out]; rfl, Below.refl _ _⟩
      ·have HCF := lhi (containsFunc_calls (w := wa) x0 (by rw [HNO.out]; exact HO.out.keep HA3.out.1.bel) HO0.out)
       go_wp2_with (go_at_call 68; refine HCF.out.mono ?_; rintro e w1 ⟨rfl, hB1⟩)
       go_meet
       case rel => exact ⟨by rw [HBO.out]; rfl, hB1⟩
     case rest =>
      obtain ⟨rfl, hB5⟩ := hcut
      have HA4 := lhi (HA3.out.below hB5)
      have hKT := (KeepsT.refl wa).below hB5
      have HB4' := lhi (HB3'.out.keepT hKT)
      have HI4 := lhi (HI3.out.keepT hKT)
      have HX4 := lhi (hKT.blk HX3.out (by decide) (by decide))
      clear hKT hB5 HA3 HB3' HI3 HX3 HBO
      obtain ⟨wb, rfl⟩ : ∃ wb : World, wb = wc := ⟨_, rfl⟩
      go_upto_region 7 with (fail)
      go_cut [81] (fun s wx => s = .bool cc /\ ∃ d, wx = wb.drewN d)
      case first =>
       have x0 : wb.cell? ⟨xg, 0, none⟩ = some (.int .i64 x) := HX4.out.cell 0
       have c0 := HA4.out.1.c0
       have s0 := HA4.out.1.s0
       have hlook := fun d => (HB4'.out.drewN d).look hnum
       generalize foundB S x = fv at *
       rcases bool_tf fv with rfl | rfl
       ·rcases hfi : firstIx S x with _ | i
        ·have HF := lhi (fun d => first_none (HA4.out.1.drewN d).c0 (HA4.out.1.drewN d).s0 (by rw [HNN.out]; exact HI.out.keep (HA4.out.1.drewN d).bel) HN0.out hfi)
         have HB4 := lhi (show cc = !oo by rw [HB4.out, hfi]; rfl)
         clear hfi
         have heq := fun W => eql_nil W ⟨g, off + k * 4, none⟩
         rcases bool_tf oo with rfl | rfl
         all_goals (
          go_quiet ((go_at_call 73; exact Calls.quiet_of_same (HF.out _)))
          go_wp2_with (fail)
          go_meet
          case rel => exact ⟨by rw [HB4.out]; rfl, _, rfl⟩)
        ·have HF := lhi (fun d => (first_some (HA4.out.1.drewN d).c0 (HA4.out.1.drewN d).s0 (by rw [HNN.out]; exact HI.out.keep (HA4.out.1.drewN d).bel) HN0.out hfi))
         have HF := lhi (show ∀ d, Calls Tryz.prog 73 #[.pointer (some ⟨c, 0, none⟩), .int .i64 x] (wb.drewN d) fun e w' => e = .returned (.pointer (some ⟨g, off + i * 4, none⟩)) /\ w' = wb.drewN d from fun d => by
          obtain ⟨g', off', e, _, _, hc⟩ := HF.out d
          injection e with e
          injection e with e1 e2
          subst e1 e2
          exact hc)
         by_cases hik : i = k
         ·subst hik
          have HB4 := lhi (show cc = false by rw [HB4.out, hfi]; simp)
          clear hfi
          have heq := fun W => eql_ptr W g (off + i * 4) (off + i * 4) true (by simp)
          go_quiet ((go_at_call 73; exact Calls.quiet_of_same (HF.out _)))
          go_wp2_with (fail)
          go_meet
          case rel => exact ⟨by rw [HB4.out], _, rfl⟩
         ·have HB4 := lhi (show cc = !oo by rw [HB4.out, hfi]; simp [hik])
          clear hfi
          have heq := fun W => eql_ptr W g (off + i * 4) (off + k * 4) false (by simp; omega)
          rcases bool_tf oo with rfl | rfl
          all_goals (
           go_quiet ((go_at_call 73; exact Calls.quiet_of_same (HF.out _)))
           go_wp2_with (fail)
           go_meet
           case rel => exact ⟨by rw [HB4.out]; rfl, _, rfl⟩)
       ·have HB4 := lhi (show cc = !oo by rw [HB4.out]; rfl)
        rcases bool_tf oo with rfl | rfl
        all_goals (
         go_quiet (fail)
         go_wp2_with (fail)
         go_meet
         case rel => exact ⟨by rw [HB4.out]; rfl, _, rfl⟩)
      case rest =>
       obtain ⟨rfl, d, rfl⟩ := hcut
       have HA5 := lhi (HA4.out.drewN d)
       have HB5 := lhi (HB4'.out.drewN d)
       have HI5 := lhi (HI4.out.drewN d)
       have HX5 := lhi (show Blk (wb.drewN d) xg 72 #[.int .i64 x, .bool dv, .slice EA ne ecap, .string dt] from HX4.out)
       clear HA4 HB4' HI4 HX4 HB4
       generalize wb.drewN d = wz at *
       rcases bool_tf cc with rfl | rfl
       ·have x0 : wz.cell? ⟨xg, 0, none⟩ = some (.int .i64 x) := HX5.out.cell 0
        have HA := lhi (add_calls HA5.out.1 (by have := HL2.out; omega) 4 x nm0)
        go_wp2_with (fail)
        refine HA.out.mono ?_
        rintro e w1 ⟨rfl, h1, h2⟩
        have HR := lhi (HA5.out.to h1 h2)
        have HR2 := lhi (HB5.out.keepT h2)
        have HR3 := lhi (HI5.out.keepT h2)
        clear h1 h2
        go_wp2_with (fail)
        go_roundw
        case rel => exact ⟨k + 1, by go_num, by omega, by rw [HE.out]; exact HR.out, HR2.out, HR3.out⟩
        case measure =>
         simp only [intOf]
         omega
       ·have HD := lhi (one_false D2 4 x nm0 rfl)
        go_wp2_with (fail)
        go_roundw
        case rel => exact ⟨k + 1, by go_num, by omega, by rw [HE.out, <- HD.out]; exact HA5.out, HB5.out, HI5.out⟩
        case measure =>
         simp only [intOf]
         omega
  ·have e : k = n := by omega
   subst e
   go_wp2_with (fail)
   go_end0
   exact ⟨rfl, by rw [HNN.out, HNO.out, HNF.out]; exact HAT.out⟩
end Go.Proofs.YtkebjgebkneijaaGreatDoor
