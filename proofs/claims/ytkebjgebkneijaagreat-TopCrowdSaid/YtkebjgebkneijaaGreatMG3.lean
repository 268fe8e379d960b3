/- Texts of one's own that a claim's last text rests on: CkFnd CkTreS CkTree. -/
import Derived.Test.YtkebjgebkneijaaGreatMG2
import Derived.IntWalk
import Derived.Deep.CutBlock
import Derived.LaidEqlPtr
set_option linter.unusedVariables false
set_option linter.unusedSimpArgs false
namespace Go.Proofs.YtkebjgebkneijaaGreat
section
open Go.RowKit
set_option maxHeartbeats 2000000
attribute [local go_sem↓] Go.wp_at_zero Go.wp_at_succ
set_option maxRecDepth 1000000 in
theorem found_calls{w0 w:World}{c sb:Nat}{iv ov mv:Value}{ev:Nat->Value}{S:St}{D:List Fnd}(h:Ck w0 w c sb iv ov mv D)(hS:StM w0 iv ov mv ev S)(hs:S.small):
  Calls Tryz.prog 106 #[.pointer (some ⟨c,0,none⟩)] w fun e w'=>∃fb mb nf nm,e= .returned (.tuple #[.map (some fb),.map (some mb)])/\At w0 w w' c sb iv ov mv D/\MapB w' fb nf (foundB S)/\MapI w' mb nm (fun x=>(manyF S x:Nat)):=by
 obtain⟨A,cap,rfl⟩:=hS.ino.form
 have hn:=hs.ni
 have HN0:=lhi hs.ni
 have hw0:w0.heap.size<=w.heap.size:=h.bel.size
 have HC:=lhi h
 have HS:=lhi hS
 have HSm:=lhi hs
 clear h hS hs
 obtain⟨n,hnn⟩: ∃n,S.inodes.length=n:=⟨_,rfl⟩
 rw[hnn]at hn HC HS
 have HI:=lhi (show RowAt w0 (.slice A n cap) n 4 (inoC S ev)from hnn▸HS.out.ino)
 have HNN:=lhi hnn
 clear hnn
 have hmm:=@run_makeMap Tryz.prog
 go_enter Tryz.func106,Tryz.ntmps106
 go_upto_region 1 with(fail)
 go_cut [4,5] (fun m1 m2 wx=>∃fb mb,m1= .map (some fb)/\m2= .map (some mb)/\w.heap.size<=fb/\w.heap.size<=mb/\fb≠mb/\At w0 w wx c sb (.slice A n cap) ov mv D/\MapB wx fb 1 (fun x=>[1].contains x)/\MapI wx mb 0 (fun _=>0))
 case first=>
  have HM1:=lhi (MapB.made w)
  have HA1:=lhi ((At.start HC.out).alloc (.map #[] 0))
  go_wp2_with (with_reducible refine wpList_setB _ rfl (.tmp 14) (.const (.int .i64 1)) (.const (.bool true)) (.inr rfl) w.heap.size 0 (fun _=>false) rfl HM1.out (by decide) 1 (by decide) rfl true rfl ?_;intro w1 hM1 hG1)
  have hob:=HM1.out.obj
  have HA2:=lhi (((HA1.out.turn hob (Nat.le_refl _) hw0 hG1).alloc (.map #[] 0)))
  have HM2:=lhi (hM1.alloc (.map #[] 0))
  have HM3:=lhi (MapI.made w1)
  have hlt:w.heap.size<w1.heap.size:=by have:=hG1.size;simp at this;omega
  go_meet
  case rel=>exact⟨_,_,rfl,rfl,Nat.le_refl _,by omega,by omega,HA2.out,HM2.out.congr (fun i=>by by_cases e:i=1 <;> simp[e]),HM3.out⟩
 case rest=>
  obtain⟨fb,mb,rfl,rfl,hfb,hmb,hfm,hat,hmB,hmI⟩:=hcut
  have HAT:=lhi hat
  have HMB:=lhi hmB
  have HMI:=lhi hmI
  have c0:=hat.1.c0
  have s0:=hat.1.s0
  clear hat hmB hmI HC
  go_wp2_with (fail)
  clear c0 s0
  go_loopw [25] (fun i wr=>∃k:Nat,i= .int .i64 k/\k<=n/\At w0 w wr c sb (.slice A n cap) ov mv D/\MapB wr fb 1 (fun x=>[1].contains x)/\MapI wr mb (manyTo S k).length (fun x=>((manyTo S k).count x:Nat))) (fun i _=>n - (intOf i).toNat)
  case atStart=>exact⟨0,rfl,by omega,HAT.out,HMB.out,HMI.out⟩
  case round=>
   obtain⟨k,rfl,hk,hat,hmB,hmI⟩:=hrel
   have HAT:=lhi hat
   have HMB:=lhi hmB
   have HMI:=lhi hmI
   clear hat hmB hmI
   by_cases hp:k<n
   ·
    obtain⟨-,hcap,g,off,rfl,hcell⟩:=(HI.out.keep HAT.out.1.bel).at_ hp
    have q0:wr.cell? ⟨g,off+k*4,none⟩=some (.int .i64 (S.num k)):=hcell 0 (by omega)
    have q1:wr.cell? ⟨g,off+k*4+1,none⟩=some (.bool (S.dir k)):=hcell 1 (by omega)
    have q2:wr.cell? ⟨g,off+k*4+2,none⟩=some (ev k):=hcell 2 (by omega)
    have q3:wr.cell? ⟨g,off+k*4+3,none⟩=some (.string (S.dat k)):=hcell 3 (by omega)
    have hp1:(k:Int)<n:=by omega
    clear hcell
    have hent:=HS.out.ent k (by rw[HNN.out];exact hp)
    obtain⟨EA,ecap,hev⟩:=hent.form
    rw[hev]at q2 hent
    have hne:=HSm.out.en k
    have HENT:=lhi hent
    have HMS:=lhi (manyTo_succ S k)
    have HML:=lhi (manyTo_len S HSm.out k (by omega))
    have HSN:=lhi (entsTo_snoc S k)
    have HEU:=lhi (fun j=>HSm.out.enu k j)
    have HEO:=lhi (show entsOf S k=(List.range (S.ne k)).map (S.enu k)from rfl)
    clear hent hev
    generalize hnee:S.ne k=ne at*
    have HNE:=lhi hnee
    clear hnee
    generalize S.num k=x at*
    generalize S.dir k=dv at*
    generalize S.dat k=dt at*
    have HX:=lhi (Blk.new wr 93 #[.int .i64 x,.bool dv,.slice EA ne ecap,.string dt])
    have HAX:=lhi (HAT.out.alloc (Obj.cells #[Value.int IntKind.i64 x,Value.bool dv,Value.slice EA ne ecap,Value.string dt] 93))
    have HBX:=lhi (HMB.out.alloc (Obj.cells #[Value.int IntKind.i64 x,Value.bool dv,Value.slice EA ne ecap,Value.string dt] 93))
    have HIX:=lhi (HMI.out.alloc (Obj.cells #[Value.int IntKind.i64 x,Value.bool dv,Value.slice EA ne ecap,Value.string dt] 93))
    have hxw:w.heap.size<=wr.heap.size:=HAT.out.2.size
    clear HAT HMB HMI
    go_wp2_with (fail)
    clear q0 q1 q2 q3
    obtain⟨wy,hwy⟩: ∃wy,wy=wr.alloc (Obj.cells #[Value.int IntKind.i64 x,Value.bool dv,Value.slice EA ne ecap,Value.string dt] 93):=⟨_,rfl⟩
    rw[<-hwy]at HX HAX HBX HIX⊢
    clear hwy
    generalize wr.heap.size=xg at*
    go_loopw [32] (fun i wr=>∃j:Nat,i= .int .i64 j/\j<=ne/\At w0 w wr c sb (.slice (some ⟨g,off,none⟩) n cap) ov mv D/\MapB wr fb 1 (fun x=>[1].contains x)/\MapI wr mb (manyTo S k++if dv then(List.range j).map (S.enu k)else []).length (fun x=>((manyTo S k++if dv then(List.range j).map (S.enu k)else []).count x:Nat))/\Blk wr xg 93 #[.int .i64 x,.bool dv,.slice EA ne ecap,.string dt]) (fun i _=>ne - (intOf i).toNat)
    case atStart=>exact⟨0,rfl,by omega,HAX.out,HBX.out,by simpa using HIX.out,HX.out⟩
    case round=>
     obtain⟨j,rfl,hj,hat,hmB,hmI,hbx⟩:=hrel
     have HAT:=lhi hat
     have HMB:=lhi hmB
     have HBL:=lhi hbx
     by_cases hpj:j<ne
     ·have HMI:=lhi hmI
      clear hat hmB hmI hbx HAX HBX HIX HX
      obtain⟨-,-,eg,eoff,rfl,hcell⟩:=(HENT.out.keep HAT.out.1.bel).at_ hpj
      have q0:wr.cell? ⟨eg,eoff+j*2,none⟩=some (.string (S.enm k j)):=hcell 0 (by omega)
      have q1:wr.cell? ⟨eg,eoff+j*2+1,none⟩=some (.int .i64 (S.enu k j)):=hcell 1 (by omega)
      have hp2:(j:Int)<ne:=by omega
      have hnu:=HEU.out j
      have HSJ:=lhi (HSN.out j)
      clear hcell
      generalize S.enm k j=nm at*
      generalize S.enu k j=nu at*
      have HBL2:=lhi (HBL.out.alloc (Obj.cells #[.string nm,.int .i64 nu] 132))
      have HAT2:=lhi (HAT.out.alloc (Obj.cells #[.string nm,.int .i64 nu] 132))
      have HMB2:=lhi (HMB.out.alloc (Obj.cells #[.string nm,.int .i64 nu] 132))
      have HMI2:=lhi (HMI.out.alloc (Obj.cells #[.string nm,.int .i64 nu] 132))
      have x1:(wr.alloc (Obj.cells #[.string nm,.int .i64 nu] 132)).cell? ⟨xg,1,none⟩=some (.bool dv):=HBL2.out.cell 1
      clear HBL HAT HMB HMI
      rcases bool_tf dv with rfl | rfl
      ·have HL:=lhi (show(manyTo S k++(List.range (j+1)).map (S.enu k))=(manyTo S k++(List.range j).map (S.enu k))++[nu]by rw[HSJ.out,List.append_assoc])
       have HMI2:=lhi (show MapI (wr.alloc (Obj.cells #[.string nm,.int .i64 nu] 132)) mb (manyTo S k++(List.range j).map (S.enu k)).length (fun x=>((manyTo S k++(List.range j).map (S.enu k)).count x:Nat))from HMI2.out)
       have HLL:=lhi (show(manyTo S k++(List.range j).map (S.enu k)).length<=1001000 by rw[List.length_append,List.length_map,List.length_range];have:=HML.out;omega)
       generalize manyTo S k++(List.range j).map (S.enu k)=L at*
       have hlook:=HMI2.out.look hnu
       have hcl:(L.count nu:Int)<=1001000:=by have:=List.count_le_length (a:=nu) (l:=L);have:=HLL.out;omega
       have hc0:(0:Int)<= (L.count nu:Int):=by omega
       have HK:=lhi (show∀y:Int,y=(L.count nu:Int)+1-> ∀z,(if z=nu then y else(L.count z:Int))=((L++[nu]).count z:Nat)from fun y hy z=>by rw[count_snoc,hy])
       generalize hcn:(L.count nu:Int)=cn at*
       have HCN:=lhi hcn
       clear hcn
       go_wp2_with (at_mapUpdate;refine wpList_setI _ rfl (.tmp 38) (.tmp 40) (.tmp 42) rfl mb L.length _ rfl HMI2.out (by have:=HLL.out;omega) nu hnu rfl (cn+1) ⟨by omega,by omega⟩ rfl ?_;intro w5 hM5 hG5)
       have hob:=HMI2.out.obj
       have HR1:=lhi (HAT2.out.turn hob hmb hw0 hG5)
       have HR2:=lhi (HMB2.out.kept hG5 (fun e=>hfm (Option.some.inj e)))
       have HR3:=lhi (show MapI w5 mb (L++[nu]).length (fun x=>((L++[nu]).count x:Nat))from by
        have:=hM5.congr (fun z=>HK.out (cn+1) rfl z)
        simpa using this)
       have HR4:=lhi (HBL2.out.turn hob hG5)
       clear hM5 hG5 hob hlook
       go_wp2_with (fail)
       go_roundw
       case rel=>exact⟨j+1,by go_num,by omega,HR1.out,HR2.out,by rw[HL.out];exact HR3.out,HR4.out⟩
       case measure=>
        simp only[intOf]
        omega
      ·go_wp2_with (fail)
       go_roundw
       case rel=>exact⟨j+1,by go_num,by omega,HAT2.out,HMB2.out,HMI2.out,HBL2.out⟩
       case measure=>
        simp only[intOf]
        omega
     ·have e:j=ne:=by omega
      subst e
      have HMI:=lhi (show MapI wr mb (manyTo S (k+1)).length (fun x=>((manyTo S (k+1)).count x:Nat))by rw[HMS.out,HEO.out];exact hmI)
      clear hat hmB hmI hbx HAX HBX HIX HX
      go_wp2_with (fail)
      go_roundw
      case rel=>exact⟨k+1,by go_num,by omega,HAT.out,HMB.out,HMI.out⟩
      case measure=>
       simp only[intOf]
       omega
   ·have e:k=n:=by omega
    subst e
    have HM:=lhi (HMI.out.congr (fun x=>(show(((manyTo S k).count x:Nat):Int)=(manyF S x:Nat)by unfold manyF;rw[HNN.out])))
    clear HMI
    generalize (manyTo S k).length=nm at*
    have HQ:=lhi (QS.lit wr 1 HAT.out.2.size)
    have HAQ:=lhi (HAT.out.alloc (Obj.cells #[.int .i64 1] 3))
    have HBQ:=lhi (HMB.out.alloc (Obj.cells #[.int .i64 1] 3))
    have HIQ:=lhi (HM.out.alloc (Obj.cells #[.int .i64 1] 3))
    clear HAT HMB HM
    go_wp2_with (fail)
    obtain⟨wy,hwy⟩: ∃wy,wy=wr.alloc (Obj.cells #[.int .i64 1] 3):=⟨_,rfl⟩
    rw[<-hwy]at HQ HAQ HBQ HIQ⊢
    clear hwy
    generalize wr.heap.size=tb at*
    go_loopg [10] ((univ S).length+2) (fun f todo wr=>∃(F:List Int) (p:Nat),f+p=(univ S).length+2/\F.length+out (univ S) F<= (univ S).length+1/\p<=F.length/\foundF S=bfs S f F p/\At w0 w wr c sb (.slice A k cap) ov mv D/\QS wr w.heap.size todo (F.drop p)/\MapB wr fb F.length (fun x=>F.contains x)/\MapI wr mb nm (fun x=>(manyF S x:Nat)))
    case atStart=>exact⟨[1],0,by omega,(by have:=List.length_filter_le (fun x=>!([1]:List Int).contains x) (univ S);unfold out;simp only[List.length_singleton];omega),by simp,rfl,HAQ.out,HQ.out,HBQ.out,HIQ.out⟩
    case round=>
     obtain⟨F,p,hf,hF,hpF,hbf,hat,hq,hmB,hmI⟩:=hrel
     have HAT:=lhi hat
     have HMB:=lhi hmB
     have HMI:=lhi hmI
     have HQ:=lhi hq
     have HBF:=lhi hbf
     have HFB:=lhi hF
     have HFP:=lhi hf
     obtain⟨tg,toff,tcap,rfl,htc,htcell⟩:=hq.form
     clear hat hmB hmI hq hbf hF hf HAQ HBQ HIQ
     by_cases hp2:p<F.length
     ·obtain⟨x,rest,hd⟩: ∃x rest,F.drop p=x::rest:=⟨F[p],F.drop (p+1),List.drop_eq_getElem_cons hp2⟩
      have hx:=htcell 0 x (by rw[hd];rfl)
      have HFX:=lhi (show F[p]? =some x by have:=congrArg (fun l=>l[0]?) hd;simpa using this)
      have HRS:=lhi (show rest=F.drop (p+1)by have:=congrArg List.tail hd;simpa using this.symm)
      rw[Nat.add_zero]at hx
      clear htcell
      have htn:0< (F.drop p).length:=by rw[hd];simp
      have htn2:(0:Int)< ((F.drop p).length:Int):=by omega
      have HTL:=lhi (show(F.drop p).length=rest.length+1 by rw[hd];rfl)
      have HDD:=lhi hd
      clear hd
      generalize (F.drop p).length=tl at*
      obtain⟨wo,rfl⟩: ∃wo:World,wo=wr:=⟨_,rfl⟩
      go_upto_block 5 with(fail)
      go_cut [10] (fun todo wx=>∃F':List Int,F'=addAll F (kids S x)/\F'.length+out (univ S) F'<= (univ S).length+1/\p<F'.length/\At w0 w wx c sb (.slice A k cap) ov mv D/\QS wx w.heap.size todo (F'.drop p)/\MapB wx fb F'.length (fun x=>F'.contains x)/\MapI wx mb nm (fun x=>(manyF S x:Nat)))
      case first=>
       have hnr:=HNN.out
       have HII:=lhi (show RowAt wo (.slice A k cap) S.inodes.length 4 (inoC S ev)by rw[hnr];exact HI.out.keep HAT.out.1.bel)
       clear hnr
       rcases hfi:firstIx S x with _ | i
       ·have HF:=lhi (first_none HAT.out.1.c0 HAT.out.1.s0 HII.out HN0.out hfi)
        have HKI:=lhi (show addAll F (kids S x)=F by unfold kids;rw[hfi];rfl)
        clear hfi
        go_wp2_with (go_at_call 104;refine HF.out.mono ?_;rintro e w' ⟨rfl,hw⟩;obtain rfl:=hw.symm)
        go_meet
        case rel=>exact⟨F,HKI.out.symm,HFB.out,hp2,HAT.out,HQ.out,HMB.out,HMI.out⟩
       ·obtain⟨g,off,rfl,hil,_,hcall⟩:=first_some HAT.out.1.c0 HAT.out.1.s0 HII.out HN0.out hfi
        have HF:=lhi hcall
        obtain⟨-,-,g',off',e,hcell⟩:=HII.out.at_ hil
        injection e with e
        injection e with e1 e2
        subst e1 e2
        have y1:wo.cell? ⟨g,off+i*4+1,none⟩=some (.bool (S.dir i)):=hcell 1 (by omega)
        have y2:wo.cell? ⟨g,off+i*4+2,none⟩=some (ev i):=hcell 2 (by omega)
        have HKI:=lhi (show kids S x=if S.dir i then entsOf S i else []by unfold kids;rw[hfi])
        have hent:=HS.out.ent i hil
        obtain⟨EA,ecap,hev⟩:=hent.form
        rw[hev]at y2 hent
        have hne:=HSm.out.en i
        have HENT:=lhi hent
        have HSN:=lhi (entsTo_snoc S i)
        have HEU:=lhi (fun j=>HSm.out.enu i j)
        have HMU:=lhi (fun j (h:j<S.ne i)=>mem_univ hil h)
        have HEO:=lhi (show entsOf S i=(List.range (S.ne i)).map (S.enu i)from rfl)
        clear hfi hcall hcell hent hev
        generalize S.ne i=ne at*
        generalize S.dir i=dv at*
        rcases bool_tf dv with rfl | rfl
        ·go_wp2_with (go_at_call 104;refine HF.out.mono ?_;rintro e w' ⟨rfl,hw⟩;obtain rfl:=hw.symm)
         clear hx y1 y2 HF
         go_loopw [10,70] (fun todo kk wr=>∃(j:Nat) (Fj:List Int),kk= .int .i64 j/\j<=ne/\Fj=addAll F ((List.range j).map (S.enu i))/\Fj.length+out (univ S) Fj<= (univ S).length+1/\p<Fj.length/\At w0 w wr c sb (.slice (some ⟨g,off,none⟩) k cap) ov mv D/\QS wr w.heap.size todo (Fj.drop p)/\MapB wr fb Fj.length (fun x=>Fj.contains x)/\MapI wr mb nm (fun x=>(manyF S x:Nat))) (fun _ kk _=>ne - (intOf kk).toNat)
         case atStart=>exact⟨0,F,rfl,by omega,rfl,HFB.out,hp2,HAT.out,HQ.out,HMB.out,HMI.out⟩
         case round=>
          obtain⟨j,Fj,rfl,hj,hFj,hFjb,hpj,hat,hq,hmB,hmI⟩:=hrel
          have HAT:=lhi hat
          have HMB:=lhi hmB
          have HMI:=lhi hmI
          have HQ:=lhi hq
          have HFJ:=lhi hFj
          have HFJB:=lhi hFjb
          clear hat hmB hmI hq hFj hFjb
          by_cases hlt:j<ne
          ·obtain⟨-,-,eg,eoff,rfl,hcell⟩:=(HENT.out.keep HAT.out.1.bel).at_ hlt
           have r0:wr.cell? ⟨eg,eoff+j*2,none⟩=some (.string (S.enm i j)):=hcell 0 (by omega)
           have r1:wr.cell? ⟨eg,eoff+j*2+1,none⟩=some (.int .i64 (S.enu i j)):=hcell 1 (by omega)
           have hlt2:(j:Int)<ne:=by omega
           have hnu:=HEU.out j
           have HMX:=lhi (HMU.out j hlt)
           have HSJ:=lhi (show addAll F ((List.range (j+1)).map (S.enu i))=add1 Fj (S.enu i j)by rw[HSN.out j,addAll_snoc,<-HFJ.out])
           clear hcell HFJ
           generalize S.enm i j=nme at*
           generalize S.enu i j=nu at*
           have HE:=lhi (Blk.new wr 132 #[.string nme,.int .i64 nu])
           have HAT2:=lhi (HAT.out.alloc (Obj.cells #[.string nme,.int .i64 nu] 132))
           have HMB2:=lhi (HMB.out.alloc (Obj.cells #[.string nme,.int .i64 nu] 132))
           have HMI2:=lhi (HMI.out.alloc (Obj.cells #[.string nme,.int .i64 nu] 132))
           have HQ2:=lhi (HQ.out.alloc (Obj.cells #[.string nme,.int .i64 nu] 132))
           have hwr:w.heap.size<=wr.heap.size:=HAT.out.2.size
           clear HAT HMB HMI HQ
           have hlook:=HMB2.out.look hnu
           generalize hcb:Fj.contains nu=cb at hlook
           have HCB:=lhi hcb
           clear hcb
           have HUL:=lhi (univ_len S HSm.out)
           rcases bool_tf cb with rfl | rfl
           ·have HS1:=lhi (show Fj=addAll F ((List.range (j+1)).map (S.enu i))by rw[HSJ.out];unfold add1;rw[if_pos HCB.out])
            go_wp2_with (fail)
            go_roundw
            case rel=>exact⟨j+1,Fj,by go_num,by omega,HS1.out,HFJB.out,hpj,HAT2.out,HQ2.out,HMB2.out,HMI2.out⟩
            case measure=>
             simp only[intOf]
             omega
           ·have HS1:=lhi (show Fj++[nu]=addAll F ((List.range (j+1)).map (S.enu i))by rw[HSJ.out];unfold add1;rw[if_neg (by rw[HCB.out];decide)])
            have HO:=lhi (add1_out HMX.out HCB.out)
            have hbase:w.heap.size<=wr.heap.size:=hwr
            have HLB:=lhi (show(Fj.drop p).length<=1000000000 by rw[List.length_drop];have:=HFJB.out;have:=HUL.out;omega)
            go_wp2_with (first | (at_mapUpdate;refine wpList_setB _ rfl (.tmp 79) (.tmp 81) (.const (.bool true)) (.inl rfl) fb Fj.length _ rfl HMB2.out (by have:=HFJB.out;have:=HUL.out;omega) nu hnu rfl true rfl ?_;intro w5 hM5 hG5;have e1:w5.cell? ⟨wr.heap.size,1,none⟩=some (.int .i64 nu):=(HE.out.turn HMB2.out.obj hG5).cell 1) | (at_builtin;refine wpList_push _ rfl (.tmp 82) (.tmp 85) rfl w.heap.size _ _ rfl ((HQ2.out.turn HMB2.out.obj hG5).alloc (Obj.cells #[.int .i64 nu] 3)) HLB.out (by have:=hG5.size;simp at this⊢;omega) w5.heap.size nu rfl ((Blk.new w5 3 #[.int .i64 nu]).cell 0) ?_;intro v6 w6 row6 hQ6 hG6 hR6))
            have hob:=HMB2.out.obj
            have hbi:=(HMI2.out.kept hG5 (fun e=>hfm (Option.some.inj e).symm))
            have HR1:=lhi (((HAT2.out.turn hob hfb hw0 hG5).alloc (Obj.cells #[.int .i64 nu] 3)).row hw0 hG6 hR6)
            have HR2:=lhi ((hM5.alloc (Obj.cells #[.int .i64 nu] 3)).row hG6 hR6)
            have HR3:=lhi ((hbi.alloc (Obj.cells #[.int .i64 nu] 3)).row hG6 hR6)
            have HR5:=lhi (show QS w6 w.heap.size v6 ((Fj++[nu]).drop p)by rw[List.drop_append_of_le_length (by omega)];exact hQ6)
            clear hQ6 hG6 hR6 hM5 hG5 hbi hob e1 hlook
            go_wp2_with (fail)
            go_roundw
            case rel=>exact⟨j+1,Fj++[nu],by go_num,by omega,HS1.out,Nat.le_trans HO.out HFJB.out,by simp;omega,HR1.out,HR5.out,by rw[show(Fj++[nu]).length=Fj.length+1 by simp];exact HR2.out.congr (fun z=>(contains_snoc Fj nu z).symm),HR3.out⟩
            case measure=>
             simp only[intOf]
             omega
          ·have e:j=ne:=by omega
           subst e
           have HFE:=lhi (show Fj=addAll F (kids S x)by rw[HFJ.out,HKI.out,HEO.out];simp)
           go_wp2_with (fail)
           go_meet
           case rel=>exact⟨Fj,HFE.out,HFJB.out,hpj,HAT.out,HQ.out,HMB.out,HMI.out⟩
        ·have HKI:=lhi (show addAll F (kids S x)=F by rw[HKI.out,if_neg (by decide)];rfl)
         go_wp2_with (go_at_call 104;refine HF.out.mono ?_;rintro e w' ⟨rfl,hw⟩;obtain rfl:=hw.symm)
         go_meet
         case rel=>exact⟨F,HKI.out.symm,HFB.out,hp2,HAT.out,HQ.out,HMB.out,HMI.out⟩
      case rest=>
       obtain⟨F',hF',hFB',hp3,hat,hq,hmB,hmI⟩:=hcut
       have HAT2:=lhi hat
       have HMB2:=lhi hmB
       have HMI2:=lhi hmI
       have HFB2:=lhi hFB'
       obtain⟨f,hff⟩: ∃f,gk=f+1:=⟨gk - 1,by
        have h1:=HFP.out
        have h2:=HFB.out
        omega⟩
       have HBN:=lhi (show foundF S=bfs S f F' (p+1)by
        rw[HBF.out,hff,hF']
        show(match F[p]? with
         | some x=>bfs S f (addAll F (kids S x)) (p+1)
         | none=>F)=_
        rw[HFX.out])
       have HFF:=lhi (show f+ (p+1)=(univ S).length+2 by have:=HFP.out;omega)
       have HFG:=lhi (show f<gk by omega)
       obtain⟨y,rest',hd⟩: ∃y rest',F'.drop p=y::rest':=⟨F'[p],F'.drop (p+1),List.drop_eq_getElem_cons hp3⟩
       have HR2:=lhi (show rest'=F'.drop (p+1)by have:=congrArg List.tail hd;simpa using this.symm)
       rw[hd]at hq
       obtain⟨qg,qo,qc,rfl,hqc,_⟩:=hq.form
       have HT:=lhi hq.tail
       simp only[List.length_cons]at hqc HT⊢
       clear hat hq hmB hmI hFB' hF' hff hd HAT HMB HMI HQ HBF HFX HRS HFP hx
       generalize rest'.length=rl at*
       by_cases hc1:qc=1
       ·subst hc1
        have e:rl=0:=by omega
        subst e
        go_wp2_with (fail)
        go_roundg f
        case measure=>exact HFG.out
        case rel=>exact⟨F',p+1,HFF.out,HFB2.out,hp3,HBN.out,HAT2.out,HR2.out▸HT.out.1 (by first | rfl | trivial),HMB2.out,HMI2.out⟩
       ·go_wp2_with (fail)
        go_roundg f
        case measure=>exact HFG.out
        case rel=>exact⟨F',p+1,HFF.out,HFB2.out,hp3,HBN.out,HAT2.out,HR2.out▸HT.out.2 hc1,HMB2.out,HMI2.out⟩
     ·have hz:(F.drop p).length=0:=by rw[List.length_drop];omega
      have HFE:=lhi (show foundF S=F by
       rw[HBF.out]
       have hn:F[p]? =none:=List.getElem?_eq_none (by omega)
       cases gk with
       | zero=>rfl
       | succ f=>
        show(match F[p]? with
         | some x=>bfs S f (addAll F (kids S x)) (p+1)
         | none=>F)=F
        rw[hn])
      rw[hz]
      clear htcell hz
      go_wp2_with (fail)
      go_ret2
      exact⟨fb,mb,_,_,rfl,by rw[HNN.out];exact HAT.out,HMB.out.congr (fun x=>by unfold foundB;rw[HFE.out]),HMI.out⟩
end
section
open Go.RowKit
set_option maxHeartbeats 1000000
def isOpenB(S:St)(x:Int):Bool:=(List.range S.opens.length).any fun i=>S.on i==x
set_option maxRecDepth 1000000 in
theorem tree1_calls{w:World}{xg:Nat}{x:Int}(h:w.cell? ⟨xg,0,none⟩=some (.int .i64 x))(a b n:Int):
  Calls Tryz.prog 107 #[.agg #[.int .i64 a,.int .i64 b,.int .i64 n],.pointer (some ⟨xg,0,none⟩)] w fun e w'=>e= .returned (.bool (n==x))/\Below w.heap.size w w':=by
 have hlt:=World.block_lt_of_cell? w _ h
 have hne:=World.new_ne w _ h
 have hx:(w.alloc (.cells #[.int .i64 a,.int .i64 b,.int .i64 n] 144)).cell? ⟨xg,0,none⟩=some (.int .i64 x):=(Below.cell ((Below.refl _ _).alloc (Nat.le_refl _) _) hlt).trans h
 go_enter Tryz.func107,Tryz.ntmps107
 go_wp2_with (fail)
 go_ret
 exact⟨rfl,(Below.refl _ _).alloc (Nat.le_refl _) _⟩
set_option maxRecDepth 1000000 in
theorem indexFunc_calls{w:World}{xg:Nat}{x:Int}{ov:Value}{S:St}(h:w.cell? ⟨xg,0,none⟩=some (.int .i64 x))(hO:RowAt w ov S.opens.length 3 (opnC S))(hn:S.opens.length<=1000):
  Calls Tryz.prog 125 #[ov,.func (.func 107) #[] #[.pointer (some ⟨xg,0,none⟩)]] w fun e w'=>∃r:Int,e= .returned (.int .i64 r)/\decide (0<=r)=isOpenB S x/\Below w.heap.size w w':=by
 obtain⟨A,cap,rfl⟩:=hO.form
 have HO:=lhi hO
 have HX:=lhi h
 have hlt:=World.block_lt_of_cell? w _ h
 have HLT:=lhi hlt
 have HY:=lhi (show isOpenB S x=(List.range S.opens.length).any fun i=>S.on i==x from rfl)
 clear hO h hlt
 obtain⟨n,hnn⟩: ∃n,S.opens.length=n:=⟨_,rfl⟩
 rw[hnn]at hn HO HY⊢
 clear hnn
 go_enter Tryz.func125,Tryz.ntmps125
 go_wp2_with (fail)
 go_loopw [8] (fun i wr=>∃k:Nat,i= .int .i64 k/\k<=n/\ (∀j,j<k->(S.on j==x)=false)/\Below w.heap.size w wr) (fun i _=>n - (intOf i).toNat)
 case atStart=>exact⟨0,rfl,by omega,fun j hj=>absurd hj (by omega),Below.refl _ _⟩
 case round=>
  obtain⟨k,rfl,hk,hlt,hB⟩:=hrel
  have HL:=lhi hlt
  have HB:=lhi hB
  clear hlt hB
  by_cases hp:k<n
  ·obtain⟨-,hcap,g,off,rfl,hcell⟩:=(HO.out.keep HB.out).at_ hp
   have q0:wr.cell? ⟨g,off+k*3,none⟩=some (.int .i64 (S.oc k)):=hcell 0 (by omega)
   have q1:wr.cell? ⟨g,off+k*3+1,none⟩=some (.int .i64 (S.of k)):=hcell 1 (by omega)
   have q2:wr.cell? ⟨g,off+k*3+2,none⟩=some (.int .i64 (S.on k)):=hcell 2 (by omega)
   have hp1:(k:Int)<n:=by omega
   have HC:=lhi (tree1_calls (w:=wr) ((HB.out.cell (p:=⟨xg,0,none⟩) HLT.out).trans HX.out) (S.oc k) (S.of k) (S.on k))
   clear hcell
   generalize hb:(S.on k==x)=bb at*
   have HBB:=lhi hb
   clear hb
   rcases bool_tf bb with rfl | rfl
   ·have HE:=lhi (show isOpenB S x=true by rw[HY.out,List.any_eq_true];exact⟨k,by simpa using hp,HBB.out⟩)
    go_wp2_with (fail)
    refine HC.out.mono ?_
    rintro e w1 ⟨rfl,hB1⟩
    have HB1:=lhi (HB.out.trans (hB1.mono HB.out.size))
    clear hB1
    go_wp2_with (fail)
    go_ret
    exact⟨k,rfl,by rw[HE.out];simp,HB1.out⟩
   ·go_wp2_with (fail)
    refine HC.out.mono ?_
    rintro e w1 ⟨rfl,hB1⟩
    have HB1:=lhi (HB.out.trans (hB1.mono HB.out.size))
    clear hB1
    go_wp2_with (fail)
    go_roundw
    case rel=>
     refine⟨k+1,by go_num,by omega,fun j hj=>?_,HB1.out⟩
     by_cases h:j=k
     ·subst h;exact HBB.out
     ·exact HL.out j (by omega)
    case measure=>
     simp only[intOf]
     omega
  ·have e:k=n:=by omega
   subst e
   have HE:=lhi (show isOpenB S x=false by
    rw[HY.out,List.any_eq_false]
    intro j hj
    rw[HL.out j (by simpa using hj)]
    decide)
   go_wp2_with (fail)
   go_ret
   exact⟨-1,rfl,by rw[HE.out];rfl,HB.out⟩
set_option maxRecDepth 1000000 in
theorem containsFunc_calls{w:World}{xg:Nat}{x:Int}{ov:Value}{S:St}(h:w.cell? ⟨xg,0,none⟩=some (.int .i64 x))(hO:RowAt w ov S.opens.length 3 (opnC S))(hn:S.opens.length<=1000):
  Calls Tryz.prog 99 #[ov,.func (.func 107) #[] #[.pointer (some ⟨xg,0,none⟩)]] w fun e w'=>e= .returned (.bool (isOpenB S x))/\Below w.heap.size w w':=by
 have HI:=lhi (indexFunc_calls h hO hn)
 clear hO h
 go_enter Tryz.func99,Tryz.ntmps99
 go_wp2_with (fail)
 refine HI.out.mono ?_
 rintro e w1 ⟨r,rfl,hr,hB1⟩
 have HR:=lhi hr
 have HB:=lhi hB1
 clear hr hB1
 go_wp2_with (fail)
 go_ret
 exact⟨by first | rfl | (rw[HR.out];rfl),HB.out⟩
end
section
open Go.RowKit
set_option maxHeartbeats 2000000
attribute [local go_sem↓] Go.wp_at_zero Go.wp_at_succ
def b3(S:St)(i:Nat):Bool:=S.dir i&& (S.num i != 1&& ((manyF S (S.num i):Nat):Int) != 1)
def opB(S:St)(i:Nat):Bool:=!S.dir i&&isOpenB S (S.num i)
def b4(S:St)(i:Nat):Bool:=!(foundB S (S.num i)&& (firstIx S (S.num i)==some i))&&!opB S i
def treeAt(S:St)(i:Nat):List Fnd:=one 3 (S.num i) nm0 (b3 S i)++one 4 (S.num i) nm0 (b4 S i)
def treeF(S:St):List Fnd:=(List.range S.inodes.length).flatMap (treeAt S)
theorem treeAt_len(S:St)(i:Nat):(treeAt S i).length<=2:=by
 unfold treeAt
 have:=one_len 3 (S.num i) nm0 (b3 S i)
 have:=one_len 4 (S.num i) nm0 (b4 S i)
 rw[List.length_append];omega
theorem eql_ptr(w:World)(g x y:Nat)(b:Bool)(hb:decide (x=y)=b):(binOp .eql 161 (.pointer (some ⟨g,x,none⟩)) (.pointer (some ⟨g,y,none⟩))).run Tryz.prog w= .ok (.bool b) w:=by
 subst hb
 by_cases e:x=y
 ·subst e
  rw[decide_eq_true rfl]
  obtain⟨j,hj⟩: ∃j,Tryz.prog.info? 93=some j:=Option.isSome_iff_exists.1 (by kernel_rfl)
  exact run_eql_ptr_same w _ Tryz.underlying161 hj
 ·rw[decide_eq_false e]
  obtain⟨j,hj,hsz⟩: ∃j,Tryz.prog.info? 93=some j/\j.size≠0:=by
   have h:(Tryz.prog.info? 93).map (fun i=>i.size)=some 4:=by kernel_rfl
   obtain⟨j,hj,h2⟩:=Option.map_eq_some_iff.1 h
   exact⟨j,hj,by rw[h2];decide⟩
  have hs:(sameAddr ⟨g,x,none⟩ ⟨g,y,none⟩).run Tryz.prog w= .ok false w:=by simp[sameAddr]
  have h: ∀d:Nat,(Op.equalIn (d+1) 161 (.pointer (some ⟨g,x,none⟩)) (.pointer (some ⟨g,y,none⟩))).run Tryz.prog w= .ok false w:=fun d=>by
   simp[Op.equalIn,run_underlying Tryz.underlying161,sizeOf,typeInfo,hj,hsz,hs]
  simp only[binOp]
  simp[Op.equal,Op.maxDepth,h 9999]
theorem eql_nil(w:World)(a:Addr):(binOp .eql 161 (.pointer none) (.pointer (some a))).run Tryz.prog w= .ok (.bool false) w:=by
 have h: ∀d:Nat,(Op.equalIn (d+1) 161 (.pointer none) (.pointer (some a))).run Tryz.prog w= .ok false w:=fun d=>by
  simp[Op.equalIn,run_underlying Tryz.underlying161]
 simp only[binOp]
 simp[Op.equal,Op.maxDepth,h 9999]
set_option maxRecDepth 1000000 in
theorem tree_calls{w0 w:World}{c sb:Nat}{iv ov mv:Value}{ev:Nat->Value}{S:St}{D:List Fnd}(h:Ck w0 w c sb iv ov mv D)(hS:StM w0 iv ov mv ev S)(hs:S.small)(hD:D.length<=150000000):
  Calls Tryz.prog 53 #[.pointer (some ⟨c,0,none⟩)] w fun e w'=>e= .returned (.tuple #[])/\At w0 w w' c sb iv ov mv (D++treeF S):=by
 have HFO:=lhi (found_calls h hS hs)
 obtain⟨A,cap,rfl⟩:=hS.ino.form
 obtain⟨OA,ocap,rfl⟩:=hS.opn.form
 have hn:=hs.ni
 have HN0:=lhi hs.ni
 have HO0:=lhi hs.no
 have HS:=lhi hS
 have HSm:=lhi hs
 have HO:=lhi hS.opn
 clear h hS hs
 have HNF:=lhi (show treeF S=(List.range S.inodes.length).flatMap (treeAt S)from rfl)
 obtain⟨n,hnn⟩: ∃n,S.inodes.length=n:=⟨_,rfl⟩
 obtain⟨no,hno⟩: ∃n,S.opens.length=n:=⟨_,rfl⟩
 rw[hnn]at hn HNF HS HFO
 rw[hno]at HS HFO HO
 have HI:=lhi (show RowAt w0 (.slice A n cap) n 4 (inoC S ev)from hnn▸HS.out.ino)
 have HNN:=lhi hnn
 have HNO:=lhi hno
 clear hnn hno
 go_enter Tryz.func53,Tryz.ntmps53
 go_wp2_with (fail)
 refine HFO.out.mono ?_
 rintro e w1 ⟨fb,mb,nf,nm,rfl,hat,hmB,hmI⟩
 have HAT:=lhi hat
 have HMB:=lhi hmB
 have HMI:=lhi hmI
 have c0:=hat.1.c0
 have s0:=hat.1.s0
 clear hat hmB hmI HFO
 go_wp2_with (fail)
 clear c0 s0
 go_loopw [20] (fun i wr=>∃k:Nat,i= .int .i64 k/\k<=n/\At w0 w wr c sb (.slice A n cap) (.slice OA no ocap) mv (D++(List.range k).flatMap (treeAt S))/\MapB wr fb nf (foundB S)/\MapI wr mb nm (fun x=>(manyF S x:Nat))) (fun i _=>n - (intOf i).toNat)
 case atStart=>exact⟨0,rfl,by omega,by simpa using HAT.out,HMB.out,HMI.out⟩
 case round=>
  obtain⟨k,rfl,hk,hat,hmB,hmI⟩:=hrel
  have HAT:=lhi hat
  have HMB:=lhi hmB
  have HMI:=lhi hmI
  have HLK:=lhi (show(D++(List.range k).flatMap (treeAt S)).length<=150002000 by rw[List.length_append];have:=flat_len (treeAt_len S) k;omega)
  have HFS:=lhi (flat_succ (treeAt S) k)
  clear hat hmB hmI
  by_cases hp:k<n
  ·obtain⟨D1,hD1⟩: ∃D1,D1=D++(List.range k).flatMap (treeAt S):=⟨_,rfl⟩
   rw[<-hD1]at HAT HLK
   have HD1:=lhi (show D++(List.range (k+1)).flatMap (treeAt S)=D1++treeAt S k by rw[HFS.out,hD1,List.append_assoc])
   clear hD1 HFS
   obtain⟨-,hcap,g,off,rfl,hcell⟩:=(HI.out.keep HAT.out.1.bel).at_ hp
   have q0:wr.cell? ⟨g,off+k*4,none⟩=some (.int .i64 (S.num k)):=hcell 0 (by omega)
   have q1:wr.cell? ⟨g,off+k*4+1,none⟩=some (.bool (S.dir k)):=hcell 1 (by omega)
   have q2:wr.cell? ⟨g,off+k*4+2,none⟩=some (ev k):=hcell 2 (by omega)
   have q3:wr.cell? ⟨g,off+k*4+3,none⟩=some (.string (S.dat k)):=hcell 3 (by omega)
   have hp1:(k:Int)<n:=by omega
   clear hcell
   have hent:=HS.out.ent k (by rw[HNN.out];exact hp)
   obtain⟨EA,ecap,hev⟩:=hent.form
   rw[hev]at q2
   have hnum:=HSm.out.num k
   obtain⟨bb,hbb⟩: ∃b,b=b3 S k:=⟨_,rfl⟩
   obtain⟨oo,hoo⟩: ∃b,b=opB S k:=⟨_,rfl⟩
   obtain⟨cc,hcc⟩: ∃b,b=b4 S k:=⟨_,rfl⟩
   have HTA:=lhi (show treeAt S k=one 3 (S.num k) nm0 bb++one 4 (S.num k) nm0 cc by rw[hbb,hcc];rfl)
   have HB3:=lhi (show bb=(S.dir k&& (S.num k != 1&& ((manyF S (S.num k):Nat):Int) != 1))from hbb)
   have HBO:=lhi (show oo=(!S.dir k&&isOpenB S (S.num k))from hoo)
   have HB4:=lhi (show cc=(!(foundB S (S.num k)&& (firstIx S (S.num k)==some k))&&!oo)by rw[hcc,hoo];rfl)
   clear hbb hoo hcc hent hev
   generalize S.ne k=ne at*
   generalize S.num k=x at*
   generalize S.dir k=dv at*
   generalize S.dat k=dt at*
   have HX:=lhi (Blk.new wr 93 #[.int .i64 x,.bool dv,.slice EA ne ecap,.string dt])
   have HAX:=lhi (HAT.out.alloc (Obj.cells #[Value.int IntKind.i64 x,Value.bool dv,Value.slice EA ne ecap,Value.string dt] 93))
   have HBX:=lhi (HMB.out.alloc (Obj.cells #[Value.int IntKind.i64 x,Value.bool dv,Value.slice EA ne ecap,Value.string dt] 93))
   have HIX:=lhi (HMI.out.alloc (Obj.cells #[Value.int IntKind.i64 x,Value.bool dv,Value.slice EA ne ecap,Value.string dt] 93))
   clear HAT HMB HMI
   go_upto_region 4 with(fail)
   clear q0 q1 q2 q3
   obtain⟨wy,hwy⟩: ∃wy,wy=wr.alloc (Obj.cells #[Value.int IntKind.i64 x,Value.bool dv,Value.slice EA ne ecap,Value.string dt] 93):=⟨_,rfl⟩
   rw[<-hwy]at HX HAX HBX HIX⊢
   clear hwy
   generalize wr.heap.size=xg at*
   go_cut [38] (fun s wx=>s= .bool bb/\wy=wx)
   case first=>
    have x0:wy.cell? ⟨xg,0,none⟩=some (.int .i64 x):=HX.out.cell 0
    have x1:wy.cell? ⟨xg,1,none⟩=some (.bool dv):=HX.out.cell 1
    have hlook:=HIX.out.look hnum
    generalize ((manyF S x:Nat):Int)=mn at*
    rcases bool_tf dv with rfl | rfl
    ·by_cases h1:x=1
     ·have h1':(x != 1)=false:=by simp[h1]
      have HH:=lhi h1
      clear h1
      go_wp2_with (fail)
      go_meet
      case rel=>exact⟨by rw[HB3.out,h1'];rfl,rfl⟩
     ·have h1':(x != 1)=true:=by simp[h1]
      go_wp2_with (fail)
      go_meet
      case rel=>exact⟨by rw[HB3.out,h1'];rfl,rfl⟩
    ·go_wp2_with (fail)
     go_meet
     case rel=>exact⟨by rw[HB3.out];rfl,rfl⟩
   case rest=>
    obtain⟨rfl,rfl⟩:=hcut
    go_upto_if 38 with(fail)
    go_cut [] (fun wx=>At w0 w wx c sb (.slice (some ⟨g,off,none⟩) n cap) (.slice OA no ocap) mv (D1++one 3 x nm0 bb)/\MapB wx fb nf (foundB S)/\MapI wx mb nm (fun x=>(manyF S x:Nat))/\Blk wx xg 93 #[.int .i64 x,.bool dv,.slice EA ne ecap,.string dt])
    case first=>
     rcases bool_tf bb with rfl | rfl
     ·have x0:wy.cell? ⟨xg,0,none⟩=some (.int .i64 x):=HX.out.cell 0
      have HA:=lhi (add_calls HAX.out.1 (by have:=HLK.out;omega) 3 x nm0)
      go_wp2_with (fail)
      refine HA.out.mono ?_
      rintro e w1 ⟨rfl,h1,h2⟩
      go_wp2_with (fail)
      go_meet
      case rel=>exact⟨HAX.out.to h1 h2,HBX.out.keepT h2,HIX.out.keepT h2,h2.blk HX.out (by decide) (by decide)⟩
     ·have HD:=lhi (one_false D1 3 x nm0 rfl)
      go_wp2_with (fail)
      go_meet
      case rel=>exact⟨HD.out▸HAX.out,HBX.out,HIX.out,HX.out⟩
    case rest=>
     have HA3:=lhi hcut.1
     have HB3':=lhi hcut.2.1
     have HI3:=lhi hcut.2.2.1
     have HX3:=lhi hcut.2.2.2
     obtain⟨D2,hD2⟩: ∃D2,D2=D1++one 3 x nm0 bb:=⟨_,rfl⟩
     have HL2:=lhi (show D2.length<=150002001 by rw[hD2,List.length_append];have:=one_len 3 x nm0 bb;have:=HLK.out;omega)
     rw[<-hD2]at HA3
     have HE:=lhi (show D++(List.range (k+1)).flatMap (treeAt S)=D2++one 4 x nm0 cc by rw[HD1.out,HTA.out,hD2];simp only[List.append_assoc])
     clear hcut hD2 HAX HBX HIX HX HB3 HLK
     obtain⟨wa,rfl⟩: ∃wa:World,wa=wc:=⟨_,rfl⟩
     go_upto_region 6 with(fail)
     go_cut [6] (fun s wx=>s= .bool oo/\Below wa.heap.size wa wx)
     case first=>
      have x0:wa.cell? ⟨xg,0,none⟩=some (.int .i64 x):=HX3.out.cell 0
      have x1:wa.cell? ⟨xg,1,none⟩=some (.bool dv):=HX3.out.cell 1
      have c0:=HA3.out.1.c0
      have s1:=HA3.out.1.s1
      rcases bool_tf dv with rfl | rfl
      ·go_wp2_with (fail)
       go_meet
       case rel=>exact⟨by rw[HBO.out];rfl,Below.refl _ _⟩
      ·have HCF:=lhi (containsFunc_calls (w:=wa) x0 (by rw[HNO.out];exact HO.out.keep HA3.out.1.bel) HO0.out)
       go_wp2_with (go_at_call 99;refine HCF.out.mono ?_;rintro e w1 ⟨rfl,hB1⟩)
       go_meet
       case rel=>exact⟨by rw[HBO.out];rfl,hB1⟩
     case rest=>
      obtain⟨rfl,hB5⟩:=hcut
      have HA4:=lhi (HA3.out.below hB5)
      have hKT:=(KeepsT.refl wa).below hB5
      have HB4':=lhi (HB3'.out.keepT hKT)
      have HI4:=lhi (HI3.out.keepT hKT)
      have HX4:=lhi (hKT.blk HX3.out (by decide) (by decide))
      clear hKT hB5 HA3 HB3' HI3 HX3 HBO
      obtain⟨wb,rfl⟩: ∃wb:World,wb=wc:=⟨_,rfl⟩
      go_upto_region 7 with(fail)
      go_cut [81] (fun s wx=>s= .bool cc/\ ∃d,wx=wb.drewN d)
      case first=>
       have x0:wb.cell? ⟨xg,0,none⟩=some (.int .i64 x):=HX4.out.cell 0
       have c0:=HA4.out.1.c0
       have s0:=HA4.out.1.s0
       have hlook:=fun d=>(HB4'.out.drewN d).look hnum
       generalize foundB S x=fv at*
       rcases bool_tf fv with rfl | rfl
       ·rcases hfi:firstIx S x with _ | i
        ·have HF:=lhi (fun d=>first_none (HA4.out.1.drewN d).c0 (HA4.out.1.drewN d).s0 (by rw[HNN.out];exact HI.out.keep (HA4.out.1.drewN d).bel) HN0.out hfi)
         have HB4:=lhi (show cc=!oo by rw[HB4.out,hfi];rfl)
         clear hfi
         have heq:=fun W=>eql_nil W ⟨g,off+k*4,none⟩
         rcases bool_tf oo with rfl | rfl
         all_goals (
          go_quiet ((go_at_call 104;exact Calls.quiet_of_same (HF.out _)))
          go_wp2_with (fail)
          go_meet
          case rel=>exact⟨by rw[HB4.out];rfl,_,rfl⟩)
        ·have HF:=lhi (fun d=>(first_some (HA4.out.1.drewN d).c0 (HA4.out.1.drewN d).s0 (by rw[HNN.out];exact HI.out.keep (HA4.out.1.drewN d).bel) HN0.out hfi))
         have HF:=lhi (show∀d,Calls Tryz.prog 104 #[.pointer (some ⟨c,0,none⟩),.int .i64 x] (wb.drewN d) fun e w'=>e= .returned (.pointer (some ⟨g,off+i*4,none⟩))/\w'=wb.drewN d from fun d=>by
          obtain⟨g',off',e,_,_,hc⟩:=HF.out d
          injection e with e
          injection e with e1 e2
          subst e1 e2
          exact hc)
         by_cases hik:i=k
         ·subst hik
          have HB4:=lhi (show cc=false by rw[HB4.out,hfi];simp)
          clear hfi
          have heq:=fun W=>eql_ptr W g (off+i*4) (off+i*4) true (by simp)
          go_quiet ((go_at_call 104;exact Calls.quiet_of_same (HF.out _)))
          go_wp2_with (fail)
          go_meet
          case rel=>exact⟨by rw[HB4.out],_,rfl⟩
         ·have HB4:=lhi (show cc=!oo by rw[HB4.out,hfi];simp[hik])
          clear hfi
          have heq:=fun W=>eql_ptr W g (off+i*4) (off+k*4) false (by simp;omega)
          rcases bool_tf oo with rfl | rfl
          all_goals (
           go_quiet ((go_at_call 104;exact Calls.quiet_of_same (HF.out _)))
           go_wp2_with (fail)
           go_meet
           case rel=>exact⟨by rw[HB4.out];rfl,_,rfl⟩)
       ·have HB4:=lhi (show cc=!oo by rw[HB4.out];rfl)
        rcases bool_tf oo with rfl | rfl
        all_goals (
         go_quiet (fail)
         go_wp2_with (fail)
         go_meet
         case rel=>exact⟨by rw[HB4.out];rfl,_,rfl⟩)
      case rest=>
       obtain⟨rfl,d,rfl⟩:=hcut
       have HA5:=lhi (HA4.out.drewN d)
       have HB5:=lhi (HB4'.out.drewN d)
       have HI5:=lhi (HI4.out.drewN d)
       have HX5:=lhi (show Blk (wb.drewN d) xg 93 #[.int .i64 x,.bool dv,.slice EA ne ecap,.string dt]from HX4.out)
       clear HA4 HB4' HI4 HX4 HB4
       generalize wb.drewN d=wz at*
       rcases bool_tf cc with rfl | rfl
       ·have x0:wz.cell? ⟨xg,0,none⟩=some (.int .i64 x):=HX5.out.cell 0
        have HA:=lhi (add_calls HA5.out.1 (by have:=HL2.out;omega) 4 x nm0)
        go_wp2_with (fail)
        refine HA.out.mono ?_
        rintro e w1 ⟨rfl,h1,h2⟩
        have HR:=lhi (HA5.out.to h1 h2)
        have HR2:=lhi (HB5.out.keepT h2)
        have HR3:=lhi (HI5.out.keepT h2)
        clear h1 h2
        go_wp2_with (fail)
        go_roundw
        case rel=>exact⟨k+1,by go_num,by omega,by rw[HE.out];exact HR.out,HR2.out,HR3.out⟩
        case measure=>
         simp only[intOf]
         omega
       ·have HD:=lhi (one_false D2 4 x nm0 rfl)
        go_wp2_with (fail)
        go_roundw
        case rel=>exact⟨k+1,by go_num,by omega,by rw[HE.out,<-HD.out];exact HA5.out,HB5.out,HI5.out⟩
        case measure=>
         simp only[intOf]
         omega
  ·have e:k=n:=by omega
   subst e
   go_wp2_with (fail)
   go_end0
   exact⟨rfl,by rw[HNN.out,HNO.out,HNF.out];exact HAT.out⟩
end
end Go.Proofs.YtkebjgebkneijaaGreat
