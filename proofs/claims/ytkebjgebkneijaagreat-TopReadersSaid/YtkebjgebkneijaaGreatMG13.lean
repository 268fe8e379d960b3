/- Texts of one's own that a claim's last text rests on: Ml17 Ml18 Mf21 Mp1. -/
import Derived.Test.YtkebjgebkneijaaGreatMG12
import Derived.Deep.CutBlock
import Derived.Test.YtkebjgebkneijaaGreatMG11
set_option linter.unusedVariables false
set_option linter.unusedSimpArgs false
namespace Go.Proofs.YtkebjgebkneijaaGreat
open Go.RowKit
set_option maxHeartbeats 16000000
set_option maxRecDepth 1000000
section
attribute [local go_sem↓] Go.wp_at_zero Go.wp_at_succ
def idxL(S:St)(F:List Int):List Int:=F.map (Bh S)
theorem Abv:(Tryz.prog.info? 4).map (fun i=>(i.zero,i.size,i.bytes))=some (some (.bool false),1,1):=by kernel_rfl
theorem Oe{S:St}(h:Inv S): ∀(es F:List Int),Pc S F->(∀x∈es,∃g:Nat,g<S.inodes.length/\S.num g=x/\Bh S x=g)->Pc S (Dv F es)
 | [],F,hF,_=>hF
 | e::es,F,hF,he=>by
  refine Oe h es (add1 F e) (fun x hx=>?_) fun x hx=>he x (Amc _ hx)
  rcases Ys.1 hx with q | q
  ·exact hF x q
  ·exact q▸he e (Amb ..)
theorem QS.farB{w:World}{base:Nat}{v:Value}{xs:List Int}{b n:Nat}{t:TypeId}{g:Nat->Value}(h:QS w base v xs)(r:RowB w b t n g)(ht:3≠t)(i:Nat)(u:Value):QS (w.setCell ⟨b,i,none⟩ u) base v xs:=by
 obtain⟨q,off,cap,cur,h1,h2,h3,h4,h5⟩:=h
 obtain⟨cs,r1,-,-⟩:=r
 exact⟨q,off,cap,cur,h1,h2,h3,h4.far (p:=⟨b,i,none⟩) (Blk.ne_ h4 r1 ht) u,h5⟩
theorem Ts{w:World}{sp:Nat}{iv ov mv:Value}{ev:Nat->Value}{S:St}(hS:StM w iv ov mv ev S)(hI:Inv S)(h0:w.cell? ⟨sp,0,none⟩=some iv):
  Calls Tryz.prog 49 #[.pointer (some ⟨sp,0,none⟩)] w fun e w'=>(∃mb fb,e= .returned (.tuple #[.slice (some ⟨mb,0,none⟩) S.inodes.length S.inodes.length,.slice (some ⟨fb,0,none⟩) S.inodes.length S.inodes.length])/\RowB w' mb 3 S.inodes.length (fun i=>.int .i64 (Kf S (S.num i):Nat))/\RowB w' fb 4 S.inodes.length (fun i=>.bool (Jy S (S.num i))))/\Below w.heap.size w w':=by
 have hsm:=hI.small
 have hn:=hsm.ni
 have hpos:=hI.pos
 have HS:=lhi hS
 have HI:=lhi hI
 have HSm:=lhi hsm
 have HR:=lhi hS.ino
 have HORD:=lhi hI.ord
 have hp0:sp<w.heap.size:=Amd _ _ h0
 obtain⟨A,cap,rfl,-,-⟩:=hS.ino
 obtain⟨n,hnn⟩:=xx S.inodes.length
 have HNN:=lhi hnn
 have HL0:=lhi h0
 rw[hnn]at hn hpos HR h0
 rw[hnn]
 have H0:=lhi h0
 obtain⟨i1,hi1,hz10,hz11,hz12⟩:=info_parts Un
 obtain⟨i2,hi2,hz20,hz21,hz22⟩:=info_parts Abv
 have hm1:=Ci (P:=Tryz.prog) 28 3 i1 _ Tryz.underlying28 hi1 hz10 .i64 .i64 n n (Ama _) (by rw[hz12];omega) (by omega)
 simp only[hz11,Nat.mul_one,Value.cells,Dl]at hm1
 have hm2:=Ci (P:=Tryz.prog) 102 4 i2 _ Tryz.underlying102 hi2 hz20 .i64 .i64 n n (Ama _) (by rw[hz22];omega) (by omega)
 simp only[hz21,Nat.mul_one,Value.cells,Dl]at hm2
 have HFI:=lhi (fun(x:Int) (W:World) (hW:Below w.heap.size w W)=>Ia (sp:=sp) (HS.out.keep hW) HORD.out.n x HORD.out.rise ((hW.cell hp0).trans HL0.out))
 clear hS hI hsm hnn hi1 hi2 hz10 hz11 hz12 hz20 hz21 hz22
 go_enter Tryz.func49,Tryz.ntmps49
 go_upto_region 1 with(fail)
 go_cut [4,5] (fun s4 s5 wx=>∃mb fb,s4= .slice (some ⟨mb,0,none⟩) n n/\s5= .slice (some ⟨fb,0,none⟩) n n/\mb≠fb/\w.heap.size<=mb/\w.heap.size<=fb/\RowB wx mb 3 n (fun i=>.int .i64 ((Fp S 0).count (S.num i):Nat))/\RowB wx fb 4 n (fun _=>.bool false)/\Below w.heap.size w wx)
 case first=>
  have k0: ∀o,(w.alloc o).cell? ⟨sp,0,none⟩=some (.slice A n cap):=fun o=>(Amj _ _ _ hp0).trans h0
  have k1: ∀o o',((w.alloc o).alloc o').cell? ⟨sp,0,none⟩=some (.slice A n cap):=fun o o'=>(Amj _ _ _ (show sp< (w.alloc o).heap.size by simp;omega)).trans (k0 o)
  have hz: ∀j,j<n->(fun i=>Value.int .i64 ((Fp S 0).count (S.num i):Nat)) j=(fun _=>Value.int .i64 0) j:=fun _ _=>rfl
  have RA:=lhi (show RowB ((w.alloc (Obj.cells (Array.replicate n (.int .i64 0)) 3)).alloc (Obj.cells (Array.replicate n (.bool false)) 4)).drew w.heap.size 3 n (fun i=>.int .i64 ((Fp S 0).count (S.num i):Nat))from RowB.drew (((RowB.made w 3 n (.int .i64 0)).alloc _).congr hz))
  have RB_:=lhi (show RowB ((w.alloc (Obj.cells (Array.replicate n (.int .i64 0)) 3)).alloc (Obj.cells (Array.replicate n (.bool false)) 4)).drew (w.heap.size+1) 4 n (fun _=>.bool false)from RowB.drew (by have:=RowB.made (w.alloc (Obj.cells (Array.replicate n (.int .i64 0)) 3)) 4 n (.bool false);simpa using this))
  have RC:=lhi (show RowB ((w.alloc (Obj.cells (Array.replicate n (.bool false)) 4)).alloc (Obj.cells (Array.replicate n (.int .i64 0)) 3)).drew w.heap.size 4 n (fun _=>.bool false)from RowB.drew ((RowB.made w 4 n (.bool false)).alloc _))
  have RD:=lhi (show RowB ((w.alloc (Obj.cells (Array.replicate n (.bool false)) 4)).alloc (Obj.cells (Array.replicate n (.int .i64 0)) 3)).drew (w.heap.size+1) 3 n (fun i=>.int .i64 ((Fp S 0).count (S.num i):Nat))from RowB.drew (RowB.congr (by have:=RowB.made (w.alloc (Obj.cells (Array.replicate n (.bool false)) 4)) 3 n (.int .i64 0);simpa using this) hz))
  have RE:=lhi (show Below w.heap.size w ((w.alloc (Obj.cells (Array.replicate n (.int .i64 0)) 3)).alloc (Obj.cells (Array.replicate n (.bool false)) 4)).drew from Gi (((Amf w.heap.size w).alloc (Ama _) _).alloc (by simp) _))
  have RF:=lhi (show Below w.heap.size w ((w.alloc (Obj.cells (Array.replicate n (.bool false)) 4)).alloc (Obj.cells (Array.replicate n (.int .i64 0)) 3)).drew from Gi (((Amf w.heap.size w).alloc (Ama _) _).alloc (by simp) _))
  go_region_held3 (fun w'=>w'.cell? ⟨sp,0,none⟩=some (.slice A n cap)) (first | exact h0 | exact k0 _ | exact k1 _ _) (fail)
  all_goals
   go_wp2_with (fail)
   go_meet
   case rel=>first
    | exact⟨_,_,rfl,rfl,by omega,by omega,by omega,RA.out,RB_.out,RE.out⟩
    | exact⟨_,_,rfl,rfl,by omega,by omega,by omega,RD.out,RC.out,RF.out⟩
 case rest=>
  obtain⟨mb,fb,rfl,rfl,hmf,hmb,hfb,hrm,hrf,hB⟩:=hcut
  have HRM:=lhi hrm
  have HRF:=lhi hrf
  have HB:=lhi hB
  have c0:wc.cell? ⟨sp,0,none⟩=some (.slice A n cap):=(hB.cell hp0).trans H0.out
  clear hrm hrf hB h0 hm1 hm2
  obtain⟨w1,rfl⟩: ∃w1:World,w1=wc:=⟨_,rfl⟩
  go_wp2_with (fail)
  clear c0
  go_loopw [32] (fun i wr=>∃k:Nat,i= .int .i64 k/\k<=n/\RowB wr mb 3 n (fun i=>.int .i64 ((Fp S k).count (S.num i):Nat))/\RowB wr fb 4 n (fun _=>.bool false)/\Below w.heap.size w wr) (fun i _=>n - (intOf i).toNat)
  case atStart=>exact⟨0,rfl,by omega,HRM.out,HRF.out,HB.out⟩
  case round=>
   obtain⟨k,rfl,hk,hrm,hrf,hB⟩:=hrel
   have HRM2:=lhi hrm
   have HRF2:=lhi hrf
   have HB2:=lhi hB
   clear hrm hrf
   by_cases hp:k<n
   ·
    obtain⟨-,hcap,g,off,rfl,hcell⟩:=(HR.out.keep hB).at_ hp
    have q0:wr.cell? ⟨g,off+k*4,none⟩=some (.int .i64 (S.num k)):=hcell 0 (by omega)
    have q1:wr.cell? ⟨g,off+k*4+1,none⟩=some (.bool (S.dir k)):=hcell 1 (by omega)
    have q2:wr.cell? ⟨g,off+k*4+2,none⟩=some (ev k):=hcell 2 (by omega)
    have q3:wr.cell? ⟨g,off+k*4+3,none⟩=some (.string (S.dat k)):=hcell 3 (by omega)
    have hp1:(k:Int)<n:=by omega
    have hkn:k<S.inodes.length:=by rw[HNN.out];exact hp
    obtain⟨EA,ecap,hev,-,-⟩:=HS.out.ent k hkn
    have HENT:=lhi (HS.out.ent k hkn)
    rw[hev]at q2 HENT
    have hne:=HSm.out.en k
    have HMS:=lhi (Rz S k)
    have HML:=lhi (Aej HSm.out k (by omega))
    have HSN:=lhi (Pt S k)
    have HEN:=lhi (fun j (h:j<S.ne k)=>HI.out.enu_in hkn h)
    have HEO:=lhi (show Eb S k=(List.range (S.ne k)).map (S.enu k)from rfl)
    clear hcell hev hB
    generalize hnee:S.ne k=ne at*
    clear hnee
    generalize S.num k=x at*
    generalize S.dir k=dv at*
    generalize S.dat k=dt at*
    have HX:=lhi (Blk.new wr 93 #[.int .i64 x,.bool dv,.slice EA ne ecap,.string dt])
    have HBX:=lhi (HB2.out.alloc HB2.out.size (Obj.cells #[Value.int IntKind.i64 x,Value.bool dv,Value.slice EA ne ecap,Value.string dt] 93))
    have HMX:=lhi (HRM2.out.alloc (Obj.cells #[Value.int IntKind.i64 x,Value.bool dv,Value.slice EA ne ecap,Value.string dt] 93))
    have HFX:=lhi (HRF2.out.alloc (Obj.cells #[Value.int IntKind.i64 x,Value.bool dv,Value.slice EA ne ecap,Value.string dt] 93))
    clear HRM2 HRF2 HB2
    go_wp2_with (fail)
    clear q0 q1 q2 q3
    obtain⟨wy,hwy⟩:=yy (wr.alloc (Obj.cells #[Value.int IntKind.i64 x,Value.bool dv,Value.slice EA ne ecap,Value.string dt] 93))
    rw[<-hwy]at HX HBX HMX HFX⊢
    clear hwy
    generalize wr.heap.size=xg at*
    go_loopw [39] (fun i wi=>∃j:Nat,i= .int .i64 j/\j<=ne/\RowB wi mb 3 n (fun i=>.int .i64 ((Fp S k++(List.range j).map (S.enu k)).count (S.num i):Nat))/\RowB wi fb 4 n (fun _=>.bool false)/\Below w.heap.size w wi) (fun i _=>ne - (intOf i).toNat)
    case atStart=>exact⟨0,rfl,by omega,by simpa using HMX.out,HFX.out,HBX.out⟩
    case round=>
     obtain⟨j,rfl,hj,hrm,hrf,hB⟩:=hrel
     have HRM3:=lhi hrm
     have HRF3:=lhi hrf
     have HB3:=lhi hB
     clear hrm hrf
     by_cases hpj:j<ne
     ·obtain⟨-,-,eg,eoff,rfl,hcell⟩:=(HENT.out.keep hB).at_ hpj
      have e0:wr.cell? ⟨eg,eoff+j*2,none⟩=some (.string (S.enm k j)):=hcell 0 (by omega)
      have e1:wr.cell? ⟨eg,eoff+j*2+1,none⟩=some (.int .i64 (S.enu k j)):=hcell 1 (by omega)
      have hp2:(j:Int)<ne:=by omega
      obtain⟨gi,hg1,hg2,hg3,-⟩:=HEN.out j hpj
      have HSJ:=lhi (HSN.out j)
      have HF:=lhi (HFI.out (S.enu k j))
      rw[hg2]at HF
      clear hcell hB
      obtain⟨nm,hnm⟩: ∃x,S.enm k j=x:=⟨_,rfl⟩
      obtain⟨nu,hnu⟩: ∃x,S.enu k j=x:=⟨_,rfl⟩
      rw[hnm]at e0
      rw[hnu]at e1 HF hg3 HSJ
      clear hnm hnu hg2
      have hgn:gi<n:=by rw[<-HNN.out];exact hg1
      have HL:=lhi (show∀i,i<n->((Fp S k++(List.range (j+1)).map (S.enu k)).count (S.num i):Int)=if i=gi then((Fp S k++(List.range j).map (S.enu k)).count (S.num gi):Int)+1 else((Fp S k++(List.range j).map (S.enu k)).count (S.num i):Int)from fun i hi=>by
       rw[HSJ.out,<-List.append_assoc]
       exact Ah0 _ S HI.out (by rw[HNN.out];exact hi) hg1 hg3)
      have HLL:=lhi (show(Fp S k++(List.range j).map (S.enu k)).length<=1001000 by rw[Ami,List.length_map,List.length_range];have:=HML.out;omega)
      generalize Fp S k++(List.range j).map (S.enu k)=L at*
      obtain⟨cg,hcg⟩: ∃c,L.count (S.num gi)=c:=⟨_,rfl⟩
      have hcl:(cg:Int)<=1001000:=by have:=List.count_le_length (a:=S.num gi) (l:=L);have:=HLL.out;omega
      have HCG:=lhi hcg
      clear hcg hg3
      have HEB:=lhi (HB3.out.alloc HB3.out.size (Obj.cells #[.string nm,.int .i64 nu] 132))
      have HEM:=lhi (HRM3.out.alloc (Obj.cells #[.string nm,.int .i64 nu] 132))
      have HEF:=lhi (HRF3.out.alloc (Obj.cells #[.string nm,.int .i64 nu] 132))
      have hgi:(gi:Int)<n:=by omega
      go_wp2_with (go_at_call 94;refine(HF.out _ HEB.out).mono ?_;rintro e w5 ⟨rfl,hb5⟩;have HM5:=lhi (HEM.out.below hb5);have HF5:=lhi (HEF.out.below hb5);have HB5:=lhi (HEB.out.trans (hb5.mono HEB.out.size));have m5:w5.cell? ⟨mb,gi,none⟩=some (.int .i64 (cg:Nat)):=(by have:=HM5.out.cell hgn;rw[HCG.out]at this;exact this);have f5:w5.frozen? ⟨mb,gi,none⟩=false:=(by obtain⟨cs,b1,-,-⟩:=HM5.out;exact b1.frozen _);clear hb5)
      have HR1:=lhi (HM5.out.set (i:=gi) (.int .i64 ((cg:Nat)+1)) (h:=fun i=>.int .i64 ((Fp S k++(List.range (j+1)).map (S.enu k)).count (S.num i):Nat)) (fun i hi=>by
       have:=HL.out i hi
       show Value.int .i64 _=_
       rw[this,HCG.out]
       split <;> rfl))
      have HR2:=lhi (HF5.out.far (p:=⟨mb,gi,none⟩) hmf (.int .i64 ((cg:Nat)+1)))
      have HR3:=lhi (HB5.out.setCell (p:=⟨mb,gi,none⟩) hmb (.int .i64 ((cg:Nat)+1)))
      clear m5 f5 HL
      go_roundw
      case rel=>exact⟨j+1,by go_num,by omega,HR1.out,HR2.out,HR3.out⟩
      case measure=>
       simp only[intOf]
       omega
     ·have e:j=ne:=by omega
      subst e
      have HM4:=lhi (show RowB wr mb 3 n (fun i=>.int .i64 ((Fp S (k+1)).count (S.num i):Nat))by rw[HMS.out,HEO.out];exact HRM3.out)
      clear hB
      go_wp2_with (fail)
      go_roundw
      case rel=>exact⟨k+1,by go_num,by omega,HM4.out,HRF3.out,HB3.out⟩
      case measure=>
       simp only[intOf]
       omega
   ·have e:k=n:=by omega
    subst e
    have HM:=lhi (HRM2.out.congr (h:=fun i=>.int .i64 (Kf S (S.num i):Nat)) (fun i _=>by
     have:=HI.out.manyU_eq k (by rw[HNN.out];exact Ama _)
     rw[this]
     unfold Kf
     rw[HNN.out]))
    have HQ:=lhi (QS.lit wr 0 (Ama wr.heap.size))
    have hmt:=HM.out.lt
    have hft:=HRF2.out.lt
    have hwt:=HB2.out.size
    have HBQ:=lhi (HB2.out.alloc HB2.out.size (Obj.cells #[.int .i64 0] 3))
    have HMQ:=lhi (HM.out.alloc (Obj.cells #[.int .i64 0] 3))
    have HFQ:=lhi (HRF2.out.alloc (Obj.cells #[.int .i64 0] 3))
    have x0:(wr.alloc (Obj.cells #[.int .i64 0] 3)).cell? ⟨fb,0,none⟩=some (.bool false):=HFQ.out.cell hpos
    have x1:(wr.alloc (Obj.cells #[.int .i64 0] 3)).frozen? ⟨fb,0,none⟩=false:=by obtain⟨cs,b1,-,-⟩:=HFQ.out;exact b1.frozen _
    have hfl:=HFQ.out.lt
    have hk0:(0:Int)< (k:Int):=by omega
    clear hB
    have hfq:fb≠wr.heap.size:=by omega
    have hsz:(wr.setCell ⟨fb,0,none⟩ (.bool true)).heap.size=wr.heap.size:=by simp[World.setCell]
    have HQ2:=lhi (show QS ((wr.setCell ⟨fb,0,none⟩ (.bool true)).alloc (Obj.cells #[.int .i64 0] 3)) wr.heap.size (.slice (some ⟨wr.heap.size,0,none⟩) 1 1) (idxL S ([1].drop 0))from by
     have hpl:Bh S 1=0:=by
      have:=Gw (S:=S) (x:=1) (k:=0) HI.out.pos HI.out.num0.1 (fun i hi=>absurd hi (by omega))
      simpa using this
     have:=QS.lit (wr.setCell ⟨fb,0,none⟩ (.bool true)) 0 (base:=wr.heap.size) (by rw[hsz];exact Ama _)
     rw[hsz]at this
     have e:idxL S ([1].drop 0)=[0]:=by simp[idxL,hpl]
     rw[e]
     exact this)
    have HF2:=lhi ((HRF2.out.set (i:=0) (.bool true) (h:=fun i=>.bool (([1]:List Int).contains (S.num i))) (fun i hi=>by
     by_cases e:i=0
     ·subst e
      rw[if_pos rfl,HI.out.num0.1];rfl
     ·rw[if_neg e]
      have h1:=HI.out.num_lt (by rw[HNN.out];exact hi) (by omega:0<i)
      have h2:=HI.out.num0.1
      have:S.num i≠1:=by omega
      simp[this])).alloc (Obj.cells #[.int .i64 0] 3))
    have HM2:=lhi ((HM.out.far (p:=⟨fb,0,none⟩) (Ne.symm hmf) (.bool true)).alloc (Obj.cells #[.int .i64 0] 3))
    have HB3:=lhi ((HB2.out.setCell (p:=⟨fb,0,none⟩) hfb (.bool true)).alloc (by rw[hsz];exact hwt) (Obj.cells #[.int .i64 0] 3))
    clear hsz
    go_wp2_with (fail)
    clear x0 x1 hfl HQ HBQ HMQ HFQ HM HRM2 HRF2 HB2
    obtain⟨wy,hwy⟩:=yy ((wr.setCell ⟨fb,0,none⟩ (.bool true)).alloc (Obj.cells #[.int .i64 0] 3))
    rw[<-hwy]at HQ2 HF2 HM2 HB3
    try rw[<-hwy]
    clear hwy
    generalize wr.heap.size=tb at*
    go_loopg [10] ((univ S).length+2) (fun f todo wr=>∃(F:List Int) (p:Nat),f+p=(univ S).length+2/\F.length+out (univ S) F<= (univ S).length+1/\p<=F.length/\Jx S=bfs S f F p/\Pc S F/\QS wr tb todo (idxL S (F.drop p))/\RowB wr mb 3 k (fun i=>.int .i64 (Kf S (S.num i):Nat))/\RowB wr fb 4 k (fun i=>.bool (F.contains (S.num i)))/\Below w.heap.size w wr)
    case atStart=>exact⟨[1],0,by omega,(by have:=List.length_filter_le (fun x=>!([1]:List Int).contains x) (univ S);unfold out;simp only[List.length_singleton];omega),by simp,rfl,HI.out.names1,HQ2.out,HM2.out,HF2.out,HB3.out⟩
    case round=>
     obtain⟨F,p,hf,hF,hpF,hbf,hnS,hq,hrm,hrf,hB⟩:=hrel
     have HMR:=lhi hrm
     have HFR:=lhi hrf
     have HBR:=lhi hB
     have HQR:=lhi hq
     have HBF:=lhi hbf
     have HFB:=lhi hF
     have HFP:=lhi hf
     have HNS:=lhi hnS
     obtain⟨tg,toff,tcap,rfl,htc,htcell⟩:=hq.form
     clear hrm hrf hB hq hbf hF hf hnS HQ2 HF2 HM2 HB3
     have hlen:(idxL S (F.drop p)).length=F.length - p:=by simp[idxL]
     by_cases hp2:p<F.length
     ·
      obtain⟨x,rest,hd⟩: ∃x rest,F.drop p=x::rest:=⟨F[p],F.drop (p+1),List.drop_eq_getElem_cons hp2⟩
      have HFX:=lhi (show F[p]? =some x by have:=congrArg (fun l=>l[0]?) hd;simpa using this)
      have HRS:=lhi (show rest=F.drop (p+1)by have:=congrArg List.tail hd;simpa using this.symm)
      obtain⟨i,hi1,hi2,hi3⟩:=HNS.out x (by have:=List.mem_of_getElem? HFX.out;exact this)
      have hx:=htcell 0 (Bh S x) (by rw[hd];rfl)
      rw[Nat.add_zero,hi3]at hx
      have HQX:=lhi (show QS wr tb (.slice (some ⟨tg,toff,none⟩) (idxL S (F.drop p)).length tcap) ((Bh S x)::idxL S rest)by rw[show(Bh S x)::idxL S rest=idxL S (F.drop p)by rw[hd];rfl];exact HQR.out)
      have htn:0< (idxL S (F.drop p)).length:=by omega
      have htn2:(0:Int)< ((idxL S (F.drop p)).length:Int):=by omega
      clear htcell HQR hd hlen
      generalize (idxL S (F.drop p)).length=tl at*
      obtain⟨wo,rfl⟩: ∃wo:World,wo=wr:=⟨_,rfl⟩
      have ht1:(1:Int)<= (tl:Int):=by omega
      have ht2:(tl:Int)<= (tcap:Int):=by omega
      have hin:(i:Int)<k:=by have:=HNN.out;omega
      go_upto_region 15 with(fail)
      go_cut [10] (fun todo wx=>QS wx tb todo (idxL S rest)/\wo=wx)
      case first=>
       have HTL:=lhi (show tl=(idxL S rest).length+1 by
        obtain⟨g',off',cap',cur,e1,-⟩:=HQX.out
        injection e1)
       have HT:=lhi HQX.out.tail
       have htl:=HTL.out
       subst htl
       generalize (idxL S rest).length=rl at*
       by_cases hc1:tcap=1
       ·subst hc1
        have e:rl=0:=by omega
        subst e
        go_wp2_with (fail)
        go_meet
        case rel=>exact⟨HT.out.1 (by first | rfl | trivial),rfl⟩
       ·go_wp2_with (fail)
        go_meet
        case rel=>exact⟨HT.out.2 hc1,rfl⟩
      case rest=>
       obtain⟨hq,rfl⟩:=hcut
       have HQ3:=lhi hq
       clear hq HQX hx htn htn2 ht1 ht2 htc
       obtain⟨f,hff⟩: ∃f,gk=f+1:=⟨gk - 1,by
        have h1:=HFP.out
        have h2:=HFB.out
        omega⟩
       have HBN:=lhi (show Jx S=bfs S f (Dv F (kids S x)) (p+1)by
        rw[HBF.out,hff]
        show(match F[p]? with
         | some x=>bfs S f (Dv F (kids S x)) (p+1)
         | none=>F)=_
        rw[HFX.out])
       have HFF:=lhi (show f+ (p+1)=(univ S).length+2 by have:=HFP.out;omega)
       have HFG:=lhi (show f<gk by omega)
       clear hff HFP HBF
       have HKI:=lhi (show kids S x=(List.range (S.ne i)).map (S.enu i)by rw[<-hi2];exact HI.out.kids_at hi1)
       have c0:wo.cell? ⟨sp,0,none⟩=some (.slice A k cap):=(HBR.out.cell hp0).trans H0.out
       obtain⟨-,-,ig,ioff,rfl,icell⟩:=(show Ak wo (.slice A k cap) k 4 (inoC S ev)from HR.out.keep HBR.out).at_ (show i<k by omega)
       have y2:wo.cell? ⟨ig,ioff+i*4+2,none⟩=some (ev i):=icell 2 (by omega)
       obtain⟨EA,ecap,hev,-,-⟩:=HS.out.ent i hi1
       have HENT:=lhi (HS.out.ent i hi1)
       rw[hev]at y2 HENT
       have hne:=HSm.out.en i
       have HSN:=lhi (Pt S i)
       have HEN:=lhi (fun j (h:j<S.ne i)=>HI.out.enu_in hi1 h)
       have HMU:=lhi (fun j (h:j<S.ne i)=>Agx hi1 h)
       have HUL:=lhi (Afp S HSm.out)
       have HPL:=lhi (show∀j,j<=S.ne i->Pc S (Dv F ((List.range j).map (S.enu i)))from fun j hj=>Oe HI.out _ F HNS.out fun x hx=>by
        obtain⟨q,hq,rfl⟩:=List.mem_map.1 hx
        obtain⟨g,h1,h2,h3,-⟩:=HI.out.enu_in hi1 (show q<S.ne i by have:=List.mem_range.1 hq;omega)
        exact⟨g,h1,h3,h2⟩)
       have HQ4:=lhi (show QS wo tb _ (idxL S (F.drop (p+1)))by rw[<-HRS.out];exact HQ3.out)
       clear icell hev hi2 hi3 HQ3 HRS
       generalize S.ne i=ne at*
       go_wp2_with (fail)
       clear c0 y2
       go_loopw [10,74] (fun todo kk wr=>∃(j:Nat) (Fj:List Int),kk= .int .i64 j/\j<=ne/\Fj=Dv F ((List.range j).map (S.enu i))/\Fj.length+out (univ S) Fj<= (univ S).length+1/\p<Fj.length/\QS wr tb todo (idxL S (Fj.drop (p+1)))/\RowB wr mb 3 k (fun i=>.int .i64 (Kf S (S.num i):Nat))/\RowB wr fb 4 k (fun i=>.bool (Fj.contains (S.num i)))/\Below w.heap.size w wr) (fun _ kk _=>ne - (intOf kk).toNat)
       case atStart=>exact⟨0,F,rfl,by omega,rfl,HFB.out,hp2,HQ4.out,HMR.out,HFR.out,HBR.out⟩
       case round=>
        obtain⟨j,Fj,rfl,hj,hFj,hFjb,hpj,hq,hrm,hrf,hB⟩:=hrel
        have HMJ:=lhi hrm
        have HFJR:=lhi hrf
        have HBJ:=lhi hB
        have HQJ:=lhi hq
        have HFJ:=lhi hFj
        have HFJB:=lhi hFjb
        obtain⟨jg,joff,jcap,rfl,-,-⟩:=hq.form
        clear hrm hrf hq hFj hFjb HMR HFR HBR HQ4
        by_cases hlt:j<ne
        ·obtain⟨-,-,eg,eoff,rfl,ecell⟩:=(HENT.out.keep hB).at_ hlt
         have r0:wr.cell? ⟨eg,eoff+j*2,none⟩=some (.string (S.enm i j)):=ecell 0 (by omega)
         have r1:wr.cell? ⟨eg,eoff+j*2+1,none⟩=some (.int .i64 (S.enu i j)):=ecell 1 (by omega)
         have hlt2:(j:Int)<ne:=by omega
         obtain⟨gi,hg1,hg2,hg3,-⟩:=HEN.out j hlt
         have HMX:=lhi (HMU.out j hlt)
         have HSJ:=lhi (show Dv F ((List.range (j+1)).map (S.enu i))=add1 Fj (S.enu i j)by rw[HSN.out j,Aax,<-HFJ.out])
         have HF:=lhi (HFI.out (S.enu i j))
         have HPG:=lhi hg2
         rw[hg2]at HF
         have htr:tb<= (wr.alloc (Obj.cells #[.string (S.enm i j),.int .i64 (S.enu i j)] 132)).heap.size:=by
          obtain⟨g',_,_,_,_,_,q3,q4,_⟩:=HQJ.out
          have:=q4.lt
          simp only[World.alloc,Array.size_push]
          omega
         clear ecell hB HFJ hg2
         have hgn:gi<k:=by rw[<-HNN.out];exact hg1
         obtain⟨nme,hnm⟩: ∃x,S.enm i j=x:=⟨_,rfl⟩
         obtain⟨nu,hnu⟩: ∃x,S.enu i j=x:=⟨_,rfl⟩
         rw[hnm]at r0 htr
         rw[hnu]at r1 HF hg3 HSJ HMX HPG htr
         clear hnm hnu
         have HEB:=lhi (HBJ.out.alloc HBJ.out.size (Obj.cells #[.string nme,.int .i64 nu] 132))
         have HEM:=lhi (HMJ.out.alloc (Obj.cells #[.string nme,.int .i64 nu] 132))
         have HEF:=lhi (HFJR.out.alloc (Obj.cells #[.string nme,.int .i64 nu] 132))
         have HEQ:=lhi (HQJ.out.alloc (Obj.cells #[.string nme,.int .i64 nu] 132))
         have hgi:(gi:Int)<k:=by omega
         have HFC:=lhi (fun(j:Nat) (hj:j<S.inodes.length) (hg:gi<S.inodes.length) (hx:S.num gi=nu)=>Aai Fj S HI.out (j:=j) hj hg hx)
         have HNU:=lhi hg3
         obtain⟨cb,hcb⟩: ∃c,Fj.contains (S.num gi)=c:=⟨_,rfl⟩
         have HCB:=lhi (show Fj.contains nu=cb by rw[<-HNU.out];exact hcb)
         have HCB2:=lhi hcb
         have HGG:=lhi hg1
         clear hg3 hcb hg1
         rcases Ql cb with rfl | rfl
         ·have HS1:=lhi (show Fj=Dv F ((List.range (j+1)).map (S.enu i))by rw[HSJ.out];unfold add1;rw[if_pos HCB.out])
          go_wp2_with (go_at_call 94;refine(HF.out _ HEB.out).mono ?_;rintro e w5 ⟨rfl,hb5⟩;have HM5:=lhi (HEM.out.below hb5);have HF5:=lhi (HEF.out.below hb5);have HQ5:=lhi (HEQ.out.below hb5);have HB5:=lhi (HEB.out.trans (hb5.mono HEB.out.size));have m5:w5.cell? ⟨fb,gi,none⟩=some (.bool true):=(by have:=HF5.out.cell hgn;rw[HCB2.out]at this;exact this);clear hb5)
          clear m5
          go_roundw
          case rel=>exact⟨j+1,Fj,by go_num,by omega,HS1.out,HFJB.out,hpj,HQ5.out,HM5.out,HF5.out,HB5.out⟩
          case measure=>
           simp only[intOf]
           omega
         ·have HS1:=lhi (show Fj++[nu]=Dv F ((List.range (j+1)).map (S.enu i))by rw[HSJ.out];unfold add1;rw[if_neg (by rw[HCB.out];decide)])
          have HO:=lhi (Aay HMX.out HCB.out)
          have HLB:=lhi (show(idxL S (Fj.drop (p+1))).length<=1000000000 by unfold idxL;rw[List.length_map,List.length_drop];have:=HFJB.out;have:=HUL.out;omega)
          have HDR:=lhi (show idxL S ((Fj++[nu]).drop (p+1))=idxL S (Fj.drop (p+1))++[(gi:Int)]by rw[List.drop_append_of_le_length (by omega)];unfold idxL;rw[List.map_append,List.map_singleton,HPG.out])
          go_wp2_with (first
           | (go_at_call 94;refine(HF.out _ HEB.out).mono ?_;rintro e w5 ⟨rfl,hb5⟩;have HM5:=lhi (HEM.out.below hb5);have HF5:=lhi (HEF.out.below hb5);have HQ5:=lhi (HEQ.out.below hb5);have HB5:=lhi (HEB.out.trans (hb5.mono HEB.out.size));have m5:w5.cell? ⟨fb,gi,none⟩=some (.bool false):=(by have:=HF5.out.cell hgn;rw[HCB2.out]at this;exact this);have f5:w5.frozen? ⟨fb,gi,none⟩=false:=(by obtain⟨cs,b1,-,-⟩:=HF5.out;exact b1.frozen _);have ht5:tb<=w5.heap.size:=(Aml htr hb5.size);clear hb5)
           | (at_builtin;refine Xh _ rfl (.tmp 90) (.tmp 92) rfl tb _ _ rfl (((HQ5.out.farB HF5.out (by decide) gi (.bool true)).alloc (Obj.cells #[.int .i64 gi] 3))) HLB.out (by simp[World.setCell];omega) w5.heap.size gi rfl (by first | exact cell_one_new _ _ _ | (have:=(Blk.new (w5.setCell ⟨fb,gi,none⟩ (.bool true)) 3 #[.int .i64 gi]).cell 0;simpa[World.setCell]using this)) ?_;intro v6 w6 row6 hQ6 hG6 hR6))
          have hne: ∀q,q<tb->some q≠row6:=fun q hq e=>by have:=(hR6 q e.symm).1;omega
          have hs5:w5.heap.size=(w5.setCell ⟨fb,gi,none⟩ (.bool true)).heap.size:=by simp[World.setCell]
          have hfl5:=HF5.out.lt
          have HM6:=lhi ((((HM5.out.far (p:=⟨fb,gi,none⟩) (Ne.symm hmf) (.bool true)).alloc (Obj.cells #[.int .i64 gi] 3))).heap (hG6.block mb (((HM5.out.far (p:=⟨fb,gi,none⟩) (Ne.symm hmf) (.bool true)).alloc (Obj.cells #[.int .i64 gi] 3))).lt (hne mb hmt)))
          have HF6':=((HF5.out.set (i:=gi) (.bool true) (h:=fun i=>.bool ((Fj++[nu]).contains (S.num i))) (fun i hi=>by
           have:=HFC.out i (by rw[HNN.out];exact hi) HGG.out HNU.out
           show Value.bool _=_
           rw[this]
           split <;> rfl)).alloc (Obj.cells #[.int .i64 gi] 3))
          have HF6:=lhi (HF6'.heap (hG6.block fb HF6'.lt (hne fb hft)))
          have hbel6:Below w.heap.size w ((w5.setCell ⟨fb,gi,none⟩ (.bool true)).alloc (Obj.cells #[.int .i64 gi] 3)):=(HB5.out.setCell (p:=⟨fb,gi,none⟩) hfb (.bool true)).alloc (by have:=HB5.out.size;simpa[World.setCell]using this) _
          have HB6:=lhi (show Below w.heap.size w w6 from hbel6.trans ⟨hG6.os,hG6.tape,hG6.output,hG6.size,fun q hq=>hG6.block q (Amk hq hbel6.size) (hne q (by omega))⟩)
          have HQ6:=lhi (show QS w6 tb v6 (idxL S ((Fj++[nu]).drop (p+1)))by rw[HDR.out];exact hQ6)
          clear hQ6 hG6 hR6 m5 f5 hne HF6' hbel6 hs5 hfl5
          go_wp2_with (fail)
          go_roundw
          case rel=>exact⟨j+1,Fj++[nu],by go_num,by omega,HS1.out,Aml HO.out HFJB.out,by simp;omega,HQ6.out,HM6.out,HF6.out,HB6.out⟩
          case measure=>
           simp only[intOf]
           omega
        ·have e:j=ne:=by omega
         subst e
         have HFE:=lhi (show Fj=Dv F (kids S x)by rw[HFJ.out,HKI.out])
         have HPL2:=lhi (show Pc S Fj by rw[HFJ.out];exact HPL.out j (Ama _))
         have HBN2:=lhi (show Jx S=bfs S f Fj (p+1)by rw[HFE.out];exact HBN.out)
         clear hB
         go_wp2_with (fail)
         go_roundg f
         case measure=>exact HFG.out
         case rel=>exact⟨Fj,p+1,HFF.out,HFJB.out,hpj,HBN2.out,HPL2.out,HQJ.out,HMJ.out,HFJR.out,HBJ.out⟩
     ·have e:p=F.length:=by omega
      subst e
      have hz: ¬ ((0:Int)< ((idxL S (F.drop F.length)).length:Int)):=by rw[hlen];omega
      have HE:=lhi (show Jx S=F by
       rw[HBF.out]
       cases gk with
       | zero=>rfl
       | succ f=>
        unfold bfs
        rw[List.getElem?_eq_none (Ama _)])
      clear htcell
      go_wp2_with (fail)
      go_ret2
      exact⟨⟨mb,fb,rfl,HMR.out,HFR.out.congr (fun i _=>by unfold Jy;rw[HE.out])⟩,HBR.out⟩
end
theorem Of{w:World}{iv ov mv:Value}{ev:Nat->Value}{S:St}(hS:StM w iv ov mv ev S)(hI:Inv S):
  Calls Tryz.prog 22 #[.agg #[iv,ov,mv]] w fun e w'=>e= .returned (.bool true)/\Below w.heap.size w w':=by
 have hsm:=hI.small
 have hn:=hsm.ni
 have hb:=(Amf w.heap.size w).alloc (Ama _) (.cells #[iv,ov,mv] 30)
 have HS:=lhi (hS.keep hb)
 have HI:=lhi hI
 have HB:=lhi hb
 have HX:=lhi (Blk.new w 30 #[iv,ov,mv])
 have HSm:=lhi hsm
 obtain⟨A,cap,rfl,-,-⟩:=hS.ino
 obtain⟨OA,ocap,rfl,-,-⟩:=hS.opn
 obtain⟨MA,mcap,rfl,-,-⟩:=hS.mad
 clear hS hI hb hsm
 go_enter Tryz.func22,Tryz.ntmps22
 go_upto_region 1 with(fail)
 obtain⟨w1,hw1⟩:=yy (w.alloc (.cells #[.slice A S.inodes.length cap,.slice OA S.opens.length ocap,.slice MA S.made.length mcap] 30))
 obtain⟨sp,hsp⟩:=yy w.heap.size
 rw[<-hw1]at HS HB HX⊢
 rw[<-hsp]at HX⊢
 have HSP:=lhi hsp
 clear hw1 hsp
 have hm:=Yw HS.out HI.out (HX.out.cell 2)
 have HM:=lhi hm
 have HIN:=lhi (fun(W:World) (h:Below w1.heap.size w1 W)=>Tw (HS.out.keep h) HI.out ((h.cell (p:=⟨sp,0,none⟩) HX.out.lt).trans (HX.out.cell 0)) ((h.cell (p:=⟨sp,2,none⟩) HX.out.lt).trans (HX.out.cell 2)))
 have HOP:=lhi (fun(W:World) (h:Below w1.heap.size w1 W)=>Yu (HS.out.keep h) HI.out ((h.cell (p:=⟨sp,0,none⟩) HX.out.lt).trans (HX.out.cell 0)) ((h.cell (p:=⟨sp,1,none⟩) HX.out.lt).trans (HX.out.cell 1)) ((h.cell (p:=⟨sp,2,none⟩) HX.out.lt).trans (HX.out.cell 2)))
 have HRE:=lhi (fun(W:World) (h:Below w1.heap.size w1 W)=>Ts (HS.out.keep h) HI.out ((h.cell (p:=⟨sp,0,none⟩) HX.out.lt).trans (HX.out.cell 0)))
 clear hm
 go_upto_region 4 with(first
  | (go_at_call 46;refine HM.out.mono ?_;rintro e w2 ⟨rfl,hb2⟩;have HB2:=lhi hb2;clear hb2)
  | (go_at_call 47;refine(HIN.out _ HB2.out).mono ?_;rintro e w3 ⟨rfl,hb3⟩;have HB3:=lhi (HB2.out.trans (hb3.mono HB2.out.size));clear hb3)
  | (go_at_call 48;refine(HOP.out _ HB3.out).mono ?_;rintro e w4 ⟨rfl,hb4⟩;have HB4:=lhi (HB3.out.trans (hb4.mono HB3.out.size));clear hb4)
  | (go_at_call 49;refine(HRE.out _ HB4.out).mono ?_;rintro e w5 ⟨⟨mb,fb,rfl,hrm,hrf⟩,hb5⟩;have HB5:=lhi (HB4.out.trans (hb5.mono HB4.out.size));have HRM:=lhi hrm;have HRF:=lhi hrf;clear hb5 hrm hrf))
 clear HM HIN HRE HOP
 have c0:w5.cell? ⟨sp,0,none⟩=some (.slice A S.inodes.length cap):=(HB5.out.cell (p:=⟨sp,0,none⟩) HX.out.lt).trans (HX.out.cell 0)
 clear HB2 HB3 HB4
 have HR:=lhi HS.out.ino
 obtain⟨n,hnn⟩:=xx S.inodes.length
 have HNN:=lhi hnn
 rw[hnn]at hn HR HRM HRF c0
 rw[hnn]
 clear hnn
 go_wp2_with (fail)
 clear c0
 go_loopw [24] (fun i wr=>∃k:Nat,i= .int .i64 k/\k<=n/\Below w5.heap.size w5 wr) (fun i _=>n - (intOf i).toNat)
 case atStart=>exact⟨0,rfl,by omega,Amf _ _⟩
 case round=>
  obtain⟨k,rfl,hk,hB⟩:=hrel
  have HBW:=lhi (HB5.out.trans (hB.mono HB5.out.size))
  have HBR:=lhi hB
  by_cases hp:k<n
  ·obtain⟨-,hcap,g,off,rfl,hcell⟩:=(HR.out.keep HBW.out).at_ hp
   have q0:wr.cell? ⟨g,off+k*4,none⟩=some (.int .i64 (S.num k)):=hcell 0 (by omega)
   have q1:wr.cell? ⟨g,off+k*4+1,none⟩=some (.bool (S.dir k)):=hcell 1 (by omega)
   have q2:wr.cell? ⟨g,off+k*4+2,none⟩=some (ev k):=hcell 2 (by omega)
   have q3:wr.cell? ⟨g,off+k*4+3,none⟩=some (.string (S.dat k)):=hcell 3 (by omega)
   have hp1:(k:Int)<n:=by omega
   have hkn:k<S.inodes.length:=by rw[HNN.out];exact hp
   obtain⟨EA,ecap,hev,-,-⟩:=HS.out.ent k hkn
   rw[hev]at q2
   have HMK:=lhi (show∀W,Below w5.heap.size w5 W->W.cell? ⟨mb,k,none⟩=some (.int .i64 (Kf S (S.num k):Nat))from fun W h=>(HRM.out.below h).cell hp)
   have HFK:=lhi (show∀W,Below w5.heap.size w5 W->W.cell? ⟨fb,k,none⟩=some (.bool (Jy S (S.num k)))from fun W h=>(HRF.out.below h).cell hp)
   have HO:=lhi (fun(W:World) (h:Below w1.heap.size w1 W)=>Ph (HS.out.keep h) HSm.out.no ((h.cell (p:=⟨sp,1,none⟩) HX.out.lt).trans (HX.out.cell 1)) (S.num k))
   have HDIR:=lhi (fun h0 hd=>HI.out.may_dir hkn h0 hd)
   have HFIL:=lhi (fun hd=>HI.out.may_file hkn hd)
   have hd0:k=0->S.dir k=true:=fun e=>by rw[e];exact HI.out.num0.2
   clear hcell hev hB
   generalize Kf S (S.num k)=mk at*
   generalize Jy S (S.num k)=fk at*
   obtain⟨oi,hoi⟩: ∃x,Hq S (S.num k)=x:=⟨_,rfl⟩
   rw[hoi]at HO HFIL
   clear hoi
   generalize S.num k=x at*
   generalize S.dat k=dt at*
   generalize S.ne k=ne at*
   have HE:=lhi (Blk.new wr 93 #[.int .i64 x,.bool (S.dir k),.slice EA ne ecap,.string dt])
   have HBA:=lhi (HBW.out.alloc HBW.out.size (Obj.cells #[.int .i64 x,.bool (S.dir k),.slice EA ne ecap,.string dt] 93))
   have HBB:=lhi (HBR.out.alloc HBR.out.size (Obj.cells #[.int .i64 x,.bool (S.dir k),.slice EA ne ecap,.string dt] 93))
   have m0:=HMK.out _ HBB.out
   have f0:=HFK.out _ HBB.out
   clear HBW HBR HMK HFK
   by_cases hk0:k=0
   ·have hk1:((k:Int)==0)=true:=by simp[hk0]
    clear hk0
    go_wp2_with (fail)
    go_roundw
    case rel=>exact⟨k+1,by go_num,by omega,HBB.out⟩
    case measure=>
     simp only[intOf]
     omega
   ·have hk1:((k:Int)==0)=false:=by simp;omega
    cases hd:S.dir k with
    | true=>
     obtain⟨r1,r2⟩:=HDIR.out (by omega) hd
     rw[hd]at q1 HE HBA HBB m0 f0
     rw[r1]at m0
     rw[r2]at f0
     clear hd HDIR HFIL hd0 r1 r2 hk0
     go_wp2_with (fail)
     go_roundw
     case rel=>exact⟨k+1,by go_num,by omega,HBB.out⟩
     case measure=>
      simp only[intOf]
      omega
    | false=>
     have hcase:=HFIL.out hd
     rw[hd]at q1 HE HBA HBB m0 f0
     clear hd HDIR HFIL hd0 hk0
     rcases hcase with rfl | ⟨rfl,h2⟩
     ·go_wp2_with (fail)
      go_roundw
      case rel=>exact⟨k+1,by go_num,by omega,HBB.out⟩
      case measure=>
       simp only[intOf]
       omega
     ·rcases Ql fk with rfl | rfl
      ·go_wp2_with (fail)
       go_roundw
       case rel=>exact⟨k+1,by go_num,by omega,HBB.out⟩
       case measure=>
        simp only[intOf]
        omega
      ·have h3:decide (0<=oi)=true:=decide_eq_true h2
       rw[h3]at HO
       clear h2 h3
       go_wp2_with (go_at_call 50;refine(HO.out _ HBA.out).mono ?_;rintro e w6 ⟨rfl,hb6⟩)
       go_roundw
       case rel=>exact⟨k+1,by go_num,by omega,HBB.out.trans (hb6.mono HBB.out.size)⟩
       case measure=>
        simp only[intOf]
        omega
  ·have e:k=n:=by omega
   subst e
   clear hB
   go_wp2_with (fail)
   go_ret
   exact⟨rfl,HB.out.trans (HBW.out.mono HB.out.size)⟩
def Uv(S:St):Xd->Int×Int
 | .err k=>(0,Jh k)
 | .ok ns=>if(Ao S ns 0).2=0 then(S.num (Ao S ns 0).1.toNat,0)else(0,(Ao S ns 0).2)
theorem Fy{S:St}(hO:Ord S): ∀(ns:List ByteArray) (a:Nat),a<S.inodes.length->(Ao S ns a).2=0-> ∃k:Nat,k<S.inodes.length/\ (Ao S ns a).1=k
 | [],a,ha,_=>⟨a,ha,rfl⟩
 | x::l,a,ha,h=>by
  unfold Ao at h⊢
  by_cases hd:S.dir a=true
  ·rw[if_pos hd]at h⊢
   cases hE:entF (S.ino a).ents x with
   | none=>rw[hE]at h;exact absurd (show(1:Int)=0 from h) (by decide)
   | some k=>
    rw[hE]at h
    obtain⟨g,hg,hgo⟩:=hO.goal a k ha (Dp hE)
    have h:(Ao S l (Bh S (S.enu a k)).toNat).2=0:=h
    show∃k_1:Nat,_/\ (Ao S l (Bh S (S.enu a k)).toNat).1=k_1
    rw[hgo,Int.toNat_natCast]at h⊢
    exact Fy hO l g hg h
  ·rw[if_neg hd]at h
   exact absurd h (by decide)
theorem Ft(s:ByteArray): ∀(b pos from_:Nat) (out:List ByteArray),(∀k,Ay s b pos from_ out= .err k->k≠0)/\ ∀l,Ay s b pos from_ out= .ok l->l.length<=4
 | 0,pos,from_,out=>by
  unfold Ay
  split
  ·exact⟨fun k h=>by injection h with h;omega,fun l h=>by cases h⟩
  ·rename_i h1
   exact⟨fun k h=>(by cases h),fun l h=>by injection h with h;subst h;omega⟩
 | b+1,pos,from_,out=>by
  unfold Ay
  split
  ·split
   ·exact Ft s b _ _ _
   ·split
    ·exact Ft s b _ _ _
    ·split
     ·exact⟨fun k h=>by injection h with h;omega,fun l h=>by cases h⟩
     ·exact⟨fun k h=>by injection h with h;omega,fun l h=>by cases h⟩
  ·split
   ·exact⟨fun k h=>by injection h with h;omega,fun l h=>by cases h⟩
   ·rename_i h1
    exact⟨fun k h=>(by cases h),fun l h=>by injection h with h;subst h;omega⟩
theorem Jr{s:ByteArray}{k:Int}(h:Au s= .err k):k≠0:=by
 unfold Au at h
 split at h
 ·injection h with h;omega
 ·split at h
  ·injection h with h;omega
  ·split at h
   ·cases h
   ·exact(Ft s _ _ _ _).1 k h
theorem Ho{s:ByteArray}{l:List ByteArray}(h:Au s= .ok l):l.length<=4:=by
 unfold Au at h
 split at h
 ·cases h
 ·split at h
  ·cases h
  ·split at h
   ·injection h with h;subst h;simp
   ·exact(Ft s _ _ _ _).2 l h
theorem Acl{w:World}{iv ov mv:Value}{ev:Nat->Value}{S:St}(hS:StM w iv ov mv ev S)(hI:Inv S){path:ByteArray}(hp:path.size<=4611686018427387904):
  Calls Tryz.prog 21 #[.agg #[iv,ov,mv],.string path] w fun e w'=>e= .returned (.tuple #[.int .i64 (Uv S (Au path)).1,.int .i64 (Uv S (Au path)).2])/\Below w.heap.size w w':=by
 have hb:=(Amf w.heap.size w).alloc (Ama _) (.cells #[iv,ov,mv] 30)
 have HS:=lhi (hS.keep hb)
 have HI:=lhi hI
 have HB:=lhi hb
 have HX:=lhi (Blk.new w 30 #[iv,ov,mv])
 obtain⟨A,cap,rfl,-,-⟩:=hS.ino
 obtain⟨OA,ocap,rfl,-,-⟩:=hS.opn
 obtain⟨MA,mcap,rfl,-,-⟩:=hS.mad
 have HPS:=lhi (Gj path hp)
 clear hS hI hb
 go_enter Tryz.func21,Tryz.ntmps21
 go_upto_region 1 with(fail)
 obtain⟨w1,hw1⟩:=yy (w.alloc (.cells #[.slice A S.inodes.length cap,.slice OA S.opens.length ocap,.slice MA S.made.length mcap] 30))
 obtain⟨sp,hsp⟩:=yy w.heap.size
 rw[<-hw1]at HS HB HX⊢
 rw[<-hsp]at HX⊢
 clear hw1 hsp
 cases hpr:Au path with
 | err k=>
  rw[hpr]at HPS
  have HCO:=lhi (fun W=>Ht k W)
  have hk:(k==0)=false:=by simpa using Jr hpr
  have HF:=lhi (show Uv S (Au path)=(0,Jh k)by rw[hpr];rfl)
  clear hpr
  go_wp2_with (first
   | (go_at_call 43;refine(HPS.out _).mono ?_;rintro e w2 ⟨hv,hb2⟩;have hv:e= .returned (.tuple #[.slice none 0 0,.int .i64 k]):=hv;subst hv)
   | (go_at_call 44;refine(HCO.out _).mono ?_;rintro e w3 ⟨rfl,rfl⟩))
  go_ret2
  exact⟨by rw[HF.out];rfl,HB.out.trans (hb2.mono HB.out.size)⟩
 | ok ns=>
  rw[hpr]at HPS
  have hnl:ns.length<=1000:=by have:=Ho hpr;omega
  have HPR:=lhi hpr
  clear hpr
  go_upto_region 4 with(go_at_call 43;refine(HPS.out _).mono ?_;rintro e w2 ⟨⟨v,rfl,hv,-⟩,hb2⟩;have HV:=lhi hv;have HB2:=lhi hb2;clear hv hb2)
  have HX2:=lhi (Blk.of_heap (HB2.out.block _ HX.out.lt) HX.out)
  have HS2:=lhi (HS.out.keep HB2.out)
  have x0:w2.cell? ⟨sp,0,none⟩=some (.slice A S.inodes.length cap):=HX2.out.cell 0
  have x1:w2.cell? ⟨sp,1,none⟩=some (.slice OA S.opens.length ocap):=HX2.out.cell 1
  have x2:w2.cell? ⟨sp,2,none⟩=some (.slice MA S.made.length mcap):=HX2.out.cell 2
  have HMY:=lhi (Of HS2.out HI.out)
  obtain⟨NA,ncap,rfl,-,-⟩:=HV.out.at'
  have HWK:=lhi (fun(W:World) (h:Below w2.heap.size w2 W)=>Gb (sp:=sp) (HS2.out.keep h) HI.out.ord HI.out.pos ((h.cell (p:=⟨sp,0,none⟩) HX2.out.lt).trans (HX2.out.cell 0)) (HV.out.at'.keep h) hnl)
  go_upto_region 7 with(first
   | (go_at_call 22;refine HMY.out.mono ?_;rintro e w3 ⟨rfl,hb3⟩;have HB3:=lhi hb3;clear hb3)
   | (go_at_call 45;refine(HWK.out _ HB3.out).mono ?_;rintro e w4 ⟨rfl,hb4⟩;have HB4:=lhi (HB3.out.trans (hb4.mono HB3.out.size));clear hb4))
  have HW:=lhi (Fy HI.out.ord ns 0 HI.out.pos)
  obtain⟨wp,hwp⟩: ∃p,Ao S ns 0=p:=⟨_,rfl⟩
  obtain⟨wa,wb⟩:=wp
  have HF:=lhi (show Uv S (Au path)=if wb=0 then(S.num wa.toNat,0)else(0,wb)by rw[HPR.out];show(if(Ao S ns 0).2=0 then(S.num (Ao S ns 0).1.toNat,0)else(0,(Ao S ns 0).2))=_;rw[hwp])
  rw[hwp]at HW
  try rw[hwp]
  clear hwp x0 x1 x2
  by_cases h0:wb=0
  ·subst h0
   obtain⟨k,hk,rfl⟩:=HW.out rfl
   have y0:w4.cell? ⟨sp,0,none⟩=some (.slice A S.inodes.length cap):=(HB4.out.cell (p:=⟨sp,0,none⟩) HX2.out.lt).trans (HX2.out.cell 0)
   obtain⟨-,-,g,off,rfl,hcell⟩:=(HS2.out.ino.keep HB4.out).at_ hk
   have q0:w4.cell? ⟨g,off+k*4,none⟩=some (.int .i64 (S.num k)):=hcell 0 (by omega)
   have hk1:(k:Int)<S.inodes.length:=by omega
   clear hcell
   go_wp2_with (fail)
   go_ret2
   exact⟨by rw[HF.out];rfl,(HB.out.trans (HB2.out.mono HB.out.size)).trans (HB4.out.mono (Aml HB.out.size HB2.out.size))⟩
  ·have h1:(wb==0)=false:=by simp[h0]
   have HF2:=lhi (show Uv S (Au path)=(0,wb)by rw[HF.out,if_neg h0])
   clear h0 HF
   go_wp2_with (fail)
   go_ret2
   exact⟨by rw[HF2.out];rfl,(HB.out.trans (HB2.out.mono HB.out.size)).trans (HB4.out.mono (Aml HB.out.size HB2.out.size))⟩
theorem Vm{w:World}{fb s:Nat}{M M1:Mem}{m:Nat}(hok:M.ok m)(hm:m<=700000000){k:Nat}(hc:k<M.ts.length)(hf:M.fit){cv:Ad}(hkind:cv.kind=0∨cv.kind=1)(hs:cv.path.size<=4611686018427387904)
  {ns:List ByteArray} {nm:ByteArray} (hp:Au cv.path= .ok (ns++[nm])) (hn:ns.length<=100) {it:Item} (hw:Ch k ns M Av=(.at_ it,M1)) (hd:it.dir=true) (hfr:Wf (M.bkt it.num (Aa nm:Nat)) nm=0)
  {n:Int} (hmade:rd M.ws (mdw k)=n) (hn0:0<=n/\n<32):
  Akj w fb s M (Dj (M1.see k (wd it.num (Aa nm:Nat))) k it nm cv.kind n) k cv 99 (.agg #[]) Aq:=by
 intro K W _ hM hfb
 refine Af1 hM hfb (core:=(k:Int)) (c:=cv) (at_:=Ik) (r:=Aq) fun W1 h1=>?_
 refine(h1.callL (R:=fun e _=>e= .returned (.tuple #[])) fun K' hK hB hM'=>?_).mono fun e w' h=>h
 have hb:=h1.blk (x:=⟨W.heap.size+3,193,Bi s k cv Aq⟩) (by simp[Ie])
 have hsp:K' (W.heap.size+3):=hB ⟨W.heap.size+3,193,Bi s k cv Aq⟩ (by simp[Ie])
 refine Aba (kind:=cv.kind) (hb.cell 2) hkind (P:=fun w'=>Ab K' w' s _/\Kp K' W1 w') fun W2 hb2=>?_
 have hb':=Blk.of_heap (hb2.block _ hb.lt) hb
 refine(Ae8 (hM'.below hb2) hok hm (c:=(k:Int)) ⟨by omega,by omega⟩ hf hsp (hb'.cell 0) (hb'.cell 1) (hb'.cell 2) hkind (hb'.cell 7) hs hp hn hw hd hfr hmade hn0).mono ?_
 rintro e w' ⟨rfl,h2,h3⟩
 exact⟨rfl,h2,(Kp.below hM'.bd hb2).trans h3⟩
def Mq(S:St):Nat->Int->Option Bool
 | 0,_=>none
 | k+1,j=>if j=S.num k then some (S.dir k)else Mq S k j
def dirF(S:St)(j:Int):Bool:=(Mq S S.inodes.length j).getD false
def itOf(S:St)(e:ByteArray×Int):Item:=⟨e.1,e.2,dirF S e.2⟩
def As(S:St)(l:List (ByteArray×Int))(b:Nat):List Item:=(l.filter fun e=>Aa e.1==b).map (itOf S)
def Fg(S:St)(i:Nat)(M:Mem)(b:Nat):Mem:=if(As S (S.ino i).ents b).length=0 then M else(M.give 0 (.bucket (As S (S.ino i).ents b))).put (wd (S.num i) b) (M.next 0)
def De(S:St)(i:Nat)(M:Mem):Nat->Mem
 | 0=>M
 | b+1=>Fg S i (De S i M b) b
def Ei(S:St)(i:Nat)(M:Mem):Mem:=
 let M1:=M.put (wd (S.num i) 8) (cntI S (S.num i) S.inodes.length:Nat)
 (M1.give 0 (.base (M1.next 0) (S.dat i) false)).put (wd (S.num i) 16) (M1.next 0)
def Gc(S:St)(M:Mem)(i:Nat):Mem:=if S.dir i then De S i M 8 else Ei S i (De S i M 8)
def Ce(S:St)(M:Mem):Nat->Mem
 | 0=>M
 | i+1=>Gc S (Ce S M i) i
def Bl(S:St)(M:Mem):Nat->Mem
 | 0=>M
 | c+1=>(Bl S M c).put (mdw c) (S.mad c)
def Bv(S:St)(M:Mem):Nat->Mem
 | 0=>M
 | k+1=>(Bv S M k).put (fdw (S.oc k) (S.of k)) (S.on k)
def Cu(S:St):Mem:=Bv S (Bl S (Ce S (Mem.new S.made.length) S.inodes.length) S.made.length) S.opens.length
theorem Ag6(S:St)(i:Nat)(M:Mem)(b:Nat):(Fg S i M b).ts=M.ts:=by unfold Fg;split <;> rfl
theorem Lj(S:St)(i:Nat)(M:Mem): ∀b,(De S i M b).ts=M.ts
 | 0=>rfl
 | b+1=>(Ag6 S i _ b).trans (Lj S i M b)
theorem Ag3(S:St)(M:Mem)(i:Nat):(Gc S M i).ts=M.ts:=by
 unfold Gc
 split
 ·exact Lj S i M 8
 ·exact Lj S i M 8
theorem Li(S:St)(M:Mem): ∀i,(Ce S M i).ts=M.ts
 | 0=>rfl
 | i+1=>(Ag3 S _ i).trans (Li S M i)
theorem Pp(S:St)(M:Mem): ∀i,(Bl S M i).ts=M.ts
 | 0=>rfl
 | i+1=>Pp S M i
theorem Pn(S:St)(M:Mem): ∀i,(Bv S M i).ts=M.ts
 | 0=>rfl
 | i+1=>Pn S M i
theorem Ix(S:St):(Cu S).ts=List.replicate S.made.length []:=by
 unfold Cu
 rw[Pn,Pp,Li];rfl
theorem Ag7{S:St}{i:Nat}{M:Mem}{b m:Nat}(h:M.ok m):(Fg S i M b).ok (m+1):=by
 unfold Fg
 split
 ·exact h.mono (by omega)
 ·exact(h.give _ _).put _ _
theorem Ha{S:St}{i:Nat}{M:Mem}{m:Nat}(h:M.ok m): ∀b,(De S i M b).ok (m+b)
 | 0=>h
 | b+1=>Ag7 (Ha h b)
theorem Zd{S:St}{i:Nat}{M:Mem}{m:Nat}(h:M.ok m):(Ei S i M).ok (m+1):=((h.put _ _).give _ _).put _ _
theorem Ag4{S:St}{i:Nat}{M:Mem}{m:Nat}(h:M.ok m):(Gc S M i).ok (m+9):=by
 unfold Gc
 split
 ·exact(Ha h 8).mono (by omega)
 ·exact Zd (Ha h 8)
theorem Gz{S:St}{M:Mem}{m:Nat}(h:M.ok m): ∀i,(Ce S M i).ok (m+i*9)
 | 0=>h.mono (by omega)
 | i+1=>(Ag4 (Gz h i)).mono (by omega)
theorem Hx{S:St}{M:Mem}{m:Nat}(h:M.ok m): ∀i,(Bl S M i).ok m
 | 0=>h
 | i+1=>(Hx h i).put _ _
theorem Kq{S:St}{M:Mem}{m:Nat}(h:M.ok m): ∀i,(Bv S M i).ok m
 | 0=>h
 | i+1=>(Kq h i).put _ _
theorem Zc{S:St}(hn:S.inodes.length<=1000):(Cu S).ok 9000:=
 (Kq (Hx (Gz (Mem.new_ok _) _) _) _).mono (by omega)
theorem Wz(S:St)(l:List (ByteArray×Int))(e:ByteArray×Int)(b:Nat):As S (l++[e]) b=if Aa e.1=b then As S l b++[itOf S e]else As S l b:=by
 unfold As
 rw[List.filter_append,List.map_append]
 by_cases h:Aa e.1=b
 ·rw[if_pos h];simp[h]
 ·rw[if_neg h];simp[h]
theorem Uc{A:Type}(l:List A)(d:A){j:Nat}(hj:j<l.length):l.take (j+1)=l.take j++[l.getD j d]:=by
 rw[List.take_add_one,Amh hj,Ame,Amh hj];rfl
theorem Th(S:St)(l:List (ByteArray×Int))(b:Nat):(As S l b).length<=l.length:=by
 unfold As
 rw[List.length_map]
 exact List.length_filter_le _ _
def Lw(S:St)(k:Nat):Int->Option Value:=fun j=>(Mq S k j).map Value.bool
theorem Ab5(S:St)(k:Nat)(j:Int):Lw S (k+1) j=if j=S.num k then some (.bool (S.dir k))else Lw S k j:=by
 unfold Lw
 rw[Mq]
 split <;> rfl
theorem Ae2(S:St)(j:Int):(Lw S S.inodes.length j).getD (.bool false)= .bool (dirF S j):=by
 unfold Lw dirF
 cases Mq S S.inodes.length j <;> rfl
end Go.Proofs.YtkebjgebkneijaaGreat
