/- Texts of one's own that a claim's last text rests on: Da5 Da7 Dx1 Dx2 Tm0 Dx3. -/
import Derived.Test.YtkebjgebkneijaaGreatMG25
import Derived.Test.YtkebjgebkneijaaGreatMG6
import Derived.Test.YtkebjgebkneijaaGreatMG24
set_option linter.unusedVariables false
set_option linter.unusedSimpArgs false
namespace Go.Proofs.YtkebjgebkneijaaGreat
open Go.RowKit
set_option maxHeartbeats 16000000
set_option maxRecDepth 1000000
section
variable{W:World}{base ob db:Nat}{c:Ad}{r:ResV}{iv ov mv:Value}{Iv:List InV}{S:St}
theorem Ab3(h:Doer W base ob db c r iv ov mv Iv S)(hI:Inv S)(hp:c.path.size<=4611686018427387904){k:Int}(hs:atS S c.path= .error k):
  Calls Tryz.prog 78 #[.pointer (some ⟨db,0,none⟩)] W fun e w'=>e=Cg k/\Below base W w':=by
 obtain⟨g,icap,ics,rfl,-,-,-⟩:=h.row hI.pos
 have HA:=lhi (Ob h hI hp)
 rw[hs]at HA
 have hbs:=h.bs
 have d6:W.cell? ⟨db,6,none⟩=some (.string c.path):=h.d.cell 6
 clear h hI hp hs
 go_enter Tryz.func78,Tryz.ntmps78
 go_wp2_with (go_at_call 123;refine HA.out.mono ?_;rintro e w1 ⟨he,hb1⟩;have he:e=Cg k:=he;subst he)
 exact⟨rfl,rfl,hb1.mono hbs⟩
theorem Ahs(h:Doer W base ob db c r iv ov mv Iv S)(hI:Inv S)(hp:c.path.size<=4611686018427387904)(hc:0<=c.core/\c.core<S.made.length){a:Nat}(hs:atS S c.path= .ok a){RES:Except Int (St×ResV)}(hres:Ni S c r=RES):
  Calls Tryz.prog 78 #[.pointer (some ⟨db,0,none⟩)] W fun e w'=>Gr base ob db c W e w' RES:=by
 obtain⟨g,icap,ics,rfl,-,-,-⟩:=h.row hI.pos
 have HA:=lhi (Ob h hI hp)
 have ha:=Tm hI hs
 rw[hs]at HA
 have hbs:=h.bs
 have hno:=hI.small.no
 have H:=lhi h
 have HSM:=lhi h.stm
 have HI:=lhi hI
 have HRES:=lhi (show(if S.dir a=true then .error 8 else if 4<= (opL S c.core S.opens.length).1 then .error 10 else
  .ok ({S with opens:=S.opens.take (opL S c.core S.opens.length).2++(c.core,((opL S c.core S.opens.length).1:Int),S.num a)::S.opens.drop (opL S c.core S.opens.length).2},{r with fd:=(opL S c.core S.opens.length).1}))=RES by rw[<-hres];unfold Ni;rw[hs])
 have d6:W.cell? ⟨db,6,none⟩=some (.string c.path):=h.d.cell 6
 clear h hI hs hres
 go_enter Tryz.func78,Tryz.ntmps78
 go_upto_region 1 with(go_at_call 123;refine HA.out.mono ?_;rintro e w1 ⟨he,hb1⟩;have he:e= .returned (.pointer (some ⟨g,a*4,none⟩)):=he;subst he;have HB1:=lhi (hb1.mono hbs);have H1:=lhi (H.out.below hb1);have HS1:=lhi (HSM.out.keep hb1);clear hb1)
 clear d6 HA
 have HG1:=lhi (show w1.cell? ⟨g,a*4+1,none⟩=some (.bool (S.dir a))/\w1.cell? ⟨g,a*4,none⟩=some (.int .i64 (S.num a))by
  obtain⟨-,-,g',off,hA,hcell⟩:=HS1.out.ino.at_ ha
  injection hA with hA
  injection hA with e1 e2
  subst e1 e2
  have h1:=hcell 1 (by omega)
  have h0:=hcell 0 (by omega)
  rw[Nat.zero_add]at h1 h0
  exact⟨h1,h0⟩)
 have g1:=HG1.out.1
 cases hd:S.dir a with
 | true=>
  rw[hd]at g1 HRES
  obtain rfl:RES= .error 8:=by rw[<-HRES.out];rfl
  clear HRES
  go_wp2_with (go_at_call 116;refine(Al _ _).mono ?_;rintro e w' ⟨rfl,rfl⟩)
  exact⟨rfl,rfl,HB1.out⟩
 | false=>
  rw[hd]at g1 HRES
  obtain⟨OA,ocap,rfl,-⟩:=H1.out.st.stv.opn
  obtain⟨n,hn⟩:=xx S.opens.length
  have HN:=lhi hn
  rw[hn]at hno
  have d0:w1.cell? ⟨db,0,none⟩=some (.pointer (some ⟨ob,0,none⟩)):=H1.out.d.cell 0
  have o1:w1.cell? ⟨ob,1,none⟩=some (.slice OA S.opens.length ocap):=H1.out.o.cell 1
  rw[hn]at o1
  go_upto_region 4 with(go_at_call 116;refine(Ar _ _).mono ?_;rintro e w' ⟨rfl,rfl⟩)
  clear g1 d0 o1
  have HD2:=lhi (show w1.cell? ⟨db,2,none⟩=some (.int .i64 c.core)from H1.out.d.cell 2)
  have HDL:=lhi H1.out.d.lt
  obtain⟨cc,hcc⟩: ∃x,c.core=x:=⟨_,rfl⟩
  rw[hcc]at HD2 HRES hc
  have HCC:=lhi hcc
  clear hn hcc
  go_loopw [3,4,27] (fun f t i wr=>∃k fk ak:Nat,i= .int .i64 k/\k<=n/\f= .int .i64 fk/\t= .int .i64 ak/\Hid (opL S cc k=(fk,ak))/\Below w1.heap.size w1 wr) (fun _ _ i _=>n - (intOf i).toNat)
  case atStart=>exact⟨0,0,0,rfl,by omega,rfl,rfl,lhi rfl,Amf _ _⟩
  case round=>
   obtain⟨k,fk,ak,rfl,hk,rfl,rfl,hop,hB⟩:=hrel
   have HB:=lhi hB
   clear hB
   have hle:=Rr S cc k
   rw[hop.out]at hle
   by_cases hq:k<n
   ·have hq1:(k:Int)<n:=by omega
    obtain⟨-,-,og,off,rfl,hcell⟩:=(HS1.out.keep HB.out).opn.at_ (show k<S.opens.length by rw[HN.out];exact hq)
    have q0:wr.cell? ⟨og,off+k*3,none⟩=some (.int .i64 (S.oc k)):=hcell 0 (by omega)
    have q1:wr.cell? ⟨og,off+k*3+1,none⟩=some (.int .i64 (S.of k)):=hcell 1 (by omega)
    have q2:wr.cell? ⟨og,off+k*3+2,none⟩=some (.int .i64 (S.on k)):=hcell 2 (by omega)
    have d2:wr.cell? ⟨db,2,none⟩=some (.int .i64 cc):=(HB.out.cell (p:=⟨db,2,none⟩) HDL.out).trans HD2.out
    have dl:db<wr.heap.size:=Amd _ _ d2
    have HBA:=lhi (HB.out.alloc HB.out.size (.cells #[.int .i64 (S.oc k),.int .i64 (S.of k),.int .i64 (S.on k)] 144))
    clear hcell
    have HSU:=lhi (show opL S cc (k+1)=if S.oc k=cc/\S.of k=(fk:Int)then(fk+1,k+1)else if S.oc k<cc then(fk,k+1)else(fk,ak)by rw[opL,hop.out])
    by_cases e1:S.oc k<cc
    ·have c1:decide (S.oc k<cc)=true:=decide_eq_true e1
     have c2:(S.oc k==cc)=false:=by simp;omega
     have HR:=lhi (show opL S cc (k+1)=(fk,k+1)by rw[HSU.out,if_neg (by omega),if_pos e1])
     clear e1
     go_upto_region 6 with(fail)
     go_region
     go_upto_region 8 with(fail)
     go_region
     go_wp2_with (fail)
     go_roundw
     case rel=>exact⟨k+1,fk,k+1,by go_num,by omega,rfl,by go_num,lhi HR.out,HBA.out.trans (show Below w1.heap.size _ _ from⟨rfl,rfl,rfl,Ama _,fun _ _=>rfl⟩)⟩
     case measure=>simp only[intOf];omega
    ·have c1:decide (S.oc k<cc)=false:=decide_eq_false e1
     by_cases e2:S.oc k=cc
     ·have c2:(S.oc k==cc)=true:=by simp[e2]
      by_cases e3:S.of k=(fk:Int)
      ·have c3:(S.of k==(fk:Int))=true:=by simp[e3]
       have HR:=lhi (show opL S cc (k+1)=(fk+1,k+1)by rw[HSU.out,if_pos ⟨e2,e3⟩])
       clear e1 e2 e3
       go_upto_region 6 with(fail)
       go_region
       go_upto_region 8 with(fail)
       go_region
       go_wp2_with (fail)
       go_roundw
       case rel=>exact⟨k+1,fk+1,k+1,by go_num,by omega,by go_num,by go_num,lhi HR.out,HBA.out.trans (show Below w1.heap.size _ _ from⟨rfl,rfl,rfl,Ama _,fun _ _=>rfl⟩)⟩
       case measure=>simp only[intOf];omega
      ·have c3:(S.of k==(fk:Int))=false:=by simp[e3]
       have HR:=lhi (show opL S cc (k+1)=(fk,ak)by rw[HSU.out,if_neg (fun x=>e3 x.2),if_neg (by omega)])
       clear e1 e2 e3
       go_upto_region 6 with(fail)
       go_region
       go_upto_region 8 with(fail)
       go_region
       go_wp2_with (fail)
       go_roundw
       case rel=>exact⟨k+1,fk,ak,by go_num,by omega,rfl,rfl,lhi HR.out,HBA.out.trans (show Below w1.heap.size _ _ from⟨rfl,rfl,rfl,Ama _,fun _ _=>rfl⟩)⟩
       case measure=>simp only[intOf];omega
     ·have c2:(S.oc k==cc)=false:=by simp[e2]
      have HR:=lhi (show opL S cc (k+1)=(fk,ak)by rw[HSU.out,if_neg (fun x=>e2 x.1),if_neg (by omega)])
      clear e1 e2
      go_upto_region 6 with(fail)
      go_region
      go_upto_region 8 with(fail)
      go_region
      go_wp2_with (fail)
      go_roundw
      case rel=>exact⟨k+1,fk,ak,by go_num,by omega,rfl,rfl,lhi HR.out,HBA.out.trans (show Below w1.heap.size _ _ from⟨rfl,rfl,rfl,Ama _,fun _ _=>rfl⟩)⟩
      case measure=>simp only[intOf];omega
   ·have e:k=n:=by omega
    subst e
    have HOP:=lhi hop.out
    have HBW:=lhi (HB1.out.trans (HB.out.mono H1.out.bs))
    have H2:=lhi (H1.out.below HB.out)
    rw[HN.out,HOP.out]at HRES
    simp only at HRES
    by_cases h4:4<=fk
    ·obtain rfl:RES= .error 10:=by rw[<-HRES.out];simp[h4]
     have h41:decide ((4:Int)<=fk)=true:=by simp;omega
     clear HRES h4
     go_wp2_with (go_at_call 116;refine(Al _ _).mono ?_;rintro e w' ⟨rfl,rfl⟩)
     exact⟨rfl,rfl,HBW.out⟩
    ·have h41:decide ((4:Int)<=fk)=false:=by simp;omega
     go_upto_region 12 with(go_at_call 116;refine(Ar _ _).mono ?_;rintro e w' ⟨rfl,rfl⟩)
     obtain⟨num,hnum⟩: ∃x,S.num a=x:=⟨_,rfl⟩
     obtain⟨SR,hSR⟩: ∃x,x=({S with opens:=S.opens.take ak++(cc,(fk:Int),num)::S.opens.drop ak}:St):=⟨_,rfl⟩
     obtain⟨r',hr'⟩: ∃x:ResV,x={r with fd:=fk}:=⟨_,rfl⟩
     obtain rfl:RES= .ok (SR,r'):=by rw[<-HRES.out,if_neg (by decide),if_neg h4,hSR,hr',hnum]
     have HSR:=lhi hSR
     have HRR:=lhi hr'
     have HG1':=lhi (show w1.cell? ⟨g,a*4,none⟩=some (.int .i64 num)by rw[HG1.out.2,hnum])
     have HCD:=lhi (show c.core=cc from HCC.out)
     obtain⟨S0,hS0⟩: ∃x,S.opens=x:=⟨_,rfl⟩
     have hBI:Below wr.heap.size wr (wr.alloc (.cells #[.int .i64 cc,.int .i64 fk,.int .i64 num] 144)).drew:=by
      have q:=(Amf wr.heap.size wr).alloc (Ama _) (.cells #[.int .i64 cc,.int .i64 fk,.int .i64 num] 144)
      exact q.trans ((Ae _).mono q.size)
     have HBI:=lhi hBI
     have H2K:=lhi (show Doer wr base ob db c r (.slice (some ⟨g,0,none⟩) S.inodes.length icap) (.slice OA k ocap) mv Iv S by have:=H2.out;rw[HN.out]at this;exact this)
     have H8:=lhi (H2K.out.below hBI)
     have HXB:=lhi (show Blk (wr.alloc (.cells #[.int .i64 cc,.int .i64 fk,.int .i64 num] 144)).drew wr.heap.size 144 #[.int .i64 cc,.int .i64 fk,.int .i64 num]from Blk.new wr _ _)
     have HIN:=lhi (show Calls Tryz.prog 124 #[.slice OA k ocap,.int .i64 ak,.slice (some ⟨wr.heap.size,0,none⟩) 1 1] _ _ from by
      have q:=Zo (i:=ak) (x:=(cc,(fk:Int),num)) (xb:=wr.heap.size) H8.out.st.opn (by rw[HN.out];omega) HXB.out (fun q=>by have:=(H2K.out.st.opn.lt _ q).2;omega) (fun y hy u hu=>by
       simp only[encD,List.mem_cons,List.not_mem_nil,or_false]at hu
       rcases hu with rfl | rfl | rfl <;> rfl) (by rw[HN.out];omega) H8.out.bs
      exact q)
     have HNO:=lhi (Ah H8.out.st.opn H8.out.o (by decide))
     have HND:=lhi (Ah H8.out.st.opn H8.out.d (by decide))
     obtain⟨gcs,hgcs⟩:=(Ag H8.out.st.ino rfl).2
     have HGB:=lhi hgcs
     have HNG:=lhi (Ah H8.out.st.opn hgcs (by decide))
     have d0:wr.drew.cell? ⟨db,0,none⟩=some (.pointer (some ⟨ob,0,none⟩)):=H2.out.d.cell 0
     have o1:wr.drew.cell? ⟨ob,1,none⟩=some (.slice OA k ocap):=by
      have:=H2.out.o.cell 1
      rw[HN.out]at this
      exact this
     have d2:wr.drew.cell? ⟨db,2,none⟩=some (.int .i64 cc):=by
      have:=H2.out.d.cell 2
      rw[<-HCD.out];exact this
     have g0:wr.drew.cell? ⟨g,a*4,none⟩=some (.int .i64 num):=(HB.out.cell (Amd _ _ HG1'.out)).trans HG1'.out
     have HG8:=lhi ((hBI.cell (p:=⟨g,a*4,none⟩) (Amd _ _ g0)).trans g0)
     clear HRES h4 h41 hnum hSR hr' hS0 hBI hgcs hle
     refine Af (L:=27) (S:=fun w'=>w'.cell? ⟨db,0,none⟩=some (.pointer (some ⟨ob,0,none⟩))/\w'.cell? ⟨ob,1,none⟩=some (.slice OA k ocap)/\w'.cell? ⟨db,2,none⟩=some (.int .i64 cc)/\w'.cell? ⟨g,a*4,none⟩=some (.int .i64 num)) (by kernel_rfl) (⟨d0,o1,d2,g0⟩) (fun hHeld=>?_)
     refine tF 0 ?_
     refine tF 1 ?_
     refine tF 2 ?_
     refine tF 3 ?_
     refine tF 4 ?_
     refine tF 5 ?_
     refine tF 6 ?_
     refine tF 7 ?_
     refine tF 8 ?_
     refine tF 9 ?_
     refine tF 10 ?_
     refine tF 11 ?_
     refine tF 12 ?_
     refine tF 13 ?_
     refine tF 14 ?_
     refine tF 15 ?_
     refine tF 16 ?_
     refine tF 17 ?_
     refine tF 18 ?_
     refine tF 19 ?_
     refine tF 20 ?_
     refine tF 21 ?_
     refine tF 22 ?_
     refine Ap (i:=23) (by kernel_rfl) rfl (fun K hK=>?_)
     go_simp
     obtain⟨w8,hw8⟩:=yy ((wr.alloc (.cells #[.int .i64 cc,.int .i64 fk,.int .i64 num] 144)).drew)
     rw[<-hw8]at HIN H8 HXB HBI HG8 HGB⊢
     clear hw8
     show K _ _
     refine hK.out _ _ (fun _=>⟨H8.out.d.cell 0,H8.out.o.cell 1,HCD.out▸H8.out.d.cell 2,HG8.out⟩) (fun hHeld=>?_)
     replace hHeld:=hHeld (by decide)
     clear hK K
     refine Ap (i:=24) (by kernel_rfl) rfl (fun K hK=>?_)
     go_simp
     refine HIN.out.mono ?_
     rintro e w9 ⟨v',rfl,hown,hgr,hbl⟩
     obtain⟨NA,ncap,rfl,-⟩:=Aj hown
     have HOW:=lhi hown
     have HGR:=lhi hgr
     have H9O:=lhi (Am H8.out.o HGR.out HNO.out)
     have H9D:=lhi (Am H8.out.d HGR.out HND.out)
     have z0:w9.cell? ⟨g,a*4,none⟩=some (.int .i64 num):=(Am HGB.out HGR.out HNG.out).cell _ |>.trans ((HGB.out.cell _).symm.trans HG8.out)
     clear hown hgr hbl HIN
     show K _ _
     refine hK.out _ _ (fun _=>⟨H9D.out.cell 0,H9O.out.cell 1,HCD.out▸H9D.out.cell 2,z0⟩) (fun hHeld=>?_)
     replace hHeld:=hHeld (by decide)
     clear hK K
     refine tF 25 ?_
     refine tF 26 ?_
     have z1:=hHeld.2.1
     have f1:w9.frozen? ⟨ob,1,none⟩=false:=H9O.out.frozen _
     refine Ap (i:=27) (by kernel_rfl) rfl (fun K hK=>?_)
     go_simp
     show K _ _
     refine hK.out _ _ (fun h=>absurd rfl h) (fun _=>?_)
     clear hK K
     refine Cn (by kernel_rfl) ?_ _
     have hlen:(S.opens.take ak++(cc,(fk:Int),num)::S.opens.drop ak).length=S.opens.length+1:=by
      have:=HN.out
      have:=(Rr S cc k).2
      rw[HOP.out]at this
      rw[Ami,List.length_cons,List.length_take,List.length_drop]
      omega
     have hst:=H8.out.st.putO HGR.out (L:=S.opens.take ak++(cc,(fk:Int),num)::S.opens.drop ak) (by rw[hlen];exact HOW.out)
     rw[<-HSR.out]at hst
     have hb9:Below base W (w9.setCell ⟨ob,1,none⟩ (.slice NA (S.opens.length+1) ncap)):=((HBW.out.trans (HBI.out.mono H2.out.bs)).trans (Bg HGR.out H8.out.bs (fun b hb=>(H8.out.st.opn.lt _ hb).1))).setCell (p:=⟨ob,1,none⟩) H8.out.ob_ _
     have h10:Doer (w9.setCell ⟨ob,1,none⟩ (.slice NA (S.opens.length+1) ncap)) base ob db c r (.slice (some ⟨g,0,none⟩) S.inodes.length icap) (.slice NA (S.opens.length+1) ncap) mv Iv SR:=⟨H8.out.ob_,H8.out.db_,H9O.out.set_ 1 _,H9D.out.far (p:=⟨ob,1,none⟩) (Blk.ne_ H9D.out H9O.out (by decide)) _,hst.far H9O.out (by decide) (by decide) (by decide) (by decide) 1 _⟩
     obtain⟨w10,hw10⟩: ∃x,x=w9.setCell ⟨ob,1,none⟩ (.slice NA (S.opens.length+1) ncap):=⟨_,rfl⟩
     rw[<-hw10]at h10 hb9⊢
     have H10:=lhi h10
     have HB10:=lhi hb9
     have e10:w10.cell? ⟨db,10,none⟩=some (.int .i64 r.fd):=h10.d.cell 10
     have u10:=h10.d.frozen 10
     have HSF:=lhi (h10.setR (r':=r') 10 (.int .i64 fk) (by rw[HRR.out];rfl))
     clear hw10 h10 hb9 hst hlen d0 o1 d2 g0 z0 z1 f1
     go_wp2_with (fail)
     go_end0
     exact⟨rfl,HB10.out.setCell (p:=⟨db,10,none⟩) H10.out.db_ _,_,_,_,_,HSF.out⟩
theorem Aaa(h:Doer W base ob db c r iv ov mv Iv S)(hI:Inv S)(hp:c.path.size<=4611686018427387904)(hc:0<=c.core/\c.core<S.made.length):
  Calls Tryz.prog 78 #[.pointer (some ⟨db,0,none⟩)] W fun e w'=>Gr base ob db c W e w' (Ni S c r):=by
 cases hs:atS S c.path with
 | error k=>
  have:Ni S c r= .error k:=by unfold Ni;rw[hs]
  rw[this]
  exact Ab3 h hI hp hs
 | ok a=>exact Ahs h hI hp hc hs rfl
end
theorem Xz{S:St}(hI:Inv S){k:Nat}(hk:k<S.inodes.length)(d:ByteArray):setD S (S.num k) d=S.setI k {S.ino k with data:=d}:=by
 have e:(setD S (S.num k) d).inodes=S.inodes.set k {S.ino k with data:=d}:=by
  apply List.ext_getElem
  ·simp[setD,Eh]
  ·intro i h1 h2
   have hi:i<S.inodes.length:=by simpa using h2
   rw[List.getElem_set]
   simp only[setD,Eh,List.getElem_map]
   have hin:S.inodes[i]=S.ino i:=(Fu hi).symm
   by_cases e:k=i
   ·subst e
    rw[if_pos rfl,hin,if_pos (show(S.ino k).num=S.num k from rfl)]
   ·rw[if_neg e,if_neg,hin]
    intro q
    rw[hin]at q
    exact e (hI.num_inj hi hk q).symm
 show St.mk (setD S (S.num k) d).inodes S.opens S.made=St.mk _ _ _
 rw[e]
theorem Ahy(d:ByteArray)(k:Nat):(cutF d k).size=k:=by
 unfold cutF
 show(List.toArray _).size=k
 have h1:Nat.min d.size k<=d.size:=Nat.min_le_left _ _
 have h2:Nat.min d.size k<=k:=Nat.min_le_right _ _
 have h3:d.data.toList.length=d.size:=by simp
 rw[List.size_toArray,Ami,List.length_take,List.length_drop,List.length_replicate,h3];omega
theorem Acf{S S':St}(hI:Inv S){c:Ad}{r r':ResV}(h:Kx S c r= .ok (S',r')):Inv S'/\S'.made.length=S.made.length:=by
 unfold Kx at h
 split at h
 ·cases h
 ·rename_i a k hf
  obtain⟨-,ha,-,hd,-⟩:=Fi hI hf
  have hfile: ∃y∈S.inodes,y.num=S.num a/\y.dir=false:=⟨_,Inv.ino_mem ha,rfl,hd⟩
  have hda:(S.dat a).size<=256:=hI.dat _ (Inv.ino_mem ha)
  split at h
  ·split at h
   ·injection h with h;injection h with h1 h2;subst h1;exact⟨hI,rfl⟩
   ·cases h
  ·split at h
   ·split at h
    ·rename_i hb
     simp only[Bool.and_eq_true]at hb
     have h0:=Fh hb.1
     split at h
     ·cases h
     ·rename_i hg
      injection h with h;injection h with h1 h2;subst h1
      rw[<-Xz hI ha]
      exact⟨hI.data (Aml (Aha _ _ _) (by omega)) hfile,rfl⟩
    ·cases h
   ·split at h
    ·split at h
     ·rename_i hb
      have h0:=Fh hb
      injection h with h;injection h with h1 h2;subst h1
      rw[<-Xz hI ha]
      exact⟨hI.data (by rw[Ahy];omega) hfile,rfl⟩
     ·cases h
    ·injection h with h;injection h with h1 h2;subst h1;exact⟨hI,rfl⟩
theorem Aed{S S':St}(hI:Inv S){c:Ad}(hc:0<=c.core/\c.core<S.made.length){r r':ResV}(h:Ni S c r= .ok (S',r')):Inv S'/\S'.made.length=S.made.length:=by
 obtain⟨a,ha,hd,hf,rfl,hno⟩:=Abh hI h
 exact⟨hI.grab hc.1 hc.2 (by show(0:Int)<= ((opL S c.core S.opens.length).1:Int);omega) (by show((opL S c.core S.opens.length).1:Int)<4;omega) ⟨_,Inv.ino_mem (Tm hI ha),rfl,hd⟩ hno,rfl⟩
theorem StO.delI{w w1:World}{base g n cap k:Nat}{iv' ov mv:Value}{Iv:List InV}{S:St}(h:StO w base (.slice (some ⟨g,0,none⟩) n cap) ov mv Iv S)(hk:k<Iv.length)(hg:w.grownBy w1 (some g))(hown:w1.ownsRow base 93 4 iv' (Iv.length - 1) ((Iv.eraseIdx k).flatMap encI)):
  StO w1 base iv' ov mv (Iv.eraseIdx k) {S with inodes:=S.inodes.eraseIdx k}:=by
 have hty: ∀{e:TypeId} {j m:Nat} {v:Value} {xs:List Value},w.ownsRow base e j v m xs->e≠93->w1.ownsRow base e j v m xs:=fun ho he=>Dq ho hg fun b h1 h2=>by
  injection h2 with h2
  subst h2
  obtain⟨-,cs,q⟩:=Ag ho h1
  obtain⟨-,cs',q'⟩:=Ag h.ino rfl
  exact Blk.ne_ q q' he rfl
 have hle:(Iv.eraseIdx k).length=Iv.length - 1:=by rw[List.length_eraseIdx,if_pos hk]
 have hgt: ∀{i:Nat} (hi:i< (Iv.eraseIdx k).length),∃j,∃hj:j<Iv.length,(Iv.eraseIdx k)[i]=Iv[j]/\j=if i<k then i else i+1:=fun {i} hi=>by
  rw[List.getElem_eraseIdx]
  split
  ·exact⟨i,by omega,rfl,rfl⟩
  ·exact⟨i+1,by omega,rfl,rfl⟩
 refine⟨?_,by rw[hle];exact hown,fun i hi=>?_,fun i j hi hj hij=>?_,hty h.opn (by decide),hty h.mad (by decide)⟩
 ·show _=S.inodes.eraseIdx k
  rw[<-h.len,List.eraseIdx_eq_take_drop_succ,List.eraseIdx_eq_take_drop_succ,List.map_append,List.map_take,List.map_drop]
 ·obtain⟨j,hj,e,-⟩:=hgt hi
  rw[e]
  exact hty (h.ent j hj) (by decide)
 ·obtain⟨a,ha,e1,e2⟩:=hgt hi
  obtain⟨b,hb,e3,e4⟩:=hgt hj
  rw[e1,e3]
  exact h.apart a b ha hb (by rw[e2,e4];split <;> split <;> omega)
def Kh(S:St)(k:Nat):St:=if S.dir k=false/\cntI S (S.num k) S.inodes.length=0/\Hq S (S.num k)<0 then {S with inodes:=S.inodes.eraseIdx k}else S
section
variable{W:World}{base ob db g icap:Nat}{c:Ad}{r:ResV}{ov mv:Value}{Iv:List InV}{S:St}
theorem Doer.dirc(h:Doer W base ob db c r (.slice (some ⟨g,0,none⟩) S.inodes.length icap) ov mv Iv S){k:Nat}(hk:k<S.inodes.length):W.cell? ⟨g,k*4+1,none⟩=some (.bool (S.dir k)):=by
 have hkI:k<Iv.length:=by rw[h.st.len'];exact hk
 have:=h.st.cell h.st.len'.symm hkI (show 1<4 by omega)
 rw[this]
 have:=h.st.at_ hkI
 simp[encI,this,St.dir]
theorem Doer.iRow(h:Doer W base ob db c r (.slice (some ⟨g,0,none⟩) S.inodes.length icap) ov mv Iv S): ∃cs,Blk W g 93 cs:=by
 obtain⟨-,cs',q'⟩:=Ag h.st.ino rfl
 exact⟨cs',q'⟩
theorem Rc(h:Doer W base ob db c r (.slice (some ⟨g,0,none⟩) S.inodes.length icap) ov mv Iv S)(hs:S.small)(hlt: ∀i j,i<j->j<S.inodes.length->S.num i<S.num j){k:Nat}(hk:k<S.inodes.length):
  Calls Tryz.prog 81 #[.pointer (some ⟨db,0,none⟩),.int .i64 (S.num k)] W fun e w'=>e= .returned (.tuple #[])/\Below base W w'/\ ∃iv' Iv',Doer w' base ob db c r iv' ov mv Iv' (Kh S k):=by
 have hpl:Bh S (S.num k)=k:=Gw hk rfl fun i hi e=>by have:=hlt i k hi hk;omega
 have H:=lhi h
 have HF:=lhi (Ia (sp:=ob) h.stm hs.ni (S.num k) hlt (h.o.cell 0))
 have HLK:=lhi (fun(V:World) (hb:Below W.heap.size W V)=>Kr (h.stm.keep hb) hs (S.num k))
 have HOC:=lhi (fun(V:World) (hb:Below W.heap.size W V)=>Ph (sp:=ob) (h.stm.keep hb) hs.no ((hb.cell (p:=⟨ob,1,none⟩) h.o.lt).trans (h.o.cell 1)) (S.num k))
 rw[hpl]at HF
 have d0:W.cell? ⟨db,0,none⟩=some (.pointer (some ⟨ob,0,none⟩)):=h.d.cell 0
 obtain⟨OA,ocap,rfl,-⟩:=Aj h.st.opn
 obtain⟨MA,mcap,rfl,-⟩:=Aj h.st.mad
 have hki:(k:Int)<S.inodes.length:=by omega
 obtain⟨B,hB⟩:=xx (S.dir k)
 obtain⟨N,hN⟩:=xx (cntI S (S.num k) S.inodes.length)
 obtain⟨O,hO⟩:=xx (Hq S (S.num k))
 obtain⟨x,hx⟩:=xx (S.num k)
 have HT:=lhi (show Kh S k=if B=false/\N=0/\O<0 then {S with inodes:=S.inodes.eraseIdx k}else S from by unfold Kh;rw[hB,hN,hO])
 have HQ:=lhi (show∀V:World,Doer V base ob db c r (.slice (some ⟨g,0,none⟩) S.inodes.length icap) (.slice OA S.opens.length ocap) (.slice MA S.made.length mcap) Iv S->V.cell? ⟨g,k*4+1,none⟩=some (.bool B)from fun _ h1=>hB▸h1.dirc hk)
 have hIl:=h.st.len'
 have HN9:=lhi (show S.inodes.length<=90000 from by have:=hs.ni;omega)
 obtain⟨RS,hRS⟩:=xx (Kh S k)
 rw[hRS]at HT⊢
 rw[hN]at HLK
 rw[hO]at HOC
 rw[hx]at HF HLK HOC⊢
 clear h hs hlt hpl hB hN hO hx hRS
 by_cases hc:B=false/\N=0/\O<0
 ·obtain⟨rfl,rfl,hO⟩:=hc
  obtain rfl:RS={S with inodes:=S.inodes.eraseIdx k}:=by rw[HT.out,if_pos ⟨rfl,rfl,hO⟩]
  have e1:decide (0<=O)=false:=by simpa using hO
  have hwk:IntKind.i64.wrap ((k:Int)+1)=(k:Int)+1:=IntWalk.i64_in _ (by have:=HN9.out;omega)
  go_enter Tryz.func81,Tryz.ntmps81
  go_upto_region 1 with(go_at_call 94;refine HF.out.mono ?_;rintro e w1 ⟨rfl,hb1⟩)
  have H1:=lhi (H.out.below hb1)
  have HB1:=lhi hb1
  replace d0:w1.cell? ⟨db,0,none⟩=some (.pointer (some ⟨ob,0,none⟩)):=H1.out.d.cell 0
  have o0:w1.cell? ⟨ob,0,none⟩=some (.slice (some ⟨g,0,none⟩) S.inodes.length icap):=H1.out.o.cell 0
  have o1:w1.cell? ⟨ob,1,none⟩=some (.slice OA S.opens.length ocap):=H1.out.o.cell 1
  have o2:w1.cell? ⟨ob,2,none⟩=some (.slice MA S.made.length mcap):=H1.out.o.cell 2
  have q1:w1.cell? ⟨g,k*4+1,none⟩=some (.bool false):=HQ.out _ H1.out
  clear hb1 HF
  go_upto_region 2 with(first
   | (go_at_call 67;refine(HLK.out _ HB1.out).mono ?_;rintro e w2 ⟨rfl,hb2⟩;have HB2:=lhi (HB1.out.trans (hb2.mono HB1.out.size));have HX2:=lhi (H1.out.below hb2);clear hb2;replace d0:w2.cell? ⟨db,0,none⟩=some (.pointer (some ⟨ob,0,none⟩)):=HX2.out.d.cell 0)
   | (go_at_call 50;refine(HOC.out _ HB2.out).mono ?_;rintro e w3 ⟨rfl,hb3⟩;have HB3:=lhi (HB2.out.trans (hb3.mono HB2.out.size));have H3:=lhi (HX2.out.below hb3);clear hb3))
  have d0:w3.drew.cell? ⟨db,0,none⟩=some (.pointer (some ⟨ob,0,none⟩)):=H3.out.d.cell 0
  have o0:w3.drew.cell? ⟨ob,0,none⟩=some (.slice (some ⟨g,0,none⟩) S.inodes.length icap):=H3.out.o.cell 0
  have hown:w3.drew.ownsRow base 93 4 (.slice (some ⟨g,0,none⟩) S.inodes.length icap) S.inodes.length (Iv.flatMap encI):=by have:=H3.out.drew.st.ino;rw[hIl]at this;exact this
  have HDL:=lhi (Adh hown hIl.symm hk H3.out.st.one HN9.out)
  obtain⟨gcs,hgb⟩:=H3.out.iRow
  have HNO:=lhi (show some g≠some ob from fun e=>by injection e with e;exact Blk.ne_ hgb H3.out.o (by decide) e)
  have HND:=lhi (show some g≠some db from fun e=>by injection e with e;exact Blk.ne_ hgb H3.out.d (by decide) e)
  clear hgb hown o1 o2 q1 e1
  refine Af (L:=17) (S:=fun w'=>w'.cell? ⟨db,0,none⟩=some (.pointer (some ⟨ob,0,none⟩))/\w'.cell? ⟨ob,0,none⟩=some (.slice (some ⟨g,0,none⟩) S.inodes.length icap)) (by kernel_rfl) (⟨d0,o0⟩) (fun hHeld=>?_)
  refine tF 0 ?_
  refine tF 1 ?_
  refine tF 2 ?_
  refine tF 3 ?_
  refine tF 4 ?_
  refine tF 5 ?_
  refine tF 6 ?_
  refine tF 7 ?_
  refine tF 8 ?_
  refine tF 9 ?_
  refine tF 10 ?_
  refine tF 11 ?_
  refine tF 12 ?_
  refine tF 13 ?_
  refine Ap (i:=14) (by kernel_rfl) rfl (fun K hK=>?_)
  go_simp
  refine HDL.out.mono ?_
  rintro e w9 ⟨rfl,hown,hgr⟩
  have HOW:=lhi hown
  have HGR:=lhi hgr
  have H9O:=lhi (Am H3.out.drew.o HGR.out HNO.out)
  have H9D:=lhi (Am H3.out.drew.d HGR.out HND.out)
  clear hown hgr HDL
  show K _ _
  refine hK.out _ _ (fun _=>⟨H9D.out.cell 0,H9O.out.cell 0⟩) (fun hHeld=>?_)
  replace hHeld:=hHeld (by decide)
  clear hK K
  refine tF 15 ?_
  refine tF 16 ?_
  have z1:=hHeld.2
  have f1:w9.frozen? ⟨ob,0,none⟩=false:=H9O.out.frozen _
  refine Ap (i:=17) (by kernel_rfl) rfl (fun K hK=>?_)
  go_simp
  show K _ _
  refine hK.out _ _ (fun h=>absurd rfl h) (fun _=>?_)
  clear hK K
  refine Cn (by kernel_rfl) ?_ _
  have hst:=H3.out.drew.st.delI (by rw[hIl];exact hk) HGR.out (by rw[hIl];exact HOW.out)
  have hb9:=((HB3.out.mono H.out.bs).trans ((Ae w3).mono H3.out.bs)).trans (Bg HGR.out H3.out.drew.bs fun b hb=>by injection hb with hb;subst hb;exact(H3.out.st.ino.lt _ rfl).1)
  go_end0
  exact⟨rfl,hb9.setCell (p:=⟨ob,0,none⟩) H3.out.ob_ _,_,_,H3.out.ob_,H3.out.db_,H9O.out.set_ 0 _,H9D.out.far (p:=⟨ob,0,none⟩) (Blk.ne_ H9D.out H9O.out (by decide)) _,hst.far H9O.out (by decide) (by decide) (by decide) (by decide) 0 _⟩
 ·obtain rfl:RS=S:=by rw[HT.out,if_neg hc]
  have hend: ∀V,Below W.heap.size W V->Below base W V/\ ∃iv' Iv',Doer V base ob db c r iv' (.slice OA RS.opens.length ocap) (.slice MA RS.made.length mcap) Iv' RS:=fun V hb=>⟨hb.mono H.out.bs,_,_,H.out.below hb⟩
  have HEND:=lhi hend
  have hc3:B=true∨B=false/\ ¬ N=0∨B=false/\N=0/\0<=O:=by
   cases B with
   | true=>exact .inl rfl
   | false=>
    by_cases q:N=0
    ·exact .inr (.inr ⟨rfl,q,by rcases Int.lt_or_le O 0 with h | h;exact absurd ⟨rfl,q,h⟩ hc;exact h⟩)
    ·exact .inr (.inl ⟨rfl,q⟩)
  clear hend hc HT
  go_enter Tryz.func81,Tryz.ntmps81
  go_upto_region 1 with(go_at_call 94;refine HF.out.mono ?_;rintro e w1 ⟨rfl,hb1⟩)
  have H1:=lhi (H.out.below hb1)
  have HB1:=lhi hb1
  replace d0:w1.cell? ⟨db,0,none⟩=some (.pointer (some ⟨ob,0,none⟩)):=H1.out.d.cell 0
  have o0:w1.cell? ⟨ob,0,none⟩=some (.slice (some ⟨g,0,none⟩) RS.inodes.length icap):=H1.out.o.cell 0
  have o1:w1.cell? ⟨ob,1,none⟩=some (.slice OA RS.opens.length ocap):=H1.out.o.cell 1
  have o2:w1.cell? ⟨ob,2,none⟩=some (.slice MA RS.made.length mcap):=H1.out.o.cell 2
  have q1:w1.cell? ⟨g,k*4+1,none⟩=some (.bool B):=HQ.out _ H1.out
  clear hb1 HF
  rcases hc3 with rfl | ⟨rfl,q⟩ | ⟨rfl,rfl,q⟩
  ·go_wp2_with (fail)
   go_end0
   exact⟨rfl,HEND.out _ HB1.out⟩
  ·have e1:((N:Int)==0)=false:=by rw[beq_eq_false_iff_ne];omega
   go_wp2_with (go_at_call 67;refine(HLK.out _ HB1.out).mono ?_;rintro e w2 ⟨rfl,hb2⟩;have HB2:=lhi (HB1.out.trans (hb2.mono HB1.out.size));clear hb2)
   go_end0
   exact⟨rfl,HEND.out _ HB2.out⟩
  ·have e1:decide (0<=O)=true:=by simpa using q
   go_wp2_with (first
    | (go_at_call 67;refine(HLK.out _ HB1.out).mono ?_;rintro e w2 ⟨rfl,hb2⟩;have HB2:=lhi (HB1.out.trans (hb2.mono HB1.out.size));have HX2:=lhi (H1.out.below hb2);clear hb2;replace d0:w2.cell? ⟨db,0,none⟩=some (.pointer (some ⟨ob,0,none⟩)):=HX2.out.d.cell 0)
    | (go_at_call 50;refine(HOC.out _ HB2.out).mono ?_;rintro e w3 ⟨rfl,hb3⟩;have HB3:=lhi (HB2.out.trans (hb3.mono HB2.out.size));clear hb3))
   go_end0
   exact⟨rfl,HEND.out _ HB3.out⟩
end
def Xw(S:St)(c:Ad)(r:ResV):Except Int (St×ResV):=match Ej S c with
 | .error k=>.error k
 | .ok (a,k)=>.ok (Kh {S with opens:=S.opens.eraseIdx k} a,r)
def Acs(S:St)(c:Ad)(r:ResV):Except Int (St×ResV):=match Ej S c with
 | .error k=>.error k
 | .ok _=>.ok (S,r)
theorem Doer.numc{W:World}{base ob db g icap:Nat}{c:Ad}{r:ResV}{ov mv:Value}{Iv:List InV}{S:St}{n:Nat}(h:Doer W base ob db c r (.slice (some ⟨g,0,none⟩) n icap) ov mv Iv S){k:Nat}(hk:k<S.inodes.length):W.cell? ⟨g,k*4,none⟩=some (.int .i64 (S.num k)):=by
 have hkI:k<Iv.length:=by rw[h.st.len'];exact hk
 have hn:n=Iv.length:=by
  rcases h.st.ino.2 with⟨q,-⟩ | ⟨_,_,_,hv,-⟩
  ·cases q
  ·injection hv
 have:=h.st.cell hn hkI (show 0<4 by omega)
 show W.cell? ⟨g,k*4+0,none⟩=_
 rw[this]
 have:=h.st.at_ hkI
 simp[encI,this,St.num]
section
variable{W:World}{base ob db:Nat}{c:Ad}{r:ResV}{iv ov mv:Value}{Iv:List InV}{S:St}
theorem Aga(h:Doer W base ob db c r iv ov mv Iv S)(hI:Inv S)(hk:c.kind=15):
  Calls Tryz.prog 33 #[.pointer (some ⟨db,0,none⟩)] W fun e w'=>Gr base ob db c W e w' (Acs S c r):=by
 obtain⟨g,icap,ics,rfl,-,-,-⟩:=h.row hI.pos
 have HF:=lhi (El h hI)
 have H:=lhi h
 have d1:W.cell? ⟨db,1,none⟩=some (.int .i64 15):=by rw[<-hk];exact h.d.cell 1
 unfold Acs
 cases hf:Ej S c with
 | error k=>
  rw[hf]at HF
  clear h hI hk hf
  go_enter Tryz.func33,Tryz.ntmps33
  go_wp2_with (go_at_call 79;refine HF.out.mono ?_;rintro e w1 ⟨rfl,hb⟩;have HB:=lhi hb;clear hb)
  exact⟨rfl,rfl,HB.out.mono H.out.bs⟩
 | ok p=>
  obtain⟨a,k⟩:=p
  rw[hf]at HF
  clear h hI hk hf
  go_enter Tryz.func33,Tryz.ntmps33
  go_wp2_with (go_at_call 79;refine HF.out.mono ?_;rintro e w1 ⟨rfl,hb⟩;have HB:=lhi hb;clear hb)
  go_end0
  exact⟨rfl,HB.out.mono H.out.bs,_,_,_,_,H.out.below HB.out⟩
theorem Ad0(h:Doer W base ob db c r iv ov mv Iv S)(hI:Inv S)(hk:c.kind=3):
  Calls Tryz.prog 33 #[.pointer (some ⟨db,0,none⟩)] W fun e w'=>Gr base ob db c W e w' (Xw S c r):=by
 obtain⟨g,icap,ics,rfl,-,-,-⟩:=h.row hI.pos
 have HF:=lhi (El h hI)
 have H:=lhi h
 have d1:W.cell? ⟨db,1,none⟩=some (.int .i64 3):=by rw[<-hk];exact h.d.cell 1
 unfold Xw
 cases hf:Ej S c with
 | error k=>
  rw[hf]at HF
  clear h hI hk hf
  go_enter Tryz.func33,Tryz.ntmps33
  go_wp2_with (go_at_call 79;refine HF.out.mono ?_;rintro e w1 ⟨rfl,hb⟩;have HB:=lhi hb;clear hb)
  exact⟨rfl,rfl,HB.out.mono H.out.bs⟩
 | ok p=>
  obtain⟨a,k⟩:=p
  obtain⟨hko,ha,hnu,hdi,-,-,-⟩:=Fi hI hf
  rw[hf]at HF
  have HN9:=lhi (show S.opens.length<=90000 from by have:=hI.small.no;omega)
  have hwk:IntKind.i64.wrap ((k:Int)+1)=(k:Int)+1:=IntWalk.i64_in _ (by have:=HN9.out;omega)
  obtain⟨S1,hS1⟩: ∃S1:St,S1={S with opens:=S.opens.eraseIdx k}:=⟨_,rfl⟩
  have hin:S1.inodes=S.inodes:=by rw[hS1]
  have HLT:=lhi (show∀i j,i<j->j<S1.inodes.length->S1.num i<S1.num j from fun i j x y=>by
   have:=hI.num_lt (i:=i) (j:=j) (by rw[<-hin];exact y) x
   rw[hS1];exact this)
  have HSM:=lhi (show S1.small from by rw[hS1];exact⟨hI.small.ni,by show(S.opens.eraseIdx k).length<=1000;rw[List.length_eraseIdx];have:=hI.small.no;split <;> omega,hI.small.nm,hI.small.en,hI.small.num,hI.small.enu,hI.small.mad⟩)
  have hone: ∀y∈S.opens,∀u∈encD y,u.oneCell'=true:=by
   intro y _ u hu
   simp[encD]at hu
   rcases hu with rfl | rfl | rfl <;> rfl
  have HONE:=lhi hone
  show Calls _ _ _ _ fun e w'=>Gr base ob db c W e w' (.ok (Kh {S with opens:=S.opens.eraseIdx k} a,r))
  rw[<-hS1]
  obtain⟨OA,ocap,rfl,-⟩:=Aj h.st.opn
  obtain⟨og,rfl⟩: ∃og,OA=some ⟨og,0,none⟩:=by
   rcases h.st.opn.2 with⟨-,q⟩ | ⟨og,cap',cur,hv,-⟩
   ·omega
   ·injection hv with e1;exact⟨og,e1⟩
  clear h hI hk hf hone
  go_enter Tryz.func33,Tryz.ntmps33
  go_upto_region 8 with(go_at_call 79;refine HF.out.mono ?_;rintro e w1 ⟨rfl,hb⟩;have HB:=lhi hb;have H1:=lhi (H.out.below hb);clear hb)
  have d0:w1.drew.cell? ⟨db,0,none⟩=some (.pointer (some ⟨ob,0,none⟩)):=H1.out.d.cell 0
  have o0:w1.drew.cell? ⟨ob,1,none⟩=some (.slice (some ⟨og,0,none⟩) S.opens.length ocap):=H1.out.o.cell 1
  have HDL:=lhi (Ajt H1.out.drew.st.opn rfl hko HONE.out HN9.out)
  obtain⟨-,gcs,hgb⟩:=Ag H1.out.st.opn rfl
  have HNO:=lhi (show some og≠some ob from fun e=>by injection e with e;exact Blk.ne_ hgb H1.out.o (by decide) e)
  have HND:=lhi (show some og≠some db from fun e=>by injection e with e;exact Blk.ne_ hgb H1.out.d (by decide) e)
  clear hgb HF d1
  refine Af (L:=17) (S:=fun w'=>w'.cell? ⟨db,0,none⟩=some (.pointer (some ⟨ob,0,none⟩))/\w'.cell? ⟨ob,1,none⟩=some (.slice (some ⟨og,0,none⟩) S.opens.length ocap)) (by kernel_rfl) (⟨d0,o0⟩) (fun hHeld=>?_)
  refine tF 0 ?_
  refine tF 1 ?_
  refine tF 2 ?_
  refine tF 3 ?_
  refine tF 4 ?_
  refine tF 5 ?_
  refine tF 6 ?_
  refine tF 7 ?_
  refine tF 8 ?_
  refine tF 9 ?_
  refine tF 10 ?_
  refine tF 11 ?_
  refine tF 12 ?_
  refine tF 13 ?_
  refine Ap (i:=14) (by kernel_rfl) rfl (fun K hK=>?_)
  go_simp
  refine HDL.out.mono ?_
  rintro e w9 ⟨rfl,hown,hgr⟩
  have HOW:=lhi hown
  have HGR:=lhi hgr
  have H9O:=lhi (Am H1.out.drew.o HGR.out HNO.out)
  have H9D:=lhi (Am H1.out.drew.d HGR.out HND.out)
  clear hown hgr HDL
  show K _ _
  refine hK.out _ _ (fun _=>⟨H9D.out.cell 0,H9O.out.cell 1⟩) (fun hHeld=>?_)
  replace hHeld:=hHeld (by decide)
  clear hK K
  refine tF 15 ?_
  refine tF 16 ?_
  have z1:=hHeld.2
  have f1:w9.frozen? ⟨ob,1,none⟩=false:=H9O.out.frozen _
  refine Ap (i:=17) (by kernel_rfl) rfl (fun K hK=>?_)
  go_simp
  show K _ _
  refine hK.out _ _ (fun h=>absurd rfl h) (fun _=>?_)
  clear hK K
  refine Cn (by kernel_rfl) ?_ _
  obtain⟨w2,hw2⟩: ∃x,x=w9.setCell ⟨ob,1,none⟩ (.slice (some ⟨og,0,none⟩) (S.opens.length - 1) ocap):=⟨_,rfl⟩
  have hst:=H1.out.drew.st.putO HGR.out (L:=S.opens.eraseIdx k) (by rw[List.length_eraseIdx,if_pos hko];exact HOW.out)
  have h2:Doer w2 base ob db c r (.slice (some ⟨g,0,none⟩) S1.inodes.length icap) (.slice (some ⟨og,0,none⟩) (S.opens.length - 1) ocap) mv Iv S1:=by
   rw[hw2,hS1]
   exact⟨H1.out.ob_,H1.out.db_,H9O.out.set_ 1 _,H9D.out.far (p:=⟨ob,1,none⟩) (Blk.ne_ H9D.out H9O.out (by decide)) _,hst.far H9O.out (by decide) (by decide) (by decide) (by decide) 1 _⟩
  have HB2:=lhi (show Below base W w2 from by
   rw[hw2]
   exact(((HB.out.mono H.out.bs).trans ((Ae w1).mono H1.out.bs)).trans (Bg HGR.out H1.out.drew.bs fun b hb=>by injection hb with hb;subst hb;exact(H1.out.st.opn.lt _ rfl).1)).setCell (p:=⟨ob,1,none⟩) H1.out.ob_ _)
  have g0:w2.cell? ⟨g,a*4,none⟩=some (.int .i64 (S1.num a)):=h2.numc (by rw[hin];exact ha)
  have HT:=lhi (Rc h2 HSM.out HLT.out (k:=a) (by rw[hin];exact ha))
  rw[<-hw2]
  clear hw2 h2 hst d0 o0 z1 f1 hS1 hin hnu hdi
  go_wp2_with (go_at_call 81;refine HT.out.mono ?_;rintro e w3 ⟨rfl,hb3,hd3⟩;have HB3:=lhi hb3;have HD3:=lhi hd3;clear hb3 hd3)
  go_end0
  obtain⟨iv',Iv',hd⟩:=HD3.out
  exact⟨rfl,HB2.out.trans HB3.out,_,_,_,_,hd⟩
end
theorem Ig(s:ByteArray): ∀(b pos fr:Nat) (out l:List ByteArray),(∀x∈out,Bu x=0)->Ay s b pos fr out= .ok l-> ∀x∈l,Bu x=0
 | 0,pos,fr,out,l,ho,h=>by
  unfold Ay at h
  split at h
  ·cases h
  ·injection h with h;subst h;exact ho
 | b+1,pos,fr,out,l,ho,h=>by
  unfold Ay at h
  split at h
  ·split at h
   ·exact Ig s b _ _ out l ho h
   ·split at h
    ·rename_i hn
     exact Ig s b _ _ _ l (fun x hx=>by
      rcases List.mem_append.1 hx with hx | hx
      ·exact ho x hx
      ·rw[List.mem_singleton.1 hx];exact hn) h
    ·split at h <;> cases h
  ·split at h
   ·cases h
   ·injection h with h;subst h;exact ho
theorem Abd{s:ByteArray}{l:List ByteArray}(h:Au s= .ok l): ∀x∈l,Bu x=0:=by
 unfold Au at h
 split at h
 ·cases h
 ·split at h
  ·cases h
  ·split at h
   ·injection h with h;subst h;intro x hx;cases hx
   ·exact Ig s _ _ _ [] l (fun x hx=>by cases hx) h
theorem Ko{S:St}{p:ByteArray}{k:Nat}{nm:ByteArray}(h:Bo S p= .ok (k,nm)):Bu nm=0:=by
 unfold Bo at h
 split at h
 ·cases h
 ·rename_i ns hp
  split at h
  ·cases h
  ·rename_i x hx
   have hm:=List.mem_of_getLast? hx
   split at h
   ·split at h
    ·injection h with h
     injection h with h1 h2
     subst h2
     exact Abd hp _ hm
    ·cases h
   ·cases h
theorem Hd{l:List (ByteArray×Int)}{x:ByteArray}(h:entF l x=none): ∀e∈l,e.1≠x:=by
 intro e he q
 unfold entF at h
 rw[List.find?_eq_none]at h
 obtain⟨i,hi,rfl⟩:=List.mem_iff_getElem.1 he
 have:=h i (by simpa using hi)
 unfold enmL at this
 rw[Fv hi]at this
 simp at this
 exact this q
theorem Mn{es:List (ByteArray×Int)}{s:ByteArray}(h:Gn es s ⟨#[]⟩=false)(hn: ∀e∈es,Bu e.1=0):(es.filter fun e=>Aa e.1==Aa s).length<4:=by
 unfold Gn cntF at h
 rw[List.take_length]at h
 have h:=of_decide_eq_false h
 have e:(es.filter fun e=>!decide (e.1=⟨#[]⟩)&& (Aa e.1==Aa s))=es.filter fun e=>Aa e.1==Aa s:=by
  refine List.filter_congr fun e he=>?_
  have hne:e.1≠⟨#[]⟩:=fun q=>by
   have h0:=hn e he
   rw[q]at h0
   rw[show Bu ⟨#[]⟩=800 by kernel_rfl]at h0
   exact absurd h0 (by decide)
  simp[hne]
 rw[e]at h
 omega
theorem Aag{S S':St}(hI:Inv S){kind core:Int}(hc:0<=core/\core<S.made.length){p:ByteArray}(h:Jz S kind core p= .ok S'):Inv S':=by
 unfold Jz at h
 split at h
 ·cases h
 ·rename_i k nm hp
  obtain⟨hk,hd⟩:=Cy hI hp
  split at h
  ·cases h
  ·rename_i hE
   split at h
   ·cases h
   ·rename_i hF
    injection h with h
    subst h
    simp only[Bool.or_eq_true,not_or,Bool.not_eq_true]at hF
    have h32:S.mad core.toNat<32:=by
     have:=of_decide_eq_false hF.2
     omega
    have hE:entF (S.ino k).ents nm=none:=by simpa using hE
    have hx:=Inv.ino_mem hk
    have hcn:(core.toNat:Int)=core:=by omega
    exact hI.make hx rfl hd (c:=core.toNat) (by omega) h32 (by rw[hcn]) (Ko hp) (Hd hE) (Mn hF.1 (hI.nam _ hx)) (kind==1)
theorem Doer.entc{W:World}{base ob db g icap:Nat}{c:Ad}{r:ResV}{ov mv:Value}{Iv:List InV}{S:St}(h:Doer W base ob db c r (.slice (some ⟨g,0,none⟩) S.inodes.length icap) ov mv Iv S){k:Nat}(hk:k<S.inodes.length):
  ∃EA ecap,W.cell? ⟨g,k*4+2,none⟩=some (.slice EA (S.ino k).ents.length ecap)/\Ak W (.slice EA (S.ino k).ents.length ecap) (S.ino k).ents.length 2 (entL (S.ino k).ents):=by
 have hkI:k<Iv.length:=by rw[h.st.len'];exact hk
 have hino:=h.st.at_ hkI
 have hek:=h.st.ent k hkI
 have c2:=h.st.cell h.st.len'.symm hkI (show 2<4 by omega)
 obtain⟨q,hq⟩:=xx (Iv[k])
 rw[hq]at hino hek c2
 obtain⟨p1,ev⟩:=q
 replace hino:p1=S.ino k:=hino
 subst hino
 replace hek:W.ownsRow base 132 2 ev (S.ino k).ents.length ((S.ino k).ents.flatMap Ai):=hek
 have hr:=(Cc (by decide) Bn hek (Ee _)).at'
 obtain⟨EA,ecap,rfl,-⟩:=Aj hek
 exact⟨EA,ecap,c2,hr⟩
def Ul(S:St)(c:Ad)(r:ResV):Except Int (St×ResV):=match atS S c.path with
 | .error k=>.error k
 | .ok a=>if S.dir a=true then .error 8 else match Bo S c.path2 with
  | .error k=>.error k
  | .ok (p,nm)=>match entF (S.ino p).ents nm with
   | some _=>.error 2
   | none=>if Gn (S.ino p).ents nm ⟨#[]⟩=true then .error 5 else .ok (S.setI p {S.ino p with ents:=insE (nm,S.num a) (S.ino p).ents},r)
section
variable{W:World}{base ob db:Nat}{c:Ad}{r:ResV}{iv ov mv:Value}{Iv:List InV}{S:St}
theorem Abs(h:Doer W base ob db c r iv ov mv Iv S)(hI:Inv S)(hp:c.path.size<=4611686018427387904)(hp2:c.path2.size<=4611686018427387904):
  Calls Tryz.prog 83 #[.pointer (some ⟨db,0,none⟩)] W fun e w'=>Gr base ob db c W e w' (Ul S c r):=by
 obtain⟨g,icap,ics,rfl,-,-,-⟩:=h.row hI.pos
 have H:=lhi h
 have HI:=lhi hI
 have HAT:=lhi (Ob h hI hp)
 have HPR:=lhi (fun(V:World) (hb:Below W.heap.size W V)=>Dy (h.below hb) hI hp2)
 have d6:W.cell? ⟨db,6,none⟩=some (.string c.path):=h.d.cell 6
 obtain⟨RES,hres⟩: ∃R,Ul S c r=R:=⟨_,rfl⟩
 have HR:=lhi hres
 rw[hres]
 unfold Ul at HR
 cases ha:atS S c.path with
 | error k=>
  rw[ha]at HAT HR
  obtain rfl: .error k=RES:=HR.out
  clear h hI hp hp2 ha hres
  go_enter Tryz.func83,Tryz.ntmps83
  go_wp2_with (go_at_call 123;refine HAT.out.mono ?_;rintro e w1 ⟨he,hb1⟩;have he:e=Cg k:=he;subst he;have HB:=lhi hb1)
  exact⟨rfl,rfl,HB.out.mono H.out.bs⟩
 | ok a=>
  rw[ha]at HAT HR
  have hal:=Tm hI ha
  have HAL:=lhi hal
  clear h hI hp hp2 ha hres
  go_enter Tryz.func83,Tryz.ntmps83
  go_upto_region 1 with(go_at_call 123;refine HAT.out.mono ?_;rintro e w1 ⟨he,hb1⟩;have he:e= .returned (.pointer (some ⟨g,a*4,none⟩)):=he;subst he;have HB1:=lhi hb1;have H1:=lhi (H.out.below hb1);clear hb1 HAT d6)
  have q1:w1.cell? ⟨g,a*4+1,none⟩=some (.bool (S.dir a)):=H1.out.dirc HAL.out
  cases hd:S.dir a with
  | true=>
   obtain rfl: .error 8=RES:=by rw[<-HR.out,if_pos hd]
   rw[hd]at q1
   clear hd
   go_wp2_with (go_at_call 116;refine(Al _ _).mono ?_;rintro e w3 ⟨rfl,rfl⟩)
   exact⟨rfl,rfl,HB1.out.mono H.out.bs⟩
  | false=>
   replace HR:=lhi (HR.out.symm.trans (if_neg (by rw[hd];decide)))
   rw[hd]at q1
   clear hd
   go_upto_region 2 with(go_at_call 116;refine(Ar _ _).mono ?_;rintro e w3 ⟨rfl,rfl⟩)
   have HP:=lhi (HPR.out w1 HB1.out)
   have d7:w1.cell? ⟨db,7,none⟩=some (.string c.path2):=H1.out.d.cell 7
   clear HPR
   cases hq:Bo S c.path2 with
   | error k=>
    rw[hq]at HP HR
    obtain rfl:RES= .error k:=HR.out
    clear hq
    go_wp2_with (go_at_call 115;refine HP.out.mono ?_;rintro e w4 ⟨he,hb2⟩;have he:e=Cg k:=he;subst he;have HB2:=lhi hb2)
    exact⟨rfl,rfl,(HB1.out.trans (HB2.out.mono HB1.out.size)).mono H.out.bs⟩
   | ok pn=>
    obtain⟨p,nm⟩:=pn
    rw[hq]at HP HR
    obtain⟨hpl,-⟩:=Cy HI.out hq
    clear hq
    go_upto_region 3 with(go_at_call 115;refine HP.out.mono ?_;rintro e w4 ⟨he,hb2⟩;have he:e= .returned (.tuple #[.pointer (some ⟨g,p*4,none⟩),.string nm]):=he;subst he;have HB2:=lhi hb2;clear hb2 HP d7 q1)
    have HBW:=lhi (HB1.out.trans (HB2.out.mono HB1.out.size))
    have H2:=lhi (H1.out.below HB2.out)
    obtain⟨EA,ecap,c2,hrow⟩:=H2.out.entc hpl
    have hen:=HI.out.ord.ents p hpl
    have hn1:=hen.1
    obtain⟨es,hes⟩:=xx ((S.ino p).ents)
    have HES:=lhi hes
    rw[hes]at c2 hrow hen HR hn1
    have HROW:=lhi hrow
    cases hE:entF es nm with
    | some j=>
     rw[hE]at HR
     obtain rfl:RES= .error 2:=HR.out
     have HEN:=lhi (Hc hrow hen.1 nm hen.2 hE)
     clear hrow hen hE hes
     go_wp2_with (first
      | (go_at_call 93;refine HEN.out.mono ?_;rintro e w5 ⟨rfl,hb3⟩;have HB3:=lhi hb3;clear hb3)
      | (go_at_call 116;refine(Al _ _).mono ?_;rintro e w6 ⟨rfl,rfl⟩))
     exact⟨rfl,rfl,(HBW.out.trans (HB3.out.mono HBW.out.size)).mono H.out.bs⟩
    | none=>
     rw[hE]at HR
     have HEN:=lhi (Je hrow hen.1 nm hen.2 hE)
     have HNE:=lhi (show∀e∈(S.ino p).ents,e.1≠nm from by rw[hes];exact Hd hE)
     have HRI:=lhi hen.2
     clear hrow hen hE hes
     go_upto_region 4 with(go_at_call 93;refine HEN.out.mono ?_;rintro e w5 ⟨⟨kk,rfl⟩,hb3⟩;have HB3:=lhi hb3;clear hb3 c2 HEN)
     go_upto_region 5 with(go_at_call 116;refine(Ar _ _).mono ?_;rintro e w6 ⟨rfl,rfl⟩)
     have H3:=lhi (H2.out.below HB3.out)
     have HB3':=lhi (HBW.out.trans (HB3.out.mono HBW.out.size))
     obtain⟨EA',ecap',c3,hrow3⟩:=H3.out.entc hpl
     rw[HES.out]at c3 hrow3
     have HFL:=lhi (Mo c3 hrow3 hn1 nm ⟨#[]⟩)
     clear c3 hrow3
     cases hf:Gn es nm ⟨#[]⟩with
     | true=>
      rw[hf]at HFL HR
      obtain rfl:RES= .error 5:=HR.out
      clear hf
      go_wp2_with (first
       | (go_at_call 117;refine HFL.out.mono ?_;rintro e w7 ⟨rfl,hb4⟩;have HB4:=lhi hb4;clear hb4)
       | (go_at_call 116;refine(Al _ _).mono ?_;rintro e w8 ⟨rfl,rfl⟩))
      exact⟨rfl,rfl,(HB3'.out.trans (HB4.out.mono HB3'.out.size)).mono H.out.bs⟩
     | false=>
      rw[hf]at HFL HR
      obtain rfl:RES= .ok (S.setI p {S.ino p with ents:=insE (nm,S.num a) es},r):=HR.out
      clear hf
      go_upto_region 6 with(first
       | (go_at_call 117;refine HFL.out.mono ?_;rintro e w7 ⟨rfl,hb4⟩;have HB4:=lhi hb4;clear hb4)
       | (go_at_call 116;refine(Ar _ _).mono ?_;rintro e w8 ⟨rfl,rfl⟩))
      have H4:=lhi (H3.out.below HB4.out)
      have HB5:=lhi (HB3'.out.trans (HB4.out.mono HB3'.out.size))
      have g0:w7.cell? ⟨g,a*4,none⟩=some (.int .i64 (S.num a)):=H4.out.numc HAL.out
      have HPU:=lhi (Oo H4.out hpl (s:=nm) (num:=S.num a) (by rw[HES.out];exact HRI.out) (by rw[HES.out];exact hn1) HNE.out)
      rw[HES.out]at HPU
      clear HR HES hpl hn1
      go_wp2_with (go_at_call 119;refine HPU.out.mono ?_;rintro e w8 ⟨rfl,hb5,hd⟩;have HB6:=lhi hb5;have HD:=lhi hd;clear hb5 hd)
      go_end0
      obtain⟨Iv',hd⟩:=HD.out
      exact⟨rfl,(HB5.out.mono H.out.bs).trans HB6.out,_,_,_,_,hd⟩
end
end Go.Proofs.YtkebjgebkneijaaGreat
