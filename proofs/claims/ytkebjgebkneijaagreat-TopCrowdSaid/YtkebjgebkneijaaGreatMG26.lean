/- Texts of one's own that a claim's last text rests on: Da5 Da6 Da7 Tm0 Mr1 Mr2. -/
import Derived.Test.YtkebjgebkneijaaGreatMG25
import Derived.Test.YtkebjgebkneijaaGreatMG19
import Derived.Test.YtkebjgebkneijaaGreatMG24
import Derived.Test.YtkebjgebkneijaaGreatMG16
set_option linter.unusedVariables false
set_option linter.unusedSimpArgs false
namespace Go.Proofs.YtkebjgebkneijaaGreat
section
open Go.RowKit
set_option maxHeartbeats 2000000
section
variable{W:World}{base ob db:Nat}{c:CallV}{r:ResV}{iv ov mv:Value}{Iv:List InV}{S:St}
set_option maxRecDepth 1000000 in
theorem dopen_noat(h:Doer W base ob db c r iv ov mv Iv S)(hI:Inv S)(hp:c.path.size<=4611686018427387904){k:Int}(hs:atS S c.path= .error k):
  Calls Tryz.prog 78 #[.pointer (some ⟨db,0,none⟩)] W fun e w'=>e=mthrown k/\Below base W w':=by
 obtain⟨g,icap,ics,rfl,-,-,-⟩:=h.row hI.pos
 have HA:=lhi (at_calls h hI hp)
 rw[hs]at HA
 have hbs:=h.bs
 have d6:W.cell? ⟨db,6,none⟩=some (.string c.path):=h.d.cell 6
 clear h hI hp hs
 go_enter Tryz.func78,Tryz.ntmps78
 go_wp2_with (go_at_call 123;refine HA.out.mono ?_;rintro e w1 ⟨he,hb1⟩;have he:e=mthrown k:=he;subst he)
 exact⟨rfl,rfl,hb1.mono hbs⟩
set_option maxRecDepth 1000000 in
theorem dopen_go(h:Doer W base ob db c r iv ov mv Iv S)(hI:Inv S)(hp:c.path.size<=4611686018427387904)(hc:0<=c.core/\c.core<S.made.length){a:Nat}(hs:atS S c.path= .ok a){RES:Except Int (St×ResV)}(hres:openS S c r=RES):
  Calls Tryz.prog 78 #[.pointer (some ⟨db,0,none⟩)] W fun e w'=>DoneR base ob db c W e w' RES:=by
 obtain⟨g,icap,ics,rfl,-,-,-⟩:=h.row hI.pos
 have HA:=lhi (at_calls h hI hp)
 have ha:=atS_lt hI hs
 rw[hs]at HA
 have hbs:=h.bs
 have hno:=hI.small.no
 have H:=lhi h
 have HSM:=lhi h.stm
 have HI:=lhi hI
 have HRES:=lhi (show(if S.dir a=true then .error 8 else if 4<= (opL S c.core S.opens.length).1 then .error 10 else
  .ok ({S with opens:=S.opens.take (opL S c.core S.opens.length).2++(c.core,((opL S c.core S.opens.length).1:Int),S.num a)::S.opens.drop (opL S c.core S.opens.length).2},{r with fd:=(opL S c.core S.opens.length).1}))=RES by rw[<-hres];unfold openS;rw[hs])
 have d6:W.cell? ⟨db,6,none⟩=some (.string c.path):=h.d.cell 6
 clear h hI hs hres
 go_enter Tryz.func78,Tryz.ntmps78
 go_upto_region 1 with(go_at_call 123;refine HA.out.mono ?_;rintro e w1 ⟨he,hb1⟩;have he:e= .returned (.pointer (some ⟨g,a*4,none⟩)):=he;subst he;have HB1:=lhi (hb1.mono hbs);have H1:=lhi (H.out.below hb1);have HS1:=lhi (HSM.out.keep hb1);clear hb1)
 clear d6 HA
 have HG1:=lhi (show w1.cell? ⟨g,a*4+1,none⟩=some (.bool (S.dir a))/\w1.cell? ⟨g,a*4,none⟩=some (.int .i64 (S.num a))by
  obtain⟨-,-,g',off,hA,hcell⟩:=HS1.out.ino.at_ ha
  injection hA with hA
  injection hA with e1 e2
  subst e1 e2
  have h1:=hcell 1 (by omega)
  have h0:=hcell 0 (by omega)
  rw[Nat.zero_add]at h1 h0
  exact⟨h1,h0⟩)
 have g1:=HG1.out.1
 cases hd:S.dir a with
 | true=>
  rw[hd]at g1 HRES
  obtain rfl:RES= .error 8:=by rw[<-HRES.out];rfl
  clear HRES
  go_wp2_with (go_at_call 116;refine(mthrow_yes _ _).mono ?_;rintro e w' ⟨rfl,rfl⟩)
  exact⟨rfl,rfl,HB1.out⟩
 | false=>
  rw[hd]at g1 HRES
  obtain⟨OA,ocap,rfl,-⟩:=H1.out.st.stv.opn
  obtain⟨n,hn⟩: ∃n,S.opens.length=n:=⟨_,rfl⟩
  have HN:=lhi hn
  rw[hn]at hno
  have d0:w1.cell? ⟨db,0,none⟩=some (.pointer (some ⟨ob,0,none⟩)):=H1.out.d.cell 0
  have o1:w1.cell? ⟨ob,1,none⟩=some (.slice OA S.opens.length ocap):=H1.out.o.cell 1
  rw[hn]at o1
  go_upto_region 4 with(go_at_call 116;refine(mthrow_no _ _).mono ?_;rintro e w' ⟨rfl,rfl⟩)
  clear g1 d0 o1
  have HD2:=lhi (show w1.cell? ⟨db,2,none⟩=some (.int .i64 c.core)from H1.out.d.cell 2)
  have HDL:=lhi H1.out.d.lt
  obtain⟨cc,hcc⟩: ∃x,c.core=x:=⟨_,rfl⟩
  rw[hcc]at HD2 HRES hc
  have HCC:=lhi hcc
  clear hn hcc
  go_loopw [3,4,27] (fun f t i wr=>∃k fk ak:Nat,i= .int .i64 k/\k<=n/\f= .int .i64 fk/\t= .int .i64 ak/\Hid (opL S cc k=(fk,ak))/\Below w1.heap.size w1 wr) (fun _ _ i _=>n - (intOf i).toNat)
  case atStart=>exact⟨0,0,0,rfl,by omega,rfl,rfl,lhi rfl,Below.refl _ _⟩
  case round=>
   obtain⟨k,fk,ak,rfl,hk,rfl,rfl,hop,hB⟩:=hrel
   have HB:=lhi hB
   clear hB
   have hle:=opL_le S cc k
   rw[hop.out]at hle
   by_cases hq:k<n
   ·have hq1:(k:Int)<n:=by omega
    obtain⟨-,-,og,off,rfl,hcell⟩:=(HS1.out.keep HB.out).opn.at_ (show k<S.opens.length by rw[HN.out];exact hq)
    have q0:wr.cell? ⟨og,off+k*3,none⟩=some (.int .i64 (S.oc k)):=hcell 0 (by omega)
    have q1:wr.cell? ⟨og,off+k*3+1,none⟩=some (.int .i64 (S.of k)):=hcell 1 (by omega)
    have q2:wr.cell? ⟨og,off+k*3+2,none⟩=some (.int .i64 (S.on k)):=hcell 2 (by omega)
    have d2:wr.cell? ⟨db,2,none⟩=some (.int .i64 cc):=(HB.out.cell (p:=⟨db,2,none⟩) HDL.out).trans HD2.out
    have dl:db<wr.heap.size:=World.block_lt_of_cell? _ _ d2
    have HBA:=lhi (HB.out.alloc HB.out.size (.cells #[.int .i64 (S.oc k),.int .i64 (S.of k),.int .i64 (S.on k)] 144))
    clear hcell
    have HSU:=lhi (show opL S cc (k+1)=if S.oc k=cc/\S.of k=(fk:Int)then(fk+1,k+1)else if S.oc k<cc then(fk,k+1)else(fk,ak)by rw[opL,hop.out])
    by_cases e1:S.oc k<cc
    ·have c1:decide (S.oc k<cc)=true:=decide_eq_true e1
     have c2:(S.oc k==cc)=false:=by simp;omega
     have HR:=lhi (show opL S cc (k+1)=(fk,k+1)by rw[HSU.out,if_neg (by omega),if_pos e1])
     clear e1
     go_upto_region 6 with(fail)
     go_region
     go_upto_region 8 with(fail)
     go_region
     go_wp2_with (fail)
     go_roundw
     case rel=>exact⟨k+1,fk,k+1,by go_num,by omega,rfl,by go_num,lhi HR.out,HBA.out.trans (show Below w1.heap.size _ _ from⟨rfl,rfl,rfl,Nat.le_refl _,fun _ _=>rfl⟩)⟩
     case measure=>simp only[intOf];omega
    ·have c1:decide (S.oc k<cc)=false:=decide_eq_false e1
     by_cases e2:S.oc k=cc
     ·have c2:(S.oc k==cc)=true:=by simp[e2]
      by_cases e3:S.of k=(fk:Int)
      ·have c3:(S.of k==(fk:Int))=true:=by simp[e3]
       have HR:=lhi (show opL S cc (k+1)=(fk+1,k+1)by rw[HSU.out,if_pos ⟨e2,e3⟩])
       clear e1 e2 e3
       go_upto_region 6 with(fail)
       go_region
       go_upto_region 8 with(fail)
       go_region
       go_wp2_with (fail)
       go_roundw
       case rel=>exact⟨k+1,fk+1,k+1,by go_num,by omega,by go_num,by go_num,lhi HR.out,HBA.out.trans (show Below w1.heap.size _ _ from⟨rfl,rfl,rfl,Nat.le_refl _,fun _ _=>rfl⟩)⟩
       case measure=>simp only[intOf];omega
      ·have c3:(S.of k==(fk:Int))=false:=by simp[e3]
       have HR:=lhi (show opL S cc (k+1)=(fk,ak)by rw[HSU.out,if_neg (fun x=>e3 x.2),if_neg (by omega)])
       clear e1 e2 e3
       go_upto_region 6 with(fail)
       go_region
       go_upto_region 8 with(fail)
       go_region
       go_wp2_with (fail)
       go_roundw
       case rel=>exact⟨k+1,fk,ak,by go_num,by omega,rfl,rfl,lhi HR.out,HBA.out.trans (show Below w1.heap.size _ _ from⟨rfl,rfl,rfl,Nat.le_refl _,fun _ _=>rfl⟩)⟩
       case measure=>simp only[intOf];omega
     ·have c2:(S.oc k==cc)=false:=by simp[e2]
      have HR:=lhi (show opL S cc (k+1)=(fk,ak)by rw[HSU.out,if_neg (fun x=>e2 x.1),if_neg (by omega)])
      clear e1 e2
      go_upto_region 6 with(fail)
      go_region
      go_upto_region 8 with(fail)
      go_region
      go_wp2_with (fail)
      go_roundw
      case rel=>exact⟨k+1,fk,ak,by go_num,by omega,rfl,rfl,lhi HR.out,HBA.out.trans (show Below w1.heap.size _ _ from⟨rfl,rfl,rfl,Nat.le_refl _,fun _ _=>rfl⟩)⟩
      case measure=>simp only[intOf];omega
   ·have e:k=n:=by omega
    subst e
    have HOP:=lhi hop.out
    have HBW:=lhi (HB1.out.trans (HB.out.mono H1.out.bs))
    have H2:=lhi (H1.out.below HB.out)
    rw[HN.out,HOP.out]at HRES
    simp only at HRES
    by_cases h4:4<=fk
    ·obtain rfl:RES= .error 10:=by rw[<-HRES.out];simp[h4]
     have h41:decide ((4:Int)<=fk)=true:=by simp;omega
     clear HRES h4
     go_wp2_with (go_at_call 116;refine(mthrow_yes _ _).mono ?_;rintro e w' ⟨rfl,rfl⟩)
     exact⟨rfl,rfl,HBW.out⟩
    ·have h41:decide ((4:Int)<=fk)=false:=by simp;omega
     go_upto_region 12 with(go_at_call 116;refine(mthrow_no _ _).mono ?_;rintro e w' ⟨rfl,rfl⟩)
     obtain⟨num,hnum⟩: ∃x,S.num a=x:=⟨_,rfl⟩
     obtain⟨SR,hSR⟩: ∃x,x=({S with opens:=S.opens.take ak++(cc,(fk:Int),num)::S.opens.drop ak}:St):=⟨_,rfl⟩
     obtain⟨r',hr'⟩: ∃x:ResV,x={r with fd:=fk}:=⟨_,rfl⟩
     obtain rfl:RES= .ok (SR,r'):=by rw[<-HRES.out,if_neg (by decide),if_neg h4,hSR,hr',hnum]
     have HSR:=lhi hSR
     have HRR:=lhi hr'
     have HG1':=lhi (show w1.cell? ⟨g,a*4,none⟩=some (.int .i64 num)by rw[HG1.out.2,hnum])
     have HCD:=lhi (show c.core=cc from HCC.out)
     obtain⟨S0,hS0⟩: ∃x,S.opens=x:=⟨_,rfl⟩
     have hBI:Below wr.heap.size wr (wr.alloc (.cells #[.int .i64 cc,.int .i64 fk,.int .i64 num] 144)).drew:=by
      have q:=(Below.refl wr.heap.size wr).alloc (Nat.le_refl _) (.cells #[.int .i64 cc,.int .i64 fk,.int .i64 num] 144)
      exact q.trans ((below_drew _).mono q.size)
     have HBI:=lhi hBI
     have H2K:=lhi (show Doer wr base ob db c r (.slice (some ⟨g,0,none⟩) S.inodes.length icap) (.slice OA k ocap) mv Iv S by have:=H2.out;rw[HN.out]at this;exact this)
     have H8:=lhi (H2K.out.below hBI)
     have HXB:=lhi (show Blk (wr.alloc (.cells #[.int .i64 cc,.int .i64 fk,.int .i64 num] 144)).drew wr.heap.size 144 #[.int .i64 cc,.int .i64 fk,.int .i64 num]from Blk.new wr _ _)
     have HIN:=lhi (show Calls Tryz.prog 124 #[.slice OA k ocap,.int .i64 ak,.slice (some ⟨wr.heap.size,0,none⟩) 1 1] _ _ from by
      have q:=insertD_any (i:=ak) (x:=(cc,(fk:Int),num)) (xb:=wr.heap.size) H8.out.st.opn (by rw[HN.out];omega) HXB.out (fun q=>by have:=(H2K.out.st.opn.lt _ q).2;omega) (fun y hy u hu=>by
       simp only[encD,List.mem_cons,List.not_mem_nil,or_false]at hu
       rcases hu with rfl | rfl | rfl <;> rfl) (by rw[HN.out];omega) H8.out.bs
      exact q)
     have HNO:=lhi (own_blk_ne H8.out.st.opn H8.out.o (by decide))
     have HND:=lhi (own_blk_ne H8.out.st.opn H8.out.d (by decide))
     obtain⟨gcs,hgcs⟩:=(own_type H8.out.st.ino rfl).2
     have HGB:=lhi hgcs
     have HNG:=lhi (own_blk_ne H8.out.st.opn hgcs (by decide))
     have d0:wr.drew.cell? ⟨db,0,none⟩=some (.pointer (some ⟨ob,0,none⟩)):=H2.out.d.cell 0
     have o1:wr.drew.cell? ⟨ob,1,none⟩=some (.slice OA k ocap):=by
      have:=H2.out.o.cell 1
      rw[HN.out]at this
      exact this
     have d2:wr.drew.cell? ⟨db,2,none⟩=some (.int .i64 cc):=by
      have:=H2.out.d.cell 2
      rw[<-HCD.out];exact this
     have g0:wr.drew.cell? ⟨g,a*4,none⟩=some (.int .i64 num):=(HB.out.cell (World.block_lt_of_cell? _ _ HG1'.out)).trans HG1'.out
     have HG8:=lhi ((hBI.cell (p:=⟨g,a*4,none⟩) (World.block_lt_of_cell? _ _ g0)).trans g0)
     clear HRES h4 h41 hnum hSR hr' hS0 hBI hgcs hle
     refine wp_region_E_drew (L:=27) (S:=fun w'=>w'.cell? ⟨db,0,none⟩=some (.pointer (some ⟨ob,0,none⟩))/\w'.cell? ⟨ob,1,none⟩=some (.slice OA k ocap)/\w'.cell? ⟨db,2,none⟩=some (.int .i64 cc)/\w'.cell? ⟨g,a*4,none⟩=some (.int .i64 num)) (by kernel_rfl) (⟨d0,o1,d2,g0⟩) (fun hHeld=>?_)
     refine wpAnyF_take (i:=0) (oi:=⟨some 78,_,_,_,_,_⟩) (v:=?ve1) rfl (by kernel_rfl) (fun _ _ _ h=>h) (Or.inl ⟨by kernel_rfl,fun w hSw=>?_⟩) (by assumption) ?_
     rotate_left
     ·(go_simp;rfl)
     simp only[Act.put,lTA,lC0,lCS]
     refine wpAnyF_take (i:=1) (oi:=⟨some 79,_,_,_,_,_⟩) (v:=?ve2) rfl (by kernel_rfl) (fun _ _ _ h=>h) (Or.inl ⟨by kernel_rfl,fun w hSw=>?_⟩) (by assumption) ?_
     rotate_left
     ·(go_simp;rfl)
     simp only[Act.put,lTA,lC0,lCS]
     refine wpAnyF_take (i:=2) (oi:=⟨some 80,_,_,_,_,_⟩) (v:=?ve3) rfl (by kernel_rfl) (fun _ _ _ h=>h) (Or.inl ⟨by kernel_rfl,fun w hSw=>?_⟩) (by assumption) ?_
     rotate_left
     ·(go_simp;rfl)
     simp only[Act.put,lTA,lC0,lCS]
     refine wpAnyF_take (i:=3) (oi:=⟨some 81,_,_,_,_,_⟩) (v:=?ve4) rfl (by kernel_rfl) (fun _ _ _ h=>h) (Or.inl ⟨by kernel_rfl,fun w hSw=>?_⟩) (by assumption) ?_
     rotate_left
     ·(go_simp;rfl)
     simp only[Act.put,lTA,lC0,lCS]
     refine wpAnyF_take (i:=4) (oi:=⟨some 82,_,_,_,_,_⟩) (v:=?ve5) rfl (by kernel_rfl) (fun _ _ _ h=>h) (Or.inl ⟨by kernel_rfl,fun w hSw=>?_⟩) (by assumption) ?_
     rotate_left
     ·(go_simp;rfl)
     simp only[Act.put,lTA,lC0,lCS]
     refine wpAnyF_take (i:=5) (oi:=⟨some 83,_,_,_,_,_⟩) (v:=?ve6) rfl (by kernel_rfl) (fun _ _ _ h=>h) (Or.inl ⟨by kernel_rfl,fun w hSw=>?_⟩) (by assumption) ?_
     rotate_left
     ·(go_simp;rfl)
     simp only[Act.put,lTA,lC0,lCS]
     refine wpAnyF_take (i:=6) (oi:=⟨some 84,_,_,_,_,_⟩) (v:=?ve7) rfl (by kernel_rfl) (fun _ _ _ h=>h) (Or.inl ⟨by kernel_rfl,fun w hSw=>?_⟩) (by assumption) ?_
     rotate_left
     ·(go_simp;rfl)
     simp only[Act.put,lTA,lC0,lCS]
     refine wpAnyF_take (i:=7) (oi:=⟨some 85,_,_,_,_,_⟩) (v:=?ve8) rfl (by kernel_rfl) (fun _ _ _ h=>h) (Or.inl ⟨by kernel_rfl,fun w hSw=>?_⟩) (by assumption) ?_
     rotate_left
     ·(go_simp;rfl)
     simp only[Act.put,lTA,lC0,lCS]
     refine wpAnyF_take (i:=8) (oi:=⟨some 86,_,_,_,_,_⟩) (v:=?ve9) rfl (by kernel_rfl) (fun _ _ _ h=>h) (Or.inl ⟨by kernel_rfl,fun w hSw=>?_⟩) (by assumption) ?_
     rotate_left
     ·(go_simp;rfl)
     simp only[Act.put,lTA,lC0,lCS]
     refine wpAnyF_take (i:=9) (oi:=⟨some 87,_,_,_,_,_⟩) (v:=?ve10) rfl (by kernel_rfl) (fun _ _ _ h=>h) (Or.inl ⟨by kernel_rfl,fun w hSw=>?_⟩) (by assumption) ?_
     rotate_left
     ·(go_simp;rfl)
     simp only[Act.put,lTA,lC0,lCS]
     refine wpAnyF_take (i:=10) (oi:=⟨some 88,_,_,_,_,_⟩) (v:=?ve11) rfl (by kernel_rfl) (fun _ _ _ h=>h) (Or.inl ⟨by kernel_rfl,fun w hSw=>?_⟩) (by assumption) ?_
     rotate_left
     ·(go_simp;rfl)
     simp only[Act.put,lTA,lC0,lCS]
     refine wpAnyF_take (i:=11) (oi:=⟨some 89,_,_,_,_,_⟩) (v:=?ve12) rfl (by kernel_rfl) (fun _ _ _ h=>h) (Or.inl ⟨by kernel_rfl,fun w hSw=>?_⟩) (by assumption) ?_
     rotate_left
     ·(go_simp;rfl)
     simp only[Act.put,lTA,lC0,lCS]
     refine wpAnyF_take (i:=12) (oi:=⟨some 90,_,_,_,_,_⟩) (v:=?ve13) rfl (by kernel_rfl) (fun _ _ _ h=>h) (Or.inl ⟨by kernel_rfl,fun w hSw=>?_⟩) (by assumption) ?_
     rotate_left
     ·(go_simp;rfl)
     simp only[Act.put,lTA,lC0,lCS]
     refine wpAnyF_take (i:=13) (oi:=⟨some 91,_,_,_,_,_⟩) (v:=?ve14) rfl (by kernel_rfl) (fun _ _ _ h=>h) (Or.inl ⟨by kernel_rfl,fun w hSw=>?_⟩) (by assumption) ?_
     rotate_left
     ·(go_simp;rfl)
     simp only[Act.put,lTA,lC0,lCS]
     refine wpAnyF_take (i:=14) (oi:=⟨some 92,_,_,_,_,_⟩) (v:=?ve15) rfl (by kernel_rfl) (fun _ _ _ h=>h) (Or.inl ⟨by kernel_rfl,fun w hSw=>?_⟩) (by assumption) ?_
     rotate_left
     ·(go_simp;rfl)
     simp only[Act.put,lTA,lC0,lCS]
     refine wpAnyF_take (i:=15) (oi:=⟨some 93,_,_,_,_,_⟩) (v:=?ve16) rfl (by kernel_rfl) (fun _ _ _ h=>h) (Or.inl ⟨by kernel_rfl,fun w hSw=>?_⟩) (by assumption) ?_
     rotate_left
     ·(go_simp;rfl)
     simp only[Act.put,lTA,lC0,lCS]
     refine wpAnyF_take (i:=16) (oi:=⟨some 94,_,_,_,_,_⟩) (v:=?ve17) rfl (by kernel_rfl) (fun _ _ _ h=>h) (Or.inl ⟨by kernel_rfl,fun w hSw=>?_⟩) (by assumption) ?_
     rotate_left
     ·(go_simp;rfl)
     simp only[Act.put,lTA,lC0,lCS]
     refine wpAnyF_take (i:=17) (oi:=⟨some 95,_,_,_,_,_⟩) (v:=?ve18) rfl (by kernel_rfl) (fun _ _ _ h=>h) (Or.inl ⟨by kernel_rfl,fun w hSw=>?_⟩) (by assumption) ?_
     rotate_left
     ·(go_simp;rfl)
     simp only[Act.put,lTA,lC0,lCS]
     refine wpAnyF_take (i:=18) (oi:=⟨some 96,_,_,_,_,_⟩) (v:=?ve19) rfl (by kernel_rfl) (fun _ _ _ h=>h) (Or.inl ⟨by kernel_rfl,fun w hSw=>?_⟩) (by assumption) ?_
     rotate_left
     ·(go_simp;rfl)
     simp only[Act.put,lTA,lC0,lCS]
     refine wpAnyF_take (i:=19) (oi:=⟨some 97,_,_,_,_,_⟩) (v:=?ve20) rfl (by kernel_rfl) (fun _ _ _ h=>h) (Or.inl ⟨by kernel_rfl,fun w hSw=>?_⟩) (by assumption) ?_
     rotate_left
     ·(go_simp;rfl)
     simp only[Act.put,lTA,lC0,lCS]
     refine wpAnyF_take (i:=20) (oi:=⟨some 98,_,_,_,_,_⟩) (v:=?ve21) rfl (by kernel_rfl) (fun _ _ _ h=>h) (Or.inl ⟨by kernel_rfl,fun w hSw=>?_⟩) (by assumption) ?_
     rotate_left
     ·(go_simp;rfl)
     simp only[Act.put,lTA,lC0,lCS]
     refine wpAnyF_take (i:=21) (oi:=⟨some 99,_,_,_,_,_⟩) (v:=?ve22) rfl (by kernel_rfl) (fun _ _ _ h=>h) (Or.inl ⟨by kernel_rfl,fun w hSw=>?_⟩) (by assumption) ?_
     rotate_left
     ·(go_simp;rfl)
     simp only[Act.put,lTA,lC0,lCS]
     refine wpAnyF_take (i:=22) (oi:=⟨some 100,_,_,_,_,_⟩) (v:=?ve23) rfl (by kernel_rfl) (fun _ _ _ h=>h) (Or.inl ⟨by kernel_rfl,fun w hSw=>?_⟩) (by assumption) ?_
     rotate_left
     ·(go_simp;rfl)
     simp only[Act.put,lTA,lC0,lCS]
     refine wpAnyE_one (i:=23) (by kernel_rfl) rfl (fun K hK=>?_)
     go_simp
     obtain⟨w8,hw8⟩: ∃w8,w8=(wr.alloc (.cells #[.int .i64 cc,.int .i64 fk,.int .i64 num] 144)).drew:=⟨_,rfl⟩
     rw[<-hw8]at HIN H8 HXB HBI HG8 HGB⊢
     clear hw8
     show K _ _
     refine hK.out _ _ (fun _=>⟨H8.out.d.cell 0,H8.out.o.cell 1,HCD.out▸H8.out.d.cell 2,HG8.out⟩) (fun hHeld=>?_)
     replace hHeld:=hHeld (by decide)
     clear hK K
     refine wpAnyE_one (i:=24) (by kernel_rfl) rfl (fun K hK=>?_)
     go_simp
     refine HIN.out.mono ?_
     rintro e w9 ⟨v',rfl,hown,hgr,hbl⟩
     obtain⟨NA,ncap,rfl,-⟩:=own_form hown
     have HOW:=lhi hown
     have HGR:=lhi hgr
     have H9O:=lhi (blk_grow H8.out.o HGR.out HNO.out)
     have H9D:=lhi (blk_grow H8.out.d HGR.out HND.out)
     have z0:w9.cell? ⟨g,a*4,none⟩=some (.int .i64 num):=(blk_grow HGB.out HGR.out HNG.out).cell _ |>.trans ((HGB.out.cell _).symm.trans HG8.out)
     clear hown hgr hbl HIN
     show K _ _
     refine hK.out _ _ (fun _=>⟨H9D.out.cell 0,H9O.out.cell 1,HCD.out▸H9D.out.cell 2,z0⟩) (fun hHeld=>?_)
     replace hHeld:=hHeld (by decide)
     clear hK K
     refine wpAnyF_take (i:=25) (oi:=⟨some 103,_,_,_,_,_⟩) (v:=?ve24) rfl (by kernel_rfl) (fun _ _ _ h=>h) (Or.inl ⟨by kernel_rfl,fun w hSw=>?_⟩) (by assumption) ?_
     rotate_left
     ·(go_simp;rfl)
     simp only[Act.put,lTA,lC0,lCS]
     refine wpAnyF_take (i:=26) (oi:=⟨some 104,_,_,_,_,_⟩) (v:=?ve25) rfl (by kernel_rfl) (fun _ _ _ h=>h) (Or.inl ⟨by kernel_rfl,fun w hSw=>?_⟩) (by assumption) ?_
     rotate_left
     ·(go_simp;rfl)
     simp only[Act.put,lTA,lC0,lCS]
     have z1:=hHeld.2.1
     have f1:w9.frozen? ⟨ob,1,none⟩=false:=H9O.out.frozen _
     refine wpAnyE_one (i:=27) (by kernel_rfl) rfl (fun K hK=>?_)
     go_simp
     show K _ _
     refine hK.out _ _ (fun h=>absurd rfl h) (fun _=>?_)
     clear hK K
     refine wpAnyE_done (by kernel_rfl) ?_ _
     have hlen:(S.opens.take ak++(cc,(fk:Int),num)::S.opens.drop ak).length=S.opens.length+1:=by
      have:=HN.out
      have:=(opL_le S cc k).2
      rw[HOP.out]at this
      rw[List.length_append,List.length_cons,List.length_take,List.length_drop]
      omega
     have hst:=H8.out.st.putO HGR.out (L:=S.opens.take ak++(cc,(fk:Int),num)::S.opens.drop ak) (by rw[hlen];exact HOW.out)
     rw[<-HSR.out]at hst
     have hb9:Below base W (w9.setCell ⟨ob,1,none⟩ (.slice NA (S.opens.length+1) ncap)):=((HBW.out.trans (HBI.out.mono H2.out.bs)).trans (below_grow HGR.out H8.out.bs (fun b hb=>(H8.out.st.opn.lt _ hb).1))).setCell (p:=⟨ob,1,none⟩) H8.out.ob_ _
     have h10:Doer (w9.setCell ⟨ob,1,none⟩ (.slice NA (S.opens.length+1) ncap)) base ob db c r (.slice (some ⟨g,0,none⟩) S.inodes.length icap) (.slice NA (S.opens.length+1) ncap) mv Iv SR:=⟨H8.out.ob_,H8.out.db_,H9O.out.set_ 1 _,H9D.out.far (p:=⟨ob,1,none⟩) (Blk.ne_ H9D.out H9O.out (by decide)) _,hst.far H9O.out (by decide) (by decide) (by decide) (by decide) 1 _⟩
     obtain⟨w10,hw10⟩: ∃x,x=w9.setCell ⟨ob,1,none⟩ (.slice NA (S.opens.length+1) ncap):=⟨_,rfl⟩
     rw[<-hw10]at h10 hb9⊢
     have H10:=lhi h10
     have HB10:=lhi hb9
     have e10:w10.cell? ⟨db,10,none⟩=some (.int .i64 r.fd):=h10.d.cell 10
     have u10:=h10.d.frozen 10
     have HSF:=lhi (h10.setR (r':=r') 10 (.int .i64 fk) (by rw[HRR.out];rfl))
     clear hw10 h10 hb9 hst hlen d0 o1 d2 g0 z0 z1 f1
     go_wp2_with (fail)
     go_end0
     exact⟨rfl,HB10.out.setCell (p:=⟨db,10,none⟩) H10.out.db_ _,_,_,_,_,HSF.out⟩
theorem dopen_calls(h:Doer W base ob db c r iv ov mv Iv S)(hI:Inv S)(hp:c.path.size<=4611686018427387904)(hc:0<=c.core/\c.core<S.made.length):
  Calls Tryz.prog 78 #[.pointer (some ⟨db,0,none⟩)] W fun e w'=>DoneR base ob db c W e w' (openS S c r):=by
 cases hs:atS S c.path with
 | error k=>
  have:openS S c r= .error k:=by unfold openS;rw[hs]
  rw[this]
  exact dopen_noat h hI hp hs
 | ok a=>exact dopen_go h hI hp hc hs rfl
end
end
section
open Go.RowKit
set_option maxHeartbeats 2000000
section
variable{W:World}{base ob db:Nat}{c:CallV}{r:ResV}{iv ov mv:Value}{Iv:List InV}{S:St}
set_option maxRecDepth 1000000 in
theorem run_open(h:Doer W base ob db c r iv ov mv Iv S)(hk:c.kind=2){RES:Except Int (St×ResV)}(hC:Calls Tryz.prog 78 #[.pointer (some ⟨db,0,none⟩)] W fun e w'=>DoneR base ob db c W e w' RES):
  Calls Tryz.prog 33 #[.pointer (some ⟨db,0,none⟩)] W fun e w'=>DoneR base ob db c W e w' RES:=by
 have d1:W.cell? ⟨db,1,none⟩=some (.int .i64 2):=by rw[<-hk];exact h.d.cell 1
 have HC:=lhi hC
 clear h hk hC
 cases RES with
 | error k=>
  go_enter Tryz.func33,Tryz.ntmps33
  go_wp2_with (go_at_call 78;refine HC.out.mono ?_;rintro e w1 ⟨rfl,hd⟩;have HD:=lhi hd;clear hd)
  exact⟨rfl,rfl,HD.out⟩
 | ok p=>
  obtain⟨S',r'⟩:=p
  go_enter Tryz.func33,Tryz.ntmps33
  go_wp2_with (go_at_call 78;refine HC.out.mono ?_;rintro e w1 ⟨rfl,hd⟩;have HD:=lhi hd;clear hd)
  go_end0
  exact⟨rfl,HD.out⟩
set_option maxRecDepth 1000000 in
theorem run_bytes(h:Doer W base ob db c r iv ov mv Iv S)(hk:c.kind=4∨c.kind=5∨c.kind=6∨c.kind=7){RES:Except Int (St×ResV)}(hC:Calls Tryz.prog 82 #[.pointer (some ⟨db,0,none⟩)] W fun e w'=>DoneR base ob db c W e w' RES):
  Calls Tryz.prog 33 #[.pointer (some ⟨db,0,none⟩)] W fun e w'=>DoneR base ob db c W e w' RES:=by
 have d1:W.cell? ⟨db,1,none⟩=some (.int .i64 c.kind):=h.d.cell 1
 have HC:=lhi hC
 clear h hC
 cases RES with
 | error k=>
  rcases hk with hk | hk | hk | hk
  all_goals
   rw[hk]at d1
   clear hk
   go_enter Tryz.func33,Tryz.ntmps33
   go_wp2_with (go_at_call 82;refine HC.out.mono ?_;rintro e w1 ⟨rfl,hd⟩;have HD:=lhi hd;clear hd)
   exact⟨rfl,rfl,HD.out⟩
 | ok p=>
  obtain⟨S',r'⟩:=p
  rcases hk with hk | hk | hk | hk
  all_goals
   rw[hk]at d1
   clear hk
   go_enter Tryz.func33,Tryz.ntmps33
   go_wp2_with (go_at_call 82;refine HC.out.mono ?_;rintro e w1 ⟨rfl,hd⟩;have HD:=lhi hd;clear hd)
   go_end0
   exact⟨rfl,HD.out⟩
end
end
section
open Go.RowKit
set_option maxHeartbeats 1000000
theorem setD_set{S:St}(hI:Inv S){k:Nat}(hk:k<S.inodes.length)(d:ByteArray):setD S (S.num k) d=S.setI k {S.ino k with data:=d}:=by
 have e:(setD S (S.num k) d).inodes=S.inodes.set k {S.ino k with data:=d}:=by
  apply List.ext_getElem
  ·simp[setD,mapIno]
  ·intro i h1 h2
   have hi:i<S.inodes.length:=by simpa using h2
   rw[List.getElem_set]
   simp only[setD,mapIno,List.getElem_map]
   have hin:S.inodes[i]=S.ino i:=(ino_get hi).symm
   by_cases e:k=i
   ·subst e
    rw[if_pos rfl,hin,if_pos (show(S.ino k).num=S.num k from rfl)]
   ·rw[if_neg e,if_neg,hin]
    intro q
    rw[hin]at q
    exact e (hI.num_inj hi hk q).symm
 show St.mk (setD S (S.num k) d).inodes S.opens S.made=St.mk _ _ _
 rw[e]
theorem cutF_len(d:ByteArray)(k:Nat):(cutF d k).size=k:=by
 unfold cutF
 show(List.toArray _).size=k
 have h1:Nat.min d.size k<=d.size:=Nat.min_le_left _ _
 have h2:Nat.min d.size k<=k:=Nat.min_le_right _ _
 have h3:d.data.toList.length=d.size:=by simp
 rw[List.size_toArray,List.length_append,List.length_take,List.length_drop,List.length_replicate,h3];omega
theorem bytesS_inv{S S':St}(hI:Inv S){c:CallV}{r r':ResV}(h:bytesS S c r= .ok (S',r')):Inv S'/\S'.made.length=S.made.length:=by
 unfold bytesS at h
 split at h
 ·cases h
 ·rename_i a k hf
  obtain⟨-,ha,-,hd,-⟩:=fileS_ok hI hf
  have hfile: ∃y∈S.inodes,y.num=S.num a/\y.dir=false:=⟨_,Inv.ino_mem ha,rfl,hd⟩
  have hda:(S.dat a).size<=256:=hI.dat _ (Inv.ino_mem ha)
  split at h
  ·split at h
   ·injection h with h;injection h with h1 h2;subst h1;exact⟨hI,rfl⟩
   ·cases h
  ·split at h
   ·split at h
    ·rename_i hb
     simp only[Bool.and_eq_true]at hb
     have h0:=inB_yes hb.1
     split at h
     ·cases h
     ·rename_i hg
      injection h with h;injection h with h1 h2;subst h1
      rw[<-setD_set hI ha]
      exact⟨hI.data (Nat.le_trans (layF_len _ _ _) (by omega)) hfile,rfl⟩
    ·cases h
   ·split at h
    ·split at h
     ·rename_i hb
      have h0:=inB_yes hb
      injection h with h;injection h with h1 h2;subst h1
      rw[<-setD_set hI ha]
      exact⟨hI.data (by rw[cutF_len];omega) hfile,rfl⟩
     ·cases h
    ·injection h with h;injection h with h1 h2;subst h1;exact⟨hI,rfl⟩
theorem openS_inv{S S':St}(hI:Inv S){c:CallV}(hc:0<=c.core/\c.core<S.made.length){r r':ResV}(h:openS S c r= .ok (S',r')):Inv S'/\S'.made.length=S.made.length:=by
 obtain⟨a,ha,hd,hf,rfl,hno⟩:=openS_grab hI h
 exact⟨hI.grab hc.1 hc.2 (by show(0:Int)<= ((opL S c.core S.opens.length).1:Int);omega) (by show((opL S c.core S.opens.length).1:Int)<4;omega) ⟨_,Inv.ino_mem (atS_lt hI ha),rfl,hd⟩ hno,rfl⟩
end
section
open Go.RowKit
set_option maxHeartbeats 1000000
theorem parseFrom_nam(s:ByteArray): ∀(b pos fr:Nat) (out l:List ByteArray),(∀x∈out,ncheck x=0)->parseFrom s b pos fr out= .ok l-> ∀x∈l,ncheck x=0
 | 0,pos,fr,out,l,ho,h=>by
  unfold parseFrom at h
  split at h
  ·cases h
  ·injection h with h;subst h;exact ho
 | b+1,pos,fr,out,l,ho,h=>by
  unfold parseFrom at h
  split at h
  ·split at h
   ·exact parseFrom_nam s b _ _ out l ho h
   ·split at h
    ·rename_i hn
     exact parseFrom_nam s b _ _ _ l (fun x hx=>by
      rcases List.mem_append.1 hx with hx | hx
      ·exact ho x hx
      ·rw[List.mem_singleton.1 hx];exact hn) h
    ·split at h <;> cases h
  ·split at h
   ·cases h
   ·injection h with h;subst h;exact ho
theorem parseF_nam{s:ByteArray}{l:List ByteArray}(h:parseF s= .ok l): ∀x∈l,ncheck x=0:=by
 unfold parseF at h
 split at h
 ·cases h
 ·split at h
  ·cases h
  ·split at h
   ·injection h with h;subst h;intro x hx;cases hx
   ·exact parseFrom_nam s _ _ _ [] l (fun x hx=>by cases hx) h
theorem parentS_nam{S:St}{p:ByteArray}{k:Nat}{nm:ByteArray}(h:parentS S p= .ok (k,nm)):ncheck nm=0:=by
 unfold parentS at h
 split at h
 ·cases h
 ·rename_i ns hp
  split at h
  ·cases h
  ·rename_i x hx
   have hm:=List.mem_of_getLast? hx
   split at h
   ·split at h
    ·injection h with h
     injection h with h1 h2
     subst h2
     exact parseF_nam hp _ hm
    ·cases h
   ·cases h
theorem entF_none{l:List (ByteArray×Int)}{x:ByteArray}(h:entF l x=none): ∀e∈l,e.1≠x:=by
 intro e he q
 unfold entF at h
 rw[List.find?_eq_none]at h
 obtain⟨i,hi,rfl⟩:=List.mem_iff_getElem.1 he
 have:=h i (by simpa using hi)
 unfold enmL at this
 rw[getD_lt hi]at this
 simp at this
 exact this q
theorem full_slots{es:List (ByteArray×Int)}{s:ByteArray}(h:fullS es s ⟨#[]⟩=false)(hn: ∀e∈es,ncheck e.1=0):(es.filter fun e=>nbucket e.1==nbucket s).length<4:=by
 unfold fullS cntF at h
 rw[List.take_length]at h
 have h:=of_decide_eq_false h
 have e:(es.filter fun e=>!decide (e.1=⟨#[]⟩)&& (nbucket e.1==nbucket s))=es.filter fun e=>nbucket e.1==nbucket s:=by
  refine List.filter_congr fun e he=>?_
  have hne:e.1≠⟨#[]⟩:=fun q=>by
   have h0:=hn e he
   rw[q]at h0
   rw[show ncheck ⟨#[]⟩=800 by kernel_rfl]at h0
   exact absurd h0 (by decide)
  simp[hne]
 rw[e]at h
 omega
theorem createS_inv{S S':St}(hI:Inv S){kind core:Int}(hc:0<=core/\core<S.made.length){p:ByteArray}(h:createS S kind core p= .ok S'):Inv S':=by
 unfold createS at h
 split at h
 ·cases h
 ·rename_i k nm hp
  obtain⟨hk,hd⟩:=parentS_lt hI hp
  split at h
  ·cases h
  ·rename_i hE
   split at h
   ·cases h
   ·rename_i hF
    injection h with h
    subst h
    simp only[Bool.or_eq_true,not_or,Bool.not_eq_true]at hF
    have h32:S.mad core.toNat<32:=by
     have:=of_decide_eq_false hF.2
     omega
    have hE:entF (S.ino k).ents nm=none:=by simpa using hE
    have hx:=Inv.ino_mem hk
    have hcn:(core.toNat:Int)=core:=by omega
    exact hI.make hx rfl hd (c:=core.toNat) (by omega) h32 (by rw[hcn]) (parentS_nam hp) (entF_none hE) (full_slots hF.1 (hI.nam _ hx)) (kind==1)
end
section
open Go.RowKit
set_option maxHeartbeats 1000000
structure Says (M:Mem) (i:Int) (o:Option Thing):Prop where
 f:M.fine i
 a:M.at_ i=o
 z:rd M.ws i<=1000000000000
namespace Says
variable{M:Mem}{i j c v:Int}{o:Option Thing}{m:Nat}
theorem note(h:Says M i o)(c:Int)(x:Acc):Says (M.note c x) i o:=⟨h.f,h.a,h.z⟩
theorem see(h:Says M i o)(c j:Int):Says (M.see c j) i o:=by
 unfold Mem.see
 split
 ·exact h
 ·exact h.note _ _
theorem put(h:Says M i o)(hij:i.toNat≠j.toNat)(v:Int):Says (M.put j v) i o:=by
 have e:rd (M.put j v).ws i=rd M.ws i:=rd_wr_other' hij
 exact⟨by have:=h.f;unfold Mem.fine at this⊢;rw[e];exact this,by have:=h.a;unfold Mem.at_ at this⊢;rw[e];exact this,by rw[e];exact h.z⟩
theorem thing_give(M:Mem)(c:Int)(t:Thing){n:Int}{x:Thing}(h:M.thing n=some x):(M.give c t).thing n=some x:=by
 unfold Mem.thing at h⊢
 split at h
 ·cases h
 ·rename_i hn
  rw[if_neg hn]
  simp only[Mem.give]
  by_cases hc:c.toNat<M.nm.length
  ·rw[getD_set _ _ _ _ _ hc]
   split
   ·rename_i e
    rw[e]at h
    rw[List.getElem?_append_left (List.getElem?_eq_some_iff.1 h).1]
    exact h
   ·exact h
  ·rw[List.set_eq_of_length_le (by omega)]
   exact h
theorem give(h:Says M i o)(c:Int)(t:Thing):Says (M.give c t) i o:=by
 obtain⟨h1,h2,h3⟩:=h
 rcases h1 with h0 | ⟨h0,hs⟩
 ·refine⟨.inl h0,?_,h3⟩
  unfold Mem.at_ at h2⊢
  show(M.give c t).thing (rd M.ws i)=o
  rw[h0]at h2⊢
  exact h2
 ·obtain⟨x,hx⟩:=Option.isSome_iff_exists.1 hs
  have hg:=thing_give M c t hx
  refine⟨.inr ⟨h0,?_⟩,?_,h3⟩
  ·show((M.give c t).thing (rd M.ws i)).isSome=true
   rw[hg];rfl
  ·unfold Mem.at_ at h2⊢
   show(M.give c t).thing (rd M.ws i)=o
   rw[hg,<-h2,hx]
theorem thing_next(M:Mem){c:Int}(hc:0<=c/\c<M.nm.length)(h8:c<8)(t:Thing):(M.give c t).thing (M.next c)=some t:=by
 have hcn:c.toNat<M.nm.length:=by omega
 unfold Mem.thing Mem.next
 rw[if_neg (by omega)]
 have e1:((1+c+8* ((M.nm.getD c.toNat []).length:Int) - 1) % 8).toNat=c.toNat:=by omega
 have e2:((1+c+8* ((M.nm.getD c.toNat []).length:Int) - 1) / 8).toNat=(M.nm.getD c.toNat []).length:=by omega
 rw[e1,e2]
 simp only[Mem.give]
 rw[getD_set _ _ _ _ _ hcn,if_pos rfl]
 simp
theorem put_self{t:Thing}(hok:M.ok m)(hm:m<=1000000000)(hc:0<=c/\c<M.nm.length)(h8:c<8)(hi:0<=i/\i<9549):Says ((M.give c t).put i (M.next c)) i (some t):=by
 have e:rd ((M.give c t).put i (M.next c)).ws i=M.next c:=by
  have hl:=hok.wl
  unfold rd Mem.put wr
  simp only[Mem.give]
  rw[getD_set _ _ _ _ _ (by omega),if_pos rfl]
 have hn:=thing_next M hc h8 t
 have hpos:0<M.next c:=by unfold Mem.next;omega
 have hnl:=hok.nl c.toNat
 refine⟨.inr ⟨by rw[e];exact hpos,?_⟩,?_,?_⟩
 ·rw[e]
  show((M.give c t).thing (M.next c)).isSome=true
  rw[hn];rfl
 ·unfold Mem.at_
  rw[e]
  exact hn
 ·rw[e]
  unfold Mem.next
  omega
theorem setW_self{t:Thing}(hok:M.ok m)(hm:m<=1000000000)(hc:0<=c/\c<M.nm.length)(h8:c<8)(hi:0<=i/\i<9549):Says (M.setW c i t) i (some t):=(put_self hok hm hc h8 hi).note _ _
theorem setW_other{t:Thing}(h:Says M i o)(hij:i.toNat≠j.toNat)(c:Int):Says (M.setW c j t) i o:=((h.give c t).put hij _).note _ _
end Says
structure Dk (M:Mem) (D:Int->Int->List Item):Prop where
 s: ∀num b,1<=num/\num<=257->0<=b/\b<8-> ∃o,Says M (wd num b) o/\ ((o=none/\D num b=[])∨o=some (.bucket (D num b)))
 i: ∀num b,1<=num/\num<=257->0<=b/\b<8->(D num b).length<=1000/\ ∀x∈D num b,1<=x.num/\x.num<=257
namespace Dk
variable{M M':Mem}{D:Int->Int->List Item}{c:Int}{m:Nat}
theorem bkt(h:Dk M D){num b:Int}(hn:1<=num/\num<=257)(hb:0<=b/\b<8):M.bkt num b=D num b:=by
 obtain⟨o,h1,h2⟩:=h.s num b hn hb
 unfold Mem.bkt
 rw[h1.a]
 rcases h2 with⟨rfl,h2⟩ | rfl
 ·rw[h2]
 ·rfl
theorem fit(h:Dk M D):M.fit:=by
 refine⟨fun num b hn hb=>?_,fun num b hn hb=>?_⟩
 ·obtain⟨o,h1,h2⟩:=h.s num b hn hb
  refine⟨⟨h1.f,fun t ht=>?_⟩,h1.z⟩
  rw[h1.a]at ht
  rcases h2 with⟨rfl,-⟩ | rfl
  ·cases ht
  ·exact⟨_,(Option.some.inj ht).symm⟩
 ·rw[h.bkt hn hb]
  exact h.i num b hn hb
theorem keep(h:Dk M D)(hs: ∀num b o,1<=num/\num<=257->0<=b/\b<8->Says M (wd num b) o->Says M' (wd num b) o):Dk M' D:=
 ⟨fun num b hn hb=>by obtain⟨o,h1,h2⟩:=h.s num b hn hb;exact⟨o,hs num b o hn hb h1,h2⟩,h.i⟩
theorem note(h:Dk M D)(c:Int)(x:Acc):Dk (M.note c x) D:=h.keep fun _ _ _ _ _ k=>k.note c x
theorem see(h:Dk M D)(c j:Int):Dk (M.see c j) D:=h.keep fun _ _ _ _ _ k=>k.see c j
theorem clear(h:Dk M D)(k:Nat):Dk (M.clear k) D:=h.keep fun _ _ _ _ _ q=>⟨q.f,q.a,q.z⟩
theorem put(h:Dk M D){j:Int}(hj: ∀num b,1<=num/\num<=257->0<=b/\b<8->(wd num b).toNat≠j.toNat)(v:Int):Dk (M.put j v) D:=h.keep fun num b _ hn hb k=>k.put (hj num b hn hb) v
theorem give(h:Dk M D)(c:Int)(t:Thing):Dk (M.give c t) D:=h.keep fun _ _ _ _ _ k=>k.give c t
theorem wd_ne{num b num' b':Int}(hn:1<=num/\num<=257)(hb:0<=b/\b<37)(hn':1<=num'/\num'<=257)(hb':0<=b'/\b'<37)(h: ¬ (num=num'/\b=b')):(wd num b).toNat≠(wd num' b').toNat:=by
 unfold wd
 omega
theorem put_set(h:Dk M D)(hok:M.ok m)(hm:m<=1000000000)(hc:0<=c/\c<M.nm.length)(h8:c<8){num b:Int}(hn:1<=num/\num<=257)(hb:0<=b/\b<8){l:List Item}(hl:l.length<=1000/\ ∀x∈l,1<=x.num/\x.num<=257):
  Dk ((M.give c (.bucket l)).put (wd num b) (M.next c)) (fun n' b'=>if n'=num/\b'=b then l else D n' b'):=by
 refine⟨fun n' b' hn' hb'=>?_,fun n' b' hn' hb'=>?_⟩
 ·by_cases e:n'=num/\b'=b
  ·obtain⟨rfl,rfl⟩:=e
   exact⟨_,Says.put_self hok hm hc h8 (by unfold wd;omega),.inr (by rw[if_pos ⟨rfl,rfl⟩])⟩
  ·obtain⟨o,h1,h2⟩:=h.s n' b' hn' hb'
   refine⟨o,(h1.give c _).put (wd_ne hn' ⟨hb'.1,by omega⟩ hn ⟨hb.1,by omega⟩ e) _,?_⟩
   rw[if_neg e]
   exact h2
 ·by_cases e:n'=num/\b'=b
  ·rw[if_pos e];exact hl
  ·rw[if_neg e];exact h.i n' b' hn' hb'
theorem setW(h:Dk M D)(hok:M.ok m)(hm:m<=1000000000)(hc:0<=c/\c<M.nm.length)(h8:c<8){num b:Int}(hn:1<=num/\num<=257)(hb:0<=b/\b<8){l:List Item}(hl:l.length<=1000/\ ∀x∈l,1<=x.num/\x.num<=257):
  Dk (M.setW c (wd num b) (.bucket l)) (fun n' b'=>if n'=num/\b'=b then l else D n' b'):=(h.put_set hok hm hc h8 hn hb hl).note _ _
end Dk
end
section
open Go.RowKit
set_option maxHeartbeats 1000000
abbrev DkT:=Int->Int->List Item
theorem Dk.congr{M:Mem}{D D':DkT}(h:Dk M D)(e: ∀num b,1<=num/\num<=257->0<=b/\b<8->D num b=D' num b):Dk M D':=
 ⟨fun num b hn hb=>by rw[<-e num b hn hb];exact h.s num b hn hb,fun num b hn hb=>by rw[<-e num b hn hb];exact h.i num b hn hb⟩
theorem rd_zero'(i:Int):rd zeroWs i=0:=by
 unfold rd zeroWs
 simp only[List.getD_eq_getElem?_getD,List.getElem?_replicate]
 split <;> rfl
theorem dk_new(n:Nat):Dk (Mem.new n) (fun _ _=>[]):=by
 refine⟨fun num b hn hb=>⟨none,⟨.inl (rd_zero' _),?_,?_⟩,.inl ⟨rfl,rfl⟩⟩,fun num b hn hb=>⟨by simp,fun x hx=>by cases hx⟩⟩
 ·show(Mem.new n).thing (rd zeroWs _)=none
  rw[rd_zero'];rfl
 ·show rd zeroWs _<=_
  rw[rd_zero'];decide
def dB(S:St)(i:Nat)(D:DkT)(k:Nat):DkT:=fun num b=>if num=S.num i/\b<k/\bkItems S (S.ino i).ents b.toNat≠[]then bkItems S (S.ino i).ents b.toNat else D num b
def dI(S:St)(D:DkT):Nat->DkT
 | 0=>D
 | i+1=>dB S i (dI S D i) 8
theorem loadB_nm(S:St)(i:Nat)(M:Mem)(b:Nat):(loadB S i M b).nm.length=M.nm.length:=by
 unfold loadB
 split
 ·rfl
 ·simp[Mem.put,Mem.give]
theorem loadBs_nm(S:St)(i:Nat)(M:Mem): ∀k,(loadBs S i M k).nm.length=M.nm.length
 | 0=>rfl
 | k+1=>(loadB_nm S i _ k).trans (loadBs_nm S i M k)
theorem loadI_nm(S:St)(M:Mem)(i:Nat):(loadI S M i).nm.length=M.nm.length:=by
 unfold loadI
 split
 ·exact loadBs_nm S i M 8
 ·rw[<-loadBs_nm S i M 8]
  simp[loadFile,Mem.put,Mem.give]
theorem loadIs_nm(S:St)(M:Mem): ∀i,(loadIs S M i).nm.length=M.nm.length
 | 0=>rfl
 | i+1=>(loadI_nm S _ i).trans (loadIs_nm S M i)
theorem dk_loadBs{S:St}{i:Nat}{M:Mem}{D:DkT}{m:Nat}(h:Dk M D)(hok:M.ok m)(hm:m<=900000000)(hl:0<M.nm.length)(hn:1<=S.num i/\S.num i<=257)(hi: ∀b,b<8->(bkItems S (S.ino i).ents b).length<=1000/\ ∀x∈bkItems S (S.ino i).ents b,1<=x.num/\x.num<=257):
  ∀k,k<=8->Dk (loadBs S i M k) (dB S i D k)
 | 0,_=>h.congr fun num b _ hb=>by unfold dB;rw[if_neg (fun q=>by have:=q.2.1;omega)]
 | k+1,hk=>by
  have ih:=dk_loadBs h hok hm hl hn hi k (by omega)
  have hok':=loadBs_ok (S:=S) (i:=i) hok k
  show Dk (loadB S i (loadBs S i M k) k) _
  unfold loadB
  by_cases e:(bkItems S (S.ino i).ents k).length=0
  ·rw[if_pos e]
   have e2:bkItems S (S.ino i).ents k=[]:=List.length_eq_zero_iff.1 e
   refine ih.congr fun num b _ hb=>?_
   unfold dB
   by_cases q:b=(k:Int)
   ·subst q
    rw[if_neg (fun q=>by have:=q.2.1;omega),if_neg (fun q=>q.2.2 (by simpa using e2))]
   ·have:(b< (k:Int))↔(b< ((k+1:Nat):Int)):=by omega
    simp only[this]
  ·rw[if_neg e]
   have e2:bkItems S (S.ino i).ents k≠[]:=fun q=>e (by rw[q];rfl)
   refine(ih.put_set hok' (by omega) ⟨by omega,by rw[loadBs_nm];omega⟩ (by omega) hn (b:=(k:Int)) ⟨by omega,by omega⟩ (hi k (by omega))).congr fun num b _ hb=>?_
   by_cases q:num=S.num i/\b=(k:Int)
   ·obtain⟨rfl,rfl⟩:=q
    rw[if_pos ⟨rfl,rfl⟩]
    unfold dB
    rw[if_pos ⟨rfl,by omega,by simpa using e2⟩]
    simp
   ·rw[if_neg q]
    unfold dB
    by_cases r:num=S.num i
    ·have hb':b≠(k:Int):=fun e=>q ⟨r,e⟩
     have:(b< (k:Int))↔(b< ((k+1:Nat):Int)):=by omega
     simp only[this]
    ·rw[if_neg (fun x=>r x.1),if_neg (fun x=>r x.1)]
theorem dk_loadI{S:St}{i:Nat}{M:Mem}{D:DkT}{m:Nat}(h:Dk M D)(hok:M.ok m)(hm:m<=900000000)(hl:0<M.nm.length)(hn:1<=S.num i/\S.num i<=257)(hi: ∀b,b<8->(bkItems S (S.ino i).ents b).length<=1000/\ ∀x∈bkItems S (S.ino i).ents b,1<=x.num/\x.num<=257):Dk (loadI S M i) (dB S i D 8):=by
 have h8:=dk_loadBs h hok hm hl hn hi 8 (Nat.le_refl _)
 unfold loadI
 split
 ·exact h8
 ·unfold loadFile
  exact((h8.put (fun num b hn' hb=>Dk.wd_ne hn' ⟨hb.1,by omega⟩ hn ⟨by decide,by decide⟩ (fun e=>by omega)) _).give _ _).put (fun num b hn' hb=>Dk.wd_ne hn' ⟨hb.1,by omega⟩ hn ⟨by decide,by decide⟩ (fun e=>by omega)) _
theorem far_put{num b j:Int}(hn:1<=num/\num<=257)(hb:0<=b/\b<8)(hj:9509<=j):(wd num b).toNat≠j.toNat:=by unfold wd;omega
theorem dk_load{S:St}(hI:Inv S)(hb: ∀i,i<S.inodes.length-> ∀b,b<8->(bkItems S (S.ino i).ents b).length<=1000/\ ∀x∈bkItems S (S.ino i).ents b,1<=x.num/\x.num<=257):Dk (loadM S) (dI S (fun _ _=>[]) S.inodes.length):=by
 have hni:=hI.small.ni
 have hloads: ∀k,k<=S.inodes.length->Dk (loadIs S (Mem.new S.made.length) k) (dI S (fun _ _=>[]) k):=by
  intro k
  induction k with
  | zero=>exact fun _=>dk_new _
  | succ k ih=>
   intro hk
   have hnum:=hI.num_bound (Inv.ino_mem (show k<S.inodes.length by omega))
   exact dk_loadI (ih (by omega)) (loadIs_ok (Mem.new_ok _) k) (by omega) (by rw[loadIs_nm];have:=hI.m1;simp[Mem.new];omega) hnum (hb k (by omega))
 have hmade: ∀k,Dk (loadMade S (loadIs S (Mem.new S.made.length) S.inodes.length) k) (dI S (fun _ _=>[]) S.inodes.length):=by
  intro k
  induction k with
  | zero=>exact hloads _ (Nat.le_refl _)
  | succ k ih=>exact ih.put (fun num b hn hb=>far_put hn hb (by unfold mdw;omega)) _
 have hopen: ∀k,k<=S.opens.length->Dk (loadOpen S (loadMade S (loadIs S (Mem.new S.made.length) S.inodes.length) S.made.length) k) (dI S (fun _ _=>[]) S.inodes.length):=by
  intro k
  induction k with
  | zero=>exact fun _=>hmade _
  | succ k ih=>
   intro hk
   have ho:=hI.ok (S.opens.getD k (0,0,0)) (getD_mem (by omega))
   exact(ih (by omega)).put (fun num b hn hb=>far_put hn hb (by
    have h1:0<=S.oc k:=ho.1
    have h2:0<=S.of k:=ho.2.2.1
    unfold fdw;omega)) _
 exact hopen _ (Nat.le_refl _)
end
end Go.Proofs.YtkebjgebkneijaaGreat
