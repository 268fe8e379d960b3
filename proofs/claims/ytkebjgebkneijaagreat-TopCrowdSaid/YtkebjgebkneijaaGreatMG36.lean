/- Texts of one's own that a claim's last text rests on: Cr5. -/
import Derived.Test.YtkebjgebkneijaaGreatMG33
import Derived.Test.YtkebjgebkneijaaGreatMG35
set_option linter.unusedVariables false
set_option linter.unusedSimpArgs false
namespace Go.Proofs.YtkebjgebkneijaaGreat
open Go.RowKit
set_option maxHeartbeats 8000000
def csA:Array Value:=((List.range 6).flatMap fun i=>(cQ i).cs.toList).toArray
theorem csA_eq:csA= #[.int .i64 0,.int .i64 0,.int .i64 0,.int .i64 0,.int .i64 0,.string ⟨#[47,102]⟩,.string ⟨#[]⟩,.string ⟨#[]⟩,.int .i64 2,.int .i64 0,.int .i64 0,.int .i64 0,.int .i64 0,.string ⟨#[47,102]⟩,.string ⟨#[]⟩,.string ⟨#[]⟩,.int .i64 6,.int .i64 0,.int .i64 0,.int .i64 0,.int .i64 64,.string ⟨#[]⟩,.string ⟨#[]⟩,.string ⟨#[]⟩,.int .i64 2,.int .i64 1,.int .i64 0,.int .i64 0,.int .i64 0,.string ⟨#[47,102]⟩,.string ⟨#[]⟩,.string ⟨#[]⟩,.int .i64 2,.int .i64 2,.int .i64 0,.int .i64 0,.int .i64 0,.string ⟨#[47,102]⟩,.string ⟨#[]⟩,.string ⟨#[]⟩,.int .i64 2,.int .i64 3,.int .i64 0,.int .i64 0,.int .i64 0,.string ⟨#[47,102]⟩,.string ⟨#[]⟩,.string ⟨#[]⟩]:=by kernel_rfl
theorem cs_cell{w:World}{cb j:Nat}(h:Blk w cb 24 csA)(hj:j<6)(i:Nat)(hi:i<8):w.cell? ⟨cb,j*8+i,none⟩=(cQ j).cs[i]?:=by
 rw[h.cell]
 rcases(by omega:j=0∨j=1∨j=2∨j=3∨j=4∨j=5)with rfl | rfl | rfl | rfl | rfl | rfl
 all_goals
  rcases(by omega:i=0∨i=1∨i=2∨i=3∨i=4∨i=5∨i=6∨i=7)with rfl | rfl | rfl | rfl | rfl | rfl | rfl | rfl
  all_goals rfl
theorem accs_W:((List.range 4).all fun i=>(List.range i).all fun j=>!meetT (accW i) (accW j))=true:=by kernel_rfl
theorem accW_len(c:Nat):(accW c).length<=8796093022208:=by show 4<=_;omega
set_option maxRecDepth 1000000 in
theorem crowd_walk(w:World){PA:Option Addr}{plen pcap:Nat}{xs:List Int}(hx:Ints w PA plen pcap xs)(dat:ByteArray)(hdat:dat.size<=1000000000000000000):
  Calls Tryz.prog 5 #[.slice PA plen pcap,.string dat] w fun e w'=>e= .returned (.bool true)/\Below w.heap.size w w':=by
 have HX:=lhi hx
 have HNW:=lhi (mNew_calls 4 (by omega) (by omega))
 obtain⟨d0,hd0⟩: ∃x,dat++(⟨#[48,49,50,51,52,53,54,55,56,57,97,98,99,100,101,102]⟩:ByteArray)=x:=⟨_,rfl⟩
 have hd0s:d0.size=dat.size+16:=by rw[<-hd0,ByteArray.size_append];rfl
 obtain⟨dd,hdd⟩: ∃x,d0.extract 0 16=x:=⟨_,rfl⟩
 have hds:dd.size=16:=by rw[<-hdd,ByteArray.size_extract];omega
 have HDS:=lhi hds
 have HD0:=lhi hd0
 have HDD:=lhi hdd
 have HD0S:=lhi hd0s
 clear hx hd0 hdd hds hd0s
 go_enter Tryz.func5,Tryz.ntmps5
 go_upto_region 3 with(go_at_call 6;refine(awake_calls _).mono ?_;rintro e w1 ⟨rfl,hb1⟩;have HB1:=lhi hb1;clear hb1)
 go_upto_region 4 with(go_at_call 15;refine(HNW.out _).mono ?_;rintro e w2 ⟨g,gm,rfl,hb2,hg,hgm,hI2,hM2⟩;have HB2:=lhi (HB1.out.trans (hb2.mono HB1.out.size));have HV2:=lhi (new_stv (Nat.zero_le g) (Nat.zero_le gm) hI2 hM2);clear hb2 hg hgm hI2 hM2)
 obtain⟨sb,hsb⟩: ∃x,x=w2.heap.size:=⟨_,rfl⟩
 obtain⟨w3,hw3⟩: ∃x,x=w2.alloc (.cells #[.slice (some ⟨g,0,none⟩) 1 1,.slice none 0 0,.slice (some ⟨gm,0,none⟩) 4 4] 30):=⟨_,rfl⟩
 have hs1:=HB2.out.size
 have hal3:Below w2.heap.size w2 w3:=by rw[hw3];exact(Below.refl _ _).alloc (Nat.le_refl _) _
 have HX3:=lhi (show Blk w3 sb 30 #[.slice (some ⟨g,0,none⟩) 1 1,.slice none 0 0,.slice (some ⟨gm,0,none⟩) 4 4]by rw[hw3,hsb];exact Blk.new w2 _ _)
 have HV3:=lhi (HV2.out.below hal3)
 have HB3:=lhi (HB2.out.trans (hal3.mono hs1))
 have HSW:=lhi (show w.heap.size<=sb by rw[hsb];exact hs1)
 rw[<-hw3,<-hsb]
 clear hw3 hsb HV2 hs1 hal3
 go_upto_region 5 with(fail)
 obtain⟨cb,hcb⟩: ∃x,x=w3.heap.size:=⟨_,rfl⟩
 obtain⟨w4,hw4⟩: ∃x,x=w3.alloc (.cells csA 24):=⟨_,rfl⟩
 have hal4:Below w3.heap.size w3 w4:=by rw[hw4];exact(Below.refl _ _).alloc (Nat.le_refl _) _
 have HM0:=lhi (show MkW w sb cb 0 w4 from⟨_,_,_,_,⟨_,_,_,rfl⟩,⟨_,_,_,rfl⟩,⟨_,_,_,rfl⟩,Blk.of_heap (hal4.block _ HX3.out.lt) HX3.out,HV3.out.below hal4,HB3.out.trans (hal4.mono HB3.out.size),HSW.out,by rw[hw4,hcb];exact Blk.new w3 _ _⟩)
 rw[csA_eq]at hw4
 rw[<-hw4,<-hcb]
 clear hw4 hcb HV3 HX3 hal4
 go_upto_region 6 with(fail)
 go_loopw [8] (fun i wr=>∃j:Nat,i= .int .i64 j/\j<=6/\MkW w sb cb j wr) (fun i _=>6 - (intOf i).toNat)
 case atStart=>exact⟨0,rfl,by omega,HM0.out⟩
 case round=>
  obtain⟨j,rfl,hj,iv,ov,mv,ev,⟨A,n,cap,rfl⟩,⟨OA,no,ocap,rfl⟩,⟨MA,nm,mcap,rfl⟩,hS,hV,hB,hsw,hC⟩:=hrel
  have HSB:=lhi hS
  have HV:=lhi hV
  have HWR:=lhi hB
  have HCB:=lhi (show Blk wr cb 24 csA from hC)
  have p0:wr.cell? ⟨sb,0,none⟩=some (.slice A n cap):=hS.cell 0
  have p1:wr.cell? ⟨sb,1,none⟩=some (.slice OA no ocap):=hS.cell 1
  have p2:wr.cell? ⟨sb,2,none⟩=some (.slice MA nm mcap):=hS.cell 2
  clear hS hV hB HM0 hC
  by_cases hjk:j<6
  ·have hj1:(j:Int)<6:=by omega
   have HDO:=lhi (fun(W:World) (hb:Below wr.heap.size wr W)=>do_Q (w:=W) hjk (HV.out.below hb))
   simp only[CallV.cs,ResV.cs,noRes]at HDO
   have q0:wr.cell? ⟨cb,j*8,none⟩=some (.int .i64 (cQ j).kind):=cs_cell HCB.out hjk 0 (by omega)
   have q1:wr.cell? ⟨cb,j*8+1,none⟩=some (.int .i64 (cQ j).core):=cs_cell HCB.out hjk 1 (by omega)
   have q2:wr.cell? ⟨cb,j*8+2,none⟩=some (.int .i64 (cQ j).fd):=cs_cell HCB.out hjk 2 (by omega)
   have q3:wr.cell? ⟨cb,j*8+3,none⟩=some (.int .i64 (cQ j).off):=cs_cell HCB.out hjk 3 (by omega)
   have q4:wr.cell? ⟨cb,j*8+4,none⟩=some (.int .i64 (cQ j).num):=cs_cell HCB.out hjk 4 (by omega)
   have q5:wr.cell? ⟨cb,j*8+5,none⟩=some (.string (cQ j).path):=cs_cell HCB.out hjk 5 (by omega)
   have q6:wr.cell? ⟨cb,j*8+6,none⟩=some (.string (cQ j).path2):=cs_cell HCB.out hjk 6 (by omega)
   have q7:wr.cell? ⟨cb,j*8+7,none⟩=some (.string (cQ j).data):=cs_cell HCB.out hjk 7 (by omega)
   go_upto_region 8 with(fail)
   go_cut [9] (fun s wx=>MkQ w sb (.slice A n cap) (.slice OA no ocap) (.slice MA nm mcap) (SQ (j+1)) s wx/\Blk wx cb 24 csA)
   case first=>
    refine wp_region_held_drew (S:=fun w'=>Below wr.heap.size wr w') (by kernel_rfl) (below_drew wr) (fun hHeld=>?_)
    refine wpAnyH_take (i:=0) (oi:=⟨some 42,_,_,_,_,_⟩) (v:=?ve1) rfl (by kernel_rfl) (by kernel_rfl) (by kernel_rfl) (fun _ _ _ h=>h) (Or.inl ⟨by kernel_rfl,fun w hSw=>?_⟩) (by assumption) ?_
    rotate_left
    ·(have ap0:=(hSw.cell (World.block_lt_of_cell? _ _ p0)).trans p0;have ap1:=(hSw.cell (World.block_lt_of_cell? _ _ p1)).trans p1;have ap2:=(hSw.cell (World.block_lt_of_cell? _ _ p2)).trans p2;go_simp;rfl)
    simp only[Act.put,lTA,lC0,lCS]
    refine wpAnyH_take (i:=1) (oi:=⟨some 43,_,_,_,_,_⟩) (v:=?ve2) rfl (by kernel_rfl) (by kernel_rfl) (by kernel_rfl) (fun _ _ _ h=>h) (Or.inl ⟨by kernel_rfl,fun w hSw=>?_⟩) (by assumption) ?_
    rotate_left
    ·(go_simp;rfl)
    simp only[Act.put,lTA,lC0,lCS]
    refine wpAnyH_take (i:=2) (oi:=⟨some 44,_,_,_,_,_⟩) (v:=?ve3) rfl (by kernel_rfl) (by kernel_rfl) (by kernel_rfl) (fun _ _ _ h=>h) (Or.inl ⟨by kernel_rfl,fun w hSw=>?_⟩) (by assumption) ?_
    rotate_left
    ·(go_simp;rfl)
    simp only[Act.put,lTA,lC0,lCS]
    refine wpAnyH_take (i:=3) (oi:=⟨some 45,_,_,_,_,_⟩) (v:=?ve4) rfl (by kernel_rfl) (by kernel_rfl) (by kernel_rfl) (fun _ _ _ h=>h) (Or.inl ⟨by kernel_rfl,fun w hSw=>?_⟩) (by assumption) ?_
    rotate_left
    ·(go_simp;rfl)
    simp only[Act.put,lTA,lC0,lCS]
    refine wpAnyH_take (i:=4) (oi:=⟨some 46,_,_,_,_,_⟩) (v:=?ve5) rfl (by kernel_rfl) (by kernel_rfl) (by kernel_rfl) (fun _ _ _ h=>h) (Or.inl ⟨by kernel_rfl,fun w hSw=>?_⟩) (by assumption) ?_
    rotate_left
    ·(have aq0:=(hSw.cell (World.block_lt_of_cell? _ _ q0)).trans q0;have aq1:=(hSw.cell (World.block_lt_of_cell? _ _ q1)).trans q1;have aq2:=(hSw.cell (World.block_lt_of_cell? _ _ q2)).trans q2;have aq3:=(hSw.cell (World.block_lt_of_cell? _ _ q3)).trans q3;have aq4:=(hSw.cell (World.block_lt_of_cell? _ _ q4)).trans q4;have aq5:=(hSw.cell (World.block_lt_of_cell? _ _ q5)).trans q5;have aq6:=(hSw.cell (World.block_lt_of_cell? _ _ q6)).trans q6;have aq7:=(hSw.cell (World.block_lt_of_cell? _ _ q7)).trans q7;go_simp;rfl)
    simp only[Act.put,lTA,lC0,lCS]
    have HBv0:=lhi (below_drew wr)
    generalize wr.drew=v0 at*
    refine wpAnyH_ready (rs:=[5,9,10]) (by kernel_rfl) (by simp) ?_
    refine AllReadyH.cons rfl (fun K hK=>?_) (AllReadyH.cons rfl (fun K hK=>?_) (AllReadyH.cons rfl (fun K hK=>?_) AllReadyH.nil))
    ·go_simp
     refine(HDO.out v0 HBv0.out).mono ?_
     rintro e v1 ⟨⟨iv1,ov1,mv1,ev1,rfl,hV1⟩,hB1⟩
     obtain⟨A1,cap1,rfl⟩:=hV1.ino.at'.form
     obtain⟨O1,ocap1,rfl⟩:=hV1.opn.at'.form
     obtain⟨M1,mcap1,rfl⟩:=hV1.mad.at'.form
     generalize (SQ (j+1)).inodes.length=n1 at hV1⊢
     generalize (SQ (j+1)).opens.length=no1 at hV1⊢
     generalize (SQ (j+1)).made.length=nm1 at hV1⊢
     have HBv1:=lhi (HBv0.out.trans (hB1.mono HBv0.out.size))
     have HVv1:=lhi hV1
     show K _ v1
     refine hK.out _ _ HBv1.out (fun hHeld=>?_)
     clear hK K hV1 hB1
     refine wpAnyH_take (i:=6) (oi:=⟨some 41,_,_,_,_,_⟩) (v:=?ve6) rfl (by kernel_rfl) (by kernel_rfl) (by kernel_rfl) (fun _ _ _ h=>h) (Or.inl ⟨by kernel_rfl,fun w hSw=>?_⟩) (by assumption) ?_
     rotate_left
     ·(go_simp;rfl)
     simp only[Act.put,lTA,lC0,lCS]
     refine wpAnyH_take (i:=7) (oi:=⟨some 48,_,_,_,_,_⟩) (v:=?ve7) rfl (by kernel_rfl) (by kernel_rfl) (by kernel_rfl) (fun _ _ _ h=>h) (Or.inl ⟨by kernel_rfl,fun w hSw=>?_⟩) (by assumption) ?_
     rotate_left
     ·(go_simp;rfl)
     simp only[Act.put,lTA,lC0,lCS]
     refine wpAnyH_take (i:=8) (oi:=⟨some 49,_,_,_,_,_⟩) (v:=?ve8) rfl (by kernel_rfl) (by kernel_rfl) (by kernel_rfl) (fun _ _ _ h=>h) (Or.inl ⟨by kernel_rfl,fun w hSw=>?_⟩) (by assumption) ?_
     rotate_left
     ·(go_simp;rfl)
     simp only[Act.put,lTA,lC0,lCS]
     refine wpAnyH_ready (rs:=[9,10]) (by kernel_rfl) (by simp) ?_
     refine AllReadyH.cons rfl (fun K hK=>?_) (AllReadyH.cons rfl (fun K hK=>?_) AllReadyH.nil)
     ·go_simp
      obtain⟨ob,hob⟩: ∃x,x=v1.heap.size:=⟨_,rfl⟩
      have hobl:wr.heap.size<=ob:=by rw[hob];exact HBv1.out.size
      have hal:Below v1.heap.size v1 (v1.alloc (.cells #[.slice none 0 0,.slice none 0 0,.slice none 0 0] 30)):=(Below.refl _ _).alloc (Nat.le_refl _) (.cells #[.slice none 0 0,.slice none 0 0,.slice none 0 0] 30)
      have HBv2:=lhi (HBv1.out.alloc HBv1.out.size (.cells #[.slice none 0 0,.slice none 0 0,.slice none 0 0] 30))
      have HOv2:=lhi (Blk.newAt v1 30 #[.slice none 0 0,.slice none 0 0,.slice none 0 0] hob)
      have HVv2:=lhi (HVv1.out.below (hal))
      show K _ (v1.alloc (.cells #[.slice none 0 0,.slice none 0 0,.slice none 0 0] 30))
      refine hK.out _ _ HBv2.out (fun hHeld=>?_)
      clear hK K hal
      rw[<-hob]
      clear hob
      generalize v1.alloc (.cells #[.slice none 0 0,.slice none 0 0,.slice none 0 0] 30)=v2 at*
      refine wpAnyH_ready (rs:=[10]) (by kernel_rfl) (by simp) ?_
      refine AllReadyH.cons rfl (fun K hK=>?_) AllReadyH.nil
      go_simp
      obtain⟨xb,hxb⟩: ∃x,x=v2.heap.size:=⟨_,rfl⟩
      have hxbl:wr.heap.size<=xb:=by rw[hxb];exact HBv2.out.size
      have hal:Below v2.heap.size v2 (v2.alloc (.cells #[.int .i64 0,.int .i64 0,.int .i64 0,.bool false,.string ⟨#[]⟩,.slice none 0 0] 41)):=(Below.refl _ _).alloc (Nat.le_refl _) (.cells #[.int .i64 0,.int .i64 0,.int .i64 0,.bool false,.string ⟨#[]⟩,.slice none 0 0] 41)
      have HBv3:=lhi (HBv2.out.alloc HBv2.out.size (.cells #[.int .i64 0,.int .i64 0,.int .i64 0,.bool false,.string ⟨#[]⟩,.slice none 0 0] 41))
      have HXv3:=lhi (Blk.newAt v2 41 #[.int .i64 0,.int .i64 0,.int .i64 0,.bool false,.string ⟨#[]⟩,.slice none 0 0] hxb)
      have HOv3:=lhi (Blk.of_heap ((hal).block _ HOv2.out.lt) HOv2.out)
      have HVv3:=lhi (HVv2.out.below (hal))
      show K _ (v2.alloc (.cells #[.int .i64 0,.int .i64 0,.int .i64 0,.bool false,.string ⟨#[]⟩,.slice none 0 0] 41))
      refine hK.out _ _ HBv3.out (fun hHeld=>?_)
      clear hK K hal
      rw[<-hxb]
      clear hxb
      generalize v2.alloc (.cells #[.int .i64 0,.int .i64 0,.int .i64 0,.bool false,.string ⟨#[]⟩,.slice none 0 0] 41)=v3 at*
      have hox:ob≠xb:=Blk.ne_ HOv3.out HXv3.out (by decide)
      have hxo:=Ne.symm hox
      have hsbl:=HSB.out.lt
      have HR:=lhi (mk_roundS HWR.out HBv3.out HOv3.out HXv3.out hobl hxbl hox (by omega) (by omega) HSB.out HVv3.out (.slice A1 n1 cap1) (.slice O1 no1 ocap1) (.slice M1 nm1 mcap1) ⟨_,_,_,rfl⟩ ⟨_,_,_,rfl⟩ ⟨_,_,_,rfl⟩)
      obtain⟨⟨z0,z1,z2⟩,y0,y1,y2⟩:=blk3c HOv3.out
      refine wpAnyH_ready (rs:=[11]) (by kernel_rfl) (by simp) ?_
      refine AllReadyH.cons rfl (fun K hK=>?_) AllReadyH.nil
      go_simp
      show K _ (w3F v3 ob (.slice A1 n1 cap1) (.slice O1 no1 ocap1) (.slice M1 nm1 mcap1))
      refine hK.out _ _ (HR.out.b3) (fun hHeld=>?_)
      clear hK K
      obtain⟨⟨r0,r1,r2,r3,r4,r5⟩,l0,l1,l2,l3,l4,l5⟩:=blk6c HR.out.x3
      refine wpAnyH_ready (rs:=[12]) (by kernel_rfl) (by simp) ?_
      refine AllReadyH.cons rfl (fun K hK=>?_) AllReadyH.nil
      go_simp
      show K _ (w9F v3 ob xb (.slice A1 n1 cap1) (.slice O1 no1 ocap1) (.slice M1 nm1 mcap1))
      refine hK.out _ _ (HR.out.b9) (fun hHeld=>?_)
      clear hK K
      have HEND:=lhi (And.intro HR.out.r (Blk.of_heap (HR.out.b9.block _ HCB.out.lt) HCB.out))
      clear HR z0 z1 z2 y0 y1 y2 r0 r1 r2 r3 r4 r5 l0 l1 l2 l3 l4 l5 hHeld
      generalize (w9F v3 ob xb (.slice A1 n1 cap1) (.slice O1 no1 ocap1) (.slice M1 nm1 mcap1))=wz at*
      refine wpAnyH_done (by kernel_rfl) ?_ _
      go_wp2_with (fail)
      go_meet
      case rel=>exact HEND.out
     ·go_simp
      obtain⟨xb,hxb⟩: ∃x,x=v1.heap.size:=⟨_,rfl⟩
      have hxbl:wr.heap.size<=xb:=by rw[hxb];exact HBv1.out.size
      have hal:Below v1.heap.size v1 (v1.alloc (.cells #[.int .i64 0,.int .i64 0,.int .i64 0,.bool false,.string ⟨#[]⟩,.slice none 0 0] 41)):=(Below.refl _ _).alloc (Nat.le_refl _) (.cells #[.int .i64 0,.int .i64 0,.int .i64 0,.bool false,.string ⟨#[]⟩,.slice none 0 0] 41)
      have HBv4:=lhi (HBv1.out.alloc HBv1.out.size (.cells #[.int .i64 0,.int .i64 0,.int .i64 0,.bool false,.string ⟨#[]⟩,.slice none 0 0] 41))
      have HXv4:=lhi (Blk.newAt v1 41 #[.int .i64 0,.int .i64 0,.int .i64 0,.bool false,.string ⟨#[]⟩,.slice none 0 0] hxb)
      have HVv4:=lhi (HVv1.out.below (hal))
      show K _ (v1.alloc (.cells #[.int .i64 0,.int .i64 0,.int .i64 0,.bool false,.string ⟨#[]⟩,.slice none 0 0] 41))
      refine hK.out _ _ HBv4.out (fun hHeld=>?_)
      clear hK K hal
      rw[<-hxb]
      clear hxb
      generalize v1.alloc (.cells #[.int .i64 0,.int .i64 0,.int .i64 0,.bool false,.string ⟨#[]⟩,.slice none 0 0] 41)=v4 at*
      refine wpAnyH_ready (rs:=[9]) (by kernel_rfl) (by simp) ?_
      refine AllReadyH.cons rfl (fun K hK=>?_) AllReadyH.nil
      go_simp
      obtain⟨ob,hob⟩: ∃x,x=v4.heap.size:=⟨_,rfl⟩
      have hobl:wr.heap.size<=ob:=by rw[hob];exact HBv4.out.size
      have hal:Below v4.heap.size v4 (v4.alloc (.cells #[.slice none 0 0,.slice none 0 0,.slice none 0 0] 30)):=(Below.refl _ _).alloc (Nat.le_refl _) (.cells #[.slice none 0 0,.slice none 0 0,.slice none 0 0] 30)
      have HBv5:=lhi (HBv4.out.alloc HBv4.out.size (.cells #[.slice none 0 0,.slice none 0 0,.slice none 0 0] 30))
      have HOv5:=lhi (Blk.newAt v4 30 #[.slice none 0 0,.slice none 0 0,.slice none 0 0] hob)
      have HXv5:=lhi (Blk.of_heap ((hal).block _ HXv4.out.lt) HXv4.out)
      have HVv5:=lhi (HVv4.out.below (hal))
      show K _ (v4.alloc (.cells #[.slice none 0 0,.slice none 0 0,.slice none 0 0] 30))
      refine hK.out _ _ HBv5.out (fun hHeld=>?_)
      clear hK K hal
      rw[<-hob]
      clear hob
      generalize v4.alloc (.cells #[.slice none 0 0,.slice none 0 0,.slice none 0 0] 30)=v5 at*
      have hox:ob≠xb:=Blk.ne_ HOv5.out HXv5.out (by decide)
      have hxo:=Ne.symm hox
      have hsbl:=HSB.out.lt
      have HR:=lhi (mk_roundS HWR.out HBv5.out HOv5.out HXv5.out hobl hxbl hox (by omega) (by omega) HSB.out HVv5.out (.slice A1 n1 cap1) (.slice O1 no1 ocap1) (.slice M1 nm1 mcap1) ⟨_,_,_,rfl⟩ ⟨_,_,_,rfl⟩ ⟨_,_,_,rfl⟩)
      obtain⟨⟨z0,z1,z2⟩,y0,y1,y2⟩:=blk3c HOv5.out
      refine wpAnyH_ready (rs:=[11]) (by kernel_rfl) (by simp) ?_
      refine AllReadyH.cons rfl (fun K hK=>?_) AllReadyH.nil
      go_simp
      show K _ (w3F v5 ob (.slice A1 n1 cap1) (.slice O1 no1 ocap1) (.slice M1 nm1 mcap1))
      refine hK.out _ _ (HR.out.b3) (fun hHeld=>?_)
      clear hK K
      obtain⟨⟨r0,r1,r2,r3,r4,r5⟩,l0,l1,l2,l3,l4,l5⟩:=blk6c HR.out.x3
      refine wpAnyH_ready (rs:=[12]) (by kernel_rfl) (by simp) ?_
      refine AllReadyH.cons rfl (fun K hK=>?_) AllReadyH.nil
      go_simp
      show K _ (w9F v5 ob xb (.slice A1 n1 cap1) (.slice O1 no1 ocap1) (.slice M1 nm1 mcap1))
      refine hK.out _ _ (HR.out.b9) (fun hHeld=>?_)
      clear hK K
      have HEND:=lhi (And.intro HR.out.r (Blk.of_heap (HR.out.b9.block _ HCB.out.lt) HCB.out))
      clear HR z0 z1 z2 y0 y1 y2 r0 r1 r2 r3 r4 r5 l0 l1 l2 l3 l4 l5 hHeld
      generalize (w9F v5 ob xb (.slice A1 n1 cap1) (.slice O1 no1 ocap1) (.slice M1 nm1 mcap1))=wz at*
      refine wpAnyH_done (by kernel_rfl) ?_ _
      go_wp2_with (fail)
      go_meet
      case rel=>exact HEND.out
    ·go_simp
     obtain⟨ob,hob⟩: ∃x,x=v0.heap.size:=⟨_,rfl⟩
     have hobl:wr.heap.size<=ob:=by rw[hob];exact HBv0.out.size
     have hal:Below v0.heap.size v0 (v0.alloc (.cells #[.slice none 0 0,.slice none 0 0,.slice none 0 0] 30)):=(Below.refl _ _).alloc (Nat.le_refl _) (.cells #[.slice none 0 0,.slice none 0 0,.slice none 0 0] 30)
     have HBv6:=lhi (HBv0.out.alloc HBv0.out.size (.cells #[.slice none 0 0,.slice none 0 0,.slice none 0 0] 30))
     have HOv6:=lhi (Blk.newAt v0 30 #[.slice none 0 0,.slice none 0 0,.slice none 0 0] hob)
     show K _ (v0.alloc (.cells #[.slice none 0 0,.slice none 0 0,.slice none 0 0] 30))
     refine hK.out _ _ HBv6.out (fun hHeld=>?_)
     clear hK K hal
     rw[<-hob]
     clear hob
     generalize v0.alloc (.cells #[.slice none 0 0,.slice none 0 0,.slice none 0 0] 30)=v6 at*
     refine wpAnyH_ready (rs:=[5,10]) (by kernel_rfl) (by simp) ?_
     refine AllReadyH.cons rfl (fun K hK=>?_) (AllReadyH.cons rfl (fun K hK=>?_) AllReadyH.nil)
     ·go_simp
      refine(HDO.out v6 HBv6.out).mono ?_
      rintro e v7 ⟨⟨iv1,ov1,mv1,ev1,rfl,hV1⟩,hB1⟩
      obtain⟨A1,cap1,rfl⟩:=hV1.ino.at'.form
      obtain⟨O1,ocap1,rfl⟩:=hV1.opn.at'.form
      obtain⟨M1,mcap1,rfl⟩:=hV1.mad.at'.form
      generalize (SQ (j+1)).inodes.length=n1 at hV1⊢
      generalize (SQ (j+1)).opens.length=no1 at hV1⊢
      generalize (SQ (j+1)).made.length=nm1 at hV1⊢
      have HBv7:=lhi (HBv6.out.trans (hB1.mono HBv6.out.size))
      have HVv7:=lhi hV1
      have HOv7:=lhi (Blk.of_heap ((hB1).block _ HOv6.out.lt) HOv6.out)
      show K _ v7
      refine hK.out _ _ HBv7.out (fun hHeld=>?_)
      clear hK K hV1 hB1
      refine wpAnyH_take (i:=6) (oi:=⟨some 41,_,_,_,_,_⟩) (v:=?ve9) rfl (by kernel_rfl) (by kernel_rfl) (by kernel_rfl) (fun _ _ _ h=>h) (Or.inl ⟨by kernel_rfl,fun w hSw=>?_⟩) (by assumption) ?_
      rotate_left
      ·(go_simp;rfl)
      simp only[Act.put,lTA,lC0,lCS]
      refine wpAnyH_take (i:=7) (oi:=⟨some 48,_,_,_,_,_⟩) (v:=?ve10) rfl (by kernel_rfl) (by kernel_rfl) (by kernel_rfl) (fun _ _ _ h=>h) (Or.inl ⟨by kernel_rfl,fun w hSw=>?_⟩) (by assumption) ?_
      rotate_left
      ·(go_simp;rfl)
      simp only[Act.put,lTA,lC0,lCS]
      refine wpAnyH_take (i:=8) (oi:=⟨some 49,_,_,_,_,_⟩) (v:=?ve11) rfl (by kernel_rfl) (by kernel_rfl) (by kernel_rfl) (fun _ _ _ h=>h) (Or.inl ⟨by kernel_rfl,fun w hSw=>?_⟩) (by assumption) ?_
      rotate_left
      ·(go_simp;rfl)
      simp only[Act.put,lTA,lC0,lCS]
      refine wpAnyH_ready (rs:=[10]) (by kernel_rfl) (by simp) ?_
      refine AllReadyH.cons rfl (fun K hK=>?_) AllReadyH.nil
      go_simp
      obtain⟨xb,hxb⟩: ∃x,x=v7.heap.size:=⟨_,rfl⟩
      have hxbl:wr.heap.size<=xb:=by rw[hxb];exact HBv7.out.size
      have hal:Below v7.heap.size v7 (v7.alloc (.cells #[.int .i64 0,.int .i64 0,.int .i64 0,.bool false,.string ⟨#[]⟩,.slice none 0 0] 41)):=(Below.refl _ _).alloc (Nat.le_refl _) (.cells #[.int .i64 0,.int .i64 0,.int .i64 0,.bool false,.string ⟨#[]⟩,.slice none 0 0] 41)
      have HBv8:=lhi (HBv7.out.alloc HBv7.out.size (.cells #[.int .i64 0,.int .i64 0,.int .i64 0,.bool false,.string ⟨#[]⟩,.slice none 0 0] 41))
      have HXv8:=lhi (Blk.newAt v7 41 #[.int .i64 0,.int .i64 0,.int .i64 0,.bool false,.string ⟨#[]⟩,.slice none 0 0] hxb)
      have HOv8:=lhi (Blk.of_heap ((hal).block _ HOv7.out.lt) HOv7.out)
      have HVv8:=lhi (HVv7.out.below (hal))
      show K _ (v7.alloc (.cells #[.int .i64 0,.int .i64 0,.int .i64 0,.bool false,.string ⟨#[]⟩,.slice none 0 0] 41))
      refine hK.out _ _ HBv8.out (fun hHeld=>?_)
      clear hK K hal
      rw[<-hxb]
      clear hxb
      generalize v7.alloc (.cells #[.int .i64 0,.int .i64 0,.int .i64 0,.bool false,.string ⟨#[]⟩,.slice none 0 0] 41)=v8 at*
      have hox:ob≠xb:=Blk.ne_ HOv8.out HXv8.out (by decide)
      have hxo:=Ne.symm hox
      have hsbl:=HSB.out.lt
      have HR:=lhi (mk_roundS HWR.out HBv8.out HOv8.out HXv8.out hobl hxbl hox (by omega) (by omega) HSB.out HVv8.out (.slice A1 n1 cap1) (.slice O1 no1 ocap1) (.slice M1 nm1 mcap1) ⟨_,_,_,rfl⟩ ⟨_,_,_,rfl⟩ ⟨_,_,_,rfl⟩)
      obtain⟨⟨z0,z1,z2⟩,y0,y1,y2⟩:=blk3c HOv8.out
      refine wpAnyH_ready (rs:=[11]) (by kernel_rfl) (by simp) ?_
      refine AllReadyH.cons rfl (fun K hK=>?_) AllReadyH.nil
      go_simp
      show K _ (w3F v8 ob (.slice A1 n1 cap1) (.slice O1 no1 ocap1) (.slice M1 nm1 mcap1))
      refine hK.out _ _ (HR.out.b3) (fun hHeld=>?_)
      clear hK K
      obtain⟨⟨r0,r1,r2,r3,r4,r5⟩,l0,l1,l2,l3,l4,l5⟩:=blk6c HR.out.x3
      refine wpAnyH_ready (rs:=[12]) (by kernel_rfl) (by simp) ?_
      refine AllReadyH.cons rfl (fun K hK=>?_) AllReadyH.nil
      go_simp
      show K _ (w9F v8 ob xb (.slice A1 n1 cap1) (.slice O1 no1 ocap1) (.slice M1 nm1 mcap1))
      refine hK.out _ _ (HR.out.b9) (fun hHeld=>?_)
      clear hK K
      have HEND:=lhi (And.intro HR.out.r (Blk.of_heap (HR.out.b9.block _ HCB.out.lt) HCB.out))
      clear HR z0 z1 z2 y0 y1 y2 r0 r1 r2 r3 r4 r5 l0 l1 l2 l3 l4 l5 hHeld
      generalize (w9F v8 ob xb (.slice A1 n1 cap1) (.slice O1 no1 ocap1) (.slice M1 nm1 mcap1))=wz at*
      refine wpAnyH_done (by kernel_rfl) ?_ _
      go_wp2_with (fail)
      go_meet
      case rel=>exact HEND.out
     ·go_simp
      obtain⟨xb,hxb⟩: ∃x,x=v6.heap.size:=⟨_,rfl⟩
      have hxbl:wr.heap.size<=xb:=by rw[hxb];exact HBv6.out.size
      have hal:Below v6.heap.size v6 (v6.alloc (.cells #[.int .i64 0,.int .i64 0,.int .i64 0,.bool false,.string ⟨#[]⟩,.slice none 0 0] 41)):=(Below.refl _ _).alloc (Nat.le_refl _) (.cells #[.int .i64 0,.int .i64 0,.int .i64 0,.bool false,.string ⟨#[]⟩,.slice none 0 0] 41)
      have HBv9:=lhi (HBv6.out.alloc HBv6.out.size (.cells #[.int .i64 0,.int .i64 0,.int .i64 0,.bool false,.string ⟨#[]⟩,.slice none 0 0] 41))
      have HXv9:=lhi (Blk.newAt v6 41 #[.int .i64 0,.int .i64 0,.int .i64 0,.bool false,.string ⟨#[]⟩,.slice none 0 0] hxb)
      have HOv9:=lhi (Blk.of_heap ((hal).block _ HOv6.out.lt) HOv6.out)
      show K _ (v6.alloc (.cells #[.int .i64 0,.int .i64 0,.int .i64 0,.bool false,.string ⟨#[]⟩,.slice none 0 0] 41))
      refine hK.out _ _ HBv9.out (fun hHeld=>?_)
      clear hK K hal
      rw[<-hxb]
      clear hxb
      generalize v6.alloc (.cells #[.int .i64 0,.int .i64 0,.int .i64 0,.bool false,.string ⟨#[]⟩,.slice none 0 0] 41)=v9 at*
      refine wpAnyH_ready (rs:=[5]) (by kernel_rfl) (by simp) ?_
      refine AllReadyH.cons rfl (fun K hK=>?_) AllReadyH.nil
      go_simp
      refine(HDO.out v9 HBv9.out).mono ?_
      rintro e v10 ⟨⟨iv1,ov1,mv1,ev1,rfl,hV1⟩,hB1⟩
      obtain⟨A1,cap1,rfl⟩:=hV1.ino.at'.form
      obtain⟨O1,ocap1,rfl⟩:=hV1.opn.at'.form
      obtain⟨M1,mcap1,rfl⟩:=hV1.mad.at'.form
      generalize (SQ (j+1)).inodes.length=n1 at hV1⊢
      generalize (SQ (j+1)).opens.length=no1 at hV1⊢
      generalize (SQ (j+1)).made.length=nm1 at hV1⊢
      have HBv10:=lhi (HBv9.out.trans (hB1.mono HBv9.out.size))
      have HVv10:=lhi hV1
      have HOv10:=lhi (Blk.of_heap ((hB1).block _ HOv9.out.lt) HOv9.out)
      have HXv10:=lhi (Blk.of_heap ((hB1).block _ HXv9.out.lt) HXv9.out)
      show K _ v10
      refine hK.out _ _ HBv10.out (fun hHeld=>?_)
      clear hK K hV1 hB1
      refine wpAnyH_take (i:=6) (oi:=⟨some 41,_,_,_,_,_⟩) (v:=?ve12) rfl (by kernel_rfl) (by kernel_rfl) (by kernel_rfl) (fun _ _ _ h=>h) (Or.inl ⟨by kernel_rfl,fun w hSw=>?_⟩) (by assumption) ?_
      rotate_left
      ·(go_simp;rfl)
      simp only[Act.put,lTA,lC0,lCS]
      refine wpAnyH_take (i:=7) (oi:=⟨some 48,_,_,_,_,_⟩) (v:=?ve13) rfl (by kernel_rfl) (by kernel_rfl) (by kernel_rfl) (fun _ _ _ h=>h) (Or.inl ⟨by kernel_rfl,fun w hSw=>?_⟩) (by assumption) ?_
      rotate_left
      ·(go_simp;rfl)
      simp only[Act.put,lTA,lC0,lCS]
      refine wpAnyH_take (i:=8) (oi:=⟨some 49,_,_,_,_,_⟩) (v:=?ve14) rfl (by kernel_rfl) (by kernel_rfl) (by kernel_rfl) (fun _ _ _ h=>h) (Or.inl ⟨by kernel_rfl,fun w hSw=>?_⟩) (by assumption) ?_
      rotate_left
      ·(go_simp;rfl)
      simp only[Act.put,lTA,lC0,lCS]
      have hox:ob≠xb:=Blk.ne_ HOv10.out HXv10.out (by decide)
      have hxo:=Ne.symm hox
      have hsbl:=HSB.out.lt
      have HR:=lhi (mk_roundS HWR.out HBv10.out HOv10.out HXv10.out hobl hxbl hox (by omega) (by omega) HSB.out HVv10.out (.slice A1 n1 cap1) (.slice O1 no1 ocap1) (.slice M1 nm1 mcap1) ⟨_,_,_,rfl⟩ ⟨_,_,_,rfl⟩ ⟨_,_,_,rfl⟩)
      obtain⟨⟨z0,z1,z2⟩,y0,y1,y2⟩:=blk3c HOv10.out
      refine wpAnyH_ready (rs:=[11]) (by kernel_rfl) (by simp) ?_
      refine AllReadyH.cons rfl (fun K hK=>?_) AllReadyH.nil
      go_simp
      show K _ (w3F v10 ob (.slice A1 n1 cap1) (.slice O1 no1 ocap1) (.slice M1 nm1 mcap1))
      refine hK.out _ _ (HR.out.b3) (fun hHeld=>?_)
      clear hK K
      obtain⟨⟨r0,r1,r2,r3,r4,r5⟩,l0,l1,l2,l3,l4,l5⟩:=blk6c HR.out.x3
      refine wpAnyH_ready (rs:=[12]) (by kernel_rfl) (by simp) ?_
      refine AllReadyH.cons rfl (fun K hK=>?_) AllReadyH.nil
      go_simp
      show K _ (w9F v10 ob xb (.slice A1 n1 cap1) (.slice O1 no1 ocap1) (.slice M1 nm1 mcap1))
      refine hK.out _ _ (HR.out.b9) (fun hHeld=>?_)
      clear hK K
      have HEND:=lhi (And.intro HR.out.r (Blk.of_heap (HR.out.b9.block _ HCB.out.lt) HCB.out))
      clear HR z0 z1 z2 y0 y1 y2 r0 r1 r2 r3 r4 r5 l0 l1 l2 l3 l4 l5 hHeld
      generalize (w9F v10 ob xb (.slice A1 n1 cap1) (.slice O1 no1 ocap1) (.slice M1 nm1 mcap1))=wz at*
      refine wpAnyH_done (by kernel_rfl) ?_ _
      go_wp2_with (fail)
      go_meet
      case rel=>exact HEND.out
    ·go_simp
     obtain⟨xb,hxb⟩: ∃x,x=v0.heap.size:=⟨_,rfl⟩
     have hxbl:wr.heap.size<=xb:=by rw[hxb];exact HBv0.out.size
     have hal:Below v0.heap.size v0 (v0.alloc (.cells #[.int .i64 0,.int .i64 0,.int .i64 0,.bool false,.string ⟨#[]⟩,.slice none 0 0] 41)):=(Below.refl _ _).alloc (Nat.le_refl _) (.cells #[.int .i64 0,.int .i64 0,.int .i64 0,.bool false,.string ⟨#[]⟩,.slice none 0 0] 41)
     have HBv11:=lhi (HBv0.out.alloc HBv0.out.size (.cells #[.int .i64 0,.int .i64 0,.int .i64 0,.bool false,.string ⟨#[]⟩,.slice none 0 0] 41))
     have HXv11:=lhi (Blk.newAt v0 41 #[.int .i64 0,.int .i64 0,.int .i64 0,.bool false,.string ⟨#[]⟩,.slice none 0 0] hxb)
     show K _ (v0.alloc (.cells #[.int .i64 0,.int .i64 0,.int .i64 0,.bool false,.string ⟨#[]⟩,.slice none 0 0] 41))
     refine hK.out _ _ HBv11.out (fun hHeld=>?_)
     clear hK K hal
     rw[<-hxb]
     clear hxb
     generalize v0.alloc (.cells #[.int .i64 0,.int .i64 0,.int .i64 0,.bool false,.string ⟨#[]⟩,.slice none 0 0] 41)=v11 at*
     refine wpAnyH_ready (rs:=[5,9]) (by kernel_rfl) (by simp) ?_
     refine AllReadyH.cons rfl (fun K hK=>?_) (AllReadyH.cons rfl (fun K hK=>?_) AllReadyH.nil)
     ·go_simp
      refine(HDO.out v11 HBv11.out).mono ?_
      rintro e v12 ⟨⟨iv1,ov1,mv1,ev1,rfl,hV1⟩,hB1⟩
      obtain⟨A1,cap1,rfl⟩:=hV1.ino.at'.form
      obtain⟨O1,ocap1,rfl⟩:=hV1.opn.at'.form
      obtain⟨M1,mcap1,rfl⟩:=hV1.mad.at'.form
      generalize (SQ (j+1)).inodes.length=n1 at hV1⊢
      generalize (SQ (j+1)).opens.length=no1 at hV1⊢
      generalize (SQ (j+1)).made.length=nm1 at hV1⊢
      have HBv12:=lhi (HBv11.out.trans (hB1.mono HBv11.out.size))
      have HVv12:=lhi hV1
      have HXv12:=lhi (Blk.of_heap ((hB1).block _ HXv11.out.lt) HXv11.out)
      show K _ v12
      refine hK.out _ _ HBv12.out (fun hHeld=>?_)
      clear hK K hV1 hB1
      refine wpAnyH_take (i:=6) (oi:=⟨some 41,_,_,_,_,_⟩) (v:=?ve15) rfl (by kernel_rfl) (by kernel_rfl) (by kernel_rfl) (fun _ _ _ h=>h) (Or.inl ⟨by kernel_rfl,fun w hSw=>?_⟩) (by assumption) ?_
      rotate_left
      ·(go_simp;rfl)
      simp only[Act.put,lTA,lC0,lCS]
      refine wpAnyH_take (i:=7) (oi:=⟨some 48,_,_,_,_,_⟩) (v:=?ve16) rfl (by kernel_rfl) (by kernel_rfl) (by kernel_rfl) (fun _ _ _ h=>h) (Or.inl ⟨by kernel_rfl,fun w hSw=>?_⟩) (by assumption) ?_
      rotate_left
      ·(go_simp;rfl)
      simp only[Act.put,lTA,lC0,lCS]
      refine wpAnyH_take (i:=8) (oi:=⟨some 49,_,_,_,_,_⟩) (v:=?ve17) rfl (by kernel_rfl) (by kernel_rfl) (by kernel_rfl) (fun _ _ _ h=>h) (Or.inl ⟨by kernel_rfl,fun w hSw=>?_⟩) (by assumption) ?_
      rotate_left
      ·(go_simp;rfl)
      simp only[Act.put,lTA,lC0,lCS]
      refine wpAnyH_ready (rs:=[9]) (by kernel_rfl) (by simp) ?_
      refine AllReadyH.cons rfl (fun K hK=>?_) AllReadyH.nil
      go_simp
      obtain⟨ob,hob⟩: ∃x,x=v12.heap.size:=⟨_,rfl⟩
      have hobl:wr.heap.size<=ob:=by rw[hob];exact HBv12.out.size
      have hal:Below v12.heap.size v12 (v12.alloc (.cells #[.slice none 0 0,.slice none 0 0,.slice none 0 0] 30)):=(Below.refl _ _).alloc (Nat.le_refl _) (.cells #[.slice none 0 0,.slice none 0 0,.slice none 0 0] 30)
      have HBv13:=lhi (HBv12.out.alloc HBv12.out.size (.cells #[.slice none 0 0,.slice none 0 0,.slice none 0 0] 30))
      have HOv13:=lhi (Blk.newAt v12 30 #[.slice none 0 0,.slice none 0 0,.slice none 0 0] hob)
      have HXv13:=lhi (Blk.of_heap ((hal).block _ HXv12.out.lt) HXv12.out)
      have HVv13:=lhi (HVv12.out.below (hal))
      show K _ (v12.alloc (.cells #[.slice none 0 0,.slice none 0 0,.slice none 0 0] 30))
      refine hK.out _ _ HBv13.out (fun hHeld=>?_)
      clear hK K hal
      rw[<-hob]
      clear hob
      generalize v12.alloc (.cells #[.slice none 0 0,.slice none 0 0,.slice none 0 0] 30)=v13 at*
      have hox:ob≠xb:=Blk.ne_ HOv13.out HXv13.out (by decide)
      have hxo:=Ne.symm hox
      have hsbl:=HSB.out.lt
      have HR:=lhi (mk_roundS HWR.out HBv13.out HOv13.out HXv13.out hobl hxbl hox (by omega) (by omega) HSB.out HVv13.out (.slice A1 n1 cap1) (.slice O1 no1 ocap1) (.slice M1 nm1 mcap1) ⟨_,_,_,rfl⟩ ⟨_,_,_,rfl⟩ ⟨_,_,_,rfl⟩)
      obtain⟨⟨z0,z1,z2⟩,y0,y1,y2⟩:=blk3c HOv13.out
      refine wpAnyH_ready (rs:=[11]) (by kernel_rfl) (by simp) ?_
      refine AllReadyH.cons rfl (fun K hK=>?_) AllReadyH.nil
      go_simp
      show K _ (w3F v13 ob (.slice A1 n1 cap1) (.slice O1 no1 ocap1) (.slice M1 nm1 mcap1))
      refine hK.out _ _ (HR.out.b3) (fun hHeld=>?_)
      clear hK K
      obtain⟨⟨r0,r1,r2,r3,r4,r5⟩,l0,l1,l2,l3,l4,l5⟩:=blk6c HR.out.x3
      refine wpAnyH_ready (rs:=[12]) (by kernel_rfl) (by simp) ?_
      refine AllReadyH.cons rfl (fun K hK=>?_) AllReadyH.nil
      go_simp
      show K _ (w9F v13 ob xb (.slice A1 n1 cap1) (.slice O1 no1 ocap1) (.slice M1 nm1 mcap1))
      refine hK.out _ _ (HR.out.b9) (fun hHeld=>?_)
      clear hK K
      have HEND:=lhi (And.intro HR.out.r (Blk.of_heap (HR.out.b9.block _ HCB.out.lt) HCB.out))
      clear HR z0 z1 z2 y0 y1 y2 r0 r1 r2 r3 r4 r5 l0 l1 l2 l3 l4 l5 hHeld
      generalize (w9F v13 ob xb (.slice A1 n1 cap1) (.slice O1 no1 ocap1) (.slice M1 nm1 mcap1))=wz at*
      refine wpAnyH_done (by kernel_rfl) ?_ _
      go_wp2_with (fail)
      go_meet
      case rel=>exact HEND.out
     ·go_simp
      obtain⟨ob,hob⟩: ∃x,x=v11.heap.size:=⟨_,rfl⟩
      have hobl:wr.heap.size<=ob:=by rw[hob];exact HBv11.out.size
      have hal:Below v11.heap.size v11 (v11.alloc (.cells #[.slice none 0 0,.slice none 0 0,.slice none 0 0] 30)):=(Below.refl _ _).alloc (Nat.le_refl _) (.cells #[.slice none 0 0,.slice none 0 0,.slice none 0 0] 30)
      have HBv14:=lhi (HBv11.out.alloc HBv11.out.size (.cells #[.slice none 0 0,.slice none 0 0,.slice none 0 0] 30))
      have HOv14:=lhi (Blk.newAt v11 30 #[.slice none 0 0,.slice none 0 0,.slice none 0 0] hob)
      have HXv14:=lhi (Blk.of_heap ((hal).block _ HXv11.out.lt) HXv11.out)
      show K _ (v11.alloc (.cells #[.slice none 0 0,.slice none 0 0,.slice none 0 0] 30))
      refine hK.out _ _ HBv14.out (fun hHeld=>?_)
      clear hK K hal
      rw[<-hob]
      clear hob
      generalize v11.alloc (.cells #[.slice none 0 0,.slice none 0 0,.slice none 0 0] 30)=v14 at*
      refine wpAnyH_ready (rs:=[5]) (by kernel_rfl) (by simp) ?_
      refine AllReadyH.cons rfl (fun K hK=>?_) AllReadyH.nil
      go_simp
      refine(HDO.out v14 HBv14.out).mono ?_
      rintro e v15 ⟨⟨iv1,ov1,mv1,ev1,rfl,hV1⟩,hB1⟩
      obtain⟨A1,cap1,rfl⟩:=hV1.ino.at'.form
      obtain⟨O1,ocap1,rfl⟩:=hV1.opn.at'.form
      obtain⟨M1,mcap1,rfl⟩:=hV1.mad.at'.form
      generalize (SQ (j+1)).inodes.length=n1 at hV1⊢
      generalize (SQ (j+1)).opens.length=no1 at hV1⊢
      generalize (SQ (j+1)).made.length=nm1 at hV1⊢
      have HBv15:=lhi (HBv14.out.trans (hB1.mono HBv14.out.size))
      have HVv15:=lhi hV1
      have HOv15:=lhi (Blk.of_heap ((hB1).block _ HOv14.out.lt) HOv14.out)
      have HXv15:=lhi (Blk.of_heap ((hB1).block _ HXv14.out.lt) HXv14.out)
      show K _ v15
      refine hK.out _ _ HBv15.out (fun hHeld=>?_)
      clear hK K hV1 hB1
      refine wpAnyH_take (i:=6) (oi:=⟨some 41,_,_,_,_,_⟩) (v:=?ve18) rfl (by kernel_rfl) (by kernel_rfl) (by kernel_rfl) (fun _ _ _ h=>h) (Or.inl ⟨by kernel_rfl,fun w hSw=>?_⟩) (by assumption) ?_
      rotate_left
      ·(go_simp;rfl)
      simp only[Act.put,lTA,lC0,lCS]
      refine wpAnyH_take (i:=7) (oi:=⟨some 48,_,_,_,_,_⟩) (v:=?ve19) rfl (by kernel_rfl) (by kernel_rfl) (by kernel_rfl) (fun _ _ _ h=>h) (Or.inl ⟨by kernel_rfl,fun w hSw=>?_⟩) (by assumption) ?_
      rotate_left
      ·(go_simp;rfl)
      simp only[Act.put,lTA,lC0,lCS]
      refine wpAnyH_take (i:=8) (oi:=⟨some 49,_,_,_,_,_⟩) (v:=?ve20) rfl (by kernel_rfl) (by kernel_rfl) (by kernel_rfl) (fun _ _ _ h=>h) (Or.inl ⟨by kernel_rfl,fun w hSw=>?_⟩) (by assumption) ?_
      rotate_left
      ·(go_simp;rfl)
      simp only[Act.put,lTA,lC0,lCS]
      have hox:ob≠xb:=Blk.ne_ HOv15.out HXv15.out (by decide)
      have hxo:=Ne.symm hox
      have hsbl:=HSB.out.lt
      have HR:=lhi (mk_roundS HWR.out HBv15.out HOv15.out HXv15.out hobl hxbl hox (by omega) (by omega) HSB.out HVv15.out (.slice A1 n1 cap1) (.slice O1 no1 ocap1) (.slice M1 nm1 mcap1) ⟨_,_,_,rfl⟩ ⟨_,_,_,rfl⟩ ⟨_,_,_,rfl⟩)
      obtain⟨⟨z0,z1,z2⟩,y0,y1,y2⟩:=blk3c HOv15.out
      refine wpAnyH_ready (rs:=[11]) (by kernel_rfl) (by simp) ?_
      refine AllReadyH.cons rfl (fun K hK=>?_) AllReadyH.nil
      go_simp
      show K _ (w3F v15 ob (.slice A1 n1 cap1) (.slice O1 no1 ocap1) (.slice M1 nm1 mcap1))
      refine hK.out _ _ (HR.out.b3) (fun hHeld=>?_)
      clear hK K
      obtain⟨⟨r0,r1,r2,r3,r4,r5⟩,l0,l1,l2,l3,l4,l5⟩:=blk6c HR.out.x3
      refine wpAnyH_ready (rs:=[12]) (by kernel_rfl) (by simp) ?_
      refine AllReadyH.cons rfl (fun K hK=>?_) AllReadyH.nil
      go_simp
      show K _ (w9F v15 ob xb (.slice A1 n1 cap1) (.slice O1 no1 ocap1) (.slice M1 nm1 mcap1))
      refine hK.out _ _ (HR.out.b9) (fun hHeld=>?_)
      clear hK K
      have HEND:=lhi (And.intro HR.out.r (Blk.of_heap (HR.out.b9.block _ HCB.out.lt) HCB.out))
      clear HR z0 z1 z2 y0 y1 y2 r0 r1 r2 r3 r4 r5 l0 l1 l2 l3 l4 l5 hHeld
      generalize (w9F v15 ob xb (.slice A1 n1 cap1) (.slice O1 no1 ocap1) (.slice M1 nm1 mcap1))=wz at*
      refine wpAnyH_done (by kernel_rfl) ?_ _
      go_wp2_with (fail)
      go_meet
      case rel=>exact HEND.out
   case rest=>
    obtain⟨⟨ob,iv1,ov1,mv1,ev1,rfl,⟨A1,n1,cap1,rfl⟩,⟨O1,no1,ocap1,rfl⟩,⟨M1,nm1,mcap1,rfl⟩,hO,hV,hS,hos,hb⟩,hCC⟩:=hcut
    have HCC:=lhi hCC
    have HO:=lhi hO
    have HV1:=lhi hV
    have HS1:=lhi hS
    have HBC:=lhi hb
    have HSW2:=lhi hsw
    have o0:wc.cell? ⟨ob,0,none⟩=some (.slice A1 n1 cap1):=hO.cell 0
    have o1:wc.cell? ⟨ob,1,none⟩=some (.slice O1 no1 ocap1):=hO.cell 1
    have o2:wc.cell? ⟨ob,2,none⟩=some (.slice M1 nm1 mcap1):=hO.cell 2
    have s0:wc.cell? ⟨sb,0,none⟩=some (.slice A n cap):=hS.cell 0
    have s1:wc.cell? ⟨sb,1,none⟩=some (.slice OA no ocap):=hS.cell 1
    have s2:wc.cell? ⟨sb,2,none⟩=some (.slice MA nm mcap):=hS.cell 2
    have f0:=hS.frozen 0
    have f1:=hS.frozen 1
    have f2:=hS.frozen 2
    clear hO hV hS hb hCC p0 p1 p2 q0 q1 q2 q3 q4 q5 q6 q7
    go_wp2_with (fail)
    go_roundw
    case rel=>
     have hS:=HS1.out
     have S1:=hS.set_ 0 (.slice A1 n1 cap1)
     have S2:=S1.set_ 1 (.slice O1 no1 ocap1)
     have S3:=S2.set_ 2 (.slice M1 nm1 mcap1)
     have V3:=((HV1.out.far hS (by decide) (by decide) (by decide) (by decide) 0 (.slice A1 n1 cap1)).far S1 (by decide) (by decide) (by decide) (by decide) 1 (.slice O1 no1 ocap1)).far S2 (by decide) (by decide) (by decide) (by decide) 2 (.slice M1 nm1 mcap1)
     exact⟨j+1,by go_num,by omega,_,_,_,ev1,⟨_,_,_,rfl⟩,⟨_,_,_,rfl⟩,⟨_,_,_,rfl⟩,S3,V3,((HBC.out.setCell (p:=⟨sb,0,none⟩) HSW2.out _).setCell (p:=⟨sb,1,none⟩) HSW2.out _).setCell (p:=⟨sb,2,none⟩) HSW2.out _,HSW2.out,((HCC.out.far (p:=⟨sb,0,none⟩) (Blk.ne_ HCC.out hS (by decide)) _).far (p:=⟨sb,1,none⟩) (Blk.ne_ HCC.out hS (by decide)) _).far (p:=⟨sb,2,none⟩) (Blk.ne_ HCC.out hS (by decide)) _⟩
    case measure=>
     simp only[intOf]
     omega
  ·obtain rfl:j=6:=by omega
   have HBD:=lhi (show Bd (fun b=>b<w.heap.size) wr from fun b hb=>Nat.lt_of_lt_of_le hb HWR.out.size)
   have HLO:=lhi (Load_ok HBD.out (S:=SK D64 4) HV.out.stm inv_D4)
   have hml:(SK D64 4).made.length=4:=rfl
   rw[hml]at HLO
   clear hml
   go_upto_region 13 with(first
    | (go_at_call 8;refine HLO.out.mono ?_;rintro e w5 ⟨fb,s,pb,rfl,hf5,hb5⟩;have HF5:=lhi hf5;have HB5:=lhi (HWR.out.trans (hb5.mono HWR.out.size));clear hf5 hb5 HLO)
    | (go_at_call 9;refine(num_calls _ _).mono ?_;rintro e w' ⟨rfl,rfl⟩))
   clear p0 p1 p2
   have hcat0:=HD0.out
   have hov0: ¬ (9223372036854775807<dat.size+16):=by omega
   have hex:=HDD.out
   have h16:(16:Int)<=d0.size:=by have:=HD0S.out;omega
   go_upto_region 16 with(fail)
   clear hcat0 hov0 hex h16
   obtain⟨v,hqv⟩:=qc_load dd
   have HQV:=lhi hqv
   clear hqv
   go_loopw [14] (fun i wr=>∃(c:Nat) (M:Mem) (ps:List PV),i= .int .i64 c/\c<=4/\FsAt (fun b=>b<w.heap.size) wr fb s pb M ps/\Qc v dd (fun _=>true) M/\ps.length=4/\ (∀i (hi:i<ps.length),(i<c->ps[i]=begW dd i)/\ (c<=i->ps[i]=idleP))/\Below w.heap.size w wr) (fun i _=>4 - (intOf i).toNat)
   case atStart=>exact⟨0,_,_,rfl,by omega,HF5.out,HQV.out,List.length_replicate,fun i hi=>⟨fun q=>absurd q (by omega),fun _=>List.getElem_replicate ..⟩,HB5.out⟩
   case round=>
    obtain⟨c,M,ps,rfl,hc,hf,hq,hpl,hps,hb⟩:=hrel
    have HF:=lhi hf
    have HQ:=lhi hq
    have HPS:=lhi hps
    have HBR:=lhi hb
    have HPL:=lhi hpl
    clear hf hq hps hb HF5 HB5
    by_cases hcj:c<4
    ·have hc1:(c:Int)<4:=by omega
     have hcl:c<ps.length:=by omega
     have HBG:=lhi (begin_ok HF.out hcl (c:=cWrite c dd) rfl ⟨by show(0:Int)<=5;omega,by show(5:Int)<=16;omega⟩ (by rw[(HPS.out c hcl).2 (Nat.le_refl _)];rfl))
     simp only[CallV.cs,cWrite]at HBG
     go_wp2_with (first
      | (go_at_call 17;refine HBG.out.mono ?_;rintro e w8 ⟨rfl,hf8,hk8⟩;have HF8:=lhi hf8;have HK8:=lhi hk8;clear hf8 hk8)
      | (go_at_call 9;refine(num_calls _ _).mono ?_;rintro e w' ⟨rfl,rfl⟩))
     go_roundw
     case rel=>
      have hf:=HF8.out
      have hkk:Below w.heap.size wr w8:=⟨HK8.out.k.os,HK8.out.k.tape,HK8.out.k.output,HK8.out.k.size,fun b hb=>HK8.out.k.block b hb⟩
      refine⟨c+1,M.clear c,ps.set c (begW dd c),by go_num,by omega,hf,HQ.out.clear rfl hcj,by rw[List.length_set];exact HPL.out,fun i hi=>?_,HBR.out.trans hkk⟩
      have hi':i<ps.length:=by simpa using hi
      rw[List.getElem_set]
      by_cases e:c=i
      ·subst e
       rw[if_pos rfl]
       exact⟨fun _=>rfl,fun q=>absurd q (by omega)⟩
      ·rw[if_neg e]
       exact⟨fun q=>(HPS.out i hi').1 (by omega),fun q=>(HPS.out i hi').2 (by omega)⟩
     case measure=>
      simp only[intOf]
      omega
    ·obtain rfl:c=4:=by omega
     have HPM:=lhi (show QW (fun b=>b<w.heap.size) fb s pb v dd (fun _=>true) wr from⟨M,ps,HF.out,⟨HPL.out,fun i hi=>⟨fun _=>(HPS.out i hi).1 (by have:=HPL.out;omega),fun q=>by cases q⟩⟩,HQ.out⟩)
     have HRN:=lhi (round_calls (L:=fun b=>b<w.heap.size) (w:=wr) (fb:=fb) (s:=s) (pb:=pb) (n:=4) (by omega) (fun b hb=>Nat.lt_of_lt_of_le hb HBR.out.size) (QW (fun b=>b<w.heap.size) fb s pb v dd) (fun b W hq=>by
       obtain⟨M,ps,h1,h2,-⟩:=hq
       exact⟨M,ps,h1,h2.busy,h2.1⟩) (fun b W W' hq hb=>by
       obtain⟨M,ps,h1,h2,h3⟩:=hq
       exact⟨M,ps,h1.below hb,h2,h3⟩) (fun b W i hi hbi hq=>qw_step HDS.out hi hbi hq) (pv:=.slice PA plen pcap) (np:=plen) (Ints.len_le HX.out) (pk:=fun i=>nth xs i) (fun W hkp=>ints_row HX.out HBR.out hkp) (fun i hi=>by
       obtain⟨g,off,-,-,h1,h2⟩:=HX.out.at_ hi HBR.out
       exact⟨h1,h2⟩) (most:=4000) ⟨by omega,by omega⟩ HPM.out)
     go_upto_region 23 with(go_at_call 18;refine HRN.out.mono ?_;rintro e w7 ⟨rfl,⟨b,hq,hb⟩,hk7⟩;have HQ7:=lhi hq;have HB7:=lhi hb;have HK7:=lhi hk7;clear hq hb hk7)
     obtain⟨M7,ps7,hf7,hp7,hq7⟩:=HQ7.out
     have HF7:=lhi hf7
     have HP7:=lhi hp7
     have HQM:=lhi hq7
     clear hf7 hp7 hq7
     have HW7:=lhi (HBR.out.trans (show Below w.heap.size wr w7 from⟨HK7.out.k.os,HK7.out.k.tape,HK7.out.k.output,HK7.out.k.size,fun b hb=>HK7.out.k.block b hb⟩))
     go_upto_region 24 with(fail)
     go_loopw [16] (fun i wr=>∃q:Nat,i= .int .i64 q/\q<=4/\Below w7.heap.size w7 wr) (fun i _=>4 - (intOf i).toNat)
     case atStart=>exact⟨0,rfl,by omega,Below.refl _ _⟩
     case round=>
      obtain⟨q,rfl,hq,hbq⟩:=hrel
      have HBQ:=lhi hbq
      clear hbq
      by_cases hqc:q<4
      ·have hq1:(q:Int)<4:=by omega
       have hql:q<ps7.length:=by have:=HP7.out.1;omega
       go_upto_region 27 with(fail)
       go_loopw [17] (fun i wr=>∃p:Nat,i= .int .i64 p/\p<=q/\Below w7.heap.size w7 wr) (fun i _=>q - (intOf i).toNat)
       case atStart=>exact⟨0,rfl,by omega,HBQ.out⟩
       case round=>
        obtain⟨p,rfl,hp,hbp⟩:=hrel
        have HBP:=lhi hbp
        clear hbp
        by_cases hpq:p<q
        ·have hp1:(p:Int)<q:=by omega
         have HTA:=lhi (ftrace_ok (HF7.out.below HBP.out) HQM.out.ok (by omega) (k:=q) hql (t:=accW q) (by rw[HQM.out.tr q hqc,HB7.out q hqc];rfl))
         have HTB:=lhi (fun(W:World) (hb:Below w7.heap.size w7 W)=>ftrace_ok (HF7.out.below hb) HQM.out.ok (by omega) (k:=p) (by have:=HP7.out.1;omega) (t:=accW p) (by rw[HQM.out.tr p (by omega),HB7.out p (by omega)];rfl))
         have HME:=lhi (show meetT (accW q) (accW p)=false from by simpa using all_range (all_range accs_W hqc) hpq)
         go_wp2_with (first
          | (go_at_call 11;refine HTA.out.mono ?_;rintro e w13 ⟨⟨va,rfl,ha⟩,hb13⟩;have HA:=lhi ha;have HB13:=lhi (HBP.out.trans (hb13.mono HBP.out.size));clear ha hb13 HTA)
          | (go_at_call 11;refine(HTB.out _ HB13.out).mono ?_;rintro e w14 ⟨⟨vb,rfl,hbb⟩,hb14⟩;have HA14:=lhi (own_below HA.out hb14);have HBB:=lhi hbb;have HB14:=lhi (HB13.out.trans (hb14.mono HB13.out.size));clear hbb hb14)
          | (go_at_call 14;refine(tmeet_calls (Sl.ofOwn HA14.out) (Sl.ofOwn HBB.out) (accW_len q) (accW_len p)).mono ?_;rintro e w15 ⟨rfl,hb15⟩;rw[HME.out];have HB15:=lhi (HB14.out.trans (hb15.mono HB14.out.size));clear hb15))
         go_roundw
         case rel=>exact⟨p+1,by go_num,by omega,HB15.out⟩
         case measure=>
          simp only[intOf]
          omega
        ·obtain rfl:p=q:=by omega
         go_wp2_with (fail)
         go_roundw
         case rel=>exact⟨p+1,by go_num,by omega,HBP.out⟩
         case measure=>
          simp only[intOf]
          omega
      ·obtain rfl:q=4:=by omega
       have HST:=lhi (crowd_state HDS.out HB7.out (HF7.out.below HBQ.out) HP7.out HQM.out)
       have HWQ:=lhi (HW7.out.trans (HBQ.out.mono HW7.out.size))
       go_upto_region 32 with(go_at_call 19;refine HST.out.mono ?_;rintro e w8 ⟨⟨iv8,ov8,mv8,ev8,rfl,hst⟩,hf8,hk8⟩;have HV8:=lhi hst;have HK8:=lhi hk8;obtain⟨A8,cap8,rfl,-⟩:=hst.ino;obtain⟨O8,ocap8,rfl,-⟩:=hst.opn;obtain⟨M8,mcap8,rfl,-⟩:=hst.mad;clear hst hf8 hk8 HST)
       have HW8:=lhi (HWQ.out.trans (show Below w.heap.size wr w8 from⟨HK8.out.k.k.os,HK8.out.k.k.tape,HK8.out.k.k.output,HK8.out.k.k.size,fun b hb=>HK8.out.k.k.block b hb⟩))
       obtain⟨tb,htb⟩: ∃x,x=w8.heap.size:=⟨_,rfl⟩
       obtain⟨w9,hw9⟩: ∃x,x=w8.alloc (.cells #[.slice A8 (SK (DD dd) 4).inodes.length cap8,.slice O8 (SK (DD dd) 4).opens.length ocap8,.slice M8 (SK (DD dd) 4).made.length mcap8] 30):=⟨_,rfl⟩
       have hal:Below w8.heap.size w8 w9:=by rw[hw9];exact(Below.refl _ _).alloc (Nat.le_refl _) _
       have HT9:=lhi (show Blk w9 tb 30 _ by rw[hw9,htb];exact Blk.new w8 30 #[.slice A8 (SK (DD dd) 4).inodes.length cap8,.slice O8 (SK (DD dd) 4).opens.length ocap8,.slice M8 (SK (DD dd) 4).made.length mcap8])
       have HRD:=lhi (do_read (by rw[DD_len HDS.out];omega) (HV8.out.below hal))
       rw[piece_DD HDS.out]at HRD
       simp only[CallV.cs,cRead,ResV.cs,readR]at HRD
       have HW9:=lhi (HW8.out.trans (hal.mono HW8.out.size))
       have t0:w9.cell? ⟨tb,0,none⟩=some (.slice A8 (SK (DD dd) 4).inodes.length cap8):=HT9.out.cell 0
       have t1:w9.cell? ⟨tb,1,none⟩=some (.slice O8 (SK (DD dd) 4).opens.length ocap8):=HT9.out.cell 1
       have t2:w9.cell? ⟨tb,2,none⟩=some (.slice M8 (SK (DD dd) 4).made.length mcap8):=HT9.out.cell 2
       rw[<-hw9,<-htb]
       clear hw9 htb hal HV8
       generalize (SK (DD dd) 4).inodes.length=n1 at*
       generalize (SK (DD dd) 4).opens.length=n2 at*
       generalize (SK (DD dd) 4).made.length=n3 at*
       go_upto_region 33 with(go_at_call 12;refine HRD.out.mono ?_;rintro e w10 ⟨⟨iv,ov,mv,ev,rfl,hst⟩,hb10⟩;obtain⟨A9,cap9,rfl,-⟩:=hst.ino;obtain⟨O9,ocap9,rfl,-⟩:=hst.opn;obtain⟨M9,mcap9,rfl,-⟩:=hst.mad;have HB10:=lhi (HW9.out.trans (hb10.mono HW9.out.size));clear hst hb10)
       have hds:=HDS.out
       have hds2:(dd++dd).size=32:=by rw[ByteArray.size_append];omega
       have hds3:(dd++dd++dd).size=48:=by rw[ByteArray.size_append,ByteArray.size_append];omega
       have HEND:=lhi ((HB10.out.alloc HB10.out.size (.cells #[.slice A9 (SK (DD dd) 4).inodes.length cap9,.slice O9 (SK (DD dd) 4).opens.length ocap9,.slice M9 (SK (DD dd) 4).made.length mcap9] 30)).alloc (by have:=HB10.out.size;simp;omega) (.cells #[.int .i64 0,.int .i64 0,.int .i64 0,.bool false,.string (dd++dd++dd++dd),.slice none 0 0] 41))
       go_wp2_with (go_at_call 9;refine(num_calls _ _).mono ?_;rintro e w' ⟨rfl,rfl⟩)
       go_ret
       exact⟨rfl,HEND.out⟩
end Go.Proofs.YtkebjgebkneijaaGreat
