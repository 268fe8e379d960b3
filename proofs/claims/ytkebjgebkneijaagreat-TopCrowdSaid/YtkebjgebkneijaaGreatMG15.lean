/- Texts of one's own that a claim's last text rests on: Ml14 Ml15 Ml16. -/
import Derived.Test.YtkebjgebkneijaaGreatMG14
set_option linter.unusedVariables false
set_option linter.unusedSimpArgs false
namespace Go.Proofs.YtkebjgebkneijaaGreat
section
open Go.RowKit
set_option maxHeartbeats 2000000
theorem bl_no{s t:ByteArray}(h:nlt s t=true):nlt t s=false:=by
 cases h2:nlt t s with
 | false=>rfl
 | true=>have:=nlt_trans h h2;rw[nlt_irrefl]at this;cases this
theorem Inv.slot_le{S:St}(h:Inv S){i j:Nat}(hi:i<S.inodes.length)(hj:j<S.ne i):cnt S i (j+1) (nbucket (S.enm i j))<=4:=by
 have hm:=Inv.ino_mem hi
 have h4:=h.slots _ hm (nbucket (S.enm i j))
 have hk:j< (S.ino i).ents.length:=hj
 refine Nat.le_trans ?_ h4
 have h7:(S.ino i).ents.take (j+1)=(List.range (j+1)).map fun j=>(S.ino i).ents.getD j (ByteArray.empty,0):=by
  refine List.ext_getElem? fun q=>?_
  rw[List.getElem?_map,List.getElem?_take]
  by_cases e:q<j+1
  ·rw[if_pos e,List.getElem?_range e,List.getElem?_eq_getElem (by omega)]
   simp only[Option.map_some]
   rw[getD_get (by omega:q<_)]
  ·rw[if_neg e,List.getElem?_eq_none (by simpa using e)];rfl
 have h6:(((S.ino i).ents.take (j+1)).filter fun e=>nbucket e.1==nbucket (S.enm i j)).length<= ((S.ino i).ents.filter fun e=>nbucket e.1==nbucket (S.enm i j)).length:=((List.take_sublist _ _).filter _).length_le
 rw[h7,List.filter_map,List.length_map]at h6
 exact h6
set_option maxRecDepth 1000000 in
theorem mayEntries_yes{w:World}{sp:Nat}{iv ov mv:Value}{ev:Nat->Value}{S:St}(hS:StM w iv ov mv ev S)(hI:Inv S)(h0:w.cell? ⟨sp,0,none⟩=some iv){k:Nat}(hk:k<S.inodes.length):
  Calls Tryz.prog 98 #[.pointer (some ⟨sp,0,none⟩),ev k] w fun e w'=>e= .returned (.bool true)/\Below w.heap.size w w':=by
 have hsm:=hI.small
 have HS:=lhi hS
 have HI:=lhi hI
 have HENT:=lhi (hS.ent k hk)
 have hne:=hsm.en k
 have HORD:=lhi hI.ord
 have hp0:=World.block_lt_of_cell? _ _ h0
 obtain⟨EA,ecap,hev,-,-⟩:=hS.ent k hk
 rw[hev]at HENT⊢
 obtain⟨ne,hnee⟩: ∃ne,S.ne k=ne:=⟨_,rfl⟩
 have HNE:=lhi hnee
 rw[hnee]at HENT hne⊢
 clear hS hI hsm hev hnee
 go_enter Tryz.func98,Tryz.ntmps98
 go_wp2_with (fail)
 have HB0:=lhi ((Below.refl w.heap.size w).alloc (Nat.le_refl _) (Obj.cells #[.int .i64 0,.int .i64 0,.int .i64 0,.int .i64 0,.int .i64 0,.int .i64 0,.int .i64 0,.int .i64 0] 183))
 have HS0:=lhi (show Blk (w.alloc (Obj.cells #[.int .i64 0,.int .i64 0,.int .i64 0,.int .i64 0,.int .i64 0,.int .i64 0,.int .i64 0,.int .i64 0] 183)) w.heap.size 183 (cntA (cnt S k 0))from Blk.new w 183 (cntA fun _=>0))
 generalize w.alloc (Obj.cells #[.int .i64 0,.int .i64 0,.int .i64 0,.int .i64 0,.int .i64 0,.int .i64 0,.int .i64 0,.int .i64 0] 183)=wl at*
 obtain⟨sl,hsl⟩: ∃sl,w.heap.size=sl:=⟨_,rfl⟩
 have HSL:=lhi hsl
 rw[hsl]
 rw[hsl]at HS0
 clear hsl
 go_loopw [11] (fun i wr=>∃j:Nat,i= .int .i64 j/\j<=ne/\Below w.heap.size w wr/\Blk wr sl 183 (cntA (cnt S k j))) (fun i _=>ne - (intOf i).toNat)
 case atStart=>exact⟨0,rfl,by omega,HB0.out,HS0.out⟩
 case round=>
  obtain⟨j,rfl,hj,hB,hbs⟩:=hrel
  have HB:=lhi hB
  have HBS:=lhi hbs
  by_cases hp:j<ne
  ·obtain⟨-,-,eg,eoff,rfl,hcell⟩:=(HENT.out.keep hB).at_ hp
   have q0:wr.cell? ⟨eg,eoff+j*2,none⟩=some (.string (S.enm k j)):=hcell 0 (by omega)
   have q1:wr.cell? ⟨eg,eoff+j*2+1,none⟩=some (.int .i64 (S.enu k j)):=hcell 1 (by omega)
   have hp2:(j:Int)<ne:=by omega
   obtain⟨g,hg,hgo,-,hne1⟩:=HI.out.enu_in hk (by rw[HNE.out];exact hp)
   have HNM:=lhi (show ncheck (S.enm k j)=0 from HI.out.nam _ (Inv.ino_mem hk) _ (getD_mem (by have:=HNE.out;unfold St.ne at this;omega)))
   have HSLOT:=lhi (HI.out.slot_le hk (by rw[HNE.out];exact hp))
   have HCS:=lhi (cnt_succ S k j)
   have HUP:=lhi (show∀p,j=p+1->nlt (S.enm k p) (S.enm k j)=true from fun p e=>by
    have hl:j< (S.ino k).ents.length:=by have:=HNE.out;unfold St.ne at this;omega
    have:=List.pairwise_iff_getElem.1 (HI.out.up _ (Inv.ino_mem hk)) p j (by omega) hl (by omega)
    unfold St.enm
    rw[getD_get hl,getD_get (by omega:p<_)]
    exact this)
   have HFI:=lhi (fun(W:World) (hW:Below w.heap.size w W)=>find_in (sp:=sp) (HS.out.keep hW) HORD.out.n (S.enu k j) HORD.out.rise ((hW.cell hp0).trans h0))
   rw[hgo]at HFI
   have HCO:=lhi hcell
   have hnb:=nbucket_lt (S.enm k j)
   clear hcell hgo hB hbs hg
   obtain⟨nm,hnm⟩: ∃x,S.enm k j=x:=⟨_,rfl⟩
   obtain⟨nu,hnu⟩: ∃x,S.enu k j=x:=⟨_,rfl⟩
   rw[hnm]at q0 HNM HSLOT HUP hnb HCS
   rw[hnu]at q1 HFI hne1
   have HE:=lhi (Blk.new wr 132 #[.string nm,.int .i64 nu])
   have HBA:=lhi (HB.out.alloc HB.out.size (Obj.cells #[.string nm,.int .i64 nu] 132))
   have HBSA:=lhi (HBS.out.alloc (Obj.cells #[.string nm,.int .i64 nu] 132))
   have HM:=lhi (may_calls nm)
   rw[HNM.out]at HM
   have HM:=lhi (show∀W:World,Calls Tryz.prog 105 #[.string nm] W fun e w'=>e= .returned (.bool true)/\Below W.heap.size W w' from HM.out)
   have hne2:(nu==1)=false:=by simpa using hne1
   have HPREV:=lhi (show∀p,j=p+1->(wr.alloc (Obj.cells #[.string nm,.int .i64 nu] 132)).cell? ⟨eg,eoff+p*2,none⟩=some (.string (S.enm k p))from fun p e=>by
    obtain⟨-,-,g',off',e',hc⟩:=(HENT.out.keep HBA.out).at_ (i:=p) (by omega)
    injection e' with e'
    injection e' with e1 e2
    subst e1 e2
    exact hc 0 (by omega))
   clear hne1 HCO
   go_upto_region 5 with(fail)
   obtain⟨wy,hwy⟩: ∃wy,wy=wr.alloc (Obj.cells #[.string nm,.int .i64 nu] 132):=⟨_,rfl⟩
   rw[<-hwy]at HE HBA HPREV HBSA⊢
   obtain⟨eb,heb⟩: ∃eb,wr.heap.size=eb:=⟨_,rfl⟩
   rw[heb]at HE⊢
   clear q0 q1 hwy heb
   go_cut [46] (fun s wx=>s= .bool false/\Below wy.heap.size wy wx)
   case first=>
    have e0: ∀x:WIn (Bel wy),x.v.cell? ⟨eb,0,none⟩=some (.string nm):=fun x=>x.cell (HE.out.cell 0)
    have e1: ∀x:WIn (Bel wy),x.v.cell? ⟨eb,1,none⟩=some (.int .i64 nu):=fun x=>x.cell (HE.out.cell 1)
    have HFX:=lhi (fun x:WIn (Bel wy)=>HFI.out x.v (HBA.out.trans (x.h.mono HBA.out.size)))
    have hg0: ¬ ((g:Int)<0):=by omega
    by_cases hj0:0<j
    ·obtain⟨p,hjp⟩: ∃p,j=p+1:=⟨j - 1,by omega⟩
     have p0: ∀x:WIn (Bel wy),x.v.cell? ⟨eg,eoff+p*2,none⟩=some (.string (S.enm k p)):=fun x=>x.cell (HPREV.out p hjp)
     have hlt:=HUP.out p hjp
     obtain⟨pm,hpm⟩: ∃x,S.enm k p=x:=⟨_,rfl⟩
     rw[hpm]at p0 hlt
     clear hpm
     have hj1:decide ((0:Int)< (j:Int))=true:=decide_eq_true (by omega)
     have ej:IntKind.i64.wrap ((j:Int) - 1)=(p:Int):=by rw[IntWalk.i64_in _ (by omega)];omega
     have hpl:(p:Int)<ne:=by omega
     clear hjp
     have ej2:IntKind.i64.wrap (p:Int)=(p:Int):=IntWalk.i64_in _ (by omega)
     have l1:Op.bytesLess pm.toList nm.toList=true:=hlt
     have l2:Op.bytesLess nm.toList pm.toList=false:=bl_no hlt
     have l3:(pm.toList==nm.toList)=false:=by
      cases h:pm.toList==nm.toList with
      | false=>rfl
      | true=>
       have h:pm.toList=nm.toList:=by simpa using h
       rw[h,bl_irrefl]at l1;cases l1
     refine wp_region_in (C:=Bel wy) (by kernel_rfl) (by kernel_rfl) (Bel.drew wy) ?_
     repeat (go_big_quiet_step (first | (go_at_call 105;exact Calls.bel _ (HM.out _)) | (go_at_call 94;exact Calls.bel _ (HFX.out _))))
     refine wpQuiet_nil ?_
     rintro _ ⟨⟨wx,hbx⟩,rfl⟩
     have HBX:=lhi hbx
     clear hbx e0 e1 p0
     go_wp2_with (fail)
     go_meet
     case rel=>exact⟨rfl,HBX.out⟩
    ·have hj1:decide ((0:Int)< (j:Int))=false:=decide_eq_false (by omega)
     refine wp_region_in (C:=Bel wy) (by kernel_rfl) (by kernel_rfl) (Bel.drew wy) ?_
     repeat (go_big_quiet_step (first | (go_at_call 105;exact Calls.bel _ (HM.out _)) | (go_at_call 94;exact Calls.bel _ (HFX.out _))))
     refine wpQuiet_nil ?_
     rintro _ ⟨⟨wx,hbx⟩,rfl⟩
     have HBX:=lhi hbx
     clear hbx e0 e1
     go_wp2_with (fail)
     go_meet
     case rel=>exact⟨rfl,HBX.out⟩
   case rest=>
    obtain⟨rfl,hcut⟩:=hcut
    have HBC:=lhi (HBA.out.trans (hcut.mono HBA.out.size))
    have HSC:=lhi (Blk.of_heap (hcut.block _ HBSA.out.lt) HBSA.out)
    have e0:wc.cell? ⟨eb,0,none⟩=some (.string nm):=(hcut.cell HE.out.lt).trans (HE.out.cell 0)
    have HBK:=lhi (bucket_calls nm wc)
    clear hcut HBA HBSA HE HPREV HFI HM
    generalize nbucket nm=q at*
    go_upto_region 8 with(go_at_call 62;refine HBK.out.mono ?_;rintro e w' ⟨rfl,hB6⟩)
    have HB6:=lhi (HBC.out.trans (hB6.mono HBC.out.size))
    have HS6:=lhi (Blk.of_heap (hB6.block _ HSC.out.lt) HSC.out)
    clear hB6 HSC HBK e0
    have hcl:=HSLOT.out
    have hcs:=HCS.out q
    rw[if_pos rfl]at hcs
    have hq8:(q:Int)<8:=by omega
    have s1:w'.cell? ⟨sl,q,none⟩=some (.int .i64 (cnt S k j q:Nat)):=(HS6.out.cell q).trans (cntA_at _ hnb)
    have f1:w'.frozen? ⟨sl,q,none⟩=false:=HS6.out.frozen q
    have HSS:=lhi (show Blk (w'.setCell ⟨sl,q,none⟩ (.int .i64 ((cnt S k j q:Nat)+1))) sl 183 (cntA (cnt S k (j+1)))by
     have:=HS6.out.set_ q (.int .i64 ((cnt S k j q:Nat)+1))
     rwa [cntA_set (cnt S k j) (cnt S k (j+1)) hnb (by rw[HCS.out,if_pos rfl];omega) (fun i _ hi=>by rw[HCS.out,if_neg (Ne.symm hi)];rfl)]at this)
    have HBB:=lhi (HB6.out.setCell (p:=⟨sl,q,none⟩) (by have:=HSL.out;show w.heap.size<=sl;omega) (.int .i64 ((cnt S k j q:Nat)+1)))
    have h5:cnt S k j q+1<=4:=by omega
    clear HS6 HCS HSLOT hcs hcl
    generalize cnt S k j q=cq at*
    have h6: ¬ ((4:Int)< (cq:Int)+1):=by omega
    go_wp2_with (fail)
    go_roundw
    case rel=>exact⟨j+1,by go_num,by omega,HBB.out,HSS.out⟩
    case measure=>
     simp only[intOf]
     omega
  ·have e:j=ne:=by omega
   subst e
   clear hB hbs
   go_wp2_with (fail)
   go_ret
   exact⟨rfl,HB.out⟩
end
section
open Go.RowKit
set_option maxHeartbeats 2000000
set_option maxRecDepth 1000000 in
theorem mayInodes_yes{w:World}{sp:Nat}{iv ov mv:Value}{ev:Nat->Value}{S:St}(hS:StM w iv ov mv ev S)(hI:Inv S)(h0:w.cell? ⟨sp,0,none⟩=some iv)(h2:w.cell? ⟨sp,2,none⟩=some mv):
  Calls Tryz.prog 47 #[.pointer (some ⟨sp,0,none⟩)] w fun e w'=>e= .returned (.bool true)/\Below w.heap.size w w':=by
 have hsm:=hI.small
 have hn:=hsm.ni
 have hpos:=hI.pos
 have HS:=lhi hS
 have HI:=lhi hI
 have HR:=lhi hS.ino
 have hp0:=World.block_lt_of_cell? _ _ h0
 have hp2:=World.block_lt_of_cell? _ _ h2
 obtain⟨n1,d1⟩:=hI.num0
 obtain⟨A,cap,rfl,-,-⟩:=hS.ino
 obtain⟨n,hnn⟩: ∃n,S.inodes.length=n:=⟨_,rfl⟩
 have HNN:=lhi hnn
 have HL0:=lhi h0
 rw[hnn]at hn hpos HR h0
 obtain⟨-,-,g0,off0,rfl,hcell0⟩:=HR.out.at_ hpos
 have r0:w.cell? ⟨g0,off0,none⟩=some (.int .i64 1):=by have:=hcell0 0 (by omega);simp only[Nat.zero_mul,Nat.add_zero]at this;rw[this];simp[inoC,n1]
 have r1:w.cell? ⟨g0,off0+1,none⟩=some (.bool true):=by have:=hcell0 1 (by omega);simp only[Nat.zero_mul,Nat.zero_add]at this;rw[this];simp[inoC,d1]
 have hz:((n:Int)==0)=false:=by simp;omega
 have hz1:(0:Int)< (n:Int):=by omega
 have H0:=lhi h0
 have H2:=lhi h2
 clear hS hI hcell0 hsm hnn
 go_enter Tryz.func47,Tryz.ntmps47
 go_wp2_with (fail)
 clear r0 r1 h0 h2
 go_loopw [3] (fun i wr=>∃k:Nat,i= .int .i64 k/\1<=k/\k<=n/\Below w.heap.size w wr) (fun i _=>n - (intOf i).toNat)
 case atStart=>exact⟨1,rfl,by omega,by omega,Below.refl _ _⟩
 case round=>
  obtain⟨k,rfl,hk1,hk,hB⟩:=hrel
  have HB:=lhi hB
  have c0:wr.cell? ⟨sp,0,none⟩=some (.slice (some ⟨g0,off0,none⟩) n cap):=(hB.cell hp0).trans H0.out
  by_cases hp:k<n
  ·obtain⟨p,rfl⟩: ∃p,k=p+1:=⟨k - 1,by omega⟩
   obtain⟨-,-,g,off,e,hcell⟩:=(HR.out.keep hB).at_ hp
   injection e with e
   injection e with e1 e2
   subst e1 e2
   obtain⟨-,-,g',off',e,hcell'⟩:=(HR.out.keep hB).at_ (i:=p) (by omega)
   injection e with e
   injection e with e1 e2
   subst e1 e2
   have q0:wr.cell? ⟨g0,off0+ (p+1)*4,none⟩=some (.int .i64 (S.num (p+1))):=hcell 0 (by omega)
   have q1:wr.cell? ⟨g0,off0+p*4,none⟩=some (.int .i64 (S.num p)):=hcell' 0 (by omega)
   have hlt:S.num p<S.num (p+1):=HI.out.num_lt (by rw[HNN.out];exact hp) (by omega)
   have hpn:p+1<S.inodes.length:=by rw[HNN.out];exact hp
   have hbd:=HI.out.num_bound (Inv.ino_mem hpn)
   have hbd:1<=S.num (p+1)/\S.num (p+1)<=257:=hbd
   have hpl:1<=S.num p:=(HI.out.num_bound (Inv.ino_mem (by omega:p<S.inodes.length))).1
   have HMN:=lhi (fun x:WIn (Bel wr)=>mayNum_yes (sp:=sp) (HS.out.keep (hB.trans (x.h.mono hB.size))) HI.out ((x.h.cell (by have:=hB.size;show sp<_;have:sp<w.heap.size:=hp2;omega)).trans ((hB.cell hp2).trans H2.out)) (HI.out.given _ (Inv.ino_mem hpn) (show S.num (p+1)≠1 by omega)) (show S.num (p+1)<=1000000 by omega))
   have HMN:=lhi (show∀x:WIn (Bel wr),Calls Tryz.prog 97 #[.pointer (some ⟨sp,0,none⟩),.int .i64 (S.num (p+1))] x.v fun e w'=>e= .returned (.bool true)/\Below x.v.heap.size x.v w' from HMN.out)
   have x0: ∀x:WIn (Bel wr),x.v.cell? ⟨sp,0,none⟩=some (.slice (some ⟨g0,off0,none⟩) n cap):=fun x=>x.cell c0
   have y0: ∀x:WIn (Bel wr),x.v.cell? ⟨g0,off0+ (p+1)*4,none⟩=some (.int .i64 (S.num (p+1))):=fun x=>x.cell q0
   have y1: ∀x:WIn (Bel wr),x.v.cell? ⟨g0,off0+p*4,none⟩=some (.int .i64 (S.num p)):=fun x=>x.cell q1
   clear hcell hcell' hbd hpl
   obtain⟨a,ha⟩: ∃a,S.num (p+1)=a:=⟨_,rfl⟩
   obtain⟨b,hb⟩: ∃b,S.num p=b:=⟨_,rfl⟩
   rw[ha]at hlt HMN y0
   rw[hb]at hlt y1
   have hle: ¬ (a<=b):=by omega
   have hpi:((p:Int)+1)<n:=by omega
   have hpj:(p:Int)<n:=by omega
   have ej:IntKind.i64.wrap ((p:Int)+1 - 1)=(p:Int):=by rw[IntWalk.i64_in _ (by omega)];omega
   have ej2:IntKind.i64.wrap (p:Int)=(p:Int):=IntWalk.i64_in _ (by omega)
   clear q0 q1 ha hb hB hlt
   go_upto_region 6 with(fail)
   refine wp_region_in (C:=Bel wr) (by kernel_rfl) (by kernel_rfl) (Bel.drew wr) ?_
   repeat (go_big_quiet_step ((go_at_call 97;exact Calls.bel _ (HMN.out _))))
   refine wpQuiet_nil ?_
   rintro wx ⟨x5,h5⟩
   have hbx:=x5.h
   rw[<-h5]at hbx
   clear h5 x5
   have HBX:=lhi (HB.out.trans ((show Below wr.heap.size wr wx from hbx).mono HB.out.size))
   clear hbx x0 y0 y1
   go_wp2_with (fail)
   go_roundw
   case rel=>exact⟨p+1+1,by go_num,by omega,by omega,HBX.out⟩
   case measure=>
    simp only[intOf]
    omega
  ·have e:k=n:=by omega
   subst e
   clear hB
   go_wp2_with (fail)
   clear c0
   obtain⟨w1,rfl⟩: ∃w1:World,w1=wr:=⟨_,rfl⟩
   go_loopw [77] (fun i wr=>∃j:Nat,i= .int .i64 j/\j<=k/\Below w.heap.size w wr) (fun i _=>k - (intOf i).toNat)
   case atStart=>exact⟨0,rfl,by omega,HB.out⟩
   case round=>
    obtain⟨j,rfl,hj,hB⟩:=hrel
    have HB2:=lhi hB
    by_cases hp:j<k
    ·obtain⟨-,-,g,off,e,hcell⟩:=(HR.out.keep hB).at_ hp
     injection e with e
     injection e with e1 e2
     subst e1 e2
     have q0:wr.cell? ⟨g0,off0+j*4,none⟩=some (.int .i64 (S.num j)):=hcell 0 (by omega)
     have q1:wr.cell? ⟨g0,off0+j*4+1,none⟩=some (.bool (S.dir j)):=hcell 1 (by omega)
     have q2:wr.cell? ⟨g0,off0+j*4+2,none⟩=some (ev j):=hcell 2 (by omega)
     have q3:wr.cell? ⟨g0,off0+j*4+3,none⟩=some (.string (S.dat j)):=hcell 3 (by omega)
     have hp1:(j:Int)<k:=by omega
     have hjn:j<S.inodes.length:=by rw[HNN.out];exact hp
     have hm:=Inv.ino_mem hjn
     obtain⟨EA,ecap,hev,-,-⟩:=HS.out.ent j hjn
     have HME:=lhi (fun(W:World) (hW:Below w.heap.size w W)=>mayEntries_yes (sp:=sp) (HS.out.keep hW) HI.out ((hW.cell hp0).trans HL0.out) hjn)
     rw[hev]at q2 HME
     have hds:=HI.out.dat _ hm
     have hds:(S.dat j).size<=256:=hds
     have hdir:=HI.out.isDir _ hm
     have hfile:=HI.out.isFile _ hm
     have HBA:=lhi (hB.alloc hB.size (.cells #[.int .i64 (S.num j),.bool (S.dir j),.slice EA (S.ne j) ecap,.string (S.dat j)] 93))
     have HX:=lhi (Blk.new wr 93 #[.int .i64 (S.num j),.bool (S.dir j),.slice EA (S.ne j) ecap,.string (S.dat j)])
     clear hcell hB hev
     cases hd:S.dir j with
     | true=>
      have hz0:(S.dat j).size=0:=hdir hd
      have hz3:(S.dat j).toList=[]:=by
       rw[ByteArray.toList_eq]
       exact List.length_eq_zero_iff.1 (by rw[Array.length_toList];exact hz0)
      have hz5:(!(S.dat j).toList.isEmpty)=false:=by simp[hz3]
      rw[hd]at q1 HBA HX
      clear hd hdir hfile hz0 hz3
      go_wp2_with (go_at_call 98;refine(HME.out _ HBA.out).mono ?_;rintro e w1 ⟨rfl,hb1⟩;have z1:w1.cell? ⟨wr.heap.size,1,none⟩=some (.bool true):=(hb1.cell (p:=⟨wr.heap.size,1,none⟩) HX.out.lt).trans (HX.out.cell 1))
      go_roundw
      case rel=>exact⟨j+1,by go_num,by omega,HBA.out.trans (hb1.mono HBA.out.size)⟩
      case measure=>
       simp only[intOf]
       omega
     | false=>
      have hz0:S.ne j=0:=by have:=hfile hd;show(S.ino j).ents.length=0;rw[this];rfl
      rw[hd]at q1 HBA HX
      rw[hz0]at q2 HBA
      have hz4: ¬ (256:Int)< ((S.dat j).size:Int):=by omega
      clear hd hdir hfile hz0
      go_wp2_with (fail)
      go_roundw
      case rel=>exact⟨j+1,by go_num,by omega,HBA.out⟩
      case measure=>
       simp only[intOf]
       omega
    ·have e:j=k:=by omega
     subst e
     clear hB
     go_wp2_with (fail)
     go_ret
     exact⟨rfl,HB2.out⟩
end
section
open Go.RowKit
set_option maxHeartbeats 2000000
set_option maxRecDepth 1000000 in
theorem mayOpen_yes{w:World}{sp:Nat}{iv ov mv:Value}{ev:Nat->Value}{S:St}(hS:StM w iv ov mv ev S)(hI:Inv S)(h0:w.cell? ⟨sp,0,none⟩=some iv)(h1:w.cell? ⟨sp,1,none⟩=some ov)(h2:w.cell? ⟨sp,2,none⟩=some mv):
  Calls Tryz.prog 48 #[.pointer (some ⟨sp,0,none⟩)] w fun e w'=>e= .returned (.bool true)/\Below w.heap.size w w':=by
 have hsm:=hI.small
 have hn:=hsm.no
 have HS:=lhi hS
 have HI:=lhi hI
 have HR:=lhi hS.ino
 have HO:=lhi hS.opn
 have HORD:=lhi hI.ord
 have hp0:=World.block_lt_of_cell? _ _ h0
 have h8:=hI.m8
 obtain⟨A,cap,rfl,-,-⟩:=hS.ino
 obtain⟨OA,ocap,rfl,-,-⟩:=hS.opn
 obtain⟨MA,mcap,rfl,-,-⟩:=hS.mad
 obtain⟨n,hnn⟩: ∃n,S.opens.length=n:=⟨_,rfl⟩
 have HNN:=lhi hnn
 rw[hnn]at hn HO h1
 have H0:=lhi h0
 have H1:=lhi h1
 have H2:=lhi h2
 clear hS hI hsm hnn
 go_enter Tryz.func48,Tryz.ntmps48
 go_wp2_with (fail)
 clear h0 h1 h2
 go_loopw [11] (fun i wr=>∃k:Nat,i= .int .i64 k/\k<=n/\Below w.heap.size w wr) (fun i _=>n - (intOf i).toNat)
 case atStart=>exact⟨0,rfl,by omega,Below.refl _ _⟩
 case round=>
  obtain⟨k,rfl,hk,hB⟩:=hrel
  have HB:=lhi hB
  by_cases hp:k<n
  ·obtain⟨-,-,g,off,rfl,hcell⟩:=(HO.out.keep hB).at_ hp
   have q0:wr.cell? ⟨g,off+k*3,none⟩=some (.int .i64 (S.oc k)):=hcell 0 (by omega)
   have q1:wr.cell? ⟨g,off+k*3+1,none⟩=some (.int .i64 (S.of k)):=hcell 1 (by omega)
   have q2:wr.cell? ⟨g,off+k*3+2,none⟩=some (.int .i64 (S.on k)):=hcell 2 (by omega)
   have hp1:(k:Int)<n:=by omega
   have hkl:k<S.opens.length:=by rw[HNN.out];exact hp
   have hmem:S.opens.getD k (0,0,0)∈S.opens:=getD_mem hkl
   obtain⟨o1,o2,o3,o4,y,hy,o5,o6⟩:=HI.out.ok _ hmem
   have o1:0<=S.oc k:=o1
   have o2:S.oc k<S.made.length:=o2
   have o3:0<=S.of k:=o3
   have o4:S.of k<4:=o4
   obtain⟨ng,hng,hng2,hpl⟩:=placeF_of HORD.out.rise hy
   have o5:y.num=S.on k:=o5
   rw[o5]at hpl
   have hdir:S.dir ng=false:=by
    unfold St.dir St.ino
    rw[List.getD_eq_getElem?_getD,hng2];exact o6
   have HPREV:=lhi (show∀p,k=p+1->wr.cell? ⟨g,off+p*3,none⟩=some (.int .i64 (S.oc p))/\wr.cell? ⟨g,off+p*3+1,none⟩=some (.int .i64 (S.of p))/\ (S.oc p<S.oc k∨S.oc p=S.oc k/\S.of p<S.of k)/\0<=S.oc p from fun p e=>by
    obtain⟨-,-,g',off',e',hc⟩:=(HO.out.keep hB).at_ (i:=p) (by omega)
    injection e' with e'
    injection e' with e1 e2
    subst e1 e2
    have hs:=List.pairwise_iff_getElem.1 HI.out.osort p k (by omega) hkl (by omega)
    refine⟨hc 0 (by omega),hc 1 (by omega),?_,?_⟩
    ·unfold St.oc St.of
     rw[getD_get hkl,getD_get (by omega:p<_)]
     exact hs
    ·exact(HI.out.ok _ (getD_mem (d:=(0,0,0)) (by omega:p<S.opens.length))).1)
   have HFI:=lhi (fun(W:World) (hW:Below w.heap.size w W)=>find_in (sp:=sp) (HS.out.keep hW) HORD.out.n (S.on k) HORD.out.rise ((hW.cell hp0).trans H0.out))
   rw[hpl]at HFI
   have HD:=lhi (fun(W:World) (hW:Below w.heap.size w W)=>(HR.out.keep hW).at_ hng)
   rw[show S.inodes.length=S.inodes.length from rfl]at HD
   clear hcell hmem hy o5 o6 hng2 hpl
   obtain⟨oc,hoc⟩: ∃x,S.oc k=x:=⟨_,rfl⟩
   obtain⟨of,hof⟩: ∃x,S.of k=x:=⟨_,rfl⟩
   obtain⟨on,hon⟩: ∃x,S.on k=x:=⟨_,rfl⟩
   rw[hoc]at q0 o1 o2 HPREV
   rw[hof]at q1 o3 o4 HPREV
   rw[hon]at q2 HFI
   clear hoc hof hon
   have HE:=lhi (Blk.new wr 144 #[.int .i64 oc,.int .i64 of,.int .i64 on])
   have HBA:=lhi (HB.out.alloc HB.out.size (Obj.cells #[.int .i64 oc,.int .i64 of,.int .i64 on] 144))
   have HBW:=lhi ((Below.refl wr.heap.size wr).alloc (Nat.le_refl _) (Obj.cells #[.int .i64 oc,.int .i64 of,.int .i64 on] 144))
   have c1: ¬ (oc<0):=by omega
   have c2: ¬ ((S.made.length:Int)<=oc):=by omega
   have c3: ¬ (of<0):=by omega
   have c4: ¬ ((4:Int)<=of):=by omega
   have hdl:(S.inodes.length:Int)<=1000:=by have:=HORD.out.n;omega
   have hng1:(ng:Int)<S.inodes.length:=by omega
   clear o1 o2 o3 o4 hB
   go_upto_region 4 with(fail)
   clear q0 q1 q2
   obtain⟨wy,hwy⟩: ∃wy,wy=wr.alloc (Obj.cells #[.int .i64 oc,.int .i64 of,.int .i64 on] 144):=⟨_,rfl⟩
   rw[<-hwy]at HE HBA HBW⊢
   obtain⟨eb,heb⟩: ∃eb,wr.heap.size=eb:=⟨_,rfl⟩
   rw[heb]at HE⊢
   clear hwy
   have e0: ∀x:WIn (Bel wy),x.v.cell? ⟨eb,0,none⟩=some (.int .i64 oc):=fun x=>x.cell (HE.out.cell 0)
   have e1: ∀x:WIn (Bel wy),x.v.cell? ⟨eb,1,none⟩=some (.int .i64 of):=fun x=>x.cell (HE.out.cell 1)
   have e2: ∀x:WIn (Bel wy),x.v.cell? ⟨sp,2,none⟩=some (.slice MA S.made.length mcap):=fun x=>x.cell ((HBA.out.cell (World.block_lt_of_cell? _ _ H2.out)).trans H2.out)
   refine wp_region_in (C:=Bel wy) (by kernel_rfl) (by kernel_rfl) (Bel.drew wy) ?_
   repeat (go_big_quiet_step (fail))
   refine wpQuiet_nil ?_
   rintro wx ⟨x5,h5⟩
   have hbx:=x5.h
   rw[<-h5]at hbx
   clear h5 x5
   have HBX:=lhi (show Below wy.heap.size wy wx from hbx)
   clear hbx e0 e1 e2
   have HEX:=lhi (Blk.of_heap (HBX.out.block _ HE.out.lt) HE.out)
   have HBC:=lhi (HBA.out.trans (HBX.out.mono HBA.out.size))
   have HBY:=lhi (HBW.out.trans (HBX.out.mono HBW.out.size))
   clear HE HBA HBX HBW
   go_upto_region 6 with(fail)
   go_cut [82] (fun s wz=>s= .bool false/\Below wx.heap.size wx wz)
   case first=>
    have e0: ∀x:WIn (Bel wx),x.v.cell? ⟨eb,0,none⟩=some (.int .i64 oc):=fun x=>x.cell (HEX.out.cell 0)
    have e1: ∀x:WIn (Bel wx),x.v.cell? ⟨eb,1,none⟩=some (.int .i64 of):=fun x=>x.cell (HEX.out.cell 1)
    have e2: ∀x:WIn (Bel wx),x.v.cell? ⟨sp,1,none⟩=some (.slice (some ⟨g,off,none⟩) n ocap):=fun x=>x.cell ((HBC.out.cell (World.block_lt_of_cell? _ _ H1.out)).trans H1.out)
    by_cases hk0:0<k
    ·obtain⟨p,hkp⟩: ∃p,k=p+1:=⟨k - 1,by omega⟩
     obtain⟨z0,z1,z2,z3⟩:=HPREV.out p hkp
     have y0: ∀x:WIn (Bel wx),x.v.cell? ⟨g,off+p*3,none⟩=some (.int .i64 (S.oc p)):=fun x=>x.cell ((HBY.out.cell (World.block_lt_of_cell? _ _ z0)).trans z0)
     have y1: ∀x:WIn (Bel wx),x.v.cell? ⟨g,off+p*3+1,none⟩=some (.int .i64 (S.of p)):=fun x=>x.cell ((HBY.out.cell (World.block_lt_of_cell? _ _ z1)).trans z1)
     obtain⟨pc,hpc⟩: ∃x,S.oc p=x:=⟨_,rfl⟩
     obtain⟨pf,hpf⟩: ∃x,S.of p=x:=⟨_,rfl⟩
     rw[hpc]at y0 z2 z3
     rw[hpf]at y1 z2
     clear z0 z1 hpc hpf
     have hj1:decide ((0:Int)< (k:Int))=true:=decide_eq_true (by omega)
     have ej:IntKind.i64.wrap ((k:Int) - 1)=(p:Int):=by rw[IntWalk.i64_in _ (by omega)];omega
     have ej2:IntKind.i64.wrap (p:Int)=(p:Int):=IntWalk.i64_in _ (by omega)
     have hpj:(p:Int)<n:=by omega
     clear hkp
     have c5: ¬ (oc<pc):=by omega
     by_cases he:pc=oc
     ·have he1:(pc==oc)=true:=by simp[he]
      have c6: ¬ (of<=pf):=by omega
      clear z2
      refine wp_region_in (C:=Bel wx) (by kernel_rfl) (by kernel_rfl) (Bel.drew wx) ?_
      repeat (go_big_quiet_step (fail))
      refine wpQuiet_nil ?_
      rintro _ ⟨⟨wz,hbz⟩,rfl⟩
      have HBZ:=lhi hbz
      clear hbz e0 e1 e2 y0 y1
      go_wp2_with (fail)
      go_meet
      case rel=>exact⟨rfl,HBZ.out⟩
     ·have he1:(pc==oc)=false:=by simp[he]
      clear z2 he
      refine wp_region_in (C:=Bel wx) (by kernel_rfl) (by kernel_rfl) (Bel.drew wx) ?_
      repeat (go_big_quiet_step (fail))
      refine wpQuiet_nil ?_
      rintro _ ⟨⟨wz,hbz⟩,rfl⟩
      have HBZ:=lhi hbz
      clear hbz e0 e1 e2 y0 y1
      go_wp2_with (fail)
      go_meet
      case rel=>exact⟨rfl,HBZ.out⟩
    ·have hj1:decide ((0:Int)< (k:Int))=false:=decide_eq_false (by omega)
     refine wp_region_in (C:=Bel wx) (by kernel_rfl) (by kernel_rfl) (Bel.drew wx) ?_
     repeat (go_big_quiet_step (fail))
     refine wpQuiet_nil ?_
     rintro _ ⟨⟨wz,hbz⟩,rfl⟩
     have HBZ:=lhi hbz
     clear hbz e0 e1 e2
     go_wp2_with (fail)
     go_meet
     case rel=>exact⟨rfl,HBZ.out⟩
   case rest=>
    obtain⟨rfl,hcut⟩:=hcut
    have HEC:=lhi (Blk.of_heap (hcut.block _ HEX.out.lt) HEX.out)
    have HBD:=lhi (HBC.out.trans (hcut.mono HBC.out.size))
    clear hcut HEX HPREV HBY
    have e2:wc.cell? ⟨eb,2,none⟩=some (.int .i64 on):=HEC.out.cell 2
    have c0:wc.cell? ⟨sp,0,none⟩=some (.slice A S.inodes.length cap):=(HBD.out.cell hp0).trans H0.out
    obtain⟨-,-,ig,ioff,rfl,icell⟩:=HD.out _ HBD.out
    have i1:wc.cell? ⟨ig,ioff+ng*4+1,none⟩=some (.bool false):=by have:=icell 1 (by omega);rw[this];simp[inoC,hdir]
    have HF:=lhi (HFI.out _ HBD.out)
    clear icell HD HFI
    have hng0: ¬ ((ng:Int)<0):=by omega
    go_wp2_with (go_at_call 94;refine HF.out.mono ?_;rintro e w1 ⟨rfl,hb1⟩;have c1:=(hb1.cell (World.block_lt_of_cell? _ _ c0)).trans c0;have i2:=(hb1.cell (World.block_lt_of_cell? _ _ i1)).trans i1)
    go_roundw
    case rel=>exact⟨k+1,by go_num,by omega,HBD.out.trans (hb1.mono HBD.out.size)⟩
    case measure=>
     simp only[intOf]
     omega
  ·have e:k=n:=by omega
   subst e
   clear hB
   go_wp2_with (fail)
   go_ret
   exact⟨rfl,HB.out⟩
end
end Go.Proofs.YtkebjgebkneijaaGreat
