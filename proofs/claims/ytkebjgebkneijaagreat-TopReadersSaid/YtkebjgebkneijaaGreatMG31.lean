/- Texts of one's own that a claim's last text rests on: Mp5. -/
import Derived.Test.YtkebjgebkneijaaGreatMG16
import Derived.Test.YtkebjgebkneijaaGreatMG13
import Derived.Test.YtkebjgebkneijaaGreatMG6
set_option linter.unusedVariables false
set_option linter.unusedSimpArgs false
namespace Go.Proofs.YtkebjgebkneijaaGreat
open Go.RowKit
set_option maxHeartbeats 16000000
set_option maxRecDepth 1000000
theorem Cw: ¬ ((30:TypeId)=78∨(30:TypeId)=150∨(30:TypeId)=20∨(30:TypeId)=152∨(30:TypeId)=3∨(30:TypeId)=136):=by decide
theorem Afh(vs:Nat->Value){k:Nat}(hk:k<8)(h: ∀q,q<8-> ∃A n c,vs q= .slice A n c)(W:World):(Instr.index 130 (.agg #[vs 0,vs 1,vs 2,vs 3,vs 4,vs 5,vs 6,vs 7]) (.int .i64 (k:Int))).run Tryz.prog W= .ok (vs k) W:=by
 obtain⟨A0,n0,c0,h0⟩:=h 0 (by omega)
 obtain⟨A1,n1,c1,h1⟩:=h 1 (by omega)
 obtain⟨A2,n2,c2,h2⟩:=h 2 (by omega)
 obtain⟨A3,n3,c3,h3⟩:=h 3 (by omega)
 obtain⟨A4,n4,c4,h4⟩:=h 4 (by omega)
 obtain⟨A5,n5,c5,h5⟩:=h 5 (by omega)
 obtain⟨A6,n6,c6,h6⟩:=h 6 (by omega)
 obtain⟨A7,n7,c7,h7⟩:=h 7 (by omega)
 rw[h0,h1,h2,h3,h4,h5,h6,h7]
 rcases lt8 hk with rfl | rfl | rfl | rfl | rfl | rfl | rfl | rfl
 ·rw[h0];kernel_rfl
 ·rw[h1];kernel_rfl
 ·rw[h2];kernel_rfl
 ·rw[h3];kernel_rfl
 ·rw[h4];kernel_rfl
 ·rw[h5];kernel_rfl
 ·rw[h6];kernel_rfl
 ·rw[h7];kernel_rfl
theorem Ai9{L:Nat->Prop}{w:World}{s:Nat}{M:Mem}{m:Nat}{iv ov mv:Value}{ev:Nat->Value}{S:St}(h:Ab L w s M)(hok:M.ok m)(hm:m<=700000000)(hS: ∀W,(∀b,L b->W.heap[b]? =w.heap[b]?)->StM W iv ov mv ev S)(hI:Inv S)(hc:M.ts.length=S.made.length):
  Calls Tryz.prog 26 #[.pointer (some ⟨s,0,none⟩),.agg #[iv,ov,mv]] w fun e w'=>e= .returned (.tuple #[])/\Ab L w' s (Bv S (Bl S (Ce S M S.inodes.length) S.made.length) S.opens.length)/\Kw L w w':=by
 have hsm:=hI.small
 have hn:=hsm.ni
 have hL:=h.bd
 have HI:=lhi hI
 have HSm:=lhi hsm
 have HL:=lhi hL
 have HOK:=lhi hok
 have h8:=hI.m8
 have h1:=hI.m1
 have hb1:=((Amf w.heap.size w).alloc (Ama _) (.cells #[iv,ov,mv] 30)).alloc (by simp) (.map #[] 0)
 have HM0:=lhi h
 have HS0:=lhi (fun(W:World) (hk:Kw L w W)=>hS W fun b hb=>hk.k.k.block b hb)
 have HX0:=lhi ((Blk.new w 30 #[iv,ov,mv]).alloc (.map #[] 0))
 have HD0:=lhi ((MapV.made (w.alloc (.cells #[iv,ov,mv] 30))).congr (g:=Lw S 0) fun j=>rfl)
 have HB1:=lhi hb1
 have hS0:=hS w fun _ _=>rfl
 obtain⟨A,cap,rfl,-,-⟩:=hS0.ino
 obtain⟨OA,ocap,rfl,-,-⟩:=hS0.opn
 obtain⟨MA,mcap,rfl,-,-⟩:=hS0.mad
 have hmm:=@run_makeMap Tryz.prog
 obtain⟨n,hnn⟩:=xx S.inodes.length
 have HNN:=lhi hnn
 rw[hnn]at hn HX0 HD0 HB1 HS0
 rw[hnn]
 clear h hok hS hI hsm hL hb1 hS0
 go_enter Tryz.func26,Tryz.ntmps26
 go_upto_region 2 with(fail)
 obtain⟨w1,hw1⟩:=yy ((w.alloc (.cells #[.slice A n cap,.slice OA S.opens.length ocap,.slice MA S.made.length mcap] 30)).alloc (.map #[] 0))
 obtain⟨sp,hsp⟩:=yy w.heap.size
 have HDB:=lhi (show MapV w1 (sp+1) 0 (Lw S 0)by rw[hw1,hsp];have:=HD0.out;simpa using this)
 rw[<-hw1]at HX0 HB1⊢
 rw[<-hsp]at HX0⊢
 have HSP:=lhi hsp
 clear hw1 hsp HD0 hnn
 have x0:w1.cell? ⟨sp,0,none⟩=some (.slice A n cap):=HX0.out.cell 0
 have hwl:w.heap.size<w1.heap.size:=by have:=HX0.out.lt;have:=HSP.out;omega
 go_wp2_with (fail)
 clear x0
 go_loopw [23] (fun i wr=>∃k:Nat,i= .int .i64 k/\k<=n/\Below (sp+1) w1 wr/\MapV wr (sp+1) k (Lw S k)) (fun i _=>n - (intOf i).toNat)
 case atStart=>exact⟨0,rfl,by omega,Amf _ _,HDB.out⟩
 case round=>
  obtain⟨k,rfl,hk,hB,hmp⟩:=hrel
  have HBR:=lhi hB
  have HMP:=lhi hmp
  have HKW:=lhi (show Kw L w wr from Kw.below HL.out (HB1.out.trans (hB.mono (by have:=HSP.out;omega))))
  clear hB hmp
  by_cases hp:k<n
  ·
   obtain⟨-,-,g,off,rfl,hcell⟩:=(show Ak wr (.slice A n cap) n 4 (inoC S ev)by have:=(HS0.out wr HKW.out).ino;rw[HNN.out]at this;exact this).at_ hp
   have q0:wr.cell? ⟨g,off+k*4,none⟩=some (.int .i64 (S.num k)):=hcell 0 (by omega)
   have q1:wr.cell? ⟨g,off+k*4+1,none⟩=some (.bool (S.dir k)):=hcell 1 (by omega)
   have q2:wr.cell? ⟨g,off+k*4+2,none⟩=some (ev k):=hcell 2 (by omega)
   have q3:wr.cell? ⟨g,off+k*4+3,none⟩=some (.string (S.dat k)):=hcell 3 (by omega)
   have hp1:(k:Int)<n:=by omega
   have hkn:k<S.inodes.length:=by rw[HNN.out];exact hp
   obtain⟨EA,ecap,hev,-,-⟩:=(HS0.out wr HKW.out).ent k hkn
   rw[hev]at q2
   have hnum:=HI.out.num_bound (Inv.ino_mem hkn)
   have hnum:1<=S.num k/\S.num k<=257:=hnum
   have HDS:=lhi (Ab5 S k)
   have hdk:k<1000000000:=by omega
   clear hcell hev
   generalize S.num k=x at*
   generalize S.dir k=dv at*
   generalize S.dat k=dt at*
   generalize S.ne k=ne at*
   have HMA:=lhi (HMP.out.alloc (Obj.cells #[.int .i64 x,.bool dv,.slice EA ne ecap,.string dt] 93))
   have HBA:=lhi (HBR.out.alloc (by have:=HBR.out.size;have:=HX0.out.lt;have:=HSP.out;omega) (Obj.cells #[.int .i64 x,.bool dv,.slice EA ne ecap,.string dt] 93))
   go_wp2_with (at_mapUpdate;refine Hu _ rfl 127 4 Tryz.underlying127 (.tmp 27) (.tmp 29) (.tmp 31) (.inl rfl) (sp+1) k _ rfl HMA.out hdk x (by omega) rfl (.bool dv) rfl ?_;intro w5 hM5 hG5)
   have HR1:=lhi (hM5.congr (g:=Lw S (k+1)) fun j=>(HDS.out j).symm)
   have HR2:=lhi (show Below (sp+1) w1 w5 from HBA.out.trans ⟨hG5.os,hG5.tape,hG5.output,hG5.size,fun q hq=>hG5.block q (by have:=HBA.out.size;have:=HX0.out.lt;have:=HDB.out.lt;omega) (fun e=>by have:=Amg e;omega)⟩)
   clear hM5 hG5
   go_roundw
   case rel=>exact⟨k+1,by go_num,by omega,HR2.out,HR1.out⟩
   case measure=>
    simp only[intOf]
    omega
  ·have e:k=n:=by omega
   subst e
   have HBW:=lhi (show Below w.heap.size w wr from HB1.out.trans (HBR.out.mono (by have:=HSP.out;omega)))
   have HM1:=lhi (HM0.out.below HBW.out)
   have HDV:=lhi (show MapV wr (sp+1) k (Lw S S.inodes.length)by rw[HNN.out];exact HMP.out)
   have HXW:=lhi (Blk.of_heap (HBR.out.block sp (by omega)) HX0.out)
   have HK0:=lhi HKW.out
   have x0:wr.cell? ⟨sp,0,none⟩=some (.slice A k cap):=HXW.out.cell 0
   obtain⟨wz,rfl⟩: ∃wz:World,wz=wr:=⟨_,rfl⟩
   clear HMP HBR HKW HM0 HDB HB1 HX0
   go_wp2_with (fail)
   clear x0
   go_loopw [36] (fun i wr=>∃j:Nat,i= .int .i64 j/\j<=k/\Ab L wr s (Ce S M j)/\Kw L w wr/\Kw L wz wr) (fun i _=>k - (intOf i).toNat)
   case atStart=>exact⟨0,rfl,by omega,HM1.out,HK0.out,Kw.refl _ _⟩
   case round=>
    obtain⟨j,rfl,hj,hmem,hkw,hkz⟩:=hrel
    have HMJ:=lhi hmem
    have HKJ:=lhi hkw
    have HKZ:=lhi hkz
    clear hmem hkw hkz
    by_cases hpj:j<k
    ·
     obtain⟨-,-,g,off,rfl,hcell⟩:=(show Ak wr (.slice A k cap) k 4 (inoC S ev)by have:=(HS0.out wr HKJ.out).ino;rw[HNN.out]at this;exact this).at_ hpj
     have q0:wr.cell? ⟨g,off+j*4,none⟩=some (.int .i64 (S.num j)):=hcell 0 (by omega)
     have q1:wr.cell? ⟨g,off+j*4+1,none⟩=some (.bool (S.dir j)):=hcell 1 (by omega)
     have q2:wr.cell? ⟨g,off+j*4+2,none⟩=some (ev j):=hcell 2 (by omega)
     have q3:wr.cell? ⟨g,off+j*4+3,none⟩=some (.string (S.dat j)):=hcell 3 (by omega)
     have hp1:(j:Int)<k:=by omega
     have hjn:j<S.inodes.length:=by rw[HNN.out];exact hpj
     have HENT:=lhi (fun W (hk:Kw L w W)=>(HS0.out W hk).ent j hjn)
     obtain⟨EA,ecap,hev,-,-⟩:=(HS0.out wr HKJ.out).ent j hjn
     rw[hev]at q2 HENT
     have hnum:=HI.out.num_bound (Inv.ino_mem hjn)
     have hnum:1<=S.num j/\S.num j<=257:=hnum
     have hne:=HSm.out.en j
     have HOKJ:=lhi (Gz (S:=S) HOK.out j)
     have HTSJ:=lhi (Li S M j)
     have HLI:=lhi (show Ce S M (j+1)=Gc S (Ce S M j) j from rfl)
     clear hcell hev
     obtain⟨MJ,hMJ⟩:=xx (Ce S M j)
     rw[hMJ]at HMJ HOKJ HTSJ HLI
     clear hMJ
     have HX:=lhi ((Blk.new wr 93 #[.int .i64 (S.num j),.bool (S.dir j),.slice EA (S.ne j) ecap,.string (S.dat j)]).alloc (.cells #[.slice none 0 0,.slice none 0 0,.slice none 0 0,.slice none 0 0,.slice none 0 0,.slice none 0 0,.slice none 0 0,.slice none 0 0] 130))
     have HBX:=lhi (((Amf wr.heap.size wr).alloc (Ama _) (Obj.cells #[.int .i64 (S.num j),.bool (S.dir j),.slice EA (S.ne j) ecap,.string (S.dat j)] 93)).alloc (by simp) (.cells #[.slice none 0 0,.slice none 0 0,.slice none 0 0,.slice none 0 0,.slice none 0 0,.slice none 0 0,.slice none 0 0,.slice none 0 0] 130))
     have HRA:=lhi (show RowB ((wr.alloc (Obj.cells #[.int .i64 (S.num j),.bool (S.dir j),.slice EA (S.ne j) ecap,.string (S.dat j)] 93)).alloc (.cells #[.slice none 0 0,.slice none 0 0,.slice none 0 0,.slice none 0 0,.slice none 0 0,.slice none 0 0,.slice none 0 0,.slice none 0 0] 130)) (wr.heap.size+1) 130 8 (fun _=>.slice none 0 0)from⟨_,Blk.newAt _ _ _ (by simp),rfl,fun i hi=>by rcases lt8 hi with rfl | rfl | rfl | rfl | rfl | rfl | rfl | rfl <;> rfl⟩)
     obtain⟨x,hx⟩:=xx (S.num j)
     obtain⟨dv,hdv⟩: ∃x,S.dir j=x:=⟨_,rfl⟩
     obtain⟨dt,hdt⟩: ∃x,S.dat j=x:=⟨_,rfl⟩
     obtain⟨ne,hne'⟩: ∃x,S.ne j=x:=⟨_,rfl⟩
     have HNE:=lhi hne'
     have HXE:=lhi hx
     have HDE:=lhi hdv
     have HTE:=lhi hdt
     rw[hx]at q0 hnum HX HBX HRA
     rw[hdv]at q1 HX HBX HRA
     rw[hdt]at q3 HX HBX HRA
     rw[hne']at q2 hne HX HBX HRA HENT
     clear hx hdv hdt hne'
     go_upto_region 11 with(fail)
     obtain⟨wx,hwx⟩:=yy ((wr.alloc (Obj.cells #[.int .i64 x,.bool dv,.slice EA ne ecap,.string dt] 93)).alloc (.cells #[.slice none 0 0,.slice none 0 0,.slice none 0 0,.slice none 0 0,.slice none 0 0,.slice none 0 0,.slice none 0 0,.slice none 0 0] 130))
     obtain⟨xb,hxb⟩:=yy wr.heap.size
     have HXS:=lhi (show xb+2=wx.heap.size by rw[hwx,hxb];simp)
     rw[<-hwx,<-hxb]at HX HBX HRA
     try rw[<-hwx]
     try rw[<-hxb]
     have HXB:=lhi hxb
     clear hwx hxb q0 q1 q2 q3
     have x2:wx.cell? ⟨xb,2,none⟩=some (.slice EA ne ecap):=HX.out.cell 2
     go_wp2_with (fail)
     clear x2
     obtain⟨w3,rfl⟩: ∃w3:World,w3=wr:=⟨_,rfl⟩
     go_loopw [43] (fun i wi=>∃(q:Nat) (vs:Nat->Value),i= .int .i64 q/\q<=ne/\Below (xb+1) wx wi/\RowB wi (xb+1) 130 8 vs/\ ∀b,b<8->ItB wi (vs b) (As S ((S.ino j).ents.take q) b)/\ ∀p,Es (vs b) p->xb+2<=p) (fun i _=>ne - (intOf i).toNat)
     case atStart=>exact⟨0,_,rfl,by omega,Amf _ _,HRA.out,fun b _=>⟨RowT.nil_ _ _ _ _ _,fun p hp=>by obtain⟨o,n',c,e⟩:=hp;cases e⟩⟩
     case round=>
      obtain⟨q,vs,rfl,hq,hB,hrow,hits⟩:=hrel
      obtain⟨wi,rfl⟩: ∃wi:World,wi=wr:=⟨_,rfl⟩
      have HBI:=lhi hB
      have HRI:=lhi hrow
      have HIT:=lhi hits
      have HBRI:=lhi (show Below xb w3 wi from HBX.out.trans (hB.mono (by omega)))
      have HKI:=lhi (show Kw L w wi from HKJ.out.trans (Kw.below (HKJ.out.bd HL.out) (by rw[<-HXB.out];exact HBRI.out)))
      clear hB hrow hits HRA
      by_cases hpq:q<ne
      ·
       obtain⟨-,-,eg,eoff,rfl,ecell⟩:=(HENT.out wi HKI.out).at_ hpq
       have e0:wi.cell? ⟨eg,eoff+q*2,none⟩=some (.string (S.enm j q)):=ecell 0 (by omega)
       have e1:wi.cell? ⟨eg,eoff+q*2+1,none⟩=some (.int .i64 (S.enu j q)):=ecell 1 (by omega)
       have hp2:(q:Int)<ne:=by omega
       have hql:q< (S.ino j).ents.length:=by have:=HNE.out;unfold St.ne at this;omega
       obtain⟨gi,hgi,hg2,hg3,-⟩:=HI.out.enu_in hjn (by rw[HNE.out];exact hpq)
       have hnu:=HI.out.num_bound (Inv.ino_mem hgi)
       have hnu:1<=S.num gi/\S.num gi<=257:=hnu
       rw[hg3]at hnu
       have HTK:=lhi (show(S.ino j).ents.take (q+1)=(S.ino j).ents.take q++[(S.enm j q,S.enu j q)]from Uc _ _ hql)
       have HBS:=lhi (fun b=>Wz S ((S.ino j).ents.take q) (S.enm j q,S.enu j q) b)
       have HBL:=lhi (fun b=>show(As S ((S.ino j).ents.take q) b).length<=1000 from Aml (Th _ _ _) (by rw[List.length_take];omega))
       have HIO:=lhi (show itOf S (S.enm j q,S.enu j q)=⟨S.enm j q,S.enu j q,dirF S (S.enu j q)⟩from rfl)
       have HDG:=lhi (Ae2 S (S.enu j q))
       have hnb:=Cz (S.enm j q)
       clear ecell hg2 hg3 hgi
       obtain⟨nm,hnm⟩: ∃y,S.enm j q=y:=⟨_,rfl⟩
       obtain⟨nu,hnu'⟩: ∃y,S.enu j q=y:=⟨_,rfl⟩
       rw[hnm]at e0 HTK HBS HIO hnb
       rw[hnu']at e1 hnu HTK HBS HIO HDG
       clear hnm hnu'
       have HBK:=lhi (fun W=>Cj nm W)
       obtain⟨b,hb⟩:=xx (Aa nm)
       have HNB:=lhi hb
       rw[hb]at HBK hnb
       clear hb
       have hb1:(b:Int)<8:=by omega
       have HE:=lhi (Blk.new wi 132 #[.string nm,.int .i64 nu])
       have HBE:=lhi (HBI.out.alloc (show xb+1<=wi.heap.size by have:=HBI.out.size;have:=HXS.out;omega) (Obj.cells #[.string nm,.int .i64 nu] 132))
       obtain⟨eb,heb⟩:=yy wi.heap.size
       go_upto_region 15 with(go_at_call 62;refine(HBK.out _).mono ?_;rintro e w5 ⟨rfl,hb5⟩;have HB5:=lhi hb5;clear hb5)
       have HBW5:=lhi ((show Below wi.heap.size wi (wi.alloc (Obj.cells #[.string nm,.int .i64 nu] 132))from(Amf _ _).alloc (Ama _) _).trans (HB5.out.mono (by simp)))
       rw[<-heb]at HE
       rw[<-heb]
       have HEB:=lhi heb
       clear heb
       have HE5:=lhi (Blk.of_heap (HB5.out.block _ HE.out.lt) HE.out)
       have HR5:=lhi (HRI.out.below HBW5.out)
       have HK5:=lhi (show Below xb w3 w5 from HBRI.out.trans (HBW5.out.mono (by have:=HBI.out.size;have:=HXS.out;omega)))
       have HM5:=lhi ((HKZ.out.map HDV.out).below (by rw[<-HXB.out];exact HK5.out))
       have HBB5:=lhi (HBI.out.trans (HBW5.out.mono (by have:=HBI.out.size;have:=HXS.out;omega)))
       have HI5:=lhi (fun b (hb:b<8)=>(HIT.out b hb).1.below HBW5.out)
       clear e0 e1 HB5 HE
       obtain⟨d,hd⟩:=xx (dirF S nu)
       rw[hd]at HDG HIO
       clear hd
       have HLK:=lhi (fun(W:World) (h:Below w5.heap.size w5 W)=>by
        have:=(HM5.out.below h).look Tryz.underlying127 (Aj6 W) (i:=nu) (by omega)
        rw[HDG.out]at this
        exact this)
       have HCE:=lhi (fun(W:World) (h:Below w5.heap.size w5 W)=>show W.cell? ⟨eb,0,none⟩=some (.string nm)/\W.cell? ⟨eb,1,none⟩=some (.int .i64 nu)/\W.cell? ⟨xb+1,b,none⟩=some (vs b)from⟨(h.cell (p:=⟨eb,0,none⟩) HE5.out.lt).trans (HE5.out.cell 0),(h.cell (p:=⟨eb,1,none⟩) HE5.out.lt).trans (HE5.out.cell 1),(HR5.out.below h).cell hnb⟩)
       have HWI:=lhi (Qr (w:=w5.drew) ((HI5.out b hnb).below (Ae w5)) (HBL.out b) ⟨nm,nu,d⟩)
       have HF5:=lhi (fun(W:World) (h:Below w5.heap.size w5 W)=>show W.frozen? ⟨xb+1,b,none⟩=false from by obtain⟨cs,b1,-,-⟩:=HR5.out.below h;exact b1.frozen _)
       clear HDG HM5
       refine Af (L:=15) (S:=fun w'=>(w'.cell? ⟨eb,0,none⟩=some (.string nm)/\w'.cell? ⟨eb,1,none⟩=some (.int .i64 nu)/\w'.cell? ⟨xb+1,b,none⟩=some (vs b))/\ (Instr.lookup 127 (.map (some (sp+1))) (.int .i64 nu) false).run Tryz.prog w'= .ok (.bool d) w') (by kernel_rfl) (⟨HCE.out _ (Ae w5),HLK.out _ (Ae w5)⟩) (fun hHeld=>?_)
       refine tF 0 ?_
       refine tF 1 ?_
       refine tF 2 ?_
       refine tF 3 ?_
       refine tF 4 ?_
       refine tF 5 ?_
       refine tF 6 ?_
       refine tF 7 ?_
       refine tF 8 ?_
       refine tF 9 ?_
       refine tF 10 ?_
       refine tF 11 ?_
       refine tF 12 ?_
       refine Ap (i:=13) (by kernel_rfl) rfl (fun K hK=>?_)
       go_simp
       refine HWI.out.mono ?_
       rintro e w6 ⟨⟨v6,rfl,hv6,hn6⟩,hb6⟩
       have HB6:=lhi (show Below w5.heap.size w5 w6 from(Ae w5).trans (show Below w5.heap.size w5.drew w6 from hb6))
       show K _ _
       refine hK.out _ _ (fun _=>⟨HCE.out _ HB6.out,HLK.out _ HB6.out⟩) (fun hHeld=>?_)
       replace hHeld:=hHeld (by decide)
       clear hK K
       refine tF 14 ?_
       have HV6:=lhi hv6
       have HN6:=lhi hn6
       obtain⟨A6,c6,e6,-,-⟩:=hv6
       obtain⟨n6,hnn6⟩:=xx ((As S (List.take q (S.ino j).ents) b++[(⟨nm,nu,d⟩:Item)]).length)
       rw[hnn6]at e6
       subst e6
       have f6:w6.frozen? ⟨xb+1,b,none⟩=false:=HF5.out _ HB6.out
       have z6:=hHeld.1.2.2
       clear hnn6 hb6 hn6
       refine Ap (i:=15) (by kernel_rfl) rfl (fun K hK=>?_)
       go_simp
       show K _ _
       refine hK.out _ _ (fun h=>absurd rfl h) (fun _=>?_)
       clear hK K
       refine Cn (by kernel_rfl) ?_ _
       have HB7:=lhi (HBB5.out.trans (HB6.out.mono (by have:=HBB5.out.size;have:=HXS.out;omega)))
       have HR7:=lhi ((HR5.out.below HB6.out).set (i:=b) (.slice A6 n6 c6) (h:=fun q=>if q=b then .slice A6 n6 c6 else vs q) (fun _ _=>rfl))
       have HT7:=lhi (show∀q',q'<8->ItB (w6.setCell ⟨xb+1,b,none⟩ (.slice A6 n6 c6)) (if q'=b then .slice A6 n6 c6 else vs q') (As S ((S.ino j).ents.take (q+1)) q')/\ ∀p,Es (if q'=b then .slice A6 n6 c6 else vs q') p->xb+2<=p from fun q' hq'=>by
        obtain⟨cs,r1,-,-⟩:=HR5.out.below HB6.out
        rw[HTK.out,HBS.out q']
        by_cases e:q'=b
        ·subst e
         rw[if_pos rfl,if_pos HNB.out,HIO.out]
         exact⟨RowT.far HV6.out r1 (by decide) _ _,fun p hp=>by
          have:=HN6.out p hp
          have h2:=HBI.out.size
          have h3:=HXS.out
          have h4:=HBW5.out.size
          have h5:w5.drew.heap.size=w5.heap.size:=rfl
          omega⟩
        ·rw[if_neg e,if_neg (fun h=>e (by rw[<-h];exact HNB.out))]
         exact⟨RowT.far ((HI5.out q' hq').below HB6.out) r1 (by decide) _ _,(HIT.out q' hq').2⟩)
       have HS7:=lhi (HB7.out.setCell (p:=⟨xb+1,b,none⟩) (Ama _) (.slice A6 n6 c6))
       clear f6 z6 hHeld
       go_wp2_with (fail)
       go_roundw
       case rel=>exact⟨q+1,_,by go_num,by omega,HS7.out,HR7.out,HT7.out⟩
       case measure=>
        simp only[intOf]
        omega
      ·have e:q=ne:=by omega
       subst e
       have HX7:=lhi (Blk.of_heap (HBI.out.block xb (by omega)) HX.out)
       have HMI:=lhi (HMJ.out.below (by rw[<-HXB.out];exact HBRI.out))
       have HMAP:=lhi ((HKZ.out.map HDV.out).below (by rw[<-HXB.out];exact HBRI.out))
       have HITS:=lhi (show∀b,b<8->ItB wi (vs b) (As S (S.ino j).ents b)/\ ∀p,Es (vs b) p->xb+2<=p from fun b hb=>by
        have:=HIT.out b hb
        rw[List.take_of_length_le (by have:=HNE.out;unfold St.ne at this;omega)]at this
        exact this)
       have a0:wi.cell? ⟨xb+1,0,none⟩=some (vs 0):=HRI.out.cell (by omega)
       have a1:wi.cell? ⟨xb+1,1,none⟩=some (vs 1):=HRI.out.cell (by omega)
       have a2:wi.cell? ⟨xb+1,2,none⟩=some (vs 2):=HRI.out.cell (by omega)
       have a3:wi.cell? ⟨xb+1,3,none⟩=some (vs 3):=HRI.out.cell (by omega)
       have a4:wi.cell? ⟨xb+1,4,none⟩=some (vs 4):=HRI.out.cell (by omega)
       have a5:wi.cell? ⟨xb+1,5,none⟩=some (vs 5):=HRI.out.cell (by omega)
       have a6:wi.cell? ⟨xb+1,6,none⟩=some (vs 6):=HRI.out.cell (by omega)
       have a7:wi.cell? ⟨xb+1,7,none⟩=some (vs 7):=HRI.out.cell (by omega)
       have HKWI:=lhi (show Kw L wz wi from HKZ.out.trans (Kw.below (HKJ.out.bd HL.out) (by rw[<-HXB.out];exact HBRI.out)))
       have HVB:=lhi (show∀b,b<8-> ∃A n c,vs b= .slice A n c from fun b hb=>by
        obtain⟨A,c,e,-,-⟩:=(HITS.out b hb).1
        exact⟨A,_,c,e⟩)
       go_wp2_with (fail)
       clear a0 a1 a2 a3 a4 a5 a6 a7
       have HXI:=lhi HX7.out
       have HLB:=lhi (fun b=>show De S j MJ (b+1)=Fg S j (De S j MJ b) b from rfl)
       have HOKB:=lhi (fun b=>Ha (S:=S) (i:=j) HOKJ.out b)
       have HTSB:=lhi (fun b=>Lj S j MJ b)
       have HBRK:=lhi HBRI.out
       clear HBI HRI HIT HBRI HX7 HX HBX
       go_loopw [67] (fun i wk=>∃b:Nat,i= .int .i64 b/\b<=8/\Ab L wk s (De S j MJ b)/\Kw L wi wk) (fun i _=>8 - (intOf i).toNat)
       case atStart=>exact⟨0,rfl,by omega,HMI.out,Kw.refl _ _⟩
       case round=>
        obtain⟨b,rfl,hb,hmem,hkw⟩:=hrel
        have HMB:=lhi hmem
        have HKB:=lhi hkw
        clear hmem hkw
        by_cases hpb:b<8
        ·
         have hpb1:(b:Int)<8:=by omega
         have HITB:=lhi (HITS.out b hpb)
         obtain⟨VA,vc,hvb,-,-⟩:=HITB.out.1
         have hix:=fun W=>Afh vs hpb HVB.out W
         rw[hvb]at hix HITB
         have HLOK:=lhi (HOKB.out b)
         have HLTS:=lhi (HTSB.out b)
         have HLBB:=lhi (HLB.out b)
         obtain⟨MB,hMB⟩:=xx (De S j MJ b)
         rw[hMB]at HMB HLOK HLTS HLBB
         clear hMB hvb
         have HLE:=lhi (show As S (S.ino j).ents b=As S (S.ino j).ents b from rfl)
         have HLD:=lhi (show Fg S j MB b=if(As S (S.ino j).ents b).length=0 then MB else(MB.give 0 (.bucket (As S (S.ino j).ents b))).put (wd x b) (MB.next 0)by unfold Fg;rw[HXE.out])
         obtain⟨its,hits⟩:=xx (As S (S.ino j).ents b)
         rw[hits]at hix HITB HLD
         clear hits
         obtain⟨il,hil⟩: ∃n,its.length=n:=⟨_,rfl⟩
         have HIL:=lhi hil
         rw[hil]at hix HITB HLD
         clear hil
         by_cases h0:il=0
         ·have h1: ¬ (0:Int)< (il:Int):=by omega
          have HE:=lhi (show De S j MJ (b+1)=MB by rw[HLBB.out,HLD.out,if_pos h0])
          clear h0
          go_wp2_with (fail)
          go_roundw
          case rel=>exact⟨b+1,by go_num,by omega,by rw[HE.out];exact HMB.out,HKB.out⟩
          case measure=>
           simp only[intOf]
           omega
         ·have h1:(0:Int)< (il:Int):=by omega
          have HE:=lhi (show De S j MJ (b+1)=(MB.give 0 (.bucket its)).put (wd x b) (MB.next 0)by rw[HLBB.out,HLD.out,if_neg h0])
          obtain⟨a,ha⟩:=HMB.out.arena
          have HXB2:=lhi (HKB.out.blk HXI.out Bf)
          have hth:Dx L wr (.iface 129 (.slice VA il vc)) (.bucket its):=⟨_,rfl,HKB.out.it HITB.out.1,fun _ q hq hl=>by
           have:=HITB.out.2 q hq
           have h3:=HL.out q hl
           have h4:=HKJ.out.size
           have h5:=HXB.out
           omega⟩
          have HG:=lhi (Ahg HMB.out.drew HLOK.out (by omega) (c:=0) ⟨by omega,by rw[HLTS.out,HTSJ.out];omega⟩ (hth.ki (KI.refl _)))
          have HW:=lhi (Cs x b (by omega) (by omega))
          have hwd:=Il (num:=x) (b:=(b:Int)) hnum (by omega)
          have HPK:=lhi (fun(w':World) (hM:Ab L w' s (MB.give 0 (.bucket its))) (hc:w'.cell? ⟨s,0,none⟩=some (.pointer (some ⟨a,0,none⟩)))=>Rn hM (HLOK.out.give 0 (.bucket its)) (i:=wd x b) (v:=MB.next 0) hwd hc)
          have HPD:=lhi (show wr.drew.cell? ⟨s,0,none⟩=some (.pointer (some ⟨a,0,none⟩))/\wr.drew.cell? ⟨xb,0,none⟩=some (.int .i64 x)from⟨ha,HXB2.out.cell 0⟩)
          obtain⟨nx,hnx⟩: ∃y,MB.next 0=y:=⟨_,rfl⟩
          rw[hnx]at HG HPK HE
          obtain⟨wn,hwn⟩: ∃y,wd x b=y:=⟨_,rfl⟩
          rw[hwn]at HW HPK HE
          clear hnx hwn hwd hth ha h0
          go_upto_region 21 with(fail)
          go_region_held3 (fun w'=>w'.cell? ⟨s,0,none⟩=some (.pointer (some ⟨a,0,none⟩))/\w'.cell? ⟨xb,0,none⟩=some (.int .i64 x))
           (with_reducible first | exact HPD.out | exact z1 | exact z2)
           ((first
            | (go_at_call 65;refine(HW.out _).mono ?_;rintro e w' ⟨rfl,rfl⟩)
            | (go_at_call 66;refine HG.out.mono ?_;rintro e w1 ⟨⟨rfl,hc0⟩,hM,hK⟩;have HM1':=lhi hM;have HK1':=lhi hK;have z1:w1.cell? ⟨s,0,none⟩=some (.pointer (some ⟨a,0,none⟩))/\w1.cell? ⟨xb,0,none⟩=some (.int .i64 x):=⟨hc0.trans HPD.out.1,hK.cellB (w:=wr.drew) HXB2.out Bf HPD.out.2⟩;clear hM hK hc0)
            | (go_at_call 64;refine(HPK.out _ HM1'.out z1.1).mono ?_;rintro e w2 ⟨⟨rfl,hc0⟩,hM2,hK2⟩;have HM2':=lhi hM2;have HK2':=lhi hK2;have z2:w2.cell? ⟨s,0,none⟩=some (.pointer (some ⟨a,0,none⟩))/\w2.cell? ⟨xb,0,none⟩=some (.int .i64 x):=⟨hc0.trans z1.1,hK2.cellB (HK1'.out.blk (w:=wr.drew) HXB2.out Bf) Bf z1.2⟩;clear hM2 hK2 hc0)))
          all_goals
           go_wp2_with (fail)
           go_roundw
           case rel=>exact⟨b+1,by go_num,by omega,by rw[HE.out];exact HM2'.out,HKB.out.trans ((show Kw L wr w1 from HK1'.out.undrew).trans HK2'.out)⟩
           case measure=>
            simp only[intOf]
            omega
        ·have e:b=8:=by omega
         subst e
         obtain⟨wb,rfl⟩: ∃wb:World,wb=wr:=⟨_,rfl⟩
         have HXB3:=lhi (HKB.out.blk HXI.out Bf)
         have HK8:=lhi (show Kw L w wb from HKI.out.trans HKB.out)
         have HKZ8:=lhi (show Kw L wz wb from HKWI.out.trans HKB.out)
         have HOK8:=lhi (HOKB.out 8)
         have HTS8:=lhi (HTSB.out 8)
         have HLI8:=lhi (show Ce S M (j+1)=if dv then De S j MJ 8 else Ei S j (De S j MJ 8)by rw[HLI.out,<-HDE.out];rfl)
         obtain⟨M8,hM8⟩:=xx (De S j MJ 8)
         rw[hM8]at HMB HOK8 HTS8 HLI8
         clear hM8 HITS HVB HLB HOKB HTSB HMI HXI HKB
         have z1:wb.cell? ⟨xb,1,none⟩=some (.bool dv):=HXB3.out.cell 1
         rcases Ql dv with rfl | rfl
         ·have HE:=lhi (show Ce S M (j+1)=M8 by rw[HLI8.out,if_pos rfl])
          go_wp2_with (fail)
          go_roundw
          case rel=>exact⟨j+1,by go_num,by omega,by rw[HE.out];exact HMB.out,HK8.out,HKZ8.out⟩
          case measure=>
           simp only[intOf]
           omega
         ·obtain⟨a,ha⟩:=HMB.out.arena
          have HF:=lhi (show Ce S M (j+1)=((M8.put (wd x 8) (cntI S x S.inodes.length:Nat)).give 0 (.base ((M8.put (wd x 8) (cntI S x S.inodes.length:Nat)).next 0) dt false)).put (wd x 16) ((M8.put (wd x 8) (cntI S x S.inodes.length:Nat)).next 0)by rw[HLI8.out,if_neg (by decide)];unfold Ei;rw[HXE.out,HTE.out])
          have HSB:=lhi (HKZ8.out.blk HXW.out Cw)
          have HLN:=lhi (Kr (w:=wb.drew) (HS0.out _ HK8.out.drew) HSm.out x)
          have HW:=lhi (Cs x 8 (by omega) (by omega))
          have hwd:=Il (num:=x) (b:=8) hnum (by omega)
          have HPK:=lhi (fun(w':World) (v:Int) (hM:Ab L w' s M8) (hc:w'.cell? ⟨s,0,none⟩=some (.pointer (some ⟨a,0,none⟩)))=>Rn hM HOK8.out (i:=wd x 8) (v:=v) hwd hc)
          have HPD:=lhi (show(wb.drew.cell? ⟨s,0,none⟩=some (.pointer (some ⟨a,0,none⟩))/\wb.drew.cell? ⟨xb,0,none⟩=some (.int .i64 x))/\ (wb.drew.cell? ⟨sp,0,none⟩=some (.slice (some ⟨g,off,none⟩) k cap)/\wb.drew.cell? ⟨sp,1,none⟩=some (.slice OA S.opens.length ocap)/\wb.drew.cell? ⟨sp,2,none⟩=some (.slice MA S.made.length mcap))from⟨⟨ha,HXB3.out.cell 0⟩,HSB.out.cell 0,HSB.out.cell 1,HSB.out.cell 2⟩)
          have HSBX:=lhi (fun(W:World) (h:Kw L wb.drew W) (hc:W.cell? ⟨s,0,none⟩=some (.pointer (some ⟨a,0,none⟩)))=>show(W.cell? ⟨s,0,none⟩=some (.pointer (some ⟨a,0,none⟩))/\W.cell? ⟨xb,0,none⟩=some (.int .i64 x))/\ (W.cell? ⟨sp,0,none⟩=some (.slice (some ⟨g,off,none⟩) k cap)/\W.cell? ⟨sp,1,none⟩=some (.slice OA S.opens.length ocap)/\W.cell? ⟨sp,2,none⟩=some (.slice MA S.made.length mcap))from⟨⟨hc,h.cellB (w:=wb.drew) HXB3.out Bf HPD.out.1.2⟩,h.cellB (w:=wb.drew) HSB.out Cw HPD.out.2.1,h.cellB (w:=wb.drew) HSB.out Cw HPD.out.2.2.1,h.cellB (w:=wb.drew) HSB.out Cw HPD.out.2.2.2⟩)
          rw[HNN.out]at HLN HF
          obtain⟨lk,hlk⟩: ∃y,cntI S x k=y:=⟨_,rfl⟩
          rw[hlk]at HLN HF
          have hdb:Bd L wb.drew:=HK8.out.bd HL.out
          have HDB:=lhi hdb
          obtain⟨wn,hwn⟩: ∃y,wd x 8=y:=⟨_,rfl⟩
          rw[hwn]at HW HPK HF
          clear hwn hwd ha hlk hdb
          go_upto_region 24 with(fail)
          go_cut [] (fun wx=>Ab L wx s (M8.put wn lk)/\Kw L wb wx)
          case first=>
           go_region_held3 (fun w'=>(w'.cell? ⟨s,0,none⟩=some (.pointer (some ⟨a,0,none⟩))/\w'.cell? ⟨xb,0,none⟩=some (.int .i64 x))/\ (w'.cell? ⟨sp,0,none⟩=some (.slice (some ⟨g,off,none⟩) k cap)/\w'.cell? ⟨sp,1,none⟩=some (.slice OA S.opens.length ocap)/\w'.cell? ⟨sp,2,none⟩=some (.slice MA S.made.length mcap)))
            (with_reducible first | exact HPD.out | exact z3 | exact z4)
            ((first
             | (go_at_call 65;refine(HW.out _).mono ?_;rintro e w' ⟨rfl,rfl⟩)
             | (go_at_call 67;refine HLN.out.mono ?_;rintro e w4 ⟨rfl,hb4⟩;have HM4:=lhi (HMB.out.drew.below hb4);have HK4:=lhi (Kw.below HDB.out hb4);have z3:=HSBX.out _ HK4.out ((hb4.cell (Amd _ _ HPD.out.1.1)).trans HPD.out.1.1);clear hb4)
             | (go_at_call 64;refine(HPK.out _ _ HM4.out z3.1.1).mono ?_;rintro e w5 ⟨⟨rfl,hc0⟩,hM5,hK5⟩;have HM5:=lhi hM5;have HK5:=lhi (HK4.out.trans hK5);have z4:=HSBX.out _ HK5.out (hc0.trans z3.1.1);clear hM5 hK5 hc0)))
           all_goals
            go_wp2_with (fail)
            go_meet
            case rel=>exact⟨HM5.out,HK5.out.undrew⟩
          case rest=>
           have HM9:=lhi hcut.1
           have HK9:=lhi hcut.2
           clear hcut HPD HSBX HLN HW HPK z1
           have HOK9:=lhi (HOK8.out.put wn lk)
           have HTS9:=lhi (show(M8.put wn lk).ts=MJ.ts by rw[<-HTS8.out];rfl)
           obtain⟨M9,hM9⟩:=xx (M8.put wn lk)
           rw[hM9]at HM9 HF HOK9 HTS9
           clear hM9
           obtain⟨a,ha⟩:=HM9.out.arena
           have HXC:=lhi (HK9.out.blk HXB3.out Bf)
           have hc0:(0:Int)<=0/\ (0:Int)<M9.ts.length:=⟨by omega,by rw[HTS9.out,HTSJ.out];omega⟩
           have HN:=lhi (Pj HM9.out.drew HOK9.out (by omega) hc0)
           have HG:=lhi (Ahg HM9.out.drew HOK9.out (by omega) hc0 (ty:=142) (x:=.agg #[.int .i64 (M9.next 0),.string dt,.bool false]) (t:=.base (M9.next 0) dt false) rfl)
           have HW:=lhi (Cs x 16 (by omega) (by omega))
           have hwd:=Il (num:=x) (b:=16) hnum (by omega)
           have HPK:=lhi (fun(w':World) (hM:Ab L w' s (M9.give 0 (.base (M9.next 0) dt false))) (hc:w'.cell? ⟨s,0,none⟩=some (.pointer (some ⟨a,0,none⟩)))=>Rn hM (HOK9.out.give 0 _) (i:=wd x 16) (v:=M9.next 0) hwd hc)
           have HPD:=lhi (show wc.drew.cell? ⟨s,0,none⟩=some (.pointer (some ⟨a,0,none⟩))/\wc.drew.cell? ⟨xb,0,none⟩=some (.int .i64 x)/\wc.drew.cell? ⟨xb,3,none⟩=some (.string dt)from⟨ha,HXC.out.cell 0,HXC.out.cell 3⟩)
           obtain⟨nx,hnx⟩: ∃y,M9.next 0=y:=⟨_,rfl⟩
           rw[hnx]at HN HG HPK HF
           obtain⟨wm,hwm⟩: ∃y,wd x 16=y:=⟨_,rfl⟩
           rw[hwm]at HW HPK HF
           clear hnx hwm hwd ha hc0
           obtain⟨wv,rfl⟩: ∃wv:World,wv=wc:=⟨_,rfl⟩
           go_upto_region 25 with(fail)
           go_region_held3 (fun w'=>w'.cell? ⟨s,0,none⟩=some (.pointer (some ⟨a,0,none⟩))/\w'.cell? ⟨xb,0,none⟩=some (.int .i64 x)/\w'.cell? ⟨xb,3,none⟩=some (.string dt))
            (with_reducible first | exact HPD.out | exact z1 | exact z2)
            ((first
             | (go_at_call 65;refine(HW.out _).mono ?_;rintro e w' ⟨rfl,rfl⟩)
             | (go_at_call 68;refine HN.out.mono ?_;rintro e w' ⟨rfl,rfl⟩)
             | (go_at_call 66;refine HG.out.mono ?_;rintro e w1 ⟨⟨rfl,hc0⟩,hM,hK⟩;have HMa:=lhi hM;have HKa:=lhi hK;have z1:w1.cell? ⟨s,0,none⟩=some (.pointer (some ⟨a,0,none⟩))/\w1.cell? ⟨xb,0,none⟩=some (.int .i64 x)/\w1.cell? ⟨xb,3,none⟩=some (.string dt):=⟨hc0.trans HPD.out.1,hK.cellB (w:=wv.drew) HXC.out Bf HPD.out.2.1,hK.cellB (w:=wv.drew) HXC.out Bf HPD.out.2.2⟩;clear hM hK hc0)
             | (go_at_call 64;refine(HPK.out _ HMa.out z1.1).mono ?_;rintro e w2 ⟨⟨rfl,hc0⟩,hM2,hK2⟩;have HMc:=lhi hM2;have HKc:=lhi hK2;have z2:w2.cell? ⟨s,0,none⟩=some (.pointer (some ⟨a,0,none⟩))/\w2.cell? ⟨xb,0,none⟩=some (.int .i64 x)/\w2.cell? ⟨xb,3,none⟩=some (.string dt):=⟨hc0.trans z1.1,hK2.cellB (HKa.out.blk (w:=wv.drew) HXC.out Bf) Bf z1.2.1,hK2.cellB (HKa.out.blk (w:=wv.drew) HXC.out Bf) Bf z1.2.2⟩;clear hM2 hK2 hc0)))
           all_goals
            go_wp2_with (fail)
            go_roundw
            case rel=>exact⟨j+1,by go_num,by omega,by rw[HF.out];exact HMc.out,HK8.out.trans (HK9.out.trans ((show Kw L wv w1 from HKa.out.undrew).trans HKc.out)),HKZ8.out.trans (HK9.out.trans ((show Kw L wv w1 from HKa.out.undrew).trans HKc.out))⟩
            case measure=>
             simp only[intOf]
             omega
    ·have e:j=k:=by omega
     subst e
     have HSB:=lhi (HKZ.out.blk HXW.out Cw)
     have x2:wr.cell? ⟨sp,2,none⟩=some (.slice MA S.made.length mcap):=HSB.out.cell 2
     have HOK2:=lhi (Gz (S:=S) HOK.out j)
     have HTS2:=lhi (Li S M j)
     obtain⟨MI,hMI⟩:=xx (Ce S M j)
     rw[hMI]at HMJ HOK2 HTS2
     have HMI:=lhi hMI
     clear hMI
     obtain⟨w3,rfl⟩: ∃w3:World,w3=wr:=⟨_,rfl⟩
     obtain⟨a,ha⟩:=HMJ.out.arena
     have HA0:=lhi ha
     clear ha
     go_wp2_with (fail)
     clear x2
     go_loopw [123] (fun i wr=>∃c:Nat,i= .int .i64 c/\c<=S.made.length/\Ab L wr s (Bl S MI c)/\Kw L w3 wr/\wr.cell? ⟨s,0,none⟩=some (.pointer (some ⟨a,0,none⟩))) (fun i _=>S.made.length - (intOf i).toNat)
     case atStart=>exact⟨0,rfl,by omega,HMJ.out,Kw.refl _ _,HA0.out⟩
     case round=>
      obtain⟨c,rfl,hcl,hmem,hkw,hac⟩:=hrel
      have HMC:=lhi hmem
      have HKC:=lhi hkw
      have HAC:=lhi hac
      clear hmem hkw hac
      by_cases hpc:c<S.made.length
      ·
       obtain⟨-,-,g,off,rfl,hcell⟩:=(HS0.out wr (HKJ.out.trans HKC.out)).mad.at_ hpc
       have q0:wr.cell? ⟨g,off+c,none⟩=some (.int .i64 (S.mad c)):=by have:=hcell 0 (by omega);simpa[madC]using this
       have hp1:(c:Int)<S.made.length:=by omega
       have HW:=lhi (Gu c (by omega))
       have hmd:0<=mdw (c:Int)/\mdw (c:Int)<9549:=by unfold mdw;omega
       have HPK:=lhi (Rn (v:=S.mad c) HMC.out.drew (Hx (S:=S) HOK2.out c) hmd HAC.out)
       have HPD:=lhi (show wr.drew.cell? ⟨s,0,none⟩=some (.pointer (some ⟨a,0,none⟩))from HAC.out)
       have HLM:=lhi (show Bl S MI (c+1)=(Bl S MI c).put (mdw c) (S.mad c)from rfl)
       obtain⟨mc,hmc⟩: ∃y,S.mad c=y:=⟨_,rfl⟩
       rw[hmc]at q0 HPK HLM
       obtain⟨wm,hwm⟩: ∃y,mdw (c:Int)=y:=⟨_,rfl⟩
       rw[hwm]at HW HPK HLM
       clear hcell hmc hwm hmd
       go_upto_region 30 with(fail)
       clear q0
       go_region_held3 (fun w'=>w'.cell? ⟨s,0,none⟩=some (.pointer (some ⟨a,0,none⟩)))
        (with_reducible first | exact HPD.out | exact z2)
        ((first
         | (go_at_call 69;refine(HW.out _).mono ?_;rintro e w' ⟨rfl,rfl⟩)
         | (go_at_call 64;refine HPK.out.mono ?_;rintro e w2 ⟨⟨rfl,hc0⟩,hM2,hK2⟩;have HM2:=lhi hM2;have HK2:=lhi (show Kw L wr w2 from hK2.undrew);have z2:=hc0.trans HPD.out;clear hM2 hK2 hc0)))
       all_goals
        go_wp2_with (fail)
        go_roundw
        case rel=>exact⟨c+1,by go_num,by omega,by rw[HLM.out];exact HM2.out,HKC.out.trans HK2.out,z2⟩
        case measure=>
         simp only[intOf]
         omega
      ·have e:c=S.made.length:=by omega
       subst e
       have HSB2:=lhi (HKC.out.blk HSB.out Cw)
       have x1:wr.cell? ⟨sp,1,none⟩=some (.slice OA S.opens.length ocap):=HSB2.out.cell 1
       obtain⟨w4,rfl⟩: ∃w4:World,w4=wr:=⟨_,rfl⟩
       have HOK4:=lhi (Hx (S:=S) HOK2.out S.made.length)
       have HK4:=lhi (HKJ.out.trans HKC.out)
       obtain⟨M4,hM4⟩:=xx (Bl S MI S.made.length)
       rw[hM4]at HMC HOK4
       have HME:=lhi hM4
       clear hM4
       go_wp2_with (fail)
       clear x1
       go_loopw [140] (fun i wr=>∃c:Nat,i= .int .i64 c/\c<=S.opens.length/\Ab L wr s (Bv S M4 c)/\Kw L w4 wr/\wr.cell? ⟨s,0,none⟩=some (.pointer (some ⟨a,0,none⟩))) (fun i _=>S.opens.length - (intOf i).toNat)
       case atStart=>exact⟨0,rfl,by omega,HMC.out,Kw.refl _ _,HAC.out⟩
       case round=>
        obtain⟨c,rfl,hcl,hmem,hkw,hac⟩:=hrel
        have HMD:=lhi hmem
        have HKD:=lhi hkw
        have HAD:=lhi hac
        clear hmem hkw hac
        by_cases hpc:c<S.opens.length
        ·obtain⟨-,-,g,off,rfl,hcell⟩:=(HS0.out wr (HK4.out.trans HKD.out)).opn.at_ hpc
         have q0:wr.cell? ⟨g,off+c*3,none⟩=some (.int .i64 (S.oc c)):=hcell 0 (by omega)
         have q1:wr.cell? ⟨g,off+c*3+1,none⟩=some (.int .i64 (S.of c)):=hcell 1 (by omega)
         have q2:wr.cell? ⟨g,off+c*3+2,none⟩=some (.int .i64 (S.on c)):=hcell 2 (by omega)
         have hp1:(c:Int)<S.opens.length:=by omega
         obtain⟨o1,o2,o3,o4,-⟩:=HI.out.ok _ (Bm (d:=(0,0,0)) hpc)
         have o1:0<=S.oc c:=o1
         have o2:S.oc c<S.made.length:=o2
         have o3:0<=S.of c:=o3
         have o4:S.of c<4:=o4
         have hno:=HSm.out.no
         have hfd:0<=fdw (S.oc c) (S.of c)/\fdw (S.oc c) (S.of c)<9549:=by unfold fdw;omega
         have HW:=lhi (Nu (S.oc c) (S.of c) (by omega) (by omega))
         have hnb:=Amf wr.heap.size wr
         have HPK:=lhi (fun(W:World) (hb:Below wr.heap.size wr W)=>Rn (v:=S.on c) (HMD.out.below hb) (Kq (S:=S) HOK4.out c) hfd ((hb.cell (Amd _ _ HAD.out)).trans HAD.out))
         have HLM:=lhi (show Bv S M4 (c+1)=(Bv S M4 c).put (fdw (S.oc c) (S.of c)) (S.on c)from rfl)
         obtain⟨oc,hoc⟩: ∃y,S.oc c=y:=⟨_,rfl⟩
         obtain⟨of,hof⟩: ∃y,S.of c=y:=⟨_,rfl⟩
         obtain⟨on,hon⟩: ∃y,S.on c=y:=⟨_,rfl⟩
         rw[hoc]at q0 HW HPK HLM
         rw[hof]at q1 HW HPK HLM
         rw[hon]at q2 HPK HLM
         obtain⟨wm,hwm⟩: ∃y,fdw oc of=y:=⟨_,rfl⟩
         rw[hwm]at HW HPK HLM
         clear hcell hoc hof hon hwm hfd o1 o2 o3 o4 hnb
         have HE:=lhi (Blk.new wr 144 #[.int .i64 oc,.int .i64 of,.int .i64 on])
         have HBA:=lhi ((Amf wr.heap.size wr).alloc (Ama _) (Obj.cells #[.int .i64 oc,.int .i64 of,.int .i64 on] 144))
         obtain⟨wy,hwy⟩:=yy (wr.alloc (Obj.cells #[.int .i64 oc,.int .i64 of,.int .i64 on] 144))
         obtain⟨eb,heb⟩:=yy wr.heap.size
         go_upto_region 35 with(fail)
         rw[<-hwy]at HE HBA⊢
         rw[<-heb]at HE⊢
         clear q0 q1 q2 hwy heb
         have HPD:=lhi (show wy.drew.cell? ⟨s,0,none⟩=some (.pointer (some ⟨a,0,none⟩))/\wy.drew.cell? ⟨eb,0,none⟩=some (.int .i64 oc)/\wy.drew.cell? ⟨eb,1,none⟩=some (.int .i64 of)/\wy.drew.cell? ⟨eb,2,none⟩=some (.int .i64 on)from⟨(HBA.out.cell (Amd _ _ HAD.out)).trans HAD.out,HE.out.cell 0,HE.out.cell 1,HE.out.cell 2⟩)
         have HPY:=lhi (HPK.out wy.drew (Gi HBA.out))
         have HBL:=lhi ((HK4.out.trans HKD.out).bd HL.out)
         go_region_held3 (fun w'=>w'.cell? ⟨s,0,none⟩=some (.pointer (some ⟨a,0,none⟩))/\w'.cell? ⟨eb,0,none⟩=some (.int .i64 oc)/\w'.cell? ⟨eb,1,none⟩=some (.int .i64 of)/\w'.cell? ⟨eb,2,none⟩=some (.int .i64 on))
          (with_reducible first | exact HPD.out | exact z2)
          ((first
           | (go_at_call 70;refine(HW.out _).mono ?_;rintro e w' ⟨rfl,rfl⟩)
           | (go_at_call 64;refine HPY.out.mono ?_;rintro e w2 ⟨⟨rfl,hc0⟩,hM2,hK2⟩;have HM2:=lhi hM2;have HK2:=lhi (show Kw L wr w2 from(Kw.below HBL.out (Gi HBA.out)).trans hK2);have z2:=(show w2.cell? ⟨s,0,none⟩=some (.pointer (some ⟨a,0,none⟩))/\w2.cell? ⟨eb,0,none⟩=some (.int .i64 oc)/\w2.cell? ⟨eb,1,none⟩=some (.int .i64 of)/\w2.cell? ⟨eb,2,none⟩=some (.int .i64 on)from⟨hc0.trans HPD.out.1,hK2.cellB (w:=wy.drew) HE.out (by decide) HPD.out.2.1,hK2.cellB (w:=wy.drew) HE.out (by decide) HPD.out.2.2.1,hK2.cellB (w:=wy.drew) HE.out (by decide) HPD.out.2.2.2⟩);clear hM2 hK2 hc0)))
         all_goals
          go_wp2_with (fail)
          go_roundw
          case rel=>exact⟨c+1,by go_num,by omega,by rw[HLM.out];exact HM2.out,HKD.out.trans HK2.out,z2.1⟩
          case measure=>
           simp only[intOf]
           omega
        ·have e:c=S.opens.length:=by omega
         subst e
         go_wp2_with (fail)
         go_end0
         exact⟨rfl,by rw[HMI.out,HME.out];exact HMD.out,HK4.out.trans HKD.out⟩
end Go.Proofs.YtkebjgebkneijaaGreat
