/- Texts of one's own that a claim's last text rests on: MpX Mr4 Mr5 Mr6 CkL2 CkL3 CkL4 CkL5. -/
import Derived.Test.YtkebjgebkneijaaGreatMG17
import Derived.Test.YtkebjgebkneijaaGreatMG6
import Derived.Test.YtkebjgebkneijaaGreatMG11
import Derived.Test.YtkebjgebkneijaaGreatMG23
import Derived.Test.YtkebjgebkneijaaGreatMG32
import Derived.Test.YtkebjgebkneijaaGreatMG13
import Derived.Test.YtkebjgebkneijaaGreatMG21
import Derived.Lib.Hide
import Derived.Test.YtkebjgebkneijaaGreatMG9
import Derived.Test.YtkebjgebkneijaaGreatMG10
set_option linter.unusedVariables false
set_option linter.unusedSimpArgs false
namespace Go.Proofs.YtkebjgebkneijaaGreat
open Go.RowKit
set_option maxHeartbeats 16000000
set_option maxRecDepth 1000000
theorem Vw(w:World):Calls Tryz.prog 141 #[.int .i64 0] w fun e w'=>e= .returned (.int .i64 0)/\Below w.heap.size w w':=by
 go_enter Tryz.func141,Tryz.ntmps141
 go_wp2_with (fail)
 go_ret
 exact⟨by go_num,Amf _ _⟩
theorem Abe(w:World)(s:Nat)(num:Int)(v:Int)(d:ByteArray)(hd:Bool):Calls Tryz.prog 140 #[.agg #[.pointer (some ⟨s,0,none⟩),.int .i64 (-1)],.int .i64 num,.int .i64 0,.int .i64 0,.agg #[.int .i64 v,.string d,.bool hd]] w fun e w'=>e= .returned (.string ⟨#[]⟩)/\Below w.heap.size w w':=by
 have HB:=lhi ((((Amf w.heap.size w).alloc (Ama _) (.cells #[.pointer (some ⟨s,0,none⟩),.int .i64 (-1)] 168)).alloc (by simp) (.cells #[.int .i64 v,.string d,.bool hd] 142)).alloc (by simp;omega) (.cells #[.int .i64 0,.int .i64 0,.string ⟨#[]⟩] 260))
 go_enter Tryz.func140,Tryz.ntmps140
 go_wp2_with (fail)
 go_loopw [13,11] (fun i o wr=>i= .int .i64 0/\o= .string ⟨#[]⟩/\Below w.heap.size w wr) (fun _ _ _=>0)
 case atStart=>exact⟨rfl,rfl,HB.out⟩
 case round=>
  obtain⟨rfl,rfl,hb⟩:=hrel
  go_wp2_with (fail)
  go_ret
  exact⟨rfl,hb⟩
theorem Ae6{L:Nat->Prop}{w:World}{s:Nat}{M:Mem}{m:Nat}(h:Ab L w s M)(hok:M.ok m)(hm:m<=900000000){num:Int}(hn:1<=num/\num<=257)(hk:M.isBase num)(hz:rd M.ws (wd num 16)<=1000000000000)(h0:(M.bas num).2.1=⟨#[]⟩):
  Calls Tryz.prog 91 #[.agg #[.pointer (some ⟨s,0,none⟩),.int .i64 (-1)],.int .i64 num] w fun e w'=>e= .returned (.string ⟨#[]⟩)/\Ab L w' s M/\Kw L w w':=by
 obtain⟨w1,hw1⟩:=yy (w.alloc (.cells #[.pointer (some ⟨s,0,none⟩),.int .i64 (-1)] 168))
 have HB1:=lhi (show Below w.heap.size w w1 by rw[hw1];exact(Amf _ _).alloc (Ama _) _)
 have HX1:=lhi (show Blk w1 w.heap.size 168 _ by rw[hw1];exact Blk.new w 168 #[.pointer (some ⟨s,0,none⟩),.int .i64 (-1)])
 have HL:=lhi h.bd
 have HC:=lhi (Vf (h.below HB1.out) fun K hK=>(Tl hK hok (by omega) (.inl rfl) hn hk hz).mono (R':=fun e w'=>e= .returned (Id (M.bas num))/\Ab K w' s M/\Kp K w1 w') (by rintro e w' ⟨h1,h2,h3⟩;rw[Mem.see_neg]at h2;exact⟨h1,h2,h3⟩))
 obtain⟨bv,hbv⟩: ∃x,M.bas num=x:=⟨_,rfl⟩
 rw[hbv]at HC h0
 obtain⟨v,d,hd⟩:=bv
 have h0:d=⟨#[]⟩:=h0
 subst h0
 have HC:=lhi (show Calls Tryz.prog 139 #[.agg #[.pointer (some ⟨s,0,none⟩),.int .i64 (-1)],.int .i64 num] w1 fun e w'=>e= .returned (.agg #[.int .i64 v,.string ⟨#[]⟩,.bool hd])/\Ab L w' s M/\Kw L w1 w' from HC.out)
 clear h hok hk hz hbv
 go_enter Tryz.func91,Tryz.ntmps91
 go_upto_region 2 with(rw[<-hw1];go_at_call 139;refine HC.out.mono ?_;rintro e w2 ⟨rfl,hm2,hk2⟩)
 have HM2:=lhi hm2
 have HK2:=lhi ((Kw.below HL.out HB1.out).trans hk2)
 have HX2:=lhi (hk2.blk HX1.out (by decide))
 obtain⟨vb,hvb⟩: ∃x,x=w.heap.size:=⟨_,rfl⟩
 rw[<-hvb]at HX2⊢
 clear hvb hm2 hk2 HX1
 obtain⟨wy,hwy⟩:=yy (w2.alloc (.cells #[.int .i64 v,.string ⟨#[]⟩,.bool hd] 142))
 have HB2:=lhi (show Below w2.heap.size w2 wy by rw[hwy];exact(Amf _ _).alloc (Ama _) _)
 have HBX:=lhi (show Blk wy w2.heap.size 142 _ by rw[hwy];exact Blk.new w2 142 #[.int .i64 v,.string ⟨#[]⟩,.bool hd])
 rw[<-hwy]
 obtain⟨bb,hbb⟩: ∃x,x=w2.heap.size:=⟨_,rfl⟩
 rw[<-hbb]at HBX⊢
 clear hbb hwy
 have HXY:=lhi (Blk.of_heap (HB2.out.block _ HX2.out.lt) HX2.out)
 have HV0:=lhi (fun(x:WIn (Bel wy))=>show x.v.cell? ⟨vb,0,none⟩=some (.pointer (some ⟨s,0,none⟩))from x.cell (HXY.out.cell 0))
 have HV1:=lhi (fun(x:WIn (Bel wy))=>show x.v.cell? ⟨vb,1,none⟩=some (.int .i64 (-1))from x.cell (HXY.out.cell 1))
 have HC0:=lhi (fun(x:WIn (Bel wy))=>show x.v.cell? ⟨bb,0,none⟩=some (.int .i64 v)from x.cell (HBX.out.cell 0))
 have HC1:=lhi (fun(x:WIn (Bel wy))=>show x.v.cell? ⟨bb,1,none⟩=some (.string ⟨#[]⟩)from x.cell (HBX.out.cell 1))
 have HC2:=lhi (fun(x:WIn (Bel wy))=>show x.v.cell? ⟨bb,2,none⟩=some (.bool hd)from x.cell (HBX.out.cell 2))
 have v0:=HV0.out
 have v1:=HV1.out
 have c0:=HC0.out
 have c1:=HC1.out
 have c2:=HC2.out
 refine Be (C:=Bel wy) (by kernel_rfl) (by kernel_rfl) (Bel.drew wy) ?_
 repeat (go_big_quiet_step (first | (go_at_call 141;exact Calls.bel _ (Vw _)) | (go_at_call 140;exact Calls.bel _ (Abe _ _ _ _ _ _))))
 refine wpQuiet_nil ?_
 rintro wx ⟨x5,h5⟩
 have hbx:=x5.h
 rw[<-h5]at hbx
 clear h5 x5 v0 v1 c0 c1 c2
 go_wp2_with (fail)
 go_ret
 have hbz:Below w2.heap.size w2 wx:=HB2.out.trans (show Below w2.heap.size wy wx from Below.mono (show Below wy.heap.size wy wx from hbx) HB2.out.size)
 exact⟨rfl,HM2.out.below hbz,HK2.out.trans (Kw.below HM2.out.bd hbz)⟩
def Alj(L:Nat->Prop)(w:World)(fb s pb:Nat)(M:Mem)(ps:List PV)(g:Gt)(D:Int->ByteArray)(e:Ending)(w':World):Prop:=
 (∃iv ov mv ev S,e= .returned (.tuple #[.agg #[iv,ov,mv],.int .i64 0])/\StV w' 0 iv ov mv ev S/\Og M g D ps.length S)/\FsAt L w' fb s pb M ps/\Kw L w w'
def Aj4(L:Nat->Prop)(w:World)(fb s pb:Nat)(M:Mem)(ps:List PV)(g:Gt)(D:Int->ByteArray)(e:Ending)(w':World):Prop:=
 (∃iv ov mv ev S,e= .returned (.tuple #[.agg #[iv,ov,mv],.int .i64 0])/\StV w' 0 iv ov mv ev S/\Og M g D ps.length S/\ ∃K:Nat->Prop,(∀b,L b->K b)/\ (∀b,0<S.inodes.length->iv.ownBlock=some b->K b)/\ (∀b,0<S.made.length->mv.ownBlock=some b->K b)/\FsAt K w' fb s pb M ps)/\FsAt L w' fb s pb M ps/\Kw L w w'
theorem Vq{w:World}{t t':TypeId}{k n base:Nat}{v:Value}{C:Nat->Nat->Value}{b:Nat}{cs:Array Value}(h:RowT w base t k v n C)(hn:0<n)(hb:Blk w b t' cs)(ht:t≠t'):v.ownBlock≠some b:=by
 obtain⟨A,cap,rfl,-,h3⟩:=h
 obtain⟨g,off,cs',rfl,-,h5,-⟩:=h3 hn
 intro e
 have e:g=b:=Amg e
 exact Blk.ne_ (e▸h5) hb ht rfl
theorem Afk{L:Nat->Prop}{w:World}{fb s pb:Nat}{M:Mem}{ps:List PV}{m:Nat}(h:FsAt L w fb s pb M ps)(hidle: ∀c (hc:c<ps.length),ps[c].at_= .nilIface)(hok:M.ok m)(hm:m<=900000000)(hfit:M.fit){f:Nat}{g:Gt}(hg:gDir M f 1 ⟨[],[]⟩=g)(hgn:g.n<=1000000)(hdeep:Deep M f 1)(D:Int->ByteArray)
  (hfd: ∀c k:Nat,c<ps.length->k<4->0<=rd M.ws (fdw (c:Nat) (k:Nat))/\rd M.ws (fdw (c:Nat) (k:Nat))<=257) (hfs: ∀i∈g.fs,0<=i/\i<=257) (hD:Adn M s (fun i=>(Bb g.fs (Bj M ps.length) i).isSome=true) D):
  Calls Tryz.prog 19 #[.pointer (some ⟨fb,0,none⟩)] w (Aj4 L w fb s pb M ps g D):=by
 have h8:=h.tsl
 have hL:Bd L w:=fun b hb=>h.m.bd b (.inl hb)
 have HA:=lhi (show FsAt (ins L w.heap.size) (w.alloc (.cells #[.slice none 0 0,.slice none 0 0,.slice none 0 0] 30)) fb s pb M ps from h.allocIns _)
 have HR:=lhi (Blk.new w 30 #[.slice none 0 0,.slice none 0 0,.slice none 0 0])
 have HID:=lhi hidle
 have HBS:=lhi (fun c (hc:c<ps.length)=>Aj1 HA.out hc (hidle c hc))
 have HST:=lhi (Xq hok hm hfit hg hgn hdeep D (n:=ps.length) (by rw[h.tl]) (by omega) hfd hfs HA.out.m hD)
 have HL:=lhi hL
 obtain⟨n,hn⟩:=xx ps.length
 have HN:=lhi hn
 clear hidle hok hfit hg hdeep hfd hfs hD
 obtain⟨w1,hw1⟩:=yy (w.alloc (.cells #[.slice none 0 0,.slice none 0 0,.slice none 0 0] 30))
 have HB:=lhi (show Below w.heap.size w w1 by rw[hw1];exact(Amf _ _).alloc (Ama _) _)
 rw[<-hw1]at HA HR HBS HST
 go_enter Tryz.func19,Tryz.ntmps19
 go_upto_region 1 with(fail)
 rw[<-hw1]
 obtain⟨rb,hrb⟩: ∃x,x=w.heap.size:=⟨_,rfl⟩
 rw[<-hrb]at HR HA HST⊢
 have HRB:=lhi hrb
 clear hw1 hrb
 have c0:w1.cell? ⟨fb,0,none⟩=some (.pointer (some ⟨s,0,none⟩)):=HA.out.f.cell 0
 have c1:w1.cell? ⟨fb,1,none⟩=some (.slice (some ⟨pb,0,none⟩) ps.length ps.length):=HA.out.f.cell 1
 go_wp2_with (fail)
 go_loopw [13] (fun i wr=>∃c:Nat,i= .int .i64 c/\c<=ps.length/\wr=w1) (fun i _=>ps.length - (intOf i).toNat)
 case atStart=>exact⟨0,rfl,by omega,rfl⟩
 case round=>
  obtain⟨c,rfl,hc,rfl⟩:=hrel
  by_cases hp:c<ps.length
  ·have hp1:(c:Int)<ps.length:=by omega
   have HBC:=lhi (HBS.out c hp)
   go_wp2_with (go_at_call 40;refine HBC.out.mono ?_;rintro e w' ⟨rfl,rfl⟩)
   go_roundw
   case rel=>exact⟨c+1,by go_num,by omega,by trivial⟩
   case measure=>
    simp only[intOf]
    omega
  ·have e:c=ps.length:=by omega
   subst e
   have o0:wr.cell? ⟨rb,0,none⟩=some (.slice none 0 0):=HR.out.cell 0
   go_wp2_with (go_at_call 41;refine HST.out.mono ?_;rintro e w2 ⟨⟨iv,ov,mv,ev,S,rfl,hst,his,hkk⟩,hm2,hk2⟩;have HKK:=lhi hkk;clear hkk;have HS2:=lhi hst;have HI2:=lhi his;have HM2:=lhi hm2;have HK2:=lhi hk2;obtain⟨iA,icap,rfl,-⟩:=hst.ino;obtain⟨oA,ocap,rfl,-⟩:=hst.opn;obtain⟨mA,mcap,rfl,-⟩:=hst.mad;clear hst his hm2 hk2;have HR2:=lhi (Blk.of_heap (HK2.out.k.k.block rb (.inl (by rw[HRB.out];exact ins.new _ _))) HR.out);have r0:w2.cell? ⟨rb,0,none⟩=some (.slice none 0 0):=HR2.out.cell 0;have r1:w2.cell? ⟨rb,1,none⟩=some (.slice none 0 0):=HR2.out.cell 1;have r2:w2.cell? ⟨rb,2,none⟩=some (.slice none 0 0):=HR2.out.cell 2;have f0:w2.frozen? ⟨rb,0,none⟩=false:=HR2.out.frozen _;have f1:w2.frozen? ⟨rb,1,none⟩=false:=HR2.out.frozen _;have f2:w2.frozen? ⟨rb,2,none⟩=false:=HR2.out.frozen _)
   have B0:=HR2.out
   have B1:=B0.set_ 0 (.slice iA S.inodes.length icap)
   have B2:=B1.set_ 1 (.slice oA S.opens.length ocap)
   have hrK:(fun b=>ins L rb b∨b=fb∨b=pb) rb:=.inl (by rw[HRB.out];exact ins.new _ _)
   have hst1:=HS2.out.far B0 (by decide) (by decide) (by decide) (by decide) 0 (.slice iA S.inodes.length icap)
   have hst2:=hst1.far B1 (by decide) (by decide) (by decide) (by decide) 1 (.slice oA S.opens.length ocap)
   have hst3:=hst2.far B2 (by decide) (by decide) (by decide) (by decide) 2 (.slice mA S.made.length mcap)
   have hmm:=(((HM2.out.set B0 hrK 0 (.slice iA S.inodes.length icap)).set B1 hrK 1 (.slice oA S.opens.length ocap)).set B2 hrK 2 (.slice mA S.made.length mcap))
   have hF0:Blk w2 fb 70 _:=Blk.of_heap (HK2.out.k.k.block fb (.inr (.inl rfl))) HA.out.f
   have hP0:Blk w2 pb 97 _:=Blk.of_heap (HK2.out.k.k.block pb (.inr (.inr rfl))) HA.out.p.1
   have nF:fb≠rb:=Blk.ne_ hF0 B0 (by decide)
   have nP:pb≠rb:=Blk.ne_ hP0 B0 (by decide)
   have hF3:=((hF0.far (p:=⟨rb,0,none⟩) nF (.slice iA S.inodes.length icap)).far (p:=⟨rb,1,none⟩) nF (.slice oA S.opens.length ocap)).far (p:=⟨rb,2,none⟩) nF (.slice mA S.made.length mcap)
   have hP3:=((hP0.far (p:=⟨rb,0,none⟩) nP (.slice iA S.inodes.length icap)).far (p:=⟨rb,1,none⟩) nP (.slice oA S.opens.length ocap)).far (p:=⟨rb,2,none⟩) nP (.slice mA S.made.length mcap)
   have hk0:Kw L w w2:=(Kw.below HL.out HB.out).trans (HK2.out.sub fun b hb=>.inl (ins.old hb))
   have hk3:=((hk0.setNew HL.out (q:=rb) (by rw[HRB.out];exact Ama _) 0 (.slice iA S.inodes.length icap)).setNew HL.out (q:=rb) (by rw[HRB.out];exact Ama _) 1 (.slice oA S.opens.length ocap)).setNew HL.out (q:=rb) (by rw[HRB.out];exact Ama _) 2 (.slice mA S.made.length mcap)
   have hK: ∃K:Nat->Prop,(∀b,L b->K b)/\ (∀b,0<S.inodes.length->(Value.slice iA S.inodes.length icap).ownBlock=some b->K b)/\ (∀b,0<S.made.length->(Value.slice mA S.made.length mcap).ownBlock=some b->K b)/\FsAt K (((w2.setCell ⟨rb,0,none⟩ (.slice iA S.inodes.length icap)).setCell ⟨rb,1,none⟩ (.slice oA S.opens.length ocap)).setCell ⟨rb,2,none⟩ (.slice mA S.made.length mcap)) fb s pb M ps:=by
    obtain⟨K2,q1,q2,q3⟩:=HKK.out
    refine⟨fun b=>L b∨(0<S.inodes.length/\ (Value.slice iA S.inodes.length icap).ownBlock=some b)∨(0<S.made.length/\ (Value.slice mA S.made.length mcap).ownBlock=some b),fun b hb=>.inl hb,fun b h1 h2=>.inr (.inl ⟨h1,h2⟩),fun b h1 h2=>.inr (.inr ⟨h1,h2⟩),?_⟩
    refine⟨(((q3.set B0 (q1 _ hrK) 0 _).set B1 (q1 _ hrK) 1 _).set B2 (q1 _ hrK) 2 _).sub fun b hb=>?_,by simpa using hF3,⟨hP3,HA.out.p.2⟩,?_,?_,FsR.tl h⟩
    ·rcases hb with(hb | hb | hb) | hb
     ·exact q1 _ (.inl (ins.old hb))
     ·exact q2 _ (.inl hb.2)
     ·exact q2 _ (.inr (.inr hb.2))
     ·exact q1 _ (.inr hb)
    ·rintro(hb | hb | hb)
     ·exact FsR.nf h hb
     ·exact Vq hst3.ino hb.1 hF3 (by decide) hb.2
     ·exact Vq hst3.mad hb.1 hF3 (by decide) hb.2
    ·rintro(hb | hb | hb)
     ·exact FsR.np h hb
     ·exact Vq hst3.ino hb.1 hP3 (by decide) hb.2
     ·exact Vq hst3.mad hb.1 hP3 (by decide) hb.2
   refine bodyPost_ret (v:=.tuple #[.agg #[.slice iA S.inodes.length icap,.slice oA S.opens.length ocap,.slice mA S.made.length mcap],.int .i64 0]) ?_ rfl ⟨⟨_,_,_,_,S,rfl,hst3,HI2.out,hK⟩,⟨hmm.sub fun b hb=>?_,by simpa using hF3,⟨hP3,HA.out.p.2⟩,FsR.nf h,FsR.np h,FsR.tl h⟩,hk3⟩
   ·simp[results,Tryz.results19,go_sem,r0,r1,r2]
   ·rcases hb with hb | hb
    ·exact .inl (ins.old hb)
    ·exact .inr hb
theorem Aig{L:Nat->Prop}{w:World}{fb s pb:Nat}{M:Mem}{ps:List PV}{m:Nat}(h:FsAt L w fb s pb M ps)(hidle: ∀c (hc:c<ps.length),ps[c].at_= .nilIface)(hok:M.ok m)(hm:m<=900000000)(hfit:M.fit){f:Nat}{g:Gt}(hg:gDir M f 1 ⟨[],[]⟩=g)(hgn:g.n<=1000000)(hdeep:Deep M f 1)(D:Int->ByteArray)
  (hfd: ∀c k:Nat,c<ps.length->k<4->0<=rd M.ws (fdw (c:Nat) (k:Nat))/\rd M.ws (fdw (c:Nat) (k:Nat))<=257) (hfs: ∀i∈g.fs,0<=i/\i<=257) (hD:Adn M s (fun i=>(Bb g.fs (Bj M ps.length) i).isSome=true) D):
  Calls Tryz.prog 19 #[.pointer (some ⟨fb,0,none⟩)] w (Alj L w fb s pb M ps g D):=by
 refine(Afk h hidle hok hm hfit hg hgn hdeep D hfd hfs hD).mono ?_
 rintro e w' ⟨⟨iv,ov,mv,ev,S,h1,h2,h3,-⟩,h4,h5⟩
 exact⟨⟨iv,ov,mv,ev,S,h1,h2,h3⟩,h4,h5⟩
theorem Ajd{M:Mem}{D:DkT}(h:Dk M D){num:Int}(hn:1<=num/\num<=257):itsM M num=(List.range 8).flatMap fun q=>D num (q:Nat):=by
 unfold itsM Dt
 have: ∀l:List Nat,(∀q∈l,q<8)->(l.flatMap fun q=>M.bkt num (q:Nat))=l.flatMap fun q=>D num (q:Nat):=by
  intro l
  induction l with
  | nil=>exact fun _=>rfl
  | cons a l ih=>
   intro hl
   rw[List.flatMap_cons,List.flatMap_cons,ih fun q hq=>hl q (Amc _ hq),h.bkt hn ⟨by omega,by have:=hl a (Amb);omega⟩]
 exact this _ fun q hq=>List.mem_range.1 hq
def Acw:ByteArray:=⟨#[47,97]⟩
def M0A:Mem:=(Cu (newS 2)).clear 0
def M1A:Mem:=Dj (M0A.see 0 (wd 1 (Aa nmA:Nat))) 0 Av nmA 0 0
def DA:DkT:=fun n b=>if n=1/\b=(Aa nmA:Nat)then [⟨nmA,2,false⟩]else []
theorem Acx:Au Acw= .ok [nmA]:=by kernel_rfl
theorem inv2:Inv (newS 2):=Sh (by omega) (by omega)
theorem Ajq:Dk (Cu (newS 2)) (fun _ _=>[]):=by
 refine(Adg inv2 (fun i hi b hb=>?_)).congr fun num b _ _=>?_
 ·have:i=0:=by
   have:i<1:=hi
   omega
  subst this
  exact⟨by simp[As,St.ino,newS],fun x hx=>by simp[As,St.ino,newS]at hx⟩
 ·show dB (newS 2) 0 (fun _ _=>[]) 8 num b=[]
  unfold dB
  rw[if_neg (fun q=>q.2.2 (by simp[As,St.ino,newS]))]
theorem Rt:M0A.ok 9000:=(Zc (S:=newS 2) (by simp[newS])).clear 0
theorem Ab4:Dk M0A (fun _ _=>[]):=Ajq.clear 0
theorem Alh:Bz M0A:=(Aj0 inv2 rfl (fun i hi=>by
 have:i<1:=hi
 obtain rfl:i=0:=by omega
 rfl)).clear 0
theorem Pq(S:St)(M:Mem): ∀k,(Bl S M k).nm=M.nm
 | 0=>rfl
 | k+1=>Pq S M k
theorem Po(S:St)(M:Mem): ∀k,(Bv S M k).nm=M.nm
 | 0=>rfl
 | k+1=>Po S M k
theorem Ag2(S:St):(Cu S).nm.length=S.made.length:=by
 unfold Cu
 rw[Po,Pq,Iy]
 simp[Mem.new]
theorem Ah6(M:Mem)(c:Int):(M.clear c).nm=M.nm:=rfl
theorem Ak2:M0A.nm.length=2:=by
 unfold M0A
 rw[Ah6,Ag2]
 simp[newS]
theorem Qy:M0A.ts.length=2:=by
 show((Cu (newS 2)).ts.set _ []).length=2
 rw[List.length_set,Ix];simp[newS]
theorem Oi:(∀c:Nat,c<2->rd M0A.ws (mdw (c:Nat))=0)/\ ∀c k:Nat,c<8->k<4->rd M0A.ws (fdw (c:Nat) (k:Nat))=0:=by
 obtain⟨h1,h2⟩:=Abq inv2 rfl
 refine⟨fun c hc=>?_,h2⟩
 rw[show M0A.ws=(Cu (newS 2)).ws from rfl,h1 c hc]
 have:c=0∨c=1:=by omega
 rcases this with rfl | rfl <;> rfl
theorem Ahv:Dk M1A DA:=by
 have h:=Ae1 (M:=M0A.see 0 (wd 1 (Aa nmA:Nat))) (c:=0) (n:=0) (kind:=0) (it:=Av) (nm:=nmA) (Ab4.see _ _) (Rt.see _ _) (by omega) ⟨by omega,by rw[Af9,Ak2];omega⟩ (by omega) ⟨by omega,by omega⟩ (by decide) (by simp)
 exact h.congr fun num b _ _=>rfl
theorem Abi:M1A.ok 9007:=Aee (Rt.see _ _)
theorem Alg:Bz M1A:=Afd (Alh.see _ _) ⟨by omega,by omega⟩ ⟨by omega,by omega⟩ (by decide)
theorem Ahc:itsM M1A 1=[⟨nmA,2,false⟩]:=by
 rw[Ajd Ahv ⟨by omega,by omega⟩]
 kernel_rfl
theorem Ahj:gDir M1A 1 1 ⟨[],[]⟩=⟨[2],[1]⟩:=by
 unfold gDir
 rw[Ahc]
 rfl
theorem Ald:Deep M1A 1 1:=⟨⟨by omega,by omega⟩,fun i hi hd=>by
 rw[Ahc]at hi
 rw[List.mem_singleton.1 hi]at hd
 cases hd⟩
theorem Oh:Ca M1A 2=[1,0]/\ ∀c k:Nat,c<8->k<4->rd M1A.ws (fdw (c:Nat) (k:Nat))=0:=by
 have hr: ∀j,9509<=j->rd M1A.ws j=if j=mdw 0 then 0+1 else rd M0A.ws j:=fun j hj=>by
  have h:=Ad2 (M:=M0A.see 0 (wd 1 (Aa nmA:Nat))) (c:=0) (n:=0) (kind:=0) (it:=Av) (nm:=nmA) (Rt.see _ _) ⟨by omega,by omega⟩ ⟨by omega,by omega⟩ (by decide) hj
  rw[Aa7]at h
  exact h
 refine⟨?_,fun c k hc hk=>?_⟩
 ·show [rd M1A.ws (mdw (0:Nat)),rd M1A.ws (mdw (1:Nat))]=_
  rw[hr _ (by decide),hr _ (by decide),if_pos (show mdw ((0:Nat):Int)=mdw 0 from rfl),if_neg (by decide),Oi.1 1 (by omega)]
  rfl
 ·rw[hr _ (by unfold fdw;omega),if_neg (by unfold fdw mdw;omega),Oi.2 c k hc hk]
theorem Akb:Bj M1A 2=[]:=by
 have: ∀c,c<8->opsC M1A c 4=[]:=fun c hc=>by
  unfold opsC
  rw[List.filterMap_eq_nil_iff]
  intro k hk
  rw[if_pos (Oh.2 c k hc (List.mem_range.1 hk))]
 unfold Bj
 rw[List.flatMap_eq_nil_iff]
 intro q hq
 exact this q (by have:=List.mem_range.1 hq;omega)
theorem Ahd:Inv SA:=by
 have h:=inv2.make (x0:=⟨1,true,[],⟨#[]⟩⟩) (d:=1) (by simp[newS]) rfl rfl (c:=0) (by simp[newS]) (by simp[newS,St.mad]) (nm:=nmA) (num:=2) (by simp[newS,St.mad]) (by kernel_rfl) (fun e he=>by cases he) (by simp) false
 have e:Pm (newS 2) 0 1 (insE (nmA,2) []) ⟨2,false,[],nm0⟩=SA:=by
  rfl
 rw[<-e]
 exact h
theorem Sr{f:Nat->Option Ino}{x y:Ino}(h0:f 0=some x)(h1:f 1=some y)(h2: ∀j,2<=j->f j=none): ∀m,(List.range (m+2)).filterMap f=[x,y]
 | 0=>by simp[List.range_succ,h0,h1]
 | m+1=>by
  rw[show m+1+2=(m+2)+1 from rfl,List.range_succ,List.filterMap_append,Sr h0 h1 h2 m]
  simp[h2 (m+2) (by omega)]
theorem Air{S:St}(h:Og M1A ⟨[2],[1]⟩ (fun _=>⟨#[]⟩) 2 S):S=SA:=by
 obtain⟨h1,h2,A,h3,h4⟩:=h
 rw[Akb]at h2 h4
 rw[Oh.1]at h1
 have hf: ∀i:Int,(Bb [2] [] i).isSome=true↔i=2:=fun i=>by
  unfold Bb
  by_cases e:i=2 <;> simp[e]
 have a2:A 2=some ⟨2,false,[],⟨#[]⟩⟩:=(h4 2).1 ((hf 2).2 rfl)
 have a1:A 1=some ⟨1,true,[(nmA,2)],⟨#[]⟩⟩:=by
  obtain⟨q1,q2⟩:=(h4 1).2 (fun q=>by have:=(hf 1).1 q;omega)
  obtain⟨p,hp⟩:=Option.isSome_iff_exists.1 (show(A 1).isSome=true by rw[q1];rfl)
  obtain⟨r1,r2,r3,r4,-⟩:=q2 p hp
  rw[hp]
  obtain⟨pn,pd,pe,pdat⟩:=p
  simp only at r1 r2 r3 r4
  subst r1 r2 r3
  rw[Ahc]at r4
  have r5:pe=[(nmA,2)]:=List.perm_singleton.1 r4
  rw[r5]
 have aN: ∀j:Nat,2<=j->A ((j:Int)+1)=none:=fun j hj=>by
  obtain⟨q1,-⟩:=(h4 ((j:Int)+1)).2 (fun q=>by have:=(hf _).1 q;omega)
  cases hA:A ((j:Int)+1)with
  | none=>rfl
  | some p=>
   rw[hA]at q1
   simp at q1
   omega
 have hi:S.inodes=SA.inodes:=by
  rw[h3]
  exact Sr (f:=fun(j:Nat)=>A ((j:Int)+1)) (by simpa using a1) (by simpa using a2) aN 255
 obtain⟨S1,S2,S3⟩:=S
 simp only at h1 h2 hi
 subst h1 h2 hi
 rfl
theorem Alb:Uv SA (Au Acw)=(2,0):=by
 rw[Acx]
 kernel_rfl
theorem Qd{M:Mem}{c:Int}(hc:0<=c/\c<M.ts.length)(x:Acc):tr (M.note c x).ts c=tr M.ts c++[x]:=by
 unfold tr Mem.note noted
 simp only
 rw[Da _ _ _ _ _ (by omega),if_pos rfl]
 rfl
theorem Nk(M:Mem)(c:Int)(x:Acc):(M.note c x).ts.length=M.ts.length:=by simp[Mem.note,noted]
theorem Afs{M:Mem}{c:Int}(hc:0<=c/\c<M.ts.length)(i:Int):tr (M.see c i).ts c=tr M.ts c++[(i,false)]:=by
 unfold Mem.see
 rw[if_neg (by omega)]
 exact Qd hc _
theorem Vp(M:Mem)(c i:Int):(M.see c i).ts.length=M.ts.length:=by
 unfold Mem.see
 split
 ·rfl
 ·exact Nk _ _ _
def accC(c:Int)(num:Int)(b:Int)(kind n:Int):List Acc:=[(mdw c,false),(mdw c,true),(wd num b,true)]++if kind=0 then [(wd (2+c+8*n) (8+c),true)]else []
theorem Adp{M:Mem}{c:Int}{it:Item}{nm:ByteArray}{kind n:Int}(hc:0<=c/\c<M.ts.length):tr (Dj M c it nm kind n).ts c=tr M.ts c++accC c it.num (Aa nm:Nat) kind n/\ (Dj M c it nm kind n).ts.length=M.ts.length:=by
 have h1:=Afs hc (mdw c)
 have l1:=Vp M c (mdw c)
 have h2:tr (((M.see c (mdw c)).put (mdw c) (n+1)).note c (mdw c,true)).ts c=tr M.ts c++[(mdw c,false)]++[(mdw c,true)]:=by
  rw[Qd (M:=(M.see c (mdw c)).put (mdw c) (n+1)) ⟨hc.1,by show c< (M.see c (mdw c)).ts.length;rw[l1];exact hc.2⟩]
  show tr (M.see c (mdw c)).ts c++_=_
  rw[h1]
 have l2:(((M.see c (mdw c)).put (mdw c) (n+1)).note c (mdw c,true)).ts.length=M.ts.length:=by
  rw[Nk]
  exact l1
 have h3: ∀t,tr ((((M.see c (mdw c)).put (mdw c) (n+1)).note c (mdw c,true)).setW c (wd it.num (Aa nm:Nat)) t).ts c=tr M.ts c++[(mdw c,false)]++[(mdw c,true)]++[(wd it.num (Aa nm:Nat),true)]:=fun t=>by
  unfold Mem.setW
  rw[Qd ⟨hc.1,by show c< (((M.see c (mdw c)).put (mdw c) (n+1)).note c (mdw c,true)).ts.length;rw[l2];exact hc.2⟩]
  show tr (((M.see c (mdw c)).put (mdw c) (n+1)).note c (mdw c,true)).ts c++_=_
  rw[h2]
 have l3: ∀t,((((M.see c (mdw c)).put (mdw c) (n+1)).note c (mdw c,true)).setW c (wd it.num (Aa nm:Nat)) t).ts.length=M.ts.length:=fun t=>by
  unfold Mem.setW
  rw[Nk]
  exact l2
 unfold Dj accC
 simp only
 split
 ·refine⟨?_,?_⟩
  ·rw[Qd ⟨hc.1,by show c< (Mem.setW _ _ _ _).ts.length;rw[l3];exact hc.2⟩]
   show tr (Mem.setW _ _ _ _).ts c++_=_
   rw[h3]
   simp
  ·rw[Nk]
   exact l3 _
 ·refine⟨?_,l3 _⟩
  rw[h3]
  simp
theorem Aif{c num b kind n:Int}(hc:0<=c/\c<8)(hn:1<=num/\num<=257)(hb:0<=b/\b<8)(h:0<=n/\n<32): ∀y∈accC c num b kind n,0<=y.1/\y.1<=1000000:=by
 intro y hy
 unfold accC at hy
 rcases List.mem_append.1 hy with hy | hy
 ·simp at hy
  rcases hy with rfl | rfl | rfl <;> simp only[mdw,wd] <;> omega
 ·split at hy
  ·rw[List.mem_singleton.1 hy]
   simp only[wd];omega
  ·cases hy
section
attribute [local go_sem↓] Go.wp_at_zero Go.wp_at_succ
section
variable{w w':World}{c sb g o ic eg eo ec mg mo mc:Nat}{OA EB:Option Addr}{oc bc:Nat}
theorem Sq(h:LA w c sb g o ic eg eo ec mg mo mc OA EB oc bc){x:Int}{p:Nat}(hx:x=1/\p=o∨x=2/\p=o+4):Calls Tryz.prog 104 #[.pointer (some ⟨c,0,none⟩),.int .i64 x] w fun e w'=>e= .returned (.pointer (some ⟨g,p,none⟩))/\w'=w:=by
 obtain⟨c0,c1,s0,s1,s2,i0,i1,i2,i3,i4,i5,i6,i7,e0,e1,m0,m1⟩:=h
 rcases hx with⟨rfl,rfl⟩ | ⟨rfl,rfl⟩
 ·go_enter Tryz.func104,Tryz.ntmps104
  go_wp2_with (fail)
  go_loop [14] (fun i=>i= .int .i64 0) (fun _=>0)
  case atStart=>exact rfl
  case round=>
   obtain rfl:=hrel
   go_wp2_with (fail)
   go_ret
   exact⟨rfl,rfl⟩
 ·go_enter Tryz.func104,Tryz.ntmps104
  go_wp2_with (fail)
  go_loop [14] (fun i=>i= .int .i64 0∨i= .int .i64 1) (fun i=>1 - (intOf i).toNat)
  case atStart=>exact .inl rfl
  case round=>
   rcases hrel with rfl | rfl
   ·go_wp2_with (fail)
    go_round
    case rel=>exact .inr rfl
    case measure=>decide
   ·go_wp2_with (fail)
    go_ret
    exact⟨rfl,rfl⟩
theorem Alv(h:LA w c sb g o ic eg eo ec mg mo mc OA EB oc bc):Calls Tryz.prog 54 #[.pointer (some ⟨c,0,none⟩)] w fun e w'=>e= .returned (.tuple #[])/\w'=w:=by
 obtain⟨c0,c1,s0,s1,s2,i0,i1,i2,i3,i4,i5,i6,i7,e0,e1,m0,m1⟩:=h
 go_enter Tryz.func54,Tryz.ntmps54
 go_wp2_with (fail)
 go_loop [15] (fun i=>i= .int .i64 0) (fun i=>0)
 case atStart=>exact rfl
 case round=>
  obtain rfl:=hrel
  go_wp2_with (fail)
  go_end0
  exact⟨rfl,rfl⟩
theorem bodL(h:LA w c sb g o ic eg eo ec mg mo mc OA EB oc bc):Calls Tryz.prog 52 #[.pointer (some ⟨c,0,none⟩)] w fun e w'=>e= .returned (.tuple #[])/\Below w.heap.size w w':=by
 have H:=lhi h
 obtain⟨c0,-,s0,-,-,i0,i1,-⟩:=h
 have HM:=lhi (fun W=>Uj nmA W)
 have HB:=lhi (fun W=>Cj nmA W)
 rw[show(Bu nmA==0)=true by kernel_rfl]at HM
 rw[show Aa nmA=2 by kernel_rfl]at HB
 go_enter Tryz.func52,Tryz.ntmps52
 go_wp2_with (fail)
 clear c0 s0 i0 i1
 go_loopw [16] (fun i wr=>Up2 i/\Below w.heap.size w wr) (fun i _=>2 - (intOf i).toNat)
 case atStart=>exact⟨.inl rfl,Amf _ _⟩
 case round=>
  obtain⟨hr,hb⟩:=hrel
  have HBE:=lhi hb
  obtain⟨c0,c1,s0,s1,s2,i0,i1,i2,i3,i4,i5,i6,i7,e0,e1,m0,m1⟩:=H.out.keep hb
  rcases hr with rfl | rfl | rfl
  ·go_wp2_with (fail)
   refine letW (fun W0 hW0=>?_)
   obtain⟨HX,HS,hb0⟩:=Lp hW0
   have HW:=lhi (hb.trans (hb0.mono hb.size))
   have HB0:=lhi hb0
   obtain⟨sl,hsl⟩: ∃x,wr.heap.size+1=x:=⟨_,rfl⟩
   have HSZ:=lhi (show w.heap.size<=sl by have:=hb.size;omega)
   rw[hsl]at HS⊢
   have HSL:=lhi HS
   clear hsl HS HX hW0 hb0 c0 c1 s0 s1 s2 i0 i1 i2 i3 i4 i5 i6 i7 e0 e1 m0 m1
   go_loopw [54] (fun i wx=>i= .int .i64 0/\wx=W0∨i= .int .i64 1/\Below w.heap.size w wx) (fun i _=>1 - (intOf i).toNat)
   case atStart=>exact .inl ⟨rfl,rfl⟩
   case round=>
    rcases hrel with⟨rfl,rfl⟩ | ⟨rfl,hb1⟩
    ·have e0:=(H.out.keep HW.out).e0
     have e1:=(H.out.keep HW.out).e1
     go_upto_region 10 with(fail)
     refine letW (fun W1 hW1=>?_)
     obtain⟨HX1,hb1⟩:=Du hW1
     have HW1:=lhi (HW.out.trans (hb1.mono HW.out.size))
     have HS1:=lhi (Blk.of_heap (hb1.block _ HSL.out.lt) HSL.out)
     have HF:=lhi (Sq (H.out.keep HW1.out) (.inr ⟨rfl,rfl⟩))
     generalize wr.heap.size=eb at*
     have HX:=lhi HX1
     have x1:W1.cell? ⟨eb,1,none⟩=some (.int .i64 2):=HX1.cell 1
     clear hW1 hb1 HX1 e0 e1
     go_upto_region 12 with(go_at_call 104;refine HF.out.mono ?_;rintro e w' ⟨rfl,hw⟩;obtain rfl:=hw.symm)
     have x0: ∀y:WIn (Bel W1),y.v.cell? ⟨eb,0,none⟩=some (.string nmA):=fun y=>y.cell (HX.out.cell 0)
     refine Be (C:=Bel W1) (by kernel_rfl) (by kernel_rfl) (Bel.drew W1) ?_
     repeat (go_big_quiet_step ((go_at_call 105;exact Calls.bel _ (HM.out _))))
     refine wpQuiet_nil ?_
     rintro w2 ⟨⟨w2',hb2⟩,hw⟩
     obtain rfl:w2=w2':=hw
     have HW2:=lhi (HW1.out.trans (hb2.mono HW1.out.size))
     have HS2:=lhi (Blk.of_heap (hb2.block _ HS1.out.lt) HS1.out)
     have e0:w2.cell? ⟨eb,0,none⟩=some (.string nmA):=x0 ⟨w2,hb2⟩
     clear hb2 x0 x1
     go_upto_region 15 with(go_at_call 62;refine(HB.out _).mono ?_;rintro e w3 ⟨rfl,hb3⟩;have HW3:=lhi (HW2.out.trans (hb3.mono HW2.out.size));have HS3:=lhi (Blk.of_heap (hb3.block _ HS2.out.lt) HS2.out);clear hb3 e0)
     have b2:w3.cell? ⟨sl,2,none⟩=some (.int .i64 0):=HS3.out.cell 2
     have f2:=HS3.out.frozen 2
     go_wp2_with (fail)
     trace_state
     go_roundw
     case rel=>exact .inr ⟨rfl,HW3.out.setCell (p:=⟨sl,2,none⟩) HSZ.out _⟩
     case measure=>decide
    ·have HE:=lhi hb1
     go_wp2_with (fail)
     go_roundw
     case rel=>exact⟨.inr (.inl rfl),HE.out⟩
     case measure=>decide
  ·go_wp2_with (fail)
   go_roundw
   case rel=>exact⟨.inr (.inr rfl),HBE.out.trans (((Amf _ _).alloc (Ama _) _).mono HBE.out.size)⟩
   case measure=>decide
  ·go_wp2_with (fail)
   go_end0
   exact⟨rfl,HBE.out⟩
end
end
section
attribute [local go_sem↓] Go.wp_at_zero Go.wp_at_succ
structure FL (w:World) (fb mb:Nat) (F:Int->Bool) (k:Nat) (W:World):Prop where
 b:Below w.heap.size w W
 f: ∃n,n<=1+k/\MapB W fb n F
 m: ∃n g,n<=k/\MapI W mb n g/\0<=g 2/\g 2<=k
 ne:fb≠mb
 nf:w.heap.size<=fb
 nm:w.heap.size<=mb
section
variable{w W W':World}{fb mb k:Nat}{F F':Int->Bool}
theorem FL.grow(h:FL w fb mb F k W){q:Option Nat}(hg:W.grownBy W' q)(hq: ∀k,q=some k->w.heap.size<=k/\k≠fb/\k≠mb):FL w fb mb F k W':=by
 obtain⟨n,hn,hf⟩:=h.f
 obtain⟨m,g,hm,hi,h2⟩:=h.m
 have hb:=h.b.size
 exact⟨h.b.trans ⟨hg.os,hg.tape,hg.output,hg.size,fun k hk=>hg.block k (by omega) (fun e=>by have:=(hq k e.symm).1;omega)⟩,⟨n,hn,hf.kept hg fun e=>(hq _ e.symm).2.1 rfl⟩,⟨m,g,hm,hi.kept hg fun e=>(hq _ e.symm).2.2 rfl,h2⟩,h.ne,h.nf,h.nm⟩
theorem FL.alloc(h:FL w fb mb F k W)(o:Obj):FL w fb mb F k (W.alloc o):=h.grow (World.grownBy_alloc W o none) (by simp)
theorem Ala{c sb g o ic eg eo ec mg mo mc:Nat}{OA EB:Option Addr}{oc bc:Nat}(h:LA w c sb g o ic eg eo ec mg mo mc OA EB oc bc):Calls Tryz.prog 106 #[.pointer (some ⟨c,0,none⟩)] w fun e w'=>∃fb mb,e= .returned (.tuple #[.map (some fb),.map (some mb)])/\FL w fb mb (fun x=>x==2||x==1) 2 w':=by
 have H:=lhi h
 have hmm:=@run_makeMap Tryz.prog
 clear h
 go_enter Tryz.func106,Tryz.ntmps106
 go_upto_region 1 with(fail)
 go_cut [4,5] (fun m1 m2 wx=>∃fb mb,m1= .map (some fb)/\m2= .map (some mb)/\FL w fb mb (fun x=>x==1) 0 wx)
 case first=>
  have HM1:=lhi (MapB.made w)
  go_wp2_with (with_reducible refine Kg _ rfl (.tmp 14) (.const (.int .i64 1)) (.const (.bool true)) (.inr rfl) w.heap.size 0 (fun _=>false) rfl HM1.out (by decide) 1 (by decide) rfl true rfl ?_;intro w1 hM1 hG1)
  have hs:=hG1.size
  simp at hs
  go_meet
  case rel=>exact⟨_,_,rfl,rfl,(((Amf w.heap.size w).alloc (Ama _) (.map #[] 0)).trans ⟨hG1.os,hG1.tape,hG1.output,hG1.size,fun k hk=>hG1.block k (by simp;omega) (fun e=>by have:=Amg e;omega)⟩).alloc (by omega) _,⟨1,by omega,(hM1.alloc _).congr fun i=>by by_cases e:i=1 <;> simp[e]⟩,⟨0,_,by omega,MapI.made w1,by decide,by decide⟩,by omega,Ama _,by omega⟩
 case rest=>
  obtain⟨fb,mb,rfl,rfl,hF⟩:=hcut
  have HF:=lhi hF
  obtain⟨c0,-,s0,-⟩:=H.out.keep hF.b
  clear hF
  go_wp2_with (fail)
  clear c0 s0
  go_loopw [25] (fun i wr=>i= .int .i64 0/\FL w fb mb (fun x=>x==1) 0 wr∨(i= .int .i64 1∨i= .int .i64 2)/\FL w fb mb (fun x=>x==1) 1 wr) (fun i _=>2 - (intOf i).toNat)
  case atStart=>exact .inl ⟨rfl,HF.out⟩
  case round=>
   rcases hrel with⟨rfl,hf⟩ | ⟨rfl | rfl,hf⟩
   all_goals
    have HR:=lhi hf
    obtain⟨c0,c1,s0,s1,s2,i0,i1,i2,i3,i4,i5,i6,i7,e0,e1,m0,m1⟩:=H.out.keep hf.b
   ·go_wp2_with (fail)
    refine letW (fun W0 hW0=>?_)
    obtain⟨HX,-⟩:=Du hW0
    have HW:=lhi (show FL w fb mb (fun x=>x==1) 0 W0 from hW0▸hf.alloc _)
    obtain⟨xg,hxg⟩: ∃x,wr.heap.size=x:=⟨_,rfl⟩
    rw[hxg]at HX⊢
    have HXX:=lhi HX
    clear hxg HX hW0 c0 c1 s0 s1 s2 i0 i1 i2 i3 i4 i5 i6 i7 e0 e1 m0 m1 hf
    go_loopw [32] (fun i wx=>i= .int .i64 0/\wx=W0∨i= .int .i64 1/\FL w fb mb (fun x=>x==1) 1 wx) (fun i _=>1 - (intOf i).toNat)
    case atStart=>exact .inl ⟨rfl,rfl⟩
    case round=>
     rcases hrel with⟨rfl,rfl⟩ | ⟨rfl,hf1⟩
     ·have e0:=(H.out.keep HW.out.b).e0
      have e1:=(H.out.keep HW.out.b).e1
      have x1:wr.cell? ⟨xg,1,none⟩=some (.bool true):=HXX.out.cell 1
      obtain⟨n,gg,hn,hmI,hg0,hg1⟩:=(HW.out.alloc (.cells #[.string nmA,.int .i64 2] 132)).m
      have HMI:=lhi hmI
      have hlook:=hmI.look (show -1000000<= (2:Int)/\ (2:Int)<=1000000 by omega)
      obtain⟨cn,hcn⟩: ∃x,gg 2=x:=⟨_,rfl⟩
      rw[hcn]at hlook hg0 hg1
      have hxl:=HXX.out.lt
      clear hmI hcn
      go_wp2_with (at_mapUpdate;refine Xg _ rfl (.tmp 38) (.tmp 40) (.tmp 42) rfl mb n _ rfl HMI.out (by omega) 2 (by omega) rfl (cn+1) ⟨by omega,by omega⟩ rfl ?_;intro w5 hM5 hG5)
      have hf5:=(HW.out.alloc (.cells #[.string nmA,.int .i64 2] 132))
      have hb5:=hf5.b.size
      obtain⟨nb,hnb,hMB⟩:=hf5.f
      have HR5:=lhi (show FL w fb mb (fun x=>x==1) 1 w5 from⟨hf5.b.trans ⟨hG5.os,hG5.tape,hG5.output,hG5.size,fun k hk=>hG5.block k (by omega) (fun e=>by have:=Amg e;have:=hf5.nm;omega)⟩,⟨nb,by omega,hMB.kept hG5 fun e=>hf5.ne (Amg e)⟩,⟨n+1,_,by omega,hM5,by simp;omega,by simp;omega⟩,hf5.ne,hf5.nf,hf5.nm⟩)
      go_roundw
      case rel=>exact .inr ⟨rfl,HR5.out⟩
      case measure=>decide
     ·have HE:=lhi hf1
      go_wp2_with (fail)
      go_roundw
      case rel=>exact .inr ⟨.inl rfl,HE.out⟩
      case measure=>decide
   ·go_wp2_with (fail)
    refine letW (fun W0 hW0=>?_)
    have HW:=lhi (show FL w fb mb (fun x=>x==1) 1 W0 from hW0▸hf.alloc _)
    clear hW0 c0 c1 s0 s1 s2 i0 i1 i2 i3 i4 i5 i6 i7 e0 e1 m0 m1 hf
    go_loopw [32] (fun i wx=>i= .int .i64 0/\wx=W0) (fun _ _=>0)
    case atStart=>exact⟨rfl,rfl⟩
    case round=>
     obtain⟨rfl,rfl⟩:=hrel
     go_wp2_with (fail)
     go_roundw
     case rel=>exact .inr ⟨.inr rfl,HW.out⟩
     case measure=>decide
   ·go_wp2_with (fail)
    refine letW (fun W0 hW0=>?_)
    obtain⟨HX,-⟩:=Du hW0
    have HW:=lhi (show FL w fb mb (fun x=>x==1) 1 W0 from hW0▸hf.alloc _)
    have HOW:=lhi (show W0.ownsRow w.heap.size 3 1 (.slice (some ⟨wr.heap.size,0,none⟩) 1 1) 1 [.int .i64 1]from⟨rfl,.inr ⟨_,1,_,rfl,hf.b.size,HX,Ama _,by decide,rfl,rfl⟩⟩)
    obtain⟨tb,htb⟩: ∃x,wr.heap.size=x:=⟨_,rfl⟩
    have HTB:=lhi (show w.heap.size<=tb by have:=hf.b.size;omega)
    rw[htb]at HX HOW⊢
    have HXX:=lhi HX
    clear hW0 htb HX c0 c1 s0 s1 s2 i0 i1 i2 i3 i4 i5 i6 i7 e0 e1 m0 m1 hf
    go_loopg [10] 3 (fun f todo wx=>f=3/\wx=W0/\todo= .slice (some ⟨tb,0,none⟩) 1 1∨(∃g' o' c',f=2/\todo= .slice (some ⟨g',o',none⟩) 1 c'/\1<=c'/\wx.cell? ⟨g',o',none⟩=some (.int .i64 2)/\FL w fb mb (fun x=>x==2||x==1) 2 wx)∨ ∃A c',f=1/\todo= .slice A 0 c'/\FL w fb mb (fun x=>x==2||x==1) 2 wx)
    case atStart=>exact .inl ⟨rfl,rfl,rfl⟩
    case round=>
     rcases hrel with⟨rfl,rfl,rfl⟩ | ⟨g',o',c',rfl,rfl,hc',ht,hf⟩ | ⟨A,c',rfl,rfl,hf⟩
     ·have t0:wr.cell? ⟨tb,0,none⟩=some (.int .i64 1):=HXX.out.cell 0
      obtain⟨c0,c1,s0,s1,s2,i0,i1,i2,i3,i4,i5,i6,i7,e0,e1,m0,m1⟩:=H.out.keep HW.out.b
      have HF:=lhi (Sq (H.out.keep HW.out.b) (.inl ⟨rfl,rfl⟩))
      go_wp2_with (go_at_call 104;refine HF.out.mono ?_;rintro e w' ⟨rfl,hw⟩;obtain rfl:=hw.symm)
      go_loopw [10,70] (fun td kk wx=>kk= .int .i64 0/\td= .slice (some ⟨tb,0,none⟩) 1 1/\wr=wx∨ ∃g' c',kk= .int .i64 1/\td= .slice (some ⟨g',0,none⟩) 2 c'/\2<=c'/\wx.cell? ⟨g',1,none⟩=some (.int .i64 2)/\FL w fb mb (fun x=>x==2||x==1) 2 wx) (fun _ i _=>1 - (intOf i).toNat)
      case atStart=>exact .inl ⟨rfl,rfl,rfl⟩
      case round=>
       rcases hrel with⟨rfl,rfl,rfl⟩ | ⟨g',c',rfl,rfl,hc',ht,hf⟩
       ·obtain⟨j0,hj,hy0,hy1,hy2⟩:=info_parts (show(Tryz.prog.info? 3).map (fun i=>(i.zero,i.size,i.bytes))=some (some (.int .i64 0),1,8)by kernel_rfl)
        have HE:=lhi (Blk.new wr 132 #[.string nmA,.int .i64 2])
        have HA:=lhi (HW.out.alloc (.cells #[.string nmA,.int .i64 2] 132))
        obtain⟨n,hn,hMB⟩:=HA.out.f
        have HMB:=lhi hMB
        have hlook:=hMB.look (show -1000000<= (2:Int)/\ (2:Int)<=1000000 by omega)
        have hnt:fb≠tb:=fun e=>by
         obtain⟨es,cl,h⟩:=hMB.obj
         have h2:(wr.alloc (.cells #[.string nmA,.int .i64 2] 132)).heap[tb]? =_:=HXX.out.alloc _
         rw[<-e,h]at h2
         cases h2
        have hnm:mb≠tb:=fun e=>by
         obtain⟨_,_,_,hI,-⟩:=HA.out.m
         obtain⟨es,cl,h⟩:=hI.obj
         have h2:(wr.alloc (.cells #[.string nmA,.int .i64 2] 132)).heap[tb]? =_:=HXX.out.alloc _
         rw[<-e,h]at h2
         cases h2
        have HNT:=lhi hnt
        have HNM:=lhi hnm
        have HOA:=lhi (HOW.out.kept (World.grownBy_alloc wr (.cells #[.string nmA,.int .i64 2] 132) none) (.inr (by simp[Value.ownBlock])))
        clear hMB hnt hnm t0 c0 c1 s0 s1 s2 i0 i1 i2 i3 i4 i5 i6 i7 m0 m1
        go_wp2_with (first
         | (at_mapUpdate;refine Kg _ rfl (.tmp 79) (.tmp 81) (.const (.bool true)) (.inl rfl) fb n _ rfl HMB.out (by omega) 2 (by omega) rfl true rfl ?_;intro w5 hM5 hG5;have x1:w5.cell? ⟨wr.heap.size,1,none⟩=some (.int .i64 2):=(HE.out.turn HMB.out.obj hG5).cell 1)
         | (at_builtin;refine wpList_append_lies _ rfl (.tmp 82) (.tmp 85) 28 rfl w.heap.size 3 j0 _ 1 8 Tryz.underlying28 hj hy0 hy1 hy2 rfl (by decide) (.slice (some ⟨tb,0,none⟩) 1 1) 1 [.int .i64 1] rfl ((HOA.out.kept hG5 (.inr fun e=>HNT.out (Amg e).symm)).kept (World.grownBy_alloc w5 (.cells #[.int .i64 2] 3) none) (.inr (by simp[Value.ownBlock]))) ⟨w5.heap.size,0,none⟩ 1 1 [.int .i64 2] rfl rfl (World.news_of_block (heap_alloc_new _ _)) (by intro u hu;simp at hu;subst hu;rfl) (by decide) (by decide) (by decide) (by have:=HA.out.b.size;have:=hG5.size;simp;omega) _ rfl ?_;intro g2 cap2 w6 hown2 hgrow hat hlt))
        obtain⟨m,gg,hm,hI,hg0,hg1⟩:=HA.out.m
        have hsz:=HA.out.b.size
        have h5:FL w fb mb (fun x=>x==2||x==1) 2 w5:=⟨HA.out.b.trans ⟨hG5.os,hG5.tape,hG5.output,hG5.size,fun k hk=>hG5.block k (by omega) (fun e=>by have:=Amg e;have:=HA.out.nf;omega)⟩,⟨n+1,by omega,hM5.congr fun i=>by by_cases e:i=2 <;> simp[e]⟩,⟨m,gg,by omega,hI.kept hG5 fun e=>HA.out.ne (Amg e).symm,hg0,by omega⟩,HA.out.ne,HA.out.nf,HA.out.nm⟩
        have HR6:=lhi ((h5.alloc (.cells #[.int .i64 2] 3)).grow hgrow fun k hk=>by
         have hk:tb=k:=Amg hk
         subst hk
         exact⟨HTB.out,Ne.symm HNT.out,Ne.symm HNM.out⟩)
        have hc6:w6.cell? ⟨g2,1,none⟩=some (.int .i64 2):=by
         have:=hown2.cells (g:=g2) rfl 1 (.int .i64 2) rfl
         rwa [Addr.add_lit]at this
        have hcp:2<=cap2:=by
         rcases hown2.2 with⟨h,-⟩ | ⟨_,_,_,h,-,-,h2,-⟩
         ·cases h
         ·injection h with _ _ h;omega
        go_roundw
        case rel=>exact .inr ⟨g2,cap2,rfl,rfl,hcp,hc6,HR6.out⟩
        case measure=>decide
       ·have HX1:=lhi hf
        have hc1: ¬ c'=1:=by omega
        go_wp2_with (fail)
        go_roundg 2
        case measure=>decide
        case rel=>exact .inr (.inl ⟨g',1,c' - 1,rfl,rfl,by omega,ht,HX1.out⟩)
     ·have HX1:=lhi hf
      obtain⟨c0,c1,s0,s1,s2,i0,i1,i2,i3,i4,i5,i6,i7,e0,e1,m0,m1⟩:=H.out.keep hf.b
      have HF:=lhi (Sq (H.out.keep hf.b) (.inr ⟨rfl,rfl⟩))
      by_cases hc1:c'=1
      ·subst hc1
       go_wp2_with (go_at_call 104;refine HF.out.mono ?_;rintro e w' ⟨rfl,hw⟩;obtain rfl:=hw.symm)
       go_roundg 1
       case measure=>decide
       case rel=>exact .inr (.inr ⟨_,_,rfl,rfl,HX1.out⟩)
      ·go_wp2_with (go_at_call 104;refine HF.out.mono ?_;rintro e w' ⟨rfl,hw⟩;obtain rfl:=hw.symm)
       go_roundg 1
       case measure=>decide
       case rel=>exact .inr (.inr ⟨_,_,rfl,rfl,HX1.out⟩)
     ·go_wp2_with (fail)
      go_ret2
      exact⟨_,_,rfl,hf⟩
end
end
section
attribute [local go_sem↓] Go.wp_at_zero Go.wp_at_succ
section
variable{w W W':World}{fb mb k:Nat}{F F':Int->Bool}
theorem FL.below(h:FL w fb mb F k W)(hb:Below W.heap.size W W'):FL w fb mb F k W':=h.grow (q:=none) ⟨hb.os,hb.tape,hb.output,hb.size,fun k hk _=>hb.block k hk⟩ (by simp)
theorem Ak7(OA:Option Addr)(oc:Nat)(p:Addr)(w:World):Calls Tryz.prog 125 #[.slice OA 0 oc,.func (.func 107) #[] #[.pointer (some p)]] w fun e w'=>e= .returned (.int .i64 (-1))/\w'=w:=by
 go_enter Tryz.func125,Tryz.ntmps125
 go_wp2_with (fail)
 go_loop [8] (fun i=>i= .int .i64 0) (fun _=>0)
 case atStart=>exact rfl
 case round=>
  obtain rfl:=hrel
  go_wp2_with (fail)
  go_ret
  exact⟨rfl,rfl⟩
theorem Afa(OA:Option Addr)(oc:Nat)(p:Addr)(w:World):Calls Tryz.prog 99 #[.slice OA 0 oc,.func (.func 107) #[] #[.pointer (some p)]] w fun e w'=>e= .returned (.bool false)/\w'=w:=by
 have H:=lhi (Ak7 OA oc p w)
 go_enter Tryz.func99,Tryz.ntmps99
 go_wp2_with (go_at_call 125;refine H.out.mono ?_;rintro e w' ⟨rfl,rfl⟩)
 go_ret
 exact⟨rfl,rfl⟩
theorem Alp{c sb g o ic eg eo ec mg mo mc:Nat}{OA EB:Option Addr}{oc bc:Nat}(h:LA w c sb g o ic eg eo ec mg mo mc OA EB oc bc):Calls Tryz.prog 53 #[.pointer (some ⟨c,0,none⟩)] w fun e w'=>e= .returned (.tuple #[])/\Below w.heap.size w w':=by
 have H:=lhi h
 have HFO:=lhi (Ala h)
 clear h
 go_enter Tryz.func53,Tryz.ntmps53
 go_upto_region 1 with(go_at_call 106;refine HFO.out.mono ?_;rintro e w1 ⟨fb,mb,rfl,hf⟩)
 have HF:=lhi hf
 obtain⟨c0,-,s0,-⟩:=H.out.keep hf.b
 clear hf HFO
 go_wp2_with (fail)
 clear c0 s0
 go_loopw [20] (fun i wr=>Up2 i/\FL w fb mb (fun x=>x==2||x==1) 2 wr) (fun i _=>2 - (intOf i).toNat)
 case atStart=>exact⟨.inl rfl,HF.out⟩
 case round=>
  obtain⟨hr,hf⟩:=hrel
  obtain⟨c0,c1,s0,s1,s2,i0,i1,i2,i3,i4,i5,i6,i7,e0,e1,m0,m1⟩:=H.out.keep hf.b
  rcases hr with rfl | rfl | rfl
  ·go_upto_region 4 with(fail)
   refine letW (fun W0 hW0=>?_)
   obtain⟨HX,hb0⟩:=Du hW0
   have HW:=lhi (hf.below hb0)
   obtain⟨xg,hxg⟩: ∃x,wr.heap.size=x:=⟨_,rfl⟩
   rw[hxg]at HX⊢
   have HXX:=lhi HX
   have x0:W0.cell? ⟨xg,0,none⟩=some (.int .i64 1):=HX.cell 0
   have x1:W0.cell? ⟨xg,1,none⟩=some (.bool true):=HX.cell 1
   clear hxg HX hW0 hb0 hf c0 c1 s0 s1 s2 i0 i1 i2 i3 i4 i5 i6 i7 e0 e1 m0 m1
   go_upto_region 7 with(fail)
   have HY:=lhi (fun y:WIn (Bel W0)=>H.out.keep (HW.out.b.trans (y.h.mono HW.out.b.size)))
   have HFI:=lhi (fun y:WIn (Bel W0)=>Sq (HY.out y) (.inl ⟨rfl,rfl⟩))
   have y0:=fun y:WIn (Bel W0)=>y.cell x0
   have y1:=fun y:WIn (Bel W0)=>(HY.out y).c0
   have y2:=fun y:WIn (Bel W0)=>(HY.out y).s0
   have y3:=fun y:WIn (Bel W0)=>(HW.out.below y.h).f.choose_spec.2.look (show -1000000<= (1:Int)/\ (1:Int)<=1000000 by omega)
   have y4:=fun W=>Add W g o o true (by simp)
   clear x0 x1
   refine Be (C:=Bel W0) (by kernel_rfl) (by kernel_rfl) (Bel.drew W0) ?_
   repeat (go_big_quiet_step ((go_at_call 104;exact Calls.bel _ ((HFI.out _).mono (by rintro e w' ⟨rfl,rfl⟩;exact⟨rfl,Amf _ _⟩)))))
   refine wpQuiet_nil ?_
   rintro w2 ⟨⟨w2',hb2⟩,hw⟩
   obtain rfl:w2=w2':=hw
   have HW2:=lhi (HW.out.below hb2)
   clear y0 y1 y2 y3 y4
   go_wp2_with (fail)
   go_roundw
   case rel=>exact⟨.inr (.inl rfl),HW2.out⟩
   case measure=>decide
  ·go_upto_region 4 with(fail)
   refine letW (fun W0 hW0=>?_)
   obtain⟨HX,hb0⟩:=Du hW0
   have HW:=lhi (hf.below hb0)
   obtain⟨xg,hxg⟩: ∃x,wr.heap.size=x:=⟨_,rfl⟩
   rw[hxg]at HX⊢
   have HXX:=lhi HX
   have x0:W0.cell? ⟨xg,0,none⟩=some (.int .i64 2):=HX.cell 0
   have x1:W0.cell? ⟨xg,1,none⟩=some (.bool false):=HX.cell 1
   clear hxg HX hW0 hb0 hf c0 c1 s0 s1 s2 i0 i1 i2 i3 i4 i5 i6 i7 e0 e1 m0 m1
   have y1:=(H.out.keep HW.out.b).c0
   have y2:=(H.out.keep HW.out.b).s1
   have HCF:=lhi (fun W=>Afa OA oc ⟨xg,0,none⟩ W)
   go_upto_region 7 with(go_at_call 99;refine(HCF.out _).mono ?_;rintro e w' ⟨rfl,hw⟩;obtain rfl:=hw.symm)
   clear y1 y2
   have HY:=lhi (fun y:WIn (Bel W0)=>H.out.keep (HW.out.b.trans (y.h.mono HW.out.b.size)))
   have HFI:=lhi (fun y:WIn (Bel W0)=>Sq (HY.out y) (.inr ⟨rfl,rfl⟩))
   have y0:=fun y:WIn (Bel W0)=>y.cell x0
   have y1:=fun y:WIn (Bel W0)=>(HY.out y).c0
   have y2:=fun y:WIn (Bel W0)=>(HY.out y).s0
   have y3:=fun y:WIn (Bel W0)=>(HW.out.below y.h).f.choose_spec.2.look (show -1000000<= (2:Int)/\ (2:Int)<=1000000 by omega)
   have y4:=fun W=>Add W g (o+4) (o+4) true (by simp)
   clear x0 x1
   refine Be (C:=Bel W0) (by kernel_rfl) (by kernel_rfl) (Bel.drew W0) ?_
   repeat (go_big_quiet_step ((go_at_call 104;exact Calls.bel _ ((HFI.out _).mono (by rintro e w' ⟨rfl,rfl⟩;exact⟨rfl,Amf _ _⟩)))))
   refine wpQuiet_nil ?_
   rintro w2 ⟨⟨w2',hb2⟩,hw⟩
   obtain rfl:w2=w2':=hw
   have HW2:=lhi (HW.out.below hb2)
   clear y0 y1 y2 y3 y4
   go_wp2_with (fail)
   go_roundw
   case rel=>exact⟨.inr (.inr rfl),HW2.out⟩
   case measure=>decide
  ·go_wp2_with (fail)
   go_end0
   exact⟨rfl,hf.b⟩
end
end
section
open Go.RowKit Go.Shelf Go.Lib Go.Sort
attribute [local go_sem↓] Go.wp_at_zero Go.wp_at_succ
theorem Alw{w:World}{iv ov mv:Value}{ev:Nat->Value}(hS:StM w iv ov mv ev SA): ∃g o ic eg eo ec mg mo mc OA EB oc bc,iv= .slice (some ⟨g,o,none⟩) 2 ic/\ov= .slice OA 0 oc/\mv= .slice (some ⟨mg,mo,none⟩) 2 mc/\
  ∀W c sb,StM W iv ov mv ev SA->Blk W c 116 #[.pointer (some ⟨sb,0,none⟩),.slice none 0 0]->Blk W sb 30 #[iv,ov,mv]->LA W c sb g o ic eg eo ec mg mo mc OA EB oc bc:=by
 obtain⟨A,ic,hi,-,h4⟩:=hS.ino
 obtain⟨g,o,rfl,-⟩:=h4 (by decide)
 obtain⟨A,ec,he,-,h4⟩:=hS.ent 0 (by decide)
 obtain⟨eg,eo,rfl,-⟩:=h4 (by decide)
 obtain⟨A,mc,hm,-,h4⟩:=hS.mad
 obtain⟨mg,mo,rfl,-⟩:=h4 (by decide)
 obtain⟨OA,oc,ho,-⟩:=hS.opn
 obtain⟨EB,bc,hb,-⟩:=hS.ent 1 (by decide)
 refine⟨g,o,ic,eg,eo,ec,mg,mo,mc,OA,EB,oc,bc,hi,ho,hm,fun W c sb hS hc hs=>?_⟩
 obtain⟨_,_,e,-,h4⟩:=hS.ino
 obtain⟨_,_,e2,hI⟩:=h4 (by decide)
 rw[hi]at e
 injection e with e
 rw[e2]at e
 injection e with e
 injection e with e3 e4
 subst e3 e4
 obtain⟨_,_,e,-,h4⟩:=hS.ent 0 (by decide)
 obtain⟨_,_,e2,hE⟩:=h4 (by decide)
 rw[he]at e
 injection e with e
 rw[e2]at e
 injection e with e
 injection e with e3 e4
 subst e3 e4
 obtain⟨_,_,e,-,h4⟩:=hS.mad
 obtain⟨_,_,e2,hM⟩:=h4 (by decide)
 rw[hm]at e
 injection e with e
 rw[e2]at e
 injection e with e
 injection e with e3 e4
 subst e3 e4
 have s0:=hs.cell 0
 have s1:=hs.cell 1
 have s2:=hs.cell 2
 rw[hi,ho,hm]at s0 s1 s2
 exact⟨hc.cell 0,hc.cell 1,s0,s1,s2,hI 0 0 (by decide) (by decide),hI 0 1 (by decide) (by decide),(hI 0 2 (by decide) (by decide)).trans (congrArg some he),hI 0 3 (by decide) (by decide),hI 1 0 (by decide) (by decide),hI 1 1 (by decide) (by decide),(hI 1 2 (by decide) (by decide)).trans (congrArg some hb),hI 1 3 (by decide) (by decide),hE 0 0 (by decide) (by decide),hE 0 1 (by decide) (by decide),hM 0 0 (by decide) (by decide),hM 1 0 (by decide) (by decide)⟩
theorem Ah1(w:World):Calls Tryz.prog 60 #[.slice none 0 0] w fun e w'=>e= .returned (.slice none 0 0)/\w'=w:=by
 go_enter Tryz.func60,Tryz.ntmps60
 go_wp2_with (fail)
 go_ret
 exact⟨rfl,rfl⟩
theorem Akv{w:World}{iv ov mv:Value}{ev:Nat->Value}(hS:StM w iv ov mv ev SA):Calls Tryz.prog 24 #[.agg #[iv,ov,mv]] w fun e w'=>e= .returned (.slice none 0 0)/\Below w.heap.size w w':=by
 obtain⟨g,o,ic,eg,eo,ec,mg,mo,mc,OA,EB,oc,bc,rfl,rfl,rfl,hL⟩:=Alw hS
 have HS:=lhi hS
 have HL:=lhi hL
 clear hS hL
 go_enter Tryz.func24,Tryz.ntmps24
 go_upto_region 2 with(fail)
 refine letW (fun W0 hW0=>?_)
 obtain⟨hs,hc,hb⟩:=Lp hW0
 have HA:=lhi (HL.out W0 _ _ (HS.out.keep hb) hc hs)
 have HB:=lhi hb
 generalize w.heap.size+1=c at*
 obtain⟨sb,hsb⟩: ∃x,w.heap.size=x:=⟨_,rfl⟩
 rw[hsb]at HA⊢
 clear hW0 hs hc hb hsb
 have H1:=lhi (numL HA.out)
 go_upto_region 3 with(go_at_call 51;refine H1.out.mono ?_;rintro e w1 ⟨rfl,hb1⟩;have HB1:=lhi hb1;clear hb1)
 have H2:=lhi (bodL (HA.out.keep HB1.out))
 go_upto_region 4 with(go_at_call 52;refine H2.out.mono ?_;rintro e w2 ⟨rfl,hb2⟩;have HB2:=lhi (HB1.out.trans (hb2.mono HB1.out.size));clear hb2)
 have H3:=lhi (Alp (HA.out.keep HB2.out))
 go_upto_region 5 with(go_at_call 53;refine H3.out.mono ?_;rintro e w3 ⟨rfl,hb3⟩;have HB3:=lhi (HB2.out.trans (hb3.mono HB2.out.size));clear hb3)
 have H4:=lhi (Alv (HA.out.keep HB3.out))
 have c1:=(HA.out.keep HB3.out).c1
 have HSF:=lhi (fun W=>AnyF.slices_SortFunc_none Tryz.sortFnd none 0 (.func (.func 56) #[] #[]) W)
 go_wp2_with (first
  | (go_at_call 54;refine H4.out.mono ?_;rintro e w4 ⟨rfl,hw⟩;obtain rfl:=hw.symm)
  | (go_at_call 55;refine(HSF.out _).mono ?_;rintro e w5 ⟨rfl,hw⟩;obtain rfl:=hw.symm)
  | (go_at_call 60;refine(Ah1 _).mono ?_;rintro e w6 ⟨rfl,hw⟩;obtain rfl:=hw.symm))
 go_ret
 exact⟨rfl,HB.out.trans (HB3.out.mono HB.out.size)⟩
end
end Go.Proofs.YtkebjgebkneijaaGreat
