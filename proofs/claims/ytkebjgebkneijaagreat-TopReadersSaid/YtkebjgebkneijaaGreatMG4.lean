/- Texts of one's own that a claim's last text rests on: Mf6 Mf7 Mf8 Pth Mf9. -/
import Derived.Test.YtkebjgebkneijaaGreatMG3
import Derived.Test.YtkebjgebkneijaaGreatMG2
import Derived.Lib.OthersKept
set_option linter.unusedVariables false
set_option linter.unusedSimpArgs false
namespace Go.Proofs.YtkebjgebkneijaaGreat
open Go.RowKit
set_option maxHeartbeats 16000000
set_option maxRecDepth 1000000
theorem Aip(v:Value)(W:World):(Instr.typeAssert (.iface 142 v) 20 142 true).run Tryz.prog W= .ok (.tuple #[v,.bool true]) W:=by kernel_rfl
theorem Afy(W:World):(Instr.typeAssert .nilIface 20 142 true).run Tryz.prog W= .ok (.tuple #[.agg #[.int .i64 0,.string ⟨#[]⟩,.bool false],.bool false]) W:=by kernel_rfl
theorem Afv(W:World):(Instr.typeAssert .nilIface 20 260 true).run Tryz.prog W= .ok (.tuple #[.agg #[.int .i64 0,.int .i64 0,.string ⟨#[]⟩],.bool false]) W:=by kernel_rfl
theorem Aim(v:Value)(W:World):(Instr.typeAssert (.iface 307 v) 20 307 true).run Tryz.prog W= .ok (.tuple #[v,.bool true]) W:=by kernel_rfl
theorem Afw(W:World):(Instr.typeAssert .nilIface 20 307 true).run Tryz.prog W= .ok (.tuple #[.agg #[.int .i64 0,.int .i64 0,.string ⟨#[]⟩],.bool false]) W:=by kernel_rfl
section
variable{L:Nat->Prop}{w w0:World}{s a:Nat}{M:Mem}{m:Nat}
theorem Bt{w w':World}{L:Nat->Prop}{b:Nat}(h:L b):new w w' L b:=.inl h
theorem Cv{w w':World}{L:Nat->Prop}{b:Nat}(h1:w.heap.size<=b)(h2:b<w'.heap.size):new w w' L b:=.inr ⟨h1,h2⟩
theorem Nn(h:Ab L w0 s M)(hok:M.ok m)(hm:m<=1000000000){c i:Int}(hc:Who M c)(hi:0<=i/\i<9549){r:Int}(hr:rd M.ws i=r)(W:World)(hb:Below w0.heap.size w0 W):
  Calls Tryz.prog 180 #[.agg #[.pointer (some ⟨s,0,none⟩),.int .i64 c],.int .i64 i] W fun e w'=>e= .returned (.int .i64 r)/\Ab (new w0 W L) w' s (M.see c i)/\Kp (new w0 W L) W w':=by
 subst hr
 exact Wa (h.fresh hb) hok hm hc hi
theorem Ac9(h:Ab L w0 s M)(hok:M.ok m){n:Int}{t:Co}(ht:M.thing n=some t)(hn:n<=1000000000000)(W:World)(hb:Below w0.heap.size w0 W):
  Calls Tryz.prog 179 #[.pointer (some ⟨s,0,none⟩),.int .i64 n] W fun e w'=>(∃v,e= .returned v/\Dx L W v t)/\W=w':=Uq (h.below hb) hok ht hn
def Mem.bas(M:Mem)(num:Int):Int×ByteArray×Bool:=match M.at_ (wd num 16)with
 | some (.base v d h)=>(v,d,h)
 | _=>(0,⟨#[]⟩,false)
def Id(x:Int×ByteArray×Bool):Value:=.agg #[.int .i64 x.1,.string x.2.1,.bool x.2.2]
structure Mem.isBase (M:Mem) (num:Int):Prop where
 f:M.fine (wd num 16)
 k: ∀t,M.at_ (wd num 16)=some t-> ∃v d h,t= .base v d h
theorem Afj{num:Int}(hf:M.isBase num):
  (rd M.ws (wd num 16)=0/\M.bas num=(0,⟨#[]⟩,false))∨(0<rd M.ws (wd num 16)/\ ∃v d h,M.bas num=(v,d,h)/\M.thing (rd M.ws (wd num 16))=some (.base v d h)):=by
 obtain⟨hf,hk⟩:=hf
 unfold Mem.bas
 unfold Mem.at_ at*
 rcases hf with h0 | ⟨h0,h1⟩
 ·refine .inl ⟨h0,?_⟩
  rw[h0,show M.thing 0=none from rfl]
 ·obtain⟨t,ht⟩:=Option.isSome_iff_exists.1 h1
  obtain⟨v,d,h,rfl⟩:=hk t ht
  exact .inr ⟨h0,v,d,h,by rw[ht],ht⟩
theorem Ae(w:World):Below w.heap.size w w.drew:=⟨rfl,rfl,rfl,Ama _,fun _ _=>rfl⟩
theorem Gh(w:World)(o:Obj):Below w.heap.size w (w.alloc o).drew:=by
 have h:=(Amf _ w).alloc (Ama _) o
 exact⟨h.os,h.tape,h.output,h.size,h.block⟩
theorem Cr{W:World}{q p j:Nat}(h:p≠q){x y z v:Value}(hc:W.cell? ⟨p,j,none⟩=some v):(((W.setCell ⟨q,0,none⟩ x).setCell ⟨q,1,none⟩ y).setCell ⟨q,2,none⟩ z).cell? ⟨p,j,none⟩=some v:=
 (World.cell?_setCell_far _ _ _ _ (by exact Ne.symm h)).trans ((World.cell?_setCell_far _ _ _ _ (by exact Ne.symm h)).trans ((World.cell?_setCell_far _ _ _ _ (by exact Ne.symm h)).trans hc))
theorem Kp.undrew'{L:Nat->Prop}{w w':World}(h:Kp L w.drew w'):Kp L w w':=⟨h.k.undrew,h.i.undrew⟩
structure Var3 (w0:World) (L:Nat->Prop) (s:Nat) (M:Mem) (T:TypeId) (x y z:Value) (q:Nat) (wx:World):Prop where
 m:Ab L wx s M
 k:Kp L w0 wx
 b:Blk wx q T #[x,y,z]
 n:w0.heap.size<=q
theorem Xk{w1:World}{T:TypeId}{z0 z1 z2 x y z:Value}(hb:Bd L w0)(ht: ¬ Dg T)(hq:Ab (new w0 (w0.alloc (.cells #[z0,z1,z2] T)).drew L) w1 s M/\Kp (new w0 (w0.alloc (.cells #[z0,z1,z2] T)).drew L) (w0.alloc (.cells #[z0,z1,z2] T)).drew w1):
  Var3 w0 L s M T x y z w0.heap.size (((w1.setCell ⟨w0.heap.size,0,none⟩ x).setCell ⟨w0.heap.size,1,none⟩ y).setCell ⟨w0.heap.size,2,none⟩ z):=by
 obtain⟨hm,hk⟩:=hq
 have hin:new w0 (w0.alloc (.cells #[z0,z1,z2] T)).drew L w0.heap.size:=Cv (Ama _) (show w0.heap.size< (w0.alloc (.cells #[z0,z1,z2] T)).heap.size by simp)
 have hB:Blk w1 w0.heap.size T #[z0,z1,z2]:=hk.blk (show Blk (w0.alloc (.cells #[z0,z1,z2] T)).drew w0.heap.size T #[z0,z1,z2]from Blk.new w0 T _) hin
 have hB1:=hB.set_ 0 x
 have hB2:=hB1.set_ 1 y
 have hB3:=hB2.set_ 2 z
 have hn: ¬ L w0.heap.size:=hb.new
 refine⟨(((hm.set hB hin 0 x).set hB1 hin 1 y).set hB2 hin 2 z).sub fun _ h=>Bt h,?_,hB3,Ama _⟩
 have k0:Kp L w0 w1:=(Kp.alloc hb (.cells #[z0,z1,z2] T)).trans ((hk.sub fun _ h=>Bt h).undrew')
 refine⟨((k0.k.setCell (p:=⟨w0.heap.size,0,none⟩) hn x).setCell (p:=⟨w0.heap.size,1,none⟩) hn y).setCell (p:=⟨w0.heap.size,2,none⟩) hn z,?_⟩
 exact((k0.i.trans (KI.set hB ht 0 x)).trans (KI.set hB1 ht 1 y)).trans (KI.set hB2 ht 2 z)
theorem Xj{w1:World}{T:TypeId}{x y z:Value}(hb:Bd L w0)(hq:Ab (new w0 w0.drew L) w1 s M/\Kp (new w0 w0.drew L) w0.drew w1):
  Var3 w0 L s M T x y z w1.heap.size (w1.alloc (.cells #[x,y,z] T)):=by
 obtain⟨hm,hk⟩:=hq
 have hm:=hm.sub (L':=L) fun _ h=>Bt h
 have k0:Kp L w0 w1:=(hk.sub fun _ h=>Bt h).undrew'
 exact⟨hm.alloc _,k0.trans (Kp.alloc hm.bd _),Blk.new _ _ _,k0.size⟩
theorem Qx{wc:World}{T T':TypeId}{x y z a b d x' y' z':Value}{q r:Nat}(hB:Below w.heap.size w w0)(hbd:Bd L w)(hv:Var3 w0 (new w w0 L) s M T x y z q wc)(hr:Blk wc r T' #[a,b,d])(ht: ¬ Dg T')(hn:w.heap.size<=r)(hr2:r<w0.heap.size):
  Ab L (((wc.setCell ⟨r,0,none⟩ x').setCell ⟨r,1,none⟩ y').setCell ⟨r,2,none⟩ z') s M/\Kp L w (((wc.setCell ⟨r,0,none⟩ x').setCell ⟨r,1,none⟩ y').setCell ⟨r,2,none⟩ z'):=by
 have hB1:=hr.set_ 0 x'
 have hB2:=hB1.set_ 1 y'
 have hin:new w w0 L r:=Cv hn hr2
 have hl: ¬ L r:=fun h=>absurd (hbd r h) (by omega)
 have k0:Kp L w wc:=(Kp.below hbd hB).trans (hv.k.sub fun _ h=>Bt h)
 refine⟨(((hv.m.set hr hin 0 x').set hB1 hin 1 y').set hB2 hin 2 z').sub fun _ h=>Bt h,((k0.k.setCell (p:=⟨r,0,none⟩) hl x').setCell (p:=⟨r,1,none⟩) hl y').setCell (p:=⟨r,2,none⟩) hl z',?_⟩
 exact((k0.i.trans (KI.set hr ht 0 x')).trans (KI.set hB1 ht 1 y')).trans (KI.set hB2 ht 2 z')
theorem Jo{wc:World}{r:Nat}{T:TypeId}{a b d:Value}(hr:Blk wc r T #[a,b,d])(x y z:Value):
  (((wc.setCell ⟨r,0,none⟩ x).setCell ⟨r,1,none⟩ y).setCell ⟨r,2,none⟩ z).cell? ⟨r,0,none⟩=some x/\ (((wc.setCell ⟨r,0,none⟩ x).setCell ⟨r,1,none⟩ y).setCell ⟨r,2,none⟩ z).cell? ⟨r,1,none⟩=some y/\ (((wc.setCell ⟨r,0,none⟩ x).setCell ⟨r,1,none⟩ y).setCell ⟨r,2,none⟩ z).cell? ⟨r,2,none⟩=some z:=by
 have h:=((hr.set_ 0 x).set_ 1 y).set_ 2 z
 exact⟨h.cell 0,h.cell 1,h.cell 2⟩
theorem Tl(h:Ab L w s M)(hok:M.ok m)(hm:m<=1000000000){c num:Int}(hc:Who M c)(hn:1<=num/\num<=257)(hk:M.isBase num)(hz:rd M.ws (wd num 16)<=1000000000000):
  Calls Tryz.prog 139 #[.agg #[.pointer (some ⟨s,0,none⟩),.int .i64 c],.int .i64 num] w fun e w'=>e= .returned (Id (M.bas num))/\Ab L w' s (M.see c (wd num 16))/\Kp L w w':=by
 have hcase:=Afj hk
 obtain⟨w0,hw0⟩: ∃x,x=(w.alloc (.cells #[.pointer (some ⟨s,0,none⟩),.int .i64 c] 168)).alloc (.cells #[.int .i64 0,.string ⟨#[]⟩,.bool false] 142):=⟨_,rfl⟩
 obtain⟨p,hp⟩:=yy w.heap.size
 have hsz:w0.heap.size=p+1+1:=by rw[hw0,hp];simp
 have HB:=lhi (show Below w.heap.size w w0 by rw[hw0];exact((Amf _ _).alloc (Ama _) _).alloc (by simp) _)
 have HA:=h.fresh HB.out
 have HP:=lhi (show Blk w0 p 168 #[.pointer (some ⟨s,0,none⟩),.int .i64 c]by rw[hw0,hp];exact(Blk.new _ _ _).alloc _)
 have HR:=lhi (show Blk w0 (p+1) 142 #[.int .i64 0,.string ⟨#[]⟩,.bool false]by rw[hw0,hp];exact Blk.newAt _ _ _ (by simp))
 have HW:=lhi (Cs num 16 (by omega) (by omega))
 have HL:=Nn HA hok hm (i:=wd num 16) hc (Il (b:=16) hn (by omega)) rfl
 have HK:=lhi (Kp.below h.bd HB.out)
 have HOK:=lhi (hok.see c (wd num 16))
 have HTS:=lhi (M.thing_see c (wd num 16))
 obtain⟨ix,hix⟩: ∃x,wd num 16=x:=⟨_,rfl⟩
 obtain⟨bl,hbl⟩: ∃x,M.bas num=x:=⟨_,rfl⟩
 rw[hix]at HL HOK HTS hcase hz HW⊢
 rw[hbl]at hcase⊢
 have p0:w0.cell? ⟨p,0,none⟩=some (.pointer (some ⟨s,0,none⟩)):=HP.out.cell 0
 have p1:w0.cell? ⟨p,1,none⟩=some (.int .i64 c):=HP.out.cell 1
 have hpl:p<w0.heap.size:=by omega
 have HIP:=lhi (show new w w0 L p from Cv (by omega) hpl)
 have hpn:p≠w0.heap.size:=by omega
 have HPD:=lhi (show w0.drew.cell? ⟨p,0,none⟩=some (.pointer (some ⟨s,0,none⟩))/\w0.drew.cell? ⟨p,1,none⟩=some (.int .i64 c)from⟨p0,p1⟩)
 have HPA:=lhi (show(w0.alloc (.cells #[.int .i64 0,.string ⟨#[]⟩,.bool false] 142)).drew.cell? ⟨p,0,none⟩=some (.pointer (some ⟨s,0,none⟩))/\ (w0.alloc (.cells #[.int .i64 0,.string ⟨#[]⟩,.bool false] 142)).drew.cell? ⟨p,1,none⟩=some (.int .i64 c)from⟨(Amj _ _ _ hpl).trans p0,(Amj _ _ _ hpl).trans p1⟩)
 have HSZ:=lhi hsz
 have HIR:=lhi (show new w w0 L (p+1)from Cv (by omega) (by omega))
 have HBD:=lhi HA.bd
 have HBDL:=lhi h.bd
 have HPP:=lhi hp
 clear hsz
 rcases hcase with⟨h0,rfl⟩ | ⟨h0,bv,bd,bh,rfl,h1⟩
 ·rw[h0]at HL
  have HLH:=lhi HL
  have hta:=Afy
  clear h hok HA hk HL hix hbl h0 hc hn hz
  go_enter Tryz.func139,Tryz.ntmps139
  go_wp2_with (fail)
  rw[<-hp,<-hw0]
  clear hp hw0
  go_cut [5,6] (fun s5 s6 wx=>∃q,s5= .pointer (some ⟨q,0,none⟩)/\s6= .bool false/\Var3 w0 (new w w0 L) s (M.see c ix) 142 (.int .i64 0) (.string ⟨#[]⟩) (.bool false) q wx)
  case first=>
   go_region_held3 (fun w'=>w'.cell? ⟨p,0,none⟩=some (.pointer (some ⟨s,0,none⟩))/\w'.cell? ⟨p,1,none⟩=some (.int .i64 c))
    (with_reducible first | exact HPD.out | exact HPA.out | exact⟨z0,z1⟩ | exact⟨(Amj _ _ _ zl).trans z0,(Amj _ _ _ zl).trans z1⟩ | exact⟨Cr hpn z0,Cr hpn z1⟩)
    ((first
     | (go_at_call 65;refine(HW.out _).mono ?_;rintro e w' ⟨rfl,rfl⟩)
     | (go_at_call 180;refine(HLH.out _ (by first | exact Ae _ | exact Gh _ _)).mono ?_;rintro e w1 ⟨rfl,hq⟩;have HQ:=lhi hq;have z0:=hq.2.cellOf (p:=⟨p,0,none⟩) (Bt HIP.out) (by first | exact p0 | exact(Amj _ _ _ hpl).trans p0);have z1:=hq.2.cellOf (p:=⟨p,1,none⟩) (Bt HIP.out) (by first | exact p1 | exact(Amj _ _ _ hpl).trans p1);have zl:=Amd _ _ z0;(try (have hy:=hq.2.blk (Blk.new w0 142 #[.int .i64 0,.string ⟨#[]⟩,.bool false]) (Cv (Ama _) (by simp));have y0:w1.cell? ⟨w0.heap.size,0,none⟩=some (.int .i64 0):=hy.cell 0;have y1:w1.cell? ⟨w0.heap.size,1,none⟩=some (.string ⟨#[]⟩):=hy.cell 1;have y2:w1.cell? ⟨w0.heap.size,2,none⟩=some (.bool false):=hy.cell 2;have u0:=hy.frozen 0;have u1:=hy.frozen 1;have u2:=hy.frozen 2;clear hy));clear hq)
     | (go_at_call 179;refine(Nr _ _).mono ?_;rintro e w' ⟨rfl,rfl⟩)))
   all_goals
    go_wp2_with (fail)
    go_meet
    case rel=>first | exact⟨_,rfl,rfl,Xk HBD.out (by unfold Dg;decide) HQ.out⟩ | exact⟨_,rfl,rfl,Xj HBD.out HQ.out⟩
  case rest=>
   obtain⟨q,rfl,rfl,hv⟩:=hcut
   have HV:=lhi hv
   have v0:wc.cell? ⟨q,0,none⟩=some (.int .i64 0):=hv.b.cell 0
   have v1:wc.cell? ⟨q,1,none⟩=some (.string ⟨#[]⟩):=hv.b.cell 1
   have v2:wc.cell? ⟨q,2,none⟩=some (.bool false):=hv.b.cell 2
   have hr:=hv.k.blk HR.out HIR.out
   have HRR:=lhi hr
   have r0:wc.cell? ⟨p+1,0,none⟩=some (.int .i64 0):=hr.cell 0
   have r1:wc.cell? ⟨p+1,1,none⟩=some (.string ⟨#[]⟩):=hr.cell 1
   have r2:wc.cell? ⟨p+1,2,none⟩=some (.bool false):=hr.cell 2
   have f0:=hr.frozen 0
   have f1:=hr.frozen 1
   have f2:=hr.frozen 2
   clear hv hr p0 p1
   go_wp2_with (fail)
   obtain⟨e0,e1,e2⟩:=Jo HRR.out (.int .i64 0) (.string ⟨#[]⟩) (.bool false)
   refine bodyPost_ret (v:=.agg #[.int .i64 0,.string ⟨#[]⟩,.bool false]) (by simp[results,Tryz.results139,go_sem,e0,e1,e2]) rfl ⟨rfl,?_⟩
   exact Qx HB.out HBDL.out HV.out HRR.out (by unfold Dg;decide) (by have:=HPP.out;omega) (by have:=HSZ.out;omega)
 ·have HLH:=lhi HL
  have HT:=lhi h1
  have HZ:=lhi hz
  obtain⟨nn,hnn⟩: ∃x,rd M.ws ix=x:=⟨_,rfl⟩
  rw[hnn]at HLH HT HZ
  clear h hok HA hk HL hix hbl h0 hc hn hz h1 hnn
  go_enter Tryz.func139,Tryz.ntmps139
  go_wp2_with (fail)
  rw[<-hp,<-hw0]
  clear hp hw0
  go_cut [5,6] (fun s5 s6 wx=>∃q,s5= .pointer (some ⟨q,0,none⟩)/\s6= .bool true/\Var3 w0 (new w w0 L) s (M.see c ix) 142 (.int .i64 bv) (.string bd) (.bool bh) q wx)
  case first=>
   go_region_held3 (fun w'=>w'.cell? ⟨p,0,none⟩=some (.pointer (some ⟨s,0,none⟩))/\w'.cell? ⟨p,1,none⟩=some (.int .i64 c))
    (with_reducible first | exact HPD.out | exact HPA.out | exact⟨z0,z1⟩ | exact⟨(Amj _ _ _ zl).trans z0,(Amj _ _ _ zl).trans z1⟩ | exact⟨Cr hpn z0,Cr hpn z1⟩)
    ((first
     | (go_at_call 65;refine(HW.out _).mono ?_;rintro e w' ⟨rfl,rfl⟩)
     | (go_at_call 180;refine(HLH.out _ (by first | exact Ae _ | exact Gh _ _)).mono ?_;rintro e w1 ⟨rfl,hq⟩;have HQ:=lhi hq;have z0:=hq.2.cellOf (p:=⟨p,0,none⟩) (Bt HIP.out) (by first | exact p0 | exact(Amj _ _ _ hpl).trans p0);have z1:=hq.2.cellOf (p:=⟨p,1,none⟩) (Bt HIP.out) (by first | exact p1 | exact(Amj _ _ _ hpl).trans p1);have zl:=Amd _ _ z0;(try (have hy:=hq.2.blk (Blk.new w0 142 #[.int .i64 0,.string ⟨#[]⟩,.bool false]) (Cv (Ama _) (by simp));have y0:w1.cell? ⟨w0.heap.size,0,none⟩=some (.int .i64 0):=hy.cell 0;have y1:w1.cell? ⟨w0.heap.size,1,none⟩=some (.string ⟨#[]⟩):=hy.cell 1;have y2:w1.cell? ⟨w0.heap.size,2,none⟩=some (.bool false):=hy.cell 2;have u0:=hy.frozen 0;have u1:=hy.frozen 1;have u2:=hy.frozen 2;clear hy));clear hq)
     | (go_at_call 179;refine(Ac9 HQ.out.1 HOK.out (by rw[HTS.out];exact HT.out) HZ.out _ (by first | exact Amf _ _ | exact(Amf _ _).alloc (Ama _) _)).mono ?_;rintro e w' ⟨⟨v,rfl,hv⟩,rfl⟩;have hv:v= .iface 142 (.agg #[.int .i64 bv,.string bd,.bool bh]):=hv;subst hv;have hta:=Aip (.agg #[.int .i64 bv,.string bd,.bool bh]))))
   all_goals
    go_wp2_with (fail)
    go_meet
    case rel=>first | exact⟨_,rfl,rfl,Xk HBD.out (by unfold Dg;decide) HQ.out⟩ | exact⟨_,rfl,rfl,Xj HBD.out HQ.out⟩
  case rest=>
   obtain⟨q,rfl,rfl,hv⟩:=hcut
   have HV:=lhi hv
   have v0:wc.cell? ⟨q,0,none⟩=some (.int .i64 bv):=hv.b.cell 0
   have v1:wc.cell? ⟨q,1,none⟩=some (.string bd):=hv.b.cell 1
   have v2:wc.cell? ⟨q,2,none⟩=some (.bool bh):=hv.b.cell 2
   have hr:=hv.k.blk HR.out HIR.out
   have HRR:=lhi hr
   have r0:wc.cell? ⟨p+1,0,none⟩=some (.int .i64 0):=hr.cell 0
   have r1:wc.cell? ⟨p+1,1,none⟩=some (.string ⟨#[]⟩):=hr.cell 1
   have r2:wc.cell? ⟨p+1,2,none⟩=some (.bool false):=hr.cell 2
   have f0:=hr.frozen 0
   have f1:=hr.frozen 1
   have f2:=hr.frozen 2
   clear hv hr p0 p1
   go_wp2_with (fail)
   obtain⟨e0,e1,e2⟩:=Jo HRR.out (.int .i64 bv) (.string bd) (.bool bh)
   refine bodyPost_ret (v:=.agg #[.int .i64 bv,.string bd,.bool bh]) (by simp[results,Tryz.results139,go_sem,e0,e1,e2]) rfl ⟨rfl,?_⟩
   exact Qx HB.out HBDL.out HV.out HRR.out (by unfold Dg;decide) (by have:=HPP.out;omega) (by have:=HSZ.out;omega)
end
def itV(x:Item):Value:=.agg #[.string x.name,.int .i64 x.num,.bool x.dir]
def Item.is(s:ByteArray)(x:Item):Bool:=decide (x.name=s)
def Ks(l:List Item)(s:ByteArray):Value:=match l.find? (Item.is s)with
 | some x=>.tuple #[itV x,.bool true]
 | none=>.tuple #[.agg #[.string ⟨#[]⟩,.int .i64 0,.bool false],.bool false]
theorem Akk(l:List Item):CL Ib l (itC l) 3:=fun i j hi hj=>by
 have:j=0∨j=1∨j=2:=by omega
 rcases this with rfl | rfl | rfl <;> simp[Ib,itC,List.getD,hi]
theorem Xm{s t:ByteArray}(h:s.toList=t.toList):s=t:=by
 rw[ByteArray.toList_eq,ByteArray.toList_eq]at h
 cases s;cases t
 simpa using congrArg List.toArray h
theorem Ajk{l:List Item}{s:ByteArray}{k:Nat}(hk:k<l.length)(h:(l.getD k Ba).name=s)(hb: ∀j,j<k->(l.getD j Ba).name≠s):Ks l s= .tuple #[itV (l.getD k Ba),.bool true]:=by
 have:l.find? (Item.is s)=some l[k]:=by
  rw[List.find?_eq_some_iff_getElem]
  have e:l.getD k Ba=l[k]:=by simp[List.getD,hk]
  refine⟨by rw[e]at h;simpa[Item.is]using h,k,hk,rfl,fun i hi=>?_⟩
  have:=hb i hi
  rw[show l.getD i Ba=l[i]by simp[List.getD,show i<l.length by omega]]at this
  simpa[Item.is]using this
 unfold Ks
 rw[this]
 simp[List.getD,hk]
theorem Ajj{l:List Item}{s:ByteArray}(hb: ∀j,j<l.length->(l.getD j Ba).name≠s):Ks l s= .tuple #[.agg #[.string ⟨#[]⟩,.int .i64 0,.bool false],.bool false]:=by
 have:l.find? (Item.is s)=none:=by
  rw[List.find?_eq_none]
  intro x hx
  obtain⟨i,hi,rfl⟩:=List.getElem_of_mem hx
  have:=hb i hi
  rw[show l.getD i Ba=l[i]by simp[List.getD,hi]]at this
  simpa[Item.is]using this
 unfold Ks
 rw[this]
theorem Hs{w:World}{v:Value}{l:List Item}(h:ItB w v l)(hl:l.length<=1000)(s:ByteArray):
  Calls Tryz.prog 211 #[v,.string s] w fun e w'=>e= .returned (Ks l s)/\Below w.heap.size w w':=by
 have hrow:=RowT.at' h
 obtain⟨A,cap,rfl,hcap,hA⟩:=hrow
 obtain⟨n,hn⟩:=xx l.length
 have HF1:=lhi (fun k (hk:k<n)=>Ajk (l:=l) (s:=s) (k:=k) (by omega))
 have HF2:=lhi (fun(h: ∀j,j<n->(l.getD j Ba).name≠s)=>Ajj (l:=l) (s:=s) (fun j hj=>h j (by omega)))
 have HA:=lhi hA
 rw[hn]at hl hcap HA⊢
 obtain⟨p,hp⟩:=yy w.heap.size
 have HP:=lhi hp
 have HB:=lhi (show Below w.heap.size w (w.alloc (.cells #[.string ⟨#[]⟩,.int .i64 0,.bool false] 136))from(Amf _ _).alloc (Ama _) _)
 have HR:=lhi (show Blk (w.alloc (.cells #[.string ⟨#[]⟩,.int .i64 0,.bool false] 136)) p 136 #[.string ⟨#[]⟩,.int .i64 0,.bool false]by rw[hp];exact Blk.new _ _ _)
 clear hA h hn
 go_enter Tryz.func211,Tryz.ntmps211
 go_wp2_with (fail)
 rw[<-hp]at HB⊢
 generalize w.alloc (.cells #[.string ⟨#[]⟩,.int .i64 0,.bool false] 136)=w1 at*
 clear hp
 go_loopw [10] (fun i wr=>∃k:Nat,i= .int .i64 k/\k<=n/\Below p w wr/\Blk wr p 136 #[.string ⟨#[]⟩,.int .i64 0,.bool false]/\ ∀j,j<k->(l.getD j Ba).name≠s) (fun i _=>n - (intOf i).toNat)
 case atStart=>exact⟨0,rfl,by omega,HB.out,HR.out,fun j hj=>absurd hj (by omega)⟩
 case round=>
  obtain⟨k,rfl,hk,hb,hr,hlt⟩:=hrel
  have HL:=lhi hlt
  have HBR:=lhi hb
  have HRR:=lhi hr
  clear hlt
  by_cases hq:k<n
  ·obtain⟨g,off,rfl,hcell⟩:=HA.out (by omega)
   have hg:g<p:=by rw[HP.out];exact Amd _ _ (hcell k 0 hq (by omega))
   have q0:wr.cell? ⟨g,off+k*3,none⟩=some (.string (l.getD k Ba).name):=(hb.cell (p:=⟨g,off+k*3,none⟩) hg).trans (hcell k 0 hq (by omega))
   have q1:wr.cell? ⟨g,off+k*3+1,none⟩=some (.int .i64 (l.getD k Ba).num):=(hb.cell (p:=⟨g,off+k*3+1,none⟩) hg).trans (hcell k 1 hq (by omega))
   have q2:wr.cell? ⟨g,off+k*3+2,none⟩=some (.bool (l.getD k Ba).dir):=(hb.cell (p:=⟨g,off+k*3+2,none⟩) hg).trans (hcell k 2 hq (by omega))
   have hq1:(k:Int)<n:=by omega
   have hpw:p<=wr.heap.size:=by rw[HP.out];exact hb.size
   have hpw1:p<wr.heap.size:=hr.lt
   have r0:wr.cell? ⟨p,0,none⟩=some (.string ⟨#[]⟩):=hr.cell 0
   have r1:wr.cell? ⟨p,1,none⟩=some (.int .i64 0):=hr.cell 1
   have r2:wr.cell? ⟨p,2,none⟩=some (.bool false):=hr.cell 2
   have f0:=hr.frozen 0
   have f1:=hr.frozen 1
   have f2:=hr.frozen 2
   have HRA:=lhi (hr.alloc (.cells #[.string (l.getD k Ba).name,.int .i64 (l.getD k Ba).num,.bool (l.getD k Ba).dir] 136))
   have HBA:=lhi (hb.alloc hpw (.cells #[.string (l.getD k Ba).name,.int .i64 (l.getD k Ba).num,.bool (l.getD k Ba).dir] 136))
   have HV:=lhi (show itV (l.getD k Ba)= .agg #[.string (l.getD k Ba).name,.int .i64 (l.getD k Ba).num,.bool (l.getD k Ba).dir]from rfl)
   obtain⟨nm,hnm⟩: ∃x,(l.getD k Ba).name=x:=⟨_,rfl⟩
   obtain⟨nu,hnu⟩: ∃x,(l.getD k Ba).num=x:=⟨_,rfl⟩
   obtain⟨nd,hnd⟩: ∃x,(l.getD k Ba).dir=x:=⟨_,rfl⟩
   have HNM:=lhi hnm
   rw[hnm,hnu,hnd]at HRA HBA HV
   rw[hnm]at q0
   rw[hnu]at q1
   rw[hnd]at q2
   have HPW:=lhi hpw
   clear hcell hb hr hnm hnu hnd
   by_cases e:nm=s
   ·have HX:=lhi (HF1.out k hq (HNM.out.trans e) HL.out)
    have e2:(nm.toList==s.toList)=true:=by rw[e];simp
    clear e
    go_wp2_with (fail)
    have hfin:=(((HRR.out.set_ 0 (.string nm)).set_ 1 (.int .i64 nu)).set_ 2 (.bool nd)).alloc (.cells #[.string nm,.int .i64 nu,.bool nd] 136)
    have c0:=hfin.cell 0
    have c1:=hfin.cell 1
    have c2:=hfin.cell 2
    clear hfin r0 r1 r2 f0 f1 f2
    (try simp only[Exit.inBlock,Exit.then])
    refine bodyPost_ret (v:=.tuple #[.agg #[.string nm,.int .i64 nu,.bool nd],.bool true]) ?_ rfl ⟨?_,?_⟩
    ·simp[results,Tryz.results211,go_sem,c0,c1,c2]
    ·rw[HX.out,HV.out]
    ·rw[<-HP.out]
     exact(((HBR.out.setCell (p:=⟨p,0,none⟩) (Ama _) _).setCell (p:=⟨p,1,none⟩) (Ama _) _).setCell (p:=⟨p,2,none⟩) (Ama _) _).alloc (by simpa[World.setCell]using HPW.out) _
   ·have e2:(nm.toList==s.toList)=false:=by
     rw[beq_eq_false_iff_ne]
     exact fun h=>e (Xm h)
    have HX:=lhi (show∀j,j<k+1->(l.getD j Ba).name≠s from fun j hj=>by
     by_cases h:j=k
     ·subst h;rw[HNM.out];exact e
     ·exact HL.out j (by omega))
    clear e
    go_wp2_with (fail)
    go_roundw
    case rel=>exact⟨k+1,by go_num,by omega,HBA.out,HRA.out,HX.out⟩
    case measure=>
     simp only[intOf]
     omega
  ·have e:k=n:=by omega
   subst e
   have HX:=lhi (HF2.out HL.out)
   have r0:wr.cell? ⟨p,0,none⟩=some (.string ⟨#[]⟩):=hr.cell 0
   have r1:wr.cell? ⟨p,1,none⟩=some (.int .i64 0):=hr.cell 1
   have r2:wr.cell? ⟨p,2,none⟩=some (.bool false):=hr.cell 2
   have f0:=hr.frozen 0
   have f1:=hr.frozen 1
   have f2:=hr.frozen 2
   clear hr hb
   go_wp2_with (fail)
   obtain⟨c0,c1,c2⟩:=Jo HRR.out (.string ⟨#[]⟩) (.int .i64 0) (.bool false)
   (try simp only[Exit.inBlock,Exit.then])
   refine bodyPost_ret (v:=.tuple #[.agg #[.string ⟨#[]⟩,.int .i64 0,.bool false],.bool false]) ?_ rfl ⟨?_,?_⟩
   ·simp[results,Tryz.results211,go_sem,c0,c1,c2]
   ·rw[HX.out]
   ·rw[<-HP.out]
    exact((HBR.out.setCell (p:=⟨p,0,none⟩) (Ama _) _).setCell (p:=⟨p,1,none⟩) (Ama _) _).setCell (p:=⟨p,2,none⟩) (Ama _) _
theorem Aep:(Tryz.prog.info? 136).map (fun i=>(i.zero,i.size,i.bytes))=some (some (.agg #[.string ⟨#[]⟩,.int .i64 0,.bool false]),3,32):=by kernel_rfl
theorem Uy(x:Item):(Ib x).length=3:=rfl
theorem Aey(x:Item): ∀u∈Ib x,u.oneCell'=true:=by
 intro u hu
 simp[Ib]at hu
 rcases hu with rfl | rfl | rfl <;> rfl
theorem Gi{B:Nat}{w w':World}(h:Below B w w'):Below B w w'.drew:=⟨h.os,h.tape,h.output,h.size,h.block⟩
theorem Ic{w w':World}{B:Nat}{v:Value}(hg:w.grownBy w' v.ownBlock)(hv: ∀q,v.ownBlock=some q->B<=q)(hB:B<=w.heap.size):Below B w w':=
 ⟨hg.os,hg.tape,hg.output,hg.size,fun q hq=>hg.block q (by omega) (fun e=>by have:=hv q e.symm;omega)⟩
theorem Afn{w2:World}{B g cap:Nat}{l:List Item}{x:Item}{c:List Value}(h:w2.ownsRow B 136 3 (.slice (some ⟨g,0,none⟩) (l.length+1) cap) (l.length+1) (l.flatMap Ib++c))(hE:Ib x=c):ItB w2 (.slice (some ⟨g,0,none⟩) (l.length+1) cap) (l++[x]):=by
 have e1:(l++[x]).length=l.length+1:=by simp
 have e2:(l++[x]).flatMap Ib=l.flatMap Ib++c:=by simp[hE]
 rw[<-e2]at h
 have h2:w2.ownsRow B 136 3 (.slice (some ⟨g,0,none⟩) (l.length+1) cap) (l++[x]).length ((l++[x]).flatMap Ib):=by rw[e1];exact h
 exact(Cc (by decide) Uy h2 (Akk _)).base_le (Nat.zero_le _)
theorem Qr{w:World}{v:Value}{l:List Item}(h:ItB w v l)(hl:l.length<=1000)(x:Item):
  Calls Tryz.prog 63 #[v,.agg #[.string x.name,.int .i64 x.num,.bool x.dir]] w fun e w'=>(∃v',e= .returned v'/\ItB w' v' (l++[x])/\ ∀q,Es v' q->w.heap.size<=q)/\Below w.heap.size w w':=by
 obtain⟨i0,hi,hz0,hz1,hz2⟩:=info_parts Aep
 obtain⟨B,hB⟩:=yy w.heap.size
 obtain⟨w0,hw0⟩: ∃x',x'=w.alloc (.cells #[.string x.name,.int .i64 x.num,.bool x.dir] 136):=⟨_,rfl⟩
 have HB0:=lhi (show Below B w w0 by rw[hw0,hB];exact(Amf _ _).alloc (Ama _) _)
 have hsz:w0.heap.size=B+1:=by rw[hw0,hB];simp
 have HBX:=lhi (show Blk w0 B 136 #[.string x.name,.int .i64 x.num,.bool x.dir]by rw[hw0,hB];exact Blk.new _ _ _)
 have x0:w0.cell? ⟨B,0,none⟩=some (.string x.name):=HBX.out.cell 0
 have x1:w0.cell? ⟨B,1,none⟩=some (.int .i64 x.num):=HBX.out.cell 1
 have x2:w0.cell? ⟨B,2,none⟩=some (.bool x.dir):=HBX.out.cell 2
 have HI:=lhi (show Ak w0 v l.length 3 (itC l)from(RowT.at' h).keep (hB▸HB0.out))
 have HI2:=lhi (show Ak (w0.alloc (.cells #[.string x.name,.int .i64 x.num,.bool x.dir] 136)) v l.length 3 (itC l)from HI.out.keep (Br _ _))
 have HSZ:=lhi hsz
 have hbb:B<=w0.heap.size:=by omega
 have hblt:B<w0.heap.size:=by omega
 have HBB:=lhi hB
 clear h hsz
 obtain⟨nm,hnm⟩: ∃y,x.name=y:=⟨_,rfl⟩
 obtain⟨nu,hnu⟩: ∃y,x.num=y:=⟨_,rfl⟩
 obtain⟨nd,hnd⟩: ∃y,x.dir=y:=⟨_,rfl⟩
 have HE:=lhi (show Ib x=[.string nm,.int .i64 nu,.bool nd]by unfold Ib;rw[hnm,hnu,hnd])
 rw[hnm,hnu,hnd]at hw0 HBX HI2⊢
 rw[hnm]at x0
 rw[hnu]at x1
 rw[hnd]at x2
 clear hnm hnu hnd
 go_enter Tryz.func63,Tryz.ntmps63
 go_wp2_with (fail)
 rw[<-hB,<-hw0]
 clear hB hw0
 go_region_law ((first
  | (refine Af3 (enc:=Ib) (k:=3) _ (by rfl) (.const (.slice none 0 0)) (.tmp 5) 129 136 (by rfl) i0 _ 32 Tryz.underlying129 hi hz0 hz1 hz2 rfl (by decide) B (.slice none 0 0) [] (by rfl) (World.ownsRow_nil _ _ _ _) v (by rfl) l (by first | exact HI.out | exact HI2.out) (Akk l) Uy (fun x _=>Aey x) (by simp;omega) (by decide) (by first | exact hbb | (simp;omega)) ?_;intro A1 n1 cap1 w1 hn1 hown1 hgrow1;have hn1:n1=l.length:=hn1;subst hn1;have hown1:w1.ownsRow B 136 3 (.slice A1 l.length cap1) l.length (l.flatMap Ib):=hown1;have z0:w1.cell? ⟨B,0,none⟩=some (.string nm):=(hgrow1.cell_far ⟨B,0,none⟩ (by simp;omega) (by simp[Value.ownBlock])).trans (by first | exact x0 | exact(Amj _ _ _ hblt).trans x0);have z1:w1.cell? ⟨B,1,none⟩=some (.int .i64 nu):=(hgrow1.cell_far ⟨B,1,none⟩ (by simp;omega) (by simp[Value.ownBlock])).trans (by first | exact x1 | exact(Amj _ _ _ hblt).trans x1);have z2:w1.cell? ⟨B,2,none⟩=some (.bool nd):=(hgrow1.cell_far ⟨B,2,none⟩ (by simp;omega) (by simp[Value.ownBlock])).trans (by first | exact x2 | exact(Amj _ _ _ hblt).trans x2))
  | (refine step_append_lies _ (by rfl) (.tmp 6) (.tmp 8) 129 (by rfl) B 136 i0 _ 3 32 Tryz.underlying129 hi hz0 hz1 hz2 rfl (by decide) (.slice A1 l.length cap1) _ _ (by rfl) (hown1.alloc (.cells #[.string nm,.int .i64 nu,.bool nd] 136)) ⟨w1.heap.size,0,none⟩ 1 1 [.string nm,.int .i64 nu,.bool nd] (by rfl) (by rfl) (World.news_of_block (heap_alloc_new _ _)) (by intro u hu;simp at hu;rcases hu with rfl | rfl | rfl <;> rfl) (by decide) (by simp only[maxLen];omega) (by omega) (by have:=hgrow1.size;simp at this⊢;omega) _ rfl ?_;intro g cap w2 hown2 hgrow2 hat hlt)
  | (refine step_append_lies _ (by rfl) (.tmp 6) (.tmp 8) 129 (by rfl) B 136 i0 _ 3 32 Tryz.underlying129 hi hz0 hz1 hz2 rfl (by decide) (.slice A1 l.length cap1) _ _ (by rfl) hown1 ⟨w0.heap.size,0,none⟩ 1 1 [.string nm,.int .i64 nu,.bool nd] (by rfl) (by rfl) (World.news_of_block (show Blk w1 w0.heap.size 136 #[.string nm,.int .i64 nu,.bool nd]from Blk.of_heap (hgrow1.block _ (by simp) (by simp[Value.ownBlock])) (Blk.new w0 _ _))) (by intro u hu;simp at hu;rcases hu with rfl | rfl | rfl <;> rfl) (by decide) (by simp only[maxLen];omega) (by omega) (by have:=hgrow1.size;simp at this⊢;omega) _ rfl ?_;intro g cap w2 hown2 hgrow2 hat hlt)))
 all_goals
  have HV2:=lhi (Afn hown2 HE.out)
  have HV3:=lhi (show∀q,Es (.slice (some ⟨g,0,none⟩) (l.length+1) cap) q->B<=q from fun q hq=>by
   obtain⟨o,n,c,e⟩:=hq
   injection e with e
   injection e with e
   injection e with e
   exact e▸(hown2.lt g rfl).1)
  have hB1:Below B w w1:=by
   have h1:Below B w0 w1:=by
    first
    | exact(Gi (Amf _ _)).trans (Ic (v:=.slice none 0 0) hgrow1 (fun q hq=>by cases hq) hbb)
    | exact(Gi ((Amf _ _).alloc hbb (.cells #[.string nm,.int .i64 nu,.bool nd] 136))).trans (Ic (v:=.slice none 0 0) hgrow1 (fun q hq=>by cases hq) (by simp;omega))
   exact HB0.out.trans h1
  have hB2:Below B w w2:=by
   have hq: ∀q,(Value.slice A1 l.length cap1).ownBlock=some q->B<=q:=fun q hq=>(hown1.lt q hq).1
   have hs:=hB1.size
   have hs2:=HB0.out.size
   have hs3:=hgrow1.size
   first
   | exact hB1.trans (Ic hgrow2 hq (by simp at hs3;omega))
   | exact hB1.trans (((Amf _ _).alloc (by simp at hs3;omega) (.cells #[.string nm,.int .i64 nu,.bool nd] 136)).trans (Ic hgrow2 hq (by simp at hs3⊢;omega)))
  have HB2:=lhi hB2
  clear hB1 hB2 hgrow1 hgrow2 hown1 hown2 hat hlt z0 z1 z2 hn1
  go_wp2_with (fail)
  go_ret
  exact⟨⟨_,rfl,HV2.out,HBB.out▸HV3.out⟩,HBB.out▸HB2.out⟩
inductive Xd where
 | ok (l:List ByteArray)
 | err (e:Int)
def Jm(s:ByteArray):ByteArray:=s++⟨#[47]⟩
def Ay(s:ByteArray):Nat->Nat->Nat->List ByteArray->Xd
 | 0,_,_,out=>if 4<out.length then .err 1102 else .ok out
 | b+1,pos,from_,out=>
  if pos< (Jm s).size then
   if pos==0|| (Utf8.decode (Jm s) pos).1 != 47 then Ay s b (pos+ (Utf8.decode (Jm s) pos).2) from_ out
   else if Bu (s.extract from_ pos)=0 then Ay s b (pos+ (Utf8.decode (Jm s) pos).2) (pos+1) (out++[s.extract from_ pos])
   else if Bu (s.extract from_ pos)=801 then .err 1101 else .err 1100
  else if 4<out.length then .err 1102 else .ok out
def Au(s:ByteArray):Xd:=
 if 64<s.size then .err 1101
 else if s.size=0∨s.get! 0≠47 then .err 1100
 else if s.size=1 then .ok []
 else Ay s (s.size+1) 0 1 []
def Jh(e:Int):Int:=if e=0 then 0 else if e=1101 then 6 else if e=1102 then 6 else 9
theorem Ht(e:Int)(w:World):Calls Tryz.prog 44 #[.int .i64 e] w fun r w'=>r= .returned (.int .i64 (Jh e))/\w=w':=by
 by_cases h0:e=0
 ·subst h0
  go_enter Tryz.func44,Tryz.ntmps44
  go_wp2
  go_ret
  exact⟨rfl,rfl⟩
 ·have h0':(e==0)=false:=by rw[beq_eq_false_iff_ne];exact h0
  by_cases h1:e=1101
  ·subst h1
   go_enter Tryz.func44,Tryz.ntmps44
   go_wp2
   go_ret
   exact⟨rfl,rfl⟩
  ·have h1':(e==1101)=false:=by rw[beq_eq_false_iff_ne];exact h1
   by_cases h2:e=1102
   ·subst h2
    go_enter Tryz.func44,Tryz.ntmps44
    go_wp2
    go_ret
    exact⟨rfl,rfl⟩
   ·have h2':(e==1102)=false:=by rw[beq_eq_false_iff_ne];exact h2
    have HX:=lhi (show Jh e=9 by unfold Jh;rw[if_neg h0,if_neg h1,if_neg h2])
    clear h0 h1 h2
    go_enter Tryz.func44,Tryz.ntmps44
    go_wp2
    go_ret
    exact⟨by rw[HX.out];rfl,rfl⟩
def nmC(l:List ByteArray):Nat->Nat->Value:=fun i _=>.string (l.getD i ByteArray.empty)
def NmB(w:World)(v:Value)(l:List ByteArray):Prop:=RowT w 0 9 1 v l.length (nmC l)
def Alk(B:Nat)(w:World)(e:Ending):Xd->Prop
 | .ok l=>∃v,e= .returned (.tuple #[v,.int .i64 0])/\NmB w v l/\ ∀q,Es v q->B<=q
 | .err k=>e= .returned (.tuple #[.slice none 0 0,.int .i64 k])
theorem Ahe:(Tryz.prog.info? 9).map (fun i=>(i.zero,i.size,i.bytes))=some (some (.string ⟨#[]⟩),1,16):=by kernel_rfl
def encS(x:ByteArray):List Value:=[.string x]
theorem Xe(l:List ByteArray):CL encS l (nmC l) 1:=fun i j hi hj=>by
 have:j=0:=by omega
 subst this
 simp[encS,nmC,List.getD,hi]
theorem Xa{w w':World}{B:Nat}{v:Value}(hg:w.grownBy w' v.ownBlock)(hv: ∀q,v.ownBlock=some q->B<=q)(hB:B<=w.heap.size):Below B w w':=
 ⟨hg.os,hg.tape,hg.output,hg.size,fun q hq=>hg.block q (by omega) (fun e=>by have:=hv q e.symm;omega)⟩
theorem Ak1{w:World}{B:Nat}{v:Value}{l:List ByteArray}(h:w.ownsRow B 9 1 v l.length (l.flatMap encS)):NmB w v l:=(Cc (k:=1) (enc:=encS) (by decide) (fun _=>rfl) h (Xe l)).base_le (Nat.zero_le _)
theorem Gj(s:ByteArray)(hs:s.size<=4611686018427387904)(w:World):
  Calls Tryz.prog 43 #[.string s] w fun e w'=>Alk w.heap.size w' e (Au s)/\Below w.heap.size w w':=by
 by_cases h1:64<s.size
 ·have h2:(64:Int)< (s.size:Int):=by omega
  have H:=lhi (show Au s= .err 1101 by unfold Au;rw[if_pos h1])
  go_enter Tryz.func43,Tryz.ntmps43
  go_wp2_with (fail)
  go_ret2
  exact⟨by rw[H.out];rfl,Amf _ _⟩
 have h2: ¬ (64:Int)< (s.size:Int):=by omega
 by_cases h3:s.size=0
 ·have H:=lhi (show Au s= .err 1100 by unfold Au;rw[if_neg h1,if_pos (.inl h3)])
  have e1:s.toList.isEmpty=true:=by
   rw[ByteArray.toList_eq,Array.size_eq_zero_iff.1 (show s.data.size=0 from h3)]
   rfl
  have e2:s.toList=[]:=by simpa using e1
  clear h1 h3
  go_enter Tryz.func43,Tryz.ntmps43
  go_wp2_with (fail)
  go_ret2
  exact⟨by rw[H.out];rfl,Amf _ _⟩
 have e1:s.toList.isEmpty=false:=by
  rw[ByteArray.toList_eq]
  have h5:s.data.toList.length≠0:=by rw[Array.length_toList];exact h3
  cases hq:s.data.toList with
  | nil=>rw[hq]at h5;exact absurd rfl h5
  | cons a l=>rfl
 have e2:(!s.toList.isEmpty)=true:=by rw[e1];rfl
 have hlt0:0<s.size:=by omega
 have hlt0':(0:Int)< (s.size:Int):=by omega
 by_cases h4:s.get! 0=47
 ·have k1:(((s[0]'hlt0).toNat:Int)==47)=true:=by
   rw[Sk s 0 hlt0]at h4
   rw[h4];rfl
  by_cases h5:s.size=1
  ·have H:=lhi (show Au s= .ok []by unfold Au;rw[if_neg h1,if_neg (by rintro(h | h);exact h3 h;exact h h4),if_pos h5])
   have k2:((s.size:Int)==1)=true:=by rw[h5];rfl
   clear h1 h3 h4 h5
   go_enter Tryz.func43,Tryz.ntmps43
   go_wp2_with (fail)
   go_ret2
   exact⟨by rw[H.out];exact⟨_,rfl,RowT.nil_ _ _ _ _ _,fun q hq=>absurd hq Ads⟩,Amf _ _⟩
  ·have H:=lhi (show Au s=Ay s (s.size+1) 0 1 []by unfold Au;rw[if_neg h1,if_neg (by rintro(h | h);exact h3 h;exact h h4),if_neg h5])
   have k2:((s.size:Int)==1)=false:=by rw[beq_eq_false_iff_ne];omega
   have h64:s.size<=64:=by omega
   obtain⟨i0,hi,hz0,hz1,hz2⟩:=info_parts Ahe
   clear h1 h3 h4 h5
   go_enter Tryz.func43,Tryz.ntmps43
   go_wp2_with (fail)
   obtain⟨t,ht⟩:=xx (Jm s)
   have HT:=lhi ht
   have htz:t.size=s.size+1:=by
    rw[<-ht]
    unfold Jm
    rw[ByteArray.size_append];rfl
   have HTZ:=lhi htz
   unfold Jm at ht
   rw[ht]
   clear ht htz
   obtain⟨B,hB⟩:=yy w.heap.size
   have HB:=lhi hB
   have HIT:=lhi (show(w.iter t 0).heap[B]? =some (.stringIter t 0)by rw[hB];exact World.iter_heap w t 0)
   have HBE:=lhi (show Below B w (w.iter t 0)by rw[hB];exact Ey w t 0)
   rw[<-hB]
   clear hB
   generalize w.iter t 0=w1 at*
   go_loopw [4,5] (fun o f wr=>∃(pos b fr:Nat) (out:List ByteArray),f= .int .i64 fr/\wr.ownsRow B 9 1 o out.length (out.flatMap encS)/\wr.heap[B]? =some (.stringIter t pos)/\Below B w wr/\Ay s b pos fr out=Ay s (s.size+1) 0 1 []/\t.size<=pos+b/\ (fr<=pos∨(pos=0/\fr=1))/\out.length<=pos/\out.length<=65) (fun _ _ wr=>t.size - wr.iterPos B)
   case atStart=>exact⟨0,s.size+1,1,[],rfl,World.ownsRow_nil _ _ _ _,HIT.out,HBE.out,rfl,by rw[HTZ.out];omega,.inr ⟨rfl,rfl⟩,Ama _,Nat.zero_le _⟩
   case round=>
    obtain⟨pos,b,fr,out,rfl,hown,hit,hbe,hpe,hbb,hfr,hol,hol5⟩:=hrel
    have HO:=lhi hown
    have HI:=lhi hit
    have HBL:=lhi hbe
    have HPE:=lhi hpe
    have hzz:=HTZ.out
    by_cases hp:pos<t.size
    ·have hnx: ∀ty,(Instr.next (.pointer (some ⟨B,0,none⟩)) true ty).run Tryz.prog wr=_:=fun ty=>Lib.run_next_any_at wr B t pos ty hit hp
     obtain⟨b',rfl⟩: ∃b',b=b'+1:=⟨b - 1,by omega⟩
     have hwd:=Lib.decode_width_pos t pos hp
     have HU:=lhi (show Ay s (b'+1) pos fr out=if pos==0|| (Utf8.decode t pos).1 != 47 then Ay s b' (pos+ (Utf8.decode t pos).2) fr out
       else if Bu (s.extract fr pos)=0 then Ay s b' (pos+ (Utf8.decode t pos).2) (pos+1) (out++[s.extract fr pos])
       else if Bu (s.extract fr pos)=801 then .err 1101 else .err 1100 by
      rw[Ay,HT.out,if_pos hp])
     have HI1:=lhi (Lib.iterAt_heap wr B t pos (pos+ (Utf8.decode t pos).2) hit)
     have HB1:=lhi (Lib.below_iterAt hbe (Ama B) t (pos+ (Utf8.decode t pos).2))
     have HS1:=lhi (Lib.iterAt_size wr B t (pos+ (Utf8.decode t pos).2))
     have HO1:=lhi (show(wr.iterAt B t (pos+ (Utf8.decode t pos).2)).ownsRow B 9 1 _ out.length (out.flatMap encS)from by
      refine⟨hown.1,?_⟩
      rcases hown.2 with q | ⟨g,cap,cur,hv,hg,hh,rest⟩
      ·exact .inl q
      ·refine .inr ⟨g,cap,cur,hv,hg,?_,rest⟩
       rw[Lib.iterAt_other _ _ _ _ _ (fun e=>by subst e;rw[hit]at hh;cases hh)]
       exact hh)
     obtain⟨wd,hwdd⟩: ∃x,(Utf8.decode t pos).2=x:=⟨_,rfl⟩
     obtain⟨rn,hrn⟩: ∃x,(Utf8.decode t pos).1=x:=⟨_,rfl⟩
     rw[hwdd]at HI1 HB1 HS1 HO1 HU hwd
     rw[hrn]at HU
     rw[hwdd,hrn]at hnx
     clear hown hit hbe hpe hzz hwdd hrn
     by_cases hc0:pos=0
     ·have HN:=lhi (show Ay s b' (pos+wd) fr out=Ay s (s.size+1) 0 1 []by rw[<-HPE.out,HU.out,if_pos (by rw[hc0];rfl)])
      have HFF:=lhi (show fr<=pos+wd by omega)
      have HOL:=lhi (show out.length<=pos+wd/\out.length<=65 by omega)
      have HM:=lhi (show t.size - (pos+wd)<t.size - pos by omega)
      have HBB:=lhi (show t.size<=pos+wd+b' by omega)
      have k3:((pos:Int)==0)=true:=by rw[hc0];rfl
      clear hc0 hfr hol hol5 hbb HU HPE
      go_wp2_with (fail)
      go_roundw
      case rel=>exact⟨pos+wd,b',fr,out,rfl,HO1.out,HI1.out,HB1.out,HN.out,HBB.out,.inl HFF.out,HOL.out⟩
      case measure=>
       simp only[World.iterPos,HI1.out,HI.out]
       exact HM.out
     ·have k3:((pos:Int)==0)=false:=by rw[beq_eq_false_iff_ne];omega
      by_cases hc1:rn=47
      ·subst hc1
       have hfp:fr<=pos:=by omega
       have hps:pos<=s.size:=by have:=HTZ.out;omega
       have k4:(((47:Nat):Int) != 47)=false:=rfl
       have hfpI:(fr:Int)<= (pos:Int):=by omega
       have hpsI:(pos:Int)<= (s.size:Int):=by omega
       have HNN:=lhi (show Ay s (b'+1) pos fr out=if Bu (s.extract fr pos)=0 then Ay s b' (pos+wd) (pos+1) (out++[s.extract fr pos])else if Bu (s.extract fr pos)=801 then .err 1101 else .err 1100 by rw[HU.out,if_neg (by simp[hc0])])
       have HFF:=lhi (show pos+1<=pos+wd by omega)
       have HOL:=lhi (show out.length+1<=pos+wd/\out.length+1<=65 by have:=HTZ.out;omega)
       have HM:=lhi (show t.size - (pos+wd)<t.size - pos by omega)
       have HBB:=lhi (show t.size<=pos+wd+b' by omega)
       have hol2:out.length<=100:=by omega
       clear hc0 hfr hol hol5 hbb HU
       go_wp2_with (fail)
       refine(Pz _ _).mono ?_
       rintro e w2 ⟨rfl,hb2⟩
       obtain⟨nc,hnc⟩: ∃x,Bu (s.extract fr pos)=x:=⟨_,rfl⟩
       rw[hnc]at HNN
       rw[hnc]
       clear hnc
       have HI2:=lhi (show w2.heap[B]? =some (.stringIter t (pos+wd))from by
        rw[hb2.block B (Hy HI1.out)];exact HI1.out)
       have HB2:=lhi (HB1.out.trans (hb2.mono (Nat.le_of_lt (Hy HI1.out))))
       have HO2:=lhi (Bc HO1.out hb2)
       clear hb2
       by_cases hn0:nc=0
       ·subst hn0
        have HR:=lhi (show Ay s b' (pos+wd) (pos+1) (out++[s.extract fr pos])=Ay s (s.size+1) 0 1 []by rw[<-HPE.out,HNN.out,if_pos rfl])
        have hBl:B<w2.heap.size:=Hy HI2.out
        have HI3:=lhi (show(w2.alloc (.cells #[.string (s.extract fr pos)] 9)).heap[B]? =some (.stringIter t (pos+wd))from(Below.heap_alloc _ _ _ hBl).trans HI2.out)
        clear HNN HPE
        go_wp2_with (at_builtin;(refine wpList_append_lies _ rfl (.tmp 46) (.tmp 51) 39 rfl B 9 i0 _ 1 16 Tryz.underlying39 hi hz0 hz1 hz2 rfl (by decide) u4 _ _ rfl (HO2.out.alloc (Obj.cells #[.string (s.extract fr pos)] 9)) ⟨w2.heap.size,0,none⟩ 1 1 [.string (s.extract fr pos)] rfl rfl (World.news_of_block (heap_alloc_new _ _)) (by intro u hu;simp at hu;subst hu;rfl) (by decide) (by simp only[maxLen];omega) (by omega) (by simp;omega) _ rfl ?_);intro g cap w3 hown hgrow hat hlt)
        have hne:some B≠u4.ownBlock:=fun e=>by
         obtain⟨-,cs,hq⟩:=Ag (HO2.out.alloc (Obj.cells #[.string (s.extract fr pos)] 9)) e.symm
         unfold Blk at hq
         rw[HI3.out]at hq
         cases hq
        have HI4:=lhi ((hgrow.block B (by simp;omega) hne).trans HI3.out)
        have HB4:=lhi (show Below B w w3 from(HB2.out.alloc (Nat.le_of_lt hBl) _).trans (Xa hgrow (fun q hq=>(Ag HO2.out hq).1) (by simp;omega)))
        have HO4:=lhi (show w3.ownsRow B 9 1 (.slice (some ⟨g,0,none⟩) (out.length+1) cap) (out++[s.extract fr pos]).length ((out++[s.extract fr pos]).flatMap encS)from by
         rw[Ami,List.flatMap_append];exact hown)
        clear hown hgrow hat hlt hne
        go_wp2_with (fail)
        go_roundw
        case rel=>exact⟨pos+wd,b',pos+1,out++[s.extract fr pos],by go_num,HO4.out,HI4.out,HB4.out,HR.out,HBB.out,.inl HFF.out,by rw[Ami];exact HOL.out⟩
        case measure=>
         simp only[World.iterPos,HI4.out,HI.out]
         exact HM.out
       ·have k5:(nc==0)=false:=by rw[beq_eq_false_iff_ne];exact hn0
        by_cases hn1:nc=801
        ·subst hn1
         have HR:=lhi (show Au s= .err 1101 by rw[H.out,<-HPE.out,HNN.out,if_neg (by decide),if_pos rfl])
         clear hn0 HNN HPE k5
         go_wp2_with (fail)
         go_ret2
         exact⟨by rw[HR.out];rfl,by rw[<-HB.out];exact HB2.out⟩
        ·have k6:(nc==801)=false:=by rw[beq_eq_false_iff_ne];exact hn1
         have HR:=lhi (show Au s= .err 1100 by rw[H.out,<-HPE.out,HNN.out,if_neg hn0,if_neg hn1])
         clear hn0 hn1 HNN HPE
         go_wp2_with (fail)
         go_ret2
         exact⟨by rw[HR.out];rfl,by rw[<-HB.out];exact HB2.out⟩
      ·have HN:=lhi (show Ay s b' (pos+wd) fr out=Ay s (s.size+1) 0 1 []by rw[<-HPE.out,HU.out,if_pos (by simp[hc1])])
       have HFF:=lhi (show fr<=pos+wd by omega)
       have HOL:=lhi (show out.length<=pos+wd/\out.length<=65 by omega)
       have HM:=lhi (show t.size - (pos+wd)<t.size - pos by omega)
       have HBB:=lhi (show t.size<=pos+wd+b' by omega)
       have k4:((rn:Int) != 47)=true:=by rw[bne_iff_ne];omega
       clear hc0 hfr hol hol5 hbb HU HPE hc1
       go_wp2_with (fail)
       go_roundw
       case rel=>exact⟨pos+wd,b',fr,out,rfl,HO1.out,HI1.out,HB1.out,HN.out,HBB.out,.inl HFF.out,HOL.out⟩
       case measure=>
        simp only[World.iterPos,HI1.out,HI.out]
        exact HM.out
    ·have hnx: ∀ty,(Instr.next (.pointer (some ⟨B,0,none⟩)) true ty).run Tryz.prog wr=_:=fun ty=>Lib.run_next_end_at wr B t pos ty hit hp
     have HE:=lhi (show Au s=if 4<out.length then .err 1102 else .ok out by
      rw[H.out,<-HPE.out]
      cases b with
      | zero=>rfl
      | succ b=>rw[Ay,HT.out,if_neg hp])
     have hform: ∃A cap,u4= .slice A out.length cap:=by
      rcases hown.2 with⟨e,h0⟩ | ⟨g,cap,cur,e,_⟩
      ·exact⟨none,0,by rw[e,h0]⟩
      ·exact⟨_,_,e⟩
     obtain⟨A,cap,rfl⟩:=hform
     obtain⟨n,hn⟩:=xx out.length
     have HN:=lhi hn
     rw[hn]at HO⊢
     have hn2:n<=100000:=by omega
     clear hown hit hbe hpe hbb hfr hol hol5 hzz hn
     by_cases h5:4<n
     ·have h5':(4:Int)< (n:Int):=by omega
      have HR:=lhi (show Au s= .err 1102 by rw[HE.out,HN.out,if_pos h5])
      clear HE
      go_wp2_with (fail)
      go_ret2
      exact⟨by rw[HR.out];rfl,by rw[<-HB.out];exact HBL.out⟩
     ·have h5': ¬ (4:Int)< (n:Int):=by omega
      have HR:=lhi (show Au s= .ok out by rw[HE.out,HN.out,if_neg h5])
      clear HE
      go_wp2_with (fail)
      go_ret2
      exact⟨by rw[HR.out];exact⟨_,rfl,by have:=HO.out;rw[<-HN.out]at this⊢;exact Ak1 this,fun q hq=>by
       have hq2:Es (.slice A n cap) q:=hq
       obtain⟨o',n',c',e⟩:=hq2
       have:=HO.out
       rw[e]at this
       rw[<-HB.out]
       exact(this.lt q rfl).1⟩,by rw[<-HB.out];exact HBL.out⟩
 ·have H:=lhi (show Au s= .err 1100 by unfold Au;rw[if_neg h1,if_pos (.inr h4)])
  have k1:(((s[0]'hlt0).toNat:Int)==47)=false:=by
   rw[Sk s 0 hlt0]at h4
   rw[beq_eq_false_iff_ne]
   intro h
   exact h4 (UInt8.toNat_inj.1 (by show _=47;omega))
  clear h1 h3
  go_enter Tryz.func43,Tryz.ntmps43
  go_wp2_with (fail)
  go_ret2
  exact⟨by rw[H.out];rfl,Amf _ _⟩
def Ss(c:Int):Value:=.iface 195 (.agg #[.int .i64 c])
abbrev Ki (c:Int):Ending:=.panicked [{v:=Ss c,recovered:=false}]
theorem Ec(c:Int)(w:World):Calls Tryz.prog 199 #[.bool false,.int .i64 c] w fun e w'=>e= .returned (.tuple #[])/\w=w':=by
 go_enter Tryz.func199,Tryz.ntmps199
 go_wp2
 go_end0
 exact⟨rfl,rfl⟩
theorem Em(c:Int)(w:World):Calls Tryz.prog 199 #[.bool true,.int .i64 c] w fun e w'=>e=Ki c/\w=w':=by
 go_enter Tryz.func199,Tryz.ntmps199
 go_wp2
 exact⟨rfl,rfl,rfl⟩
theorem Yq{s:ByteArray}(hs:s.size<=4611686018427387904)(w:World){l:List ByteArray}(h:Au s= .ok l):Calls Tryz.prog 201 #[.string s] w fun e w'=>(∃v,e= .returned v/\NmB w' v l/\ ∀q,Es v q->w.heap.size<=q)/\Below w.heap.size w w':=by
 have HP:=lhi (Gj s hs w)
 rw[h]at HP
 clear hs
 go_enter Tryz.func201,Tryz.ntmps201
 go_wp2_with (first
  | (go_at_call 43;refine HP.out.mono ?_;rintro e w1 ⟨⟨v,rfl,hv,hvq⟩,hb⟩;have HVQ:=lhi hvq;clear hvq;have HV:=lhi hv;have HB:=lhi hb;clear hv hb)
  | (go_at_call 44;refine(Ht 0 _).mono ?_;rintro e w' ⟨rfl,rfl⟩)
  | (go_at_call 199;refine(Ec _ _).mono ?_;rintro e w' ⟨rfl,rfl⟩))
 go_ret
 exact⟨⟨_,rfl,HV.out,HVQ.out⟩,HB.out⟩
theorem Aef{s:ByteArray}(hs:s.size<=4611686018427387904)(w:World){k:Int}(h:Au s= .err k)(hk:k≠0):Calls Tryz.prog 201 #[.string s] w fun e w'=>e=Ki (Jh k)/\Below w.heap.size w w':=by
 have HP:=lhi (Gj s hs w)
 rw[h]at HP
 have hk1:(k != 0)=true:=by rw[bne_iff_ne];exact hk
 have HC:=lhi (Ht k)
 clear hs hk
 go_enter Tryz.func201,Tryz.ntmps201
 go_wp2_with (first
  | (go_at_call 43;refine HP.out.mono ?_;rintro e w1 ⟨hv,hb⟩;have hv:e= .returned (.tuple #[.slice none 0 0,.int .i64 k]):=hv;subst hv;have HB:=lhi hb;clear hb)
  | (go_at_call 44;refine(HC.out _).mono ?_;rintro e w' ⟨rfl,rfl⟩)
  | (go_at_call 199;refine(Em _ _).mono ?_;rintro e w' ⟨rfl,rfl⟩))
 exact⟨rfl,rfl,HB.out⟩
end Go.Proofs.YtkebjgebkneijaaGreat
