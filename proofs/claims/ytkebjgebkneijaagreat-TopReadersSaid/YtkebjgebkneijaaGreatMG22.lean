/- Texts of one's own that a claim's last text rests on: Lk12 Lk13 Lk14 Lk15 ArP Lk16 ClnT Lk17. -/
import Derived.Test.YtkebjgebkneijaaGreatMG21
import Derived.Test.YtkebjgebkneijaaGreatMG11
import Derived.Test.YtkebjgebkneijaaGreatMG8
import Derived.Test.YtkebjgebkneijaaGreatMG6
import Derived.Test.YtkebjgebkneijaaGreatMG1
import Derived.Deep.RegionHeld3
import Derived.Test.YtkebjgebkneijaaGreatMG18
import Derived.Test.YtkebjgebkneijaaGreatMG4
set_option linter.unusedVariables false
set_option linter.unusedSimpArgs false
namespace Go.Proofs.YtkebjgebkneijaaGreat
open Go.RowKit
set_option maxHeartbeats 16000000
set_option maxRecDepth 1000000
def Adl(L:Nat->Prop)(w:World)(s:Nat)(M:Mem)(c:Int):Oc->Ending->World->Prop
 | .ret num dir data ns,e,w'=>∃na nc,e= .returned (.tuple #[.agg (resO num dir data na ns.length nc).cs,.nilIface])/\Rf L w s M c 300 [] [nRow na nc ns] w'
 | .bad k,e,w'=>e= .returned (.tuple #[.agg (Fl k).toArray,.nilIface])/\Rf L w s M c 300 [] [] w'
 | .wait b k half more both,e,w'=>∃A cap,e= .returned (.tuple #[.agg Aq.cs,Ff b (.slice A k cap) half more both])/\Rf L w s M c 300 [] [zRow (.slice A k cap) k] w'
 | .again b A k cap half more,e,w'=>e= .returned (.tuple #[.agg Aq.cs,Ff b (.slice A k cap) half more true])/\Rf L w s M c 300 [] [] w'
section
variable{L:Nat->Prop}{w W:World}{s sp:Nat}{M:Mem}{c:Int}{cv:Ad}{Bs:List LB}{o:Oc}
theorem RunO.retOf(h:RunO L w s M c cv sp Bs o (.returned (.tuple #[])) W): ∃num dir data ns na nc,o= .ret num dir data ns/\Rf L w s M c 300 (⟨sp,193,Bi s c cv (resO num dir data na ns.length nc)⟩::Bs) [nRow na nc ns] W:=by
 cases o with
 | ret num dir data ns=>
  obtain⟨-,na,nc,h⟩:=h
  exact⟨num,dir,data,ns,na,nc,rfl,h⟩
 | bad=>cases h.1
 | wait=>
  obtain⟨A,cap,h,-⟩:=h
  cases h
 | again=>cases h.1
theorem RunO.panOf{ch:List PanicEntry}(h:RunO L w s M c cv sp Bs o (.panicked ch) W):(∃k r,o= .bad k/\ch=[{v:=Ss k,recovered:=false}]/\Rf L w s M c 300 (⟨sp,193,Bi s c cv r⟩::Bs) [] W)∨
  ∃y Rs,ch=[{v:=.iface 198 (.agg #[.iface 239 y]),recovered:=false}]/\Rf L w s M c 300 (⟨sp,193,Bi s c cv Aq⟩::Bs) Rs W/\ ∀e' w',e'= .returned (.tuple #[.agg Aq.cs,.iface 239 y])->Rf L w s M c 300 [] Rs w'->Adl L w s M c o e' w':=by
 cases o with
 | ret=>cases h.1
 | bad k=>
  obtain⟨h,r,h2⟩:=h
  injection h with h
  exact .inl ⟨k,r,rfl,h,h2⟩
 | wait=>
  obtain⟨A,cap,h,h2⟩:=h
  injection h with h
  exact .inr ⟨_,_,h,h2,fun e' w' he hr=>⟨A,cap,he,hr⟩⟩
 | again=>
  obtain⟨h,h2⟩:=h
  injection h with h
  exact .inr ⟨_,_,h,h2,fun e' w' he hr=>⟨he,hr⟩⟩
end
def Hh(n:Nat)(c:Ad):List LB:=[⟨n+2,20,#[.nilIface]⟩,⟨n+1,41,Aq.cs⟩,⟨n,24,c.cs⟩]
theorem Xp{L:Nat->Prop}{w:World}{s:Nat}{M:Mem}(h:Ab L w s M){c:Int}(hok:Ok M c){fb:Nat}(hf:w.cell? ⟨fb,0,none⟩=some (.pointer (some ⟨s,0,none⟩))){cv:Ad}{at_:Value}{P:Oc->Prop}
  (hrun: ∀W,Rf L w s M c 0 (⟨w.heap.size+3,193,Bi s c cv Aq⟩::Hh w.heap.size cv) [] W->Calls Tryz.prog 114 #[.pointer (some ⟨w.heap.size+3,0,none⟩),at_] W fun e w'=>∃o,P o/\RunO L w s M c cv (w.heap.size+3) (Hh w.heap.size cv) o e w'):
  Calls Tryz.prog 71 #[.pointer (some ⟨fb,0,none⟩),.int .i64 c,.agg cv.cs,at_] w fun e w'=>∃o,P o/\Adl L w s M c o e w':=by
 have hmf: ∀(fn:Fn) (first cap:Array Value) (w:World),(Instr.makeFunc fn first cap).run Tryz.prog w= .ok (.func fn first cap) w:=fun _ _ _ _=>rfl
 have hl:=h.bd
 have HF:=lhi hf
 have HL:=lhi hl
 have HR:=lhi hrun
 have H0:=lhi (show Rf L w s M c 0 [] [] w from⟨hok,by decide,M,Seen.refl c 0 M,Wk.start h⟩)
 clear h hrun hok hf hl
 simp only[Ad.cs]
 go_enter_defers Tryz.func71,Tryz.ntmps71
 go_upto_region 1 with(fail)
 refine letW (fun w3 hw3=>?_)
 have h3:=H0.out.map (W':=w3) fun _ h=>hw3▸((h.alloc HL.out cv.cs 24).alloc HL.out Aq.cs 41).alloc HL.out #[.nilIface] 20
 simp only[World.size_alloc]at h3
 have qf:w3.cell? ⟨fb,0,none⟩=some (.pointer (some ⟨s,0,none⟩)):=by
  have hb:=(((Amf w.heap.size w).alloc (Ama _) (.cells cv.cs 24)).alloc (by simp) (.cells Aq.cs 41)).alloc (by simp;omega) (.cells #[.nilIface] 20)
  have:=(hb.cell (Amd _ _ HF.out)).trans HF.out
  rw[hw3]
  exact this
 have hsz:w3.heap.size=w.heap.size+3:=by rw[hw3];simp
 obtain⟨n,hn⟩:=xx w.heap.size
 rw[hn]at h3 HR hsz⊢
 obtain⟨q0,q1,q2,q3,q4,q5,q6,q7⟩:=Blk.d8 (h3.bk (g:=n) (t:=24) (cs:=cv.cs) (by simp))
 have H3:=lhi (show Rf L w s M c 0 (Hh n cv) [] w3 from h3)
 clear h3 hw3 hn H0
 go_region
 have h4:=H3.out.map (W':=(w3.alloc (.cells (Bi s c cv Aq) 193)).drew) fun _ h=>(h.allocAt HL.out (Bi s c cv Aq) 193 hsz.symm).drew
 have HX:=lhi (HR.out _ h4)
 clear h4 qf q0 q1 q2 q3 q4 q5 q6 q7
 go_wp2_with (go_at_call 114;refine HX.out.mono ?_;rintro e w1 ⟨o,ho,hr⟩;rcases hr.ends with rfl | ⟨ch,rfl⟩;(obtain⟨num,dir,data,ns,na,nc,rfl,hrf⟩:=hr.retOf;have HRF:=lhi hrf;have B3:=hrf.bk (Amb ..);have z10:=B3.cell 10;have z11:=B3.cell 11;have z12:=B3.cell 12;have z13:=B3.cell 13;have z14:=B3.cell 14;have z15:=B3.cell 15;obtain⟨c0,c1,c2,c3,c4,c5⟩:=Blk.d6 (hrf.bk (g:=n+1) (t:=41) (cs:=Aq.cs) (by simp[Hh]));obtain⟨f0,f1,f2,f3,f4,f5⟩:=Blk.f6 (hrf.bk (g:=n+1) (t:=41) (cs:=Aq.cs) (by simp[Hh]));have B2:=hrf.bk (g:=n+2) (t:=20) (cs:=#[.nilIface]) (by simp[Hh]);have g0:=B2.cell 0;have e0:=B2.frozen 0;have hlt:=(hrf.bk (g:=n+1) (t:=41) (cs:=Aq.cs) (by simp[Hh])).lt;simp[Bi,resO]at z10 z11 z12 z13 z14 z15;simp at g0;clear B3 B2 hrf hr))
 ·have hf2:=HRF.out.map fun _ h=>(Wk.setAll HL.out [.int .i64 0,.int .i64 0,.int .i64 num,.bool dir,.string data,.slice na ns.length nc] 0 _ _ h.drop0.swap).swap.set0 HL.out 0 .nilIface
  refine leaves_cons (f:=113) (args:=#[.pointer (some ⟨n+1,0,none⟩),.pointer (some ⟨n+1+1,0,none⟩)]) (by simp) (by simp[go_sem]) ?_
  refine(Te _ _ _).mono ?_
  rintro e u' w'' ⟨rfl,rfl,hw⟩
  replace hf2:Rf L w s M c 300 (⟨n+2,20,#[.nilIface]⟩::⟨n+1,41,(resO num dir data na ns.length nc).cs⟩::[⟨n,24,cv.cs⟩]) [nRow na nc ns] w'':=hw▸hf2
  obtain⟨c0,c1,c2,c3,c4,c5⟩:=Blk.d6 (hf2.bk (g:=n+1) (t:=41) (cs:=(resO num dir data na ns.length nc).cs) (by simp))
  have g0:w''.cell? ⟨n+1+1,0,none⟩=some .nilIface:=(hf2.bk (Amb ..)).cell 0
  refine⟨_,?_,_,ho,na,nc,rfl,hf2.map fun _ h=>h.sub (List.nil_sublist _)⟩
  simp[results,Tryz.results71,go_sem,c0,c1,c2,c3,c4,c5,g0,ResV.cs]
 ·rcases hr.panOf with⟨k,r,rfl,rfl,hrf⟩ | ⟨y,Rs,rfl,hrf,hpost⟩
  ·have B1:=hrf.bk (g:=n+1) (t:=41) (cs:=Aq.cs) (by simp[Hh])
   have B2:=hrf.bk (g:=n+2) (t:=20) (cs:=#[.nilIface]) (by simp[Hh])
   have hf2:=hrf.map fun _ h=>(((Wk.setAll HL.out (Fl k) 0 _ _ h.drop0.swap).swap.set0 HL.out 0 .nilIface).alloc HL.out #[.int .i64 k] 195).drop0
   refine leaves_cons (f:=113) (args:=#[.pointer (some ⟨n+1,0,none⟩),.pointer (some ⟨n+1+1,0,none⟩)]) (by simp) (by simp[go_sem]) ?_
   refine(Aal (c:=k) (by omega) rfl B1 B2 []).mono ?_
   rintro e u' w'' ⟨rfl,rfl,hw⟩
   replace hf2:Rf L w s M c 300 (⟨n+2,20,#[.nilIface]⟩::⟨n+1,41,(Fl k).toArray⟩::[⟨n,24,cv.cs⟩]) [] w'':=hw▸hf2
   obtain⟨c0,c1,c2,c3,c4,c5⟩:=Blk.d6 (hf2.bk (g:=n+1) (t:=41) (cs:=(Fl k).toArray) (by simp))
   have g0:w''.cell? ⟨n+1+1,0,none⟩=some .nilIface:=(hf2.bk (Amb ..)).cell 0
   clear hw B1 B2 hr hrf
   refine⟨_,?_,_,ho,rfl,hf2.map fun _ h=>h.sub (List.nil_sublist _)⟩
   simp[results,Tryz.results71,go_sem,Fl,c0,c1,c2,c3,c4,c5,g0]
  ·have B1:=hrf.bk (g:=n+1) (t:=41) (cs:=Aq.cs) (by simp[Hh])
   have B2:=hrf.bk (g:=n+2) (t:=20) (cs:=#[.nilIface]) (by simp[Hh])
   have hf2:=hrf.map fun _ h=>((Wk.setAll HL.out (Fl 0) 0 _ _ (((h.alloc HL.out #[.int .i64 0] 195).alloc HL.out #[.iface 239 y] 198).drop0.drop0.drop0.swap)).swap.set0 HL.out 0 (.iface 239 y)).drew
   refine leaves_cons (f:=113) (args:=#[.pointer (some ⟨n+1,0,none⟩),.pointer (some ⟨n+1+1,0,none⟩)]) (by simp) (by simp[go_sem]) ?_
   refine(Acb (t:=239) (y:=y) (by omega) B1 B2 []).mono ?_
   rintro e u' w'' ⟨rfl,rfl,hw⟩
   replace hf2:Rf L w s M c 300 (⟨n+2,20,#[.iface 239 y]⟩::⟨n+1,41,Aq.cs⟩::[⟨n,24,cv.cs⟩]) Rs w'':=hw▸hf2
   obtain⟨c0,c1,c2,c3,c4,c5⟩:=Blk.d6 (hf2.bk (g:=n+1) (t:=41) (cs:=Aq.cs) (by simp))
   have g0:w''.cell? ⟨n+1+1,0,none⟩=some (.iface 239 y):=(hf2.bk (Amb ..)).cell 0
   clear hw B1 B2 hr hrf
   refine⟨_,?_,_,ho,hpost _ _ rfl (hf2.map fun _ h=>h.sub (List.nil_sublist _))⟩
   simp[results,Tryz.results71,go_sem,Aq,c0,c1,c2,c3,c4,c5,g0,ResV.cs]
theorem Ain(v:Value)(W:World):(Instr.typeAssert (.iface 239 v) 20 239 true).run Tryz.prog W= .ok (.tuple #[v,.bool true]) W:=by kernel_rfl
theorem Alu{L:Nat->Prop}{w W:World}{s sp:Nat}{M:Mem}{c:Int}{cv:Ad}{Bs:List LB}(h:Rf L w s M c 0 (⟨sp,193,Bi s c cv Aq⟩::Bs) [] W)(hl:Bd L w){num:Int}(hfd:0<=cv.fd/\cv.fd<4)(hnum:fdN M c cv.fd=num)(hF:Fs M num)
  {o k f cu u:Nat} (ho:cv.off=o) (hk:cv.num=k) (ho2:o<=256) (hk2:k<=256) (hsp:Fo o k (M.bas num).2.1.size=(f,cu,u)) (hu:u≠0) {A:Option Addr} {kk cap:Nat} (hkk:wN f (cu - f)=kk) (hZ: ∀W,Kp L w W->Ak W (.slice A kk cap) kk 1 zC) {half more:ByteArray} {both:Bool} (hb:both=true->half.size+more.size=16* (u - f)):
  Calls Tryz.prog 114 #[.pointer (some ⟨sp,0,none⟩),Ff (M.bas num) (.slice A kk cap) half more both] W fun e w'=>∃o',o'=Nm (M.bas num) o k f cu u A kk cap half more both/\RunO L w s M c cv sp Bs o' e w':=by
 have h1:=Ain (.agg #[.int .i64 (M.bas num).1,.string (M.bas num).2.1,.bool (M.bas num).2.2,.slice A kk cap,.string half,.string more,.bool both])
 have H0:=lhi h
 have HL:=lhi hl
 have HX:=lhi (fun W' (h':Rf L w s M c 0 (⟨sp,193,Bi s c cv Aq⟩::Bs) [] W')=>Ak4 h' hl (by decide) hfd hnum hF ho hk ho2 hk2 hsp hu hkk hZ hb)
 obtain⟨RES,hR⟩: ∃x,Nm (M.bas num) o k f cu u A kk cap half more both=x:=⟨_,rfl⟩
 rw[hR]at HX⊢
 clear h hl hfd hnum hF ho hk hsp hu hkk hZ hb hR
 obtain⟨b,hb⟩:=xx (M.bas num)
 rw[hb]at h1 HX⊢
 obtain⟨bn,bd,bh⟩:=b
 dsimp only[Ff]at h1 HX⊢
 clear hb
 go_enter Tryz.func114,Tryz.ntmps114
 go_upto_region 2 with(fail)
 refine letW (fun w2 hw2=>?_)
 obtain⟨hq,hbl⟩:=Du hw2
 have HX2:=lhi (HX.out _ (H0.out.map (W':=w2) fun _ h=>h.below hbl HL.out))
 obtain⟨q,hqq⟩:=xx W.heap.size
 rw[hqq]at hq⊢
 have x0:w2.cell? ⟨q,0,none⟩=some (.int .i64 bn):=hq.cell 0
 have x1:w2.cell? ⟨q,1,none⟩=some (.string bd):=hq.cell 1
 have x2:w2.cell? ⟨q,2,none⟩=some (.bool bh):=hq.cell 2
 have x3:w2.cell? ⟨q,3,none⟩=some (.slice A kk cap):=hq.cell 3
 have x4:w2.cell? ⟨q,4,none⟩=some (.string half):=hq.cell 4
 have x5:w2.cell? ⟨q,5,none⟩=some (.string more):=hq.cell 5
 have x6:w2.cell? ⟨q,6,none⟩=some (.bool both):=hq.cell 6
 clear hw2 hq hbl hqq h1 HX
 go_wp2_with (go_at_call 158;refine HX2.out.mono ?_;rintro e w' ho;rcases ho.ends with rfl | ⟨ch,rfl⟩)
 ·exact bodyPost_ret (results_none rfl _ _ _) rfl ⟨_,rfl,ho⟩
 ·exact⟨rfl,_,rfl,ho⟩
def By(L G:Nat->Prop)(b:Nat):Prop:=L b∨G b
structure Gd (m:Nat) (M M':Mem) (k:Nat):Prop where
 ok:M'.ok m
 tl:M'.ts.length=M.ts.length
 le:(tr M.ts k).length<= (tr M'.ts k).length
 wd: ∀y∈tr M'.ts k,0<=y.1/\y.1<=1000000
def isAt(v:Value):Prop:=v= .nilIface∨ ∃ty y,v= .iface ty y
def Qc(L:Nat->Prop)(w:World)(fb s:Nat)(M:Mem)(m k:Nat)(c:Ad)(x:Value)(Z:ResV->Value->Mem->(Nat->Prop)->World->Prop):Prop:=
 ∀(K:Nat->Prop) (W:World),Below w.heap.size w W->(∀b,L b->K b)->Ab K W s M->W.cell? ⟨fb,0,none⟩=some (.pointer (some ⟨s,0,none⟩))->
  Calls Tryz.prog 71 #[.pointer (some ⟨fb,0,none⟩),.int .i64 k,.agg c.cs,x] W fun e w'=>∃r nx M' G,e= .returned (.tuple #[.agg r.cs,nx])/\isAt nx/\Gd m M M' k/\Z r nx M' G w'/\ (∀b,G b->W.heap.size<=b)/\Ab (By K G) w' s M'/\Kp K W w'
theorem FsAt.backG{L G:Nat->Prop}{w w':World}{fb s pb:Nat}{M M':Mem}{ps:List PV}(h:FsAt L w fb s pb M ps)(hm:Ab (By (fun b=>L b∨b=fb∨b=pb) G) w' s M')(hk:Kp (fun b=>L b∨b=fb∨b=pb) w w')(hG: ∀b,G b->w.heap.size<=b)(hl:M'.ts.length=M.ts.length):FsAt (By L G) w' fb s pb M' ps/\Kp L w w':=
 ⟨⟨hm.sub fun b hb=>by
  rcases hb with(hb | hb) | hb
  ·exact .inl (.inl hb)
  ·exact .inr hb
  ·exact .inl (.inr hb),hk.blk (FsR.f h) (.inr (.inl rfl)),⟨hk.blk (FsR.p h).1 (.inr (.inr rfl)),(FsR.p h).2⟩,fun q=>q.elim (FsR.nf h) fun q=>absurd (FsR.f h).lt (Nat.not_lt.2 (hG _ q)),fun q=>q.elim (FsR.np h) fun q=>absurd (FsR.p h).1.lt (Nat.not_lt.2 (hG _ q)),(FsR.tl h).trans hl.symm⟩,hk.sub fun _ hb=>.inl hb⟩
theorem Wb{L:Nat->Prop}{g:Nat}{t:TypeId}(hn: ¬ L g)(ht: ¬ Dg t): ∀(us:List Value) (i:Nat) {W:World} {cs:Array Value},Blk W g t cs->Kp L W (W.setCells g i us)
 | [],_,W,_,_=>Kp.refl L W
 | u::us,i,W,_,hb=>(⟨(Az.refl L W).setCell (p:=⟨g,i,none⟩) hn u,KI.set hb ht i u⟩:Kp L W (W.setCell ⟨g,i,none⟩ u)).trans (Wb hn ht us (i+1) (hb.set_ i u))
theorem FsAt.owns{L:Nat->Prop}{fb s pb:Nat}{M:Mem}{ps:List PV}{g:Nat}{t:TypeId}(hl:L g): ∀(us:List Value) (i:Nat) {cs:Array Value} {W:World},FsAt L W fb s pb M ps->Blk W g t cs->FsAt L (W.setCells g i us) fb s pb M ps/\Blk (W.setCells g i us) g t (Ux cs i us)
 | [],_,_,_,h,hb=>⟨h,hb⟩
 | u::us,i,_,_,h,hb=>FsAt.owns hl us (i+1) (h.own1 hb hl i u) (hb.set_ i u)
structure FsN (L:Nat->Prop) (w:World) (fb s pb:Nat) (M:Mem) (ps:List PV) (mb n g:Nat) (xs:List Acc) (W:World):Prop where
 f:FsAt (ins L mb) W fb s pb M ps
 k:Kp L w W
 mp: ∃f,MapB W mb n f
 nm:w.heap.size<=mb
 hc: ∀(j:Nat) (u:Value),(Bq xs)[j]? =some u->W.cell? ⟨g,j,none⟩=some u
namespace FsN
variable{L:Nat->Prop}{w W W':World}{fb s pb:Nat}{M:Mem}{ps:List PV}{mb n g:Nat}{xs:List Acc}
theorem alloc(h:FsN L w fb s pb M ps mb n g xs W)(hl:Bd L w)(o:Obj):FsN L w fb s pb M ps mb n g xs (W.alloc o):=by
 obtain⟨f,hf⟩:=h.mp
 refine⟨h.f.alloc o,h.k.trans (Kp.below (h.k.bd hl) ((Amf _ _).alloc (Ama _) _)),⟨f,hf.alloc o⟩,h.nm,fun j u hu=>?_⟩
 have hc:=h.hc j u hu
 rw[Amj _ _ _ (Amd W _ hc)]
 exact hc
theorem turn(h:FsN L w fb s pb M ps mb n g xs W)(hl:Bd L w){n':Nat}{f:Int->Bool}(hm:MapB W' mb n' f)(hg:W.grownBy W' (some mb)):FsN L w fb s pb M ps mb n' g xs W':=by
 obtain⟨f0,hf0⟩:=h.mp
 obtain⟨es,cl,hob⟩:=hf0.obj
 have hne: ∀{x:Nat} {t:TypeId} {cs:Array Value},Blk W x t cs->some x≠some mb:=fun hq e=>by
  injection e with e
  subst e
  rw[show W.heap[_]? =_ from hq]at hob
  injection hob with hob
  cases hob
 have hbd:Bd L W:=h.k.bd hl
 refine⟨⟨h.f.m.move (fun b hb=>Amk (h.f.m.bd b hb) hg.size) hg.size (fun _ hb _=>hb) (fun b hb hn=>hg.block b hb (fun e=>hn (by injection e with e;exact .inl (.inr e)))),Blk.of_heap (hg.block _ (FsR.f h.f).lt (hne (FsR.f h.f))) (FsR.f h.f),⟨Blk.of_heap (hg.block _ (FsR.p h.f).1.lt (hne (FsR.p h.f).1)) (FsR.p h.f).1,(FsR.p h.f).2⟩,FsR.nf h.f,FsR.np h.f,FsR.tl h.f⟩,
  ⟨h.k.k.grown hg hbd (fun k hk hL=>?_),fun b t cs ht hb=>?_⟩,⟨f,hm⟩,h.nm,fun j u hu=>?_⟩
 ·injection hk with hk
  have:=hl k hL
  have:=h.nm
  omega
 ·have hb':=h.k.i b t cs ht hb
  exact Blk.of_heap (hg.block _ hb'.lt (hne hb')) hb'
 ·have hc:=h.hc j u hu
  refine(World.cell?_of_block (hg.block _ (Amd W _ hc) (fun e=>?_))).trans hc
  injection e with e
  have e:g=mb:=e
  subst e
  simp[World.cell?,hob]at hc
theorem start(h:FsAt L w fb s pb M ps)(hl:Bd L w)(hb:Below (w.alloc (.map #[] 0)).heap.size (w.alloc (.map #[] 0)) W')(hc: ∀(j:Nat) (u:Value),(Bq xs)[j]? =some u->W'.cell? ⟨g,j,none⟩=some u):FsN L w fb s pb M ps w.heap.size 0 g xs W':=by
 have ha:Below w.heap.size w (w.alloc (.map #[] 0)):=(Amf _ _).alloc (Ama _) _
 have hm:MapB W' w.heap.size 0 (fun _=>false):=(MapB.made w).kept (row:=none) ⟨hb.os,hb.tape,hb.output,hb.size,fun k hk _=>hb.block k hk⟩ (by simp)
 exact⟨(h.allocIns _).below hb,(Kp.below hl ha).trans (Kp.below (fun b hb=>Amk (hl b hb) ha.size) hb),⟨_,hm⟩,Ama _,hc⟩
end FsN
theorem Ajh{ps:List PV}{k:Nat}(hk:k<ps.length):ps.getD k Bx=ps[k]:=by simp[List.getD,hk]
def FsP(L:Nat->Prop)(w:World)(fb s pb:Nat)(M:Mem)(m:Nat)(ps:List PV)(k:Nat)(c:Ad)(Z:ResV->Value->Mem->(Nat->Prop)->World->Prop)(e:Ending)(w':World):Prop:=∃r nx M' G tc,(nx= .nilIface/\e= .returned (.tuple #[.bool true,.int .i64 0])/\FsAt (By L G) w' fb s pb M' (ps.set k ⟨c,.nilIface,true,r,tc⟩)∨(∃ty y,nx= .iface ty y)/\e= .returned (.tuple #[.bool false,.int .i64 0])/\FsAt (By L G) w' fb s pb M' (ps.set k {ps.getD k Bx with at_:=nx,tc:=tc}))/\Gd m M M' k/\Z r nx M' G w'/\Kp L w w'/\ ∀b,G b->w.heap.size<=b
theorem Aji{L:Nat->Prop}{w:World}{fb s pb:Nat}{M:Mem}{m:Nat}{ps:List PV}(h:FsAt L w fb s pb M ps)(hok:M.ok m)(hm:m<=1000000000){k:Nat}(hk:k<ps.length){c:Ad}(hc:ps[k].c=c){ty:TypeId}{x:Value}(hat:ps[k].at_= .iface ty x)
  {Z:ResV->Value->Mem->(Nat->Prop)->World->Prop} (hZ: ∀r nx M' G w1 w2,Z r nx M' G w1->Kp G w1 w2->Z r nx M' G w2) (hstep:Qc L w fb s M m k c (.iface ty x) Z):
  Calls Tryz.prog 27 #[.pointer (some ⟨fb,0,none⟩),.int .i64 k] w (FsP L w fb s pb M m ps k c Z):=by
 have h8:=h.tsl
 have htl:=h.tl
 have d3:decide ((k:Int)<0)=false:=by simp
 have d4:decide ((k:Int)<ps.length)=true:=by simp;omega
 obtain⟨a,hsa⟩:=h.arena
 obtain⟨kind,core,fd,off,num,path,path2,data⟩:=c
 have f0:w.cell? ⟨fb,0,none⟩=some (.pointer (some ⟨s,0,none⟩)):=h.f.cell 0
 have f1:w.cell? ⟨fb,1,none⟩=some (.slice (some ⟨pb,0,none⟩) ps.length ps.length):=h.f.cell 1
 obtain⟨PC,hPC⟩: ∃PC:World->Prop,∀W,PC W↔W.cell? ⟨pb,k*17,none⟩=some (Value.int IntKind.i64 kind)/\W.cell? ⟨pb,k*17+1,none⟩=some (Value.int IntKind.i64 core)/\W.cell? ⟨pb,k*17+2,none⟩=some (Value.int IntKind.i64 fd)/\W.cell? ⟨pb,k*17+3,none⟩=some (Value.int IntKind.i64 off)/\W.cell? ⟨pb,k*17+4,none⟩=some (Value.int IntKind.i64 num)/\W.cell? ⟨pb,k*17+5,none⟩=some (Value.string path)/\W.cell? ⟨pb,k*17+6,none⟩=some (Value.string path2)/\W.cell? ⟨pb,k*17+7,none⟩=some (Value.string data)/\W.cell? ⟨pb,k*17+8,none⟩=some (.iface ty x):=⟨_,fun _=>Iff.rfl⟩
 have HPC:=lhi (show∀L' W M',FsAt L' W fb s pb M' ps->PC W from fun L' W M' hW=>(hPC W).2 (by
  have q: ∀j,j<17->W.cell? ⟨pb,k*17+j,none⟩=ps[k].cs[j]?:=fun j hj=>hW.at_ hj hk
  unfold PV.cs at q
  rw[hc,hat]at q
  exact⟨q 0 (by decide),q 1 (by decide),q 2 (by decide),q 3 (by decide),q 4 (by decide),q 5 (by decide),q 6 (by decide),q 7 (by decide),q 8 (by decide)⟩))
 have HPI:=lhi hPC
 have p8:w.cell? ⟨pb,k*17+8,none⟩=some (.iface ty x):=((hPC w).1 (HPC.out _ _ _ h)).2.2.2.2.2.2.2.2
 obtain⟨t0,ht0⟩: ∃t,tr M.ts k=t:=⟨_,rfl⟩
 have HC:=lhi (Kt h (c:=k) ⟨by omega,by omega⟩)
 have HT:=lhi (Aco h.m hok hm (c:=k) ⟨by omega,by omega⟩ hsa ht0)
 have HA:=lhi h
 simp only[Qc,Ad.cs]at hstep
 have HS:=lhi hstep
 have HZ:=lhi hZ
 have hn0:t0.length<=m:=by rw[<-ht0];exact hok.sh.at_
 have HT0:=lhi ht0
 obtain⟨n0,hn0'⟩: ∃n,t0.length=n:=⟨_,rfl⟩
 rw[hn0']at hn0 HT
 have HN0:=lhi hn0'
 have HTL:=lhi htl
 have HCV:=lhi hc
 clear h hok htl hstep hZ hc hat hPC ht0 hn0'
 go_enter Tryz.func27,Tryz.ntmps27
 go_upto_region 8 with(first
  | (go_at_call 28;refine HC.out.mono ?_;rintro e w' ⟨rfl,hww⟩;have hww:=hww.symm;subst hww)
  | (go_at_call 29;refine HT.out.mono ?_;rintro e w5 ⟨⟨v,A,cap,rfl,rfl,-⟩,hb⟩;have HB:=lhi hb;clear hb))
 have H5:=lhi (HA.out.below HB.out)
 clear f0 f1 p8 hsa HC HT
 go_cut [9,10] (fun s9 s10 wx=>∃q r nx M' G,s9= .pointer (some ⟨q,0,none⟩)/\s10=nx/\isAt nx/\Gd m M M' k/\FsAt (By (By L G) (fun b=>b=q)) wx fb s pb M' ps/\Blk wx q 41 r.cs/\Z r nx M' G wx/\Kp L w wx/\ ∀b,G b->w.heap.size<=b)
 case first=>
  refine wp_region_held_drew (S:=fun w'=>(w'.cell? ⟨fb,0,none⟩=some (.pointer (some ⟨s,0,none⟩)))/\ (w'.cell? ⟨pb,k*17,none⟩=some (Value.int IntKind.i64 kind)/\w'.cell? ⟨pb,k*17+1,none⟩=some (Value.int IntKind.i64 core)/\w'.cell? ⟨pb,k*17+2,none⟩=some (Value.int IntKind.i64 fd)/\w'.cell? ⟨pb,k*17+3,none⟩=some (Value.int IntKind.i64 off)/\w'.cell? ⟨pb,k*17+4,none⟩=some (Value.int IntKind.i64 num)/\w'.cell? ⟨pb,k*17+5,none⟩=some (Value.string path)/\w'.cell? ⟨pb,k*17+6,none⟩=some (Value.string path2)/\w'.cell? ⟨pb,k*17+7,none⟩=some (Value.string data)/\w'.cell? ⟨pb,k*17+8,none⟩=some (.iface ty x))) (by kernel_rfl) ⟨H5.out.drew.f.cell 0,(HPI.out _).1 (HPC.out _ _ _ H5.out.drew)⟩ (fun hHeld=>?_)
  refine tH 0 ?_
  refine tH 1 ?_
  refine tH 2 ?_
  refine tH 3 ?_
  refine tH 4 ?_
  refine tH 5 ?_
  refine tH 6 ?_
  refine tH 7 ?_
  refine tH 8 ?_
  refine tH 9 ?_
  refine rdy [10,14] ?_
  refine AllReadyH.cons rfl (fun K hK=>?_) (AllReadyH.cons rfl (fun K hK=>?_) AllReadyH.nil)
  ·go_simp
   refine(HS.out _ w5.drew (HB.out.trans ((Ae w5).mono HB.out.size)) (fun b hb=>.inl hb) H5.out.m.drew hHeld.1).mono ?_
   rintro e w6 ⟨r,nx,M',G,rfl,hnx,hgd,hz,hG,hM,hKp⟩
   have hb6:=H5.out.drew.backG hM hKp hG hgd.tl
   obtain⟨rcode,rfd,rnum,rdir,rdata,rna,rnl,rnc⟩:=r
   simp only[ResV.cs]
   show K _ _
   refine hK.out _ _ ⟨hb6.1.f.cell 0,(HPI.out _).1 (HPC.out _ _ _ hb6.1)⟩ (fun hHeld=>?_)
   clear hK K
   rcases hnx with rfl | ⟨ty2,y2,rfl⟩
   all_goals
    refine tH 11 ?_
    refine tH 12 ?_
    refine tH 13 ?_
    refine rdy [14] ?_
    refine AllReadyH.cons rfl (fun K hK=>?_) AllReadyH.nil
    go_simp
    have h7:=hb6.1.allocIns (.cells #[.int .i64 0,.int .i64 0,.int .i64 0,.bool false,.string ⟨#[]⟩,.slice none 0 0] 41)
    have b7:=Blk.new w6 41 #[.int .i64 0,.int .i64 0,.int .i64 0,.bool false,.string ⟨#[]⟩,.slice none 0 0]
    refine hK.out _ _ ⟨h7.f.cell 0,(HPI.out _).1 (HPC.out _ _ _ h7)⟩ (fun hHeld=>?_)
    clear hK K
    obtain⟨c0,c1,c2,c3,c4,c5⟩:=Blk.d6 b7
    obtain⟨g0,g1,g2,g3,g4,g5⟩:=Blk.f6 b7
    refine rdy [15] ?_
    refine AllReadyH.cons rfl (fun K hK=>?_) AllReadyH.nil
    go_simp
    have h8:FsAt (ins (By L G) w6.heap.size) _ fb s pb M' ps/\Blk _ w6.heap.size 41 #[Value.int IntKind.i64 rcode,Value.int IntKind.i64 rfd,Value.int IntKind.i64 rnum,Value.bool rdir,Value.string rdata,Value.slice rna rnl rnc]:=⟨hb6.1.allocIns (.cells #[Value.int IntKind.i64 rcode,Value.int IntKind.i64 rfd,Value.int IntKind.i64 rnum,Value.bool rdir,Value.string rdata,Value.slice rna rnl rnc] 41),Blk.new _ _ _⟩
    have kx:Kp (By L G) w6 (w6.alloc (.cells #[Value.int IntKind.i64 rcode,Value.int IntKind.i64 rfd,Value.int IntKind.i64 rnum,Value.bool rdir,Value.string rdata,Value.slice rna rnl rnc] 41)):=Kp.below (hb6.1.m.bd.sub fun _ hb=>.inl hb) (Br w6 _)
    generalize w6.alloc (.cells #[Value.int IntKind.i64 rcode,Value.int IntKind.i64 rfd,Value.int IntKind.i64 rnum,Value.bool rdir,Value.string rdata,Value.slice rna rnl rnc] 41)=w8 at h8 kx⊢
    refine hK.out _ _ ⟨h8.1.f.cell 0,(HPI.out _).1 (HPC.out _ _ _ h8.1)⟩ (fun hHeld=>?_)
    clear hK K c0 c1 c2 c3 c4 c5 g0 g1 g2 g3 g4 g5
    refine tH 16 ?_
    refine wpAnyH_done (by kernel_rfl) ?_ _
    have HE:=lhi (show FsAt (By (By L G) (fun b=>b=w6.heap.size)) _ fb s pb M' ps/\_ from h8)
    have HZ2:=lhi (HZ.out _ _ _ _ _ _ hz (kx.sub fun _ q=>.inr q))
    have HK2:=lhi (((Kp.below (HA.out.m.bd.sub fun _ hb=>.inl hb) HB.out:Kp L w w5).drew.trans hb6.2).trans (kx.sub fun _ q=>.inl q))
    clear h7 h8 b7 kx hb6 hM hKp hz hHeld
    go_wp2_with (fail)
    go_meet
    case rel=>exact⟨_,⟨rcode,rfd,rnum,rdir,rdata,rna,rnl,rnc⟩,_,M',G,rfl,rfl,by first | exact .inl rfl | exact .inr ⟨_,_,rfl⟩,hgd,HE.out.1,HE.out.2,HZ2.out,HK2.out,fun b hb=>Aml HB.out.size (hG b hb)⟩
  ·go_simp
   have hb7:Below w5.heap.size w5 (w5.alloc (.cells #[.int .i64 0,.int .i64 0,.int .i64 0,.bool false,.string ⟨#[]⟩,.slice none 0 0] 41)).drew:=(Br w5 _).trans ⟨rfl,rfl,rfl,Ama _,fun _ _=>rfl⟩
   have h7:=(H5.out.allocIns (.cells #[.int .i64 0,.int .i64 0,.int .i64 0,.bool false,.string ⟨#[]⟩,.slice none 0 0] 41)).drew
   have b7:=(Blk.new w5 41 #[.int .i64 0,.int .i64 0,.int .i64 0,.bool false,.string ⟨#[]⟩,.slice none 0 0]).dr
   have hs7:w5.heap.size< (w5.alloc (.cells #[.int .i64 0,.int .i64 0,.int .i64 0,.bool false,.string ⟨#[]⟩,.slice none 0 0] 41)).drew.heap.size:=by simp[World.drew]
   have hqw:=HB.out.size
   have hbw:=HB.out.trans (hb7.mono hqw)
   have kL:Kp L w5 _:=Kp.below (H5.out.m.bd.sub fun _ hb=>.inl hb) hb7
   generalize (w5.alloc (.cells #[.int .i64 0,.int .i64 0,.int .i64 0,.bool false,.string ⟨#[]⟩,.slice none 0 0] 41)).drew=w7 at*
   obtain⟨q,hq⟩:=xx w5.heap.size
   rw[hq]at h7 b7 hs7 hqw⊢
   refine hK.out _ _ ⟨h7.f.cell 0,(HPI.out _).1 (HPC.out _ _ _ h7)⟩ (fun hHeld=>?_)
   clear hK K
   refine rdy [10] ?_
   refine AllReadyH.cons rfl (fun K hK=>?_) AllReadyH.nil
   go_simp
   refine(HS.out _ w7 hbw (fun b hb=>.inl (ins.old hb)) h7.m hHeld.1).mono ?_
   rintro e w6 ⟨r,nx,M',G,rfl,hnx,hgd,hz,hG,hM,hKp⟩
   have hb6:=h7.backG hM hKp hG hgd.tl
   have b6:=hb6.2.blk b7 (ins.new _ _)
   obtain⟨rcode,rfd,rnum,rdir,rdata,rna,rnl,rnc⟩:=r
   simp only[ResV.cs]
   show K _ _
   refine hK.out _ _ ⟨hb6.1.f.cell 0,(HPI.out _).1 (HPC.out _ _ _ hb6.1)⟩ (fun hHeld=>?_)
   clear hK K
   rcases hnx with rfl | ⟨ty2,y2,rfl⟩
   all_goals
    refine tH 11 ?_
    refine tH 12 ?_
    refine tH 13 ?_
    obtain⟨c0,c1,c2,c3,c4,c5⟩:=Blk.d6 b6
    obtain⟨g0,g1,g2,g3,g4,g5⟩:=Blk.f6 b6
    refine rdy [15] ?_
    refine AllReadyH.cons rfl (fun K hK=>?_) AllReadyH.nil
    go_simp
    have h8:=FsAt.owns (L:=By (ins L q) G) (.inl (ins.new _ _)) [Value.int IntKind.i64 rcode,Value.int IntKind.i64 rfd,Value.int IntKind.i64 rnum,Value.bool rdir,Value.string rdata,Value.slice rna rnl rnc] 0 hb6.1 b6
    have kx:Kp (By L G) w6 (w6.setCells q 0 [Value.int IntKind.i64 rcode,Value.int IntKind.i64 rfd,Value.int IntKind.i64 rnum,Value.bool rdir,Value.string rdata,Value.slice rna rnl rnc]):=Wb (fun e=>e.elim (fun e=>absurd (H5.out.m.bd _ (.inl e)) (by omega)) fun e=>absurd (hG _ e) (by omega)) (by unfold Dg;decide) [Value.int IntKind.i64 rcode,Value.int IntKind.i64 rfd,Value.int IntKind.i64 rnum,Value.bool rdir,Value.string rdata,Value.slice rna rnl rnc] 0 b6
    obtain⟨w8,hw8⟩: ∃x,x=w6.setCells q 0 [Value.int IntKind.i64 rcode,Value.int IntKind.i64 rfd,Value.int IntKind.i64 rnum,Value.bool rdir,Value.string rdata,Value.slice rna rnl rnc]:=⟨_,rfl⟩
    rw[<-hw8]at h8 kx
    simp only[World.setCells,Nat.zero_add,Nat.reduceAdd]at hw8
    rw[<-hw8]
    clear hw8
    refine hK.out _ _ ⟨h8.1.f.cell 0,(HPI.out _).1 (HPC.out _ _ _ h8.1)⟩ (fun hHeld=>?_)
    clear hK K c0 c1 c2 c3 c4 c5 g0 g1 g2 g3 g4 g5
    refine tH 16 ?_
    refine wpAnyH_done (by kernel_rfl) ?_ _
    have HE:=lhi (show FsAt (By (By L G) (fun b=>b=q)) w8 fb s pb M' ps/\_ from⟨h8.1.sub fun b hb=>by
     rcases hb with(hb | hb) | hb
     ·exact .inl (.inl hb)
     ·exact .inr hb
     ·exact .inl (.inr hb),h8.2⟩)
    have HZ2:=lhi (HZ.out _ _ _ _ _ _ hz (kx.sub fun _ q=>.inr q))
    have HK2:=lhi ((((Kp.below (HA.out.m.bd.sub fun _ hb=>.inl hb) HB.out:Kp L w w5).trans kL).trans (hb6.2.sub fun _ q=>ins.old q)).trans (kx.sub fun _ q=>.inl q))
    have HG2:=lhi (fun b (hb:G b)=>Aml (Nat.le_of_lt (Nat.lt_of_le_of_lt hqw hs7)) (hG b hb))
    clear h7 h8 b7 b6 kx hb6 hM hKp hz hHeld hG
    go_wp2_with (fail)
    go_meet
    case rel=>exact⟨_,⟨rcode,rfd,rnum,rdir,rdata,rna,rnl,rnc⟩,_,M',G,rfl,rfl,by first | exact .inl rfl | exact .inr ⟨_,_,rfl⟩,hgd,HE.out.1,HE.out.2,HZ2.out,HK2.out,HG2.out⟩
 case rest=>
  obtain⟨q,r,nx,M',G,rfl,rfl,hnx,hgd,hf,hb,hz,hkw,hG⟩:=hcut
  obtain⟨t1,ht1⟩: ∃t,tr M'.ts k=t:=⟨_,rfl⟩
  have hm1:t1.length<=m:=by rw[<-ht1];exact hgd.ok.sh.at_
  have hle:n0<=t1.length:=by rw[<-HN0.out,<-HT0.out,<-ht1];exact hgd.le
  have HWD:=lhi (show∀y∈t1,0<=y.1/\y.1<=1000000 by rw[<-ht1];exact hgd.wd)
  have hF:FsAt (By (By L G) (fun b=>b=q)) (wc.alloc (.map #[] 0)) fb s pb M' ps:=hf.below ((Amf _ _).alloc (Ama _) _)
  obtain⟨a2,hsa⟩:=hF.arena
  have f0:(wc.alloc (.map #[] 0)).cell? ⟨fb,0,none⟩=some (.pointer (some ⟨s,0,none⟩)):=hF.f.cell 0
  have HT:=lhi (Aco hF.m hgd.ok hm (c:=k) ⟨by omega,by rw[<-hF.tl];omega⟩ hsa ht1)
  have HF:=lhi hf
  have HB2:=lhi hb
  have HBD:=lhi (show Bd (By (By L G) (fun b=>b=q)) wc from hf.m.bd.sub fun _ hb=>.inl hb)
  have HMA:=lhi (MapB.made wc)
  have hmm:=@run_makeMap Tryz.prog
  have d5:decide ((n0:Int)<0)=false:=by simp
  have d6:decide ((t1.length:Int)<n0)=false:=by simp;omega
  clear hF hf hb
  go_wp2_with (go_at_call 29;refine HT.out.mono ?_;rintro e w7 ⟨⟨v,A,cap,hv,rfl,hs⟩,hb⟩;have HB7:=lhi hb;clear hb;rcases hs with⟨rfl,ht⟩ | ⟨g,cap,rfl,hcap,hcm,hcell⟩;(obtain rfl:n0=0:=by(rw[ht]at hle;simpa using hle)))
  rotate_left
  all_goals
   first
    | have hst:FsN (By (By L G) (fun b=>b=q)) wc fb s pb M' ps wc.heap.size 0 g t1 w7:=FsN.start HF.out HBD.out HB7.out hcell
    | (obtain⟨g,hg⟩: ∃g:Nat,g=0:=⟨_,rfl⟩
       have hst:FsN (By (By L G) (fun b=>b=q)) wc fb s pb M' ps wc.heap.size 0 g t1 w7:=FsN.start HF.out HBD.out HB7.out (by rw[ht];simp[Bq])
       clear hg)
   first
    | (have hN0:t1.length=0:=by rw[ht];rfl
       obtain⟨N,hN⟩:=xx (t1.length - 0))
    | generalize hN:t1.length - n0=N at*
   obtain⟨mb,hmb⟩: ∃b,wc.heap.size=b:=⟨_,rfl⟩
   rw[hmb]at hst⊢
   have HST:=lhi hst
   clear hst HB7 HT HMA f0 hsa hmb
   go_loopw [68] (fun i wr=>∃j:Nat,i= .int .i64 j/\j<=N/\FsN (By (By L G) (fun b=>b=q)) wc fb s pb M' ps mb j g t1 wr) (fun i _=>N - (intOf i).toNat)
   case atStart=>exact⟨0,rfl,by omega,HST.out⟩
   case round=>
    obtain⟨j,rfl,hj,hm7⟩:=hrel
    have HM:=lhi hm7
    by_cases hp:j<N
    ·first
      | exact absurd hp (by omega)
      | (have hlt:n0+j<t1.length:=by omega
         have hcc:=Sv t1 (n0+j) hlt
         have q0:wr.cell? ⟨g,n0*2+j*2,none⟩=some (.int .i64 t1[n0+j].1):=by rw[show n0*2+j*2=(n0+j)*2 by omega];exact hm7.hc _ _ hcc.1
         have q1:wr.cell? ⟨g,n0*2+j*2+1,none⟩=some (.bool t1[n0+j].2):=by rw[show n0*2+j*2+1=(n0+j)*2+1 by omega];exact hm7.hc _ _ hcc.2
         have HR:=lhi (HWD.out t1[n0+j] (List.getElem_mem ..))
         obtain⟨xw,hxw⟩: ∃x,t1[n0+j].1=x:=⟨_,rfl⟩
         obtain⟨xb,hxb⟩: ∃x,t1[n0+j].2=x:=⟨_,rfl⟩
         rw[hxw]at q0 HR
         rw[hxb]at q1
         have hg:=Amd wr _ q0
         have hp1:(j:Int)<N:=by omega
         have HA2:=lhi (hm7.alloc HBD.out (.cells #[.int .i64 xw,.bool xb] 149))
         obtain⟨fm,hfm⟩:=HA2.out.mp
         have HFM:=lhi hfm
         clear hm7 hcc hxw hxb hfm
         go_wp2_with (at_mapUpdate;refine Kg _ rfl (.tmp 72) (.tmp 74) (.const (.bool true)) (.inl rfl) mb j fm rfl HFM.out (by omega) xw (by have:=HR.out;omega) rfl true rfl ?_;intro w8 hM8 hG8)
         go_roundw
         case rel=>exact⟨j+1,by simp,by omega,HA2.out.turn HBD.out hM8 hG8⟩
         case measure=>simp only[intOf];omega)
    ·have e:j=N:=by omega
     try (have hN9:N=0:=by omega)
     try subst hN9
     subst e
     obtain⟨fm,D,hD,-⟩:=hm7.mp
     have HD:=lhi hD
     have hpz: ∀i,i<17->wr.cell? ⟨pb,k*17+i,none⟩=ps[k].cs[i]?:=fun i hi=>hm7.f.at_ hi hk
     have hfz: ∀i,wr.frozen? ⟨pb,i,none⟩=false:=fun i=>hm7.f.p.1.frozen i
     have x8:wr.cell? ⟨pb,k*17+8,none⟩=some _:=hpz 8 (by decide)
     have y8:=hfz (k*17+8)
     have x16:wr.cell? ⟨pb,k*17+16,none⟩=some _:=hpz 16 (by decide)
     have y16:=hfz (k*17+16)
     have HKW:=lhi hkw
     have HZZ:=lhi hz
     have HGD:=lhi hgd
     have HGG:=lhi hG
     clear hm7 hD hpz hfz hkw hz hgd hG
     obtain⟨rcode,rfd,rnum,rdir,rdata,rna,rnl,rnc⟩:=r
     rcases hnx with rfl | ⟨ty2,y2,rfl⟩
     ·go_wp2_with (at_len;refine wpList_len_own _ rfl _ 127 rfl 3 4 Tryz.underlying127 _ mb _ D rfl HD.out ?_)
      generalize hW9:((wr.setCell ⟨pb,k*17+16,none⟩ (.int .i64 (Maps.size D:Int))).setCell ⟨pb,k*17+8,none⟩ .nilIface)=w9
      have h9:=(HM.out.f.sub fun _ hb=>ins.old hb).sets HM.out.k hk [.int .i64 (Maps.size D:Int)] 16 (by simp) (p:={ps[k]with tc:=(Maps.size D:Int)}) rfl
      have h10:=FsAt.sets' h9.1 h9.2 hk [.nilIface] 8 (by simp) (p:={ps[k]with tc:=(Maps.size D:Int),at_:=.nilIface}) rfl
      have h11:FsAt (By (By L G) (fun b=>b=q)) w9 fb s pb M' (ps.set k {ps[k]with tc:=(Maps.size D:Int),at_:=.nilIface})/\Kp (By (By L G) (fun b=>b=q)) wc w9:=by rw[<-hW9];exact h10
      obtain⟨z0,z1,z2,z3,z4,z5⟩:=Blk.d6 (h11.2.blk HB2.out (.inr rfl))
      have hpz: ∀i,i<17->w9.cell? ⟨pb,k*17+i,none⟩=({ps[k]with tc:=(Maps.size D:Int),at_:=.nilIface}:PV).cs[i]?:=fun i hi=>by have:=h11.1.at_ (i:=k) hi (by simpa using hk);simpa using this
      have hfz: ∀i,w9.frozen? ⟨pb,i,none⟩=false:=fun i=>h11.1.p.1.frozen i
      have x9:w9.cell? ⟨pb,k*17+9,none⟩=some _:=hpz 9 (by decide)
      have y9:=hfz (k*17+9)
      have x10:w9.cell? ⟨pb,k*17+10,none⟩=some _:=hpz 10 (by decide)
      have y10:=hfz (k*17+10)
      have x11:w9.cell? ⟨pb,k*17+11,none⟩=some _:=hpz 11 (by decide)
      have y11:=hfz (k*17+11)
      have x12:w9.cell? ⟨pb,k*17+12,none⟩=some _:=hpz 12 (by decide)
      have y12:=hfz (k*17+12)
      have x13:w9.cell? ⟨pb,k*17+13,none⟩=some _:=hpz 13 (by decide)
      have y13:=hfz (k*17+13)
      have x14:w9.cell? ⟨pb,k*17+14,none⟩=some _:=hpz 14 (by decide)
      have y14:=hfz (k*17+14)
      have x15:w9.cell? ⟨pb,k*17+15,none⟩=some _:=hpz 15 (by decide)
      have y15:=hfz (k*17+15)
      have hnq:q≠pb:=fun e=>FsR.np h11.1 (.inr e.symm)
      have hnq':pb≠q:=Ne.symm hnq
      have H11:=lhi h11
      clear h9 h10 h11 hpz hfz hW9
      have h12:=FsAt.sets' H11.out.1 H11.out.2 hk [.bool true] 9 (by simp) (p:={ps[k]with tc:=(Maps.size D:Int),at_:=.nilIface,ended:=true}) rfl
      have h13:=FsAt.sets' h12.1 h12.2 hk [Value.int IntKind.i64 rcode,Value.int IntKind.i64 rfd,Value.int IntKind.i64 rnum,Value.bool rdir,Value.string rdata,Value.slice rna rnl rnc] 10 (by simp) (p:=⟨ps[k].c,.nilIface,true,⟨rcode,rfd,rnum,rdir,rdata,rna,rnl,rnc⟩,(Maps.size D:Int)⟩) rfl
      have H13:=lhi (⟨h13.1.drew,h13.2.drew⟩:_/\Kp (By (By L G) (fun b=>b=q)) wc _)
      clear h12 h13
      go_region
      go_wp2_with (fail)
      refine bodyPost_ret (v:=.tuple #[.bool true,.int .i64 0]) (by simp[results,Tryz.results27,go_sem]) rfl ?_
      unfold FsP
      exact⟨⟨rcode,rfd,rnum,rdir,rdata,rna,rnl,rnc⟩,_,M',G,_,.inl ⟨rfl,rfl,by have:=H13.out.1.sub (L':=By L G) (fun b hb=>.inl hb);rw[HCV.out]at this;exact this⟩,HGD.out,HZ.out _ _ _ _ _ _ HZZ.out (H13.out.2.sub fun _ e=>.inl (.inr e)),HKW.out.trans (H13.out.2.sub fun _ e=>.inl (.inl e)),HGG.out⟩
     ·go_wp2_with (at_len;refine wpList_len_own _ rfl _ 127 rfl 3 4 Tryz.underlying127 _ mb _ D rfl HD.out ?_)
      have h9:=(HM.out.f.sub fun _ hb=>ins.old hb).sets HM.out.k hk [.int .i64 (Maps.size D:Int)] 16 (by simp) (p:={ps[k]with tc:=(Maps.size D:Int)}) rfl
      have h10:=FsAt.sets' h9.1 h9.2 hk [.iface ty2 y2] 8 (by simp) (p:={ps[k]with tc:=(Maps.size D:Int),at_:=.iface ty2 y2}) rfl
      refine bodyPost_ret (v:=.tuple #[.bool false,.int .i64 0]) (by simp[results,Tryz.results27,go_sem]) rfl ?_
      unfold FsP
      exact⟨⟨rcode,rfd,rnum,rdir,rdata,rna,rnl,rnc⟩,_,M',G,_,.inr ⟨⟨_,_,rfl⟩,rfl,by rw[Ajh hk];exact h10.1.sub fun b hb=>.inl hb⟩,HGD.out,HZ.out _ _ _ _ _ _ HZZ.out (h10.2.sub fun _ e=>.inl (.inr e)),HKW.out.trans (h10.2.sub fun _ e=>.inl (.inl e)),HGG.out⟩
theorem Tk{w w1 w2:World}(h:Below w.heap.size w w1)(k:Below w1.heap.size w1 w2):Below w.heap.size w w2:=h.trans (k.mono h.size)
theorem Aft{ts:List (List Acc)}{c d:Int}(x:Acc)(hc:0<=c/\c<ts.length)(hd:0<=d):tr (noted ts c x) d=if d=c then tr ts d++[x]else tr ts d:=by
 unfold tr noted
 by_cases e:d=c
 ·subst e
  rw[if_pos rfl]
  simp[List.getD,tr,show d.toNat<ts.length by omega]
 ·rw[if_neg e]
  have:c.toNat≠d.toNat:=by omega
  simp[List.getD,this]
def ArP(L:Nat->Prop)(w:World)(a:Nat)(ws:List Int)(n m:Nat)(P:List (List Acc)->Prop):Prop:=
 ∃ts,ts.length=n/\Gq m ts/\P ts/\ArAt L w a ws ts
def Cl(n:Nat)(P:List (List Acc)->Prop)(c:Int)(S:Acc->Prop):Prop:=∀ts x,ts.length=n->P ts->S x->P (noted ts c x)
theorem Cl.sub{n:Nat}{P:List (List Acc)->Prop}{c:Int}{S S':Acc->Prop}(h:Cl n P c S)(hs: ∀x,S' x->S x):Cl n P c S':=fun ts x h1 h2 h3=>h ts x h1 h2 (hs x h3)
section
variable{L L':Nat->Prop}{w w':World}{a:Nat}{ws:List Int}{n m:Nat}{P P':List (List Acc)->Prop}
theorem ArP.of{ts:List (List Acc)}(h:ArAt L w a ws ts)(hn:ts.length=n)(hm:Gq m ts)(hp:P ts):ArP L w a ws n m P:=⟨ts,hn,hm,hp,h⟩
theorem ArP.new(k:Nat)(hp:P (List.replicate k []))(h:ArAt L w a ws (List.replicate k [])):ArP L w a ws k 0 P:=⟨_,by simp,by intro t ht;simp at ht;simp[ht],hp,h⟩
theorem ArP.mono(h:ArP L w a ws n m P){m':Nat}(hm:m<=m'):ArP L w a ws n m' P:=by
 obtain⟨ts,h1,h2,h3,h4⟩:=h
 exact⟨ts,h1,h2.mono hm,h3,h4⟩
theorem ArP.map(h:ArP L w a ws n m P)(hp: ∀ts,ArAt L w a ws ts->ArAt L' w' a ws ts):ArP L' w' a ws n m P:=by
 obtain⟨ts,h1,h2,h3,h4⟩:=h
 exact⟨ts,h1,h2,h3,hp ts h4⟩
theorem ArP.bd(h:ArP L w a ws n m P):Bd L w:=by obtain⟨ts,h1,h2,h3,h4⟩:=h;exact h4.bd
theorem ArP.lt(h:ArP L w a ws n m P):a<w.heap.size:=by obtain⟨ts,h1,h2,h3,h4⟩:=h;exact h4.lt
theorem ArP.wsl(h:ArP L w a ws n m P):ws.length<=65536:=by obtain⟨ts,h1,h2,h3,h4⟩:=h;exact h4.wsl
theorem ArP.tsl(h:ArP L w a ws n m P):n<=8:=by obtain⟨ts,h1,h2,h3,h4⟩:=h;have:=h4.tsl;omega
theorem ArP.drew(h:ArP L w a ws n m P):ArP L w.drew a ws n m P:=h.map fun _ h=>h.drew
theorem ArP.drewN(h:ArP L w a ws n m P)(k:Nat):ArP L (w.drewN k) a ws n m P:=h.map fun _ h=>h.drewN k
theorem ArP.alloc(h:ArP L w a ws n m P)(o:Obj):ArP L (w.alloc o) a ws n m P:=h.map fun _ h=>h.alloc o
theorem ArP.allocIns(h:ArP L w a ws n m P)(o:Obj):ArP (ins L w.heap.size) (w.alloc o) a ws n m P:=h.map fun _ h=>h.allocIns o
theorem ArP.setCell(h:ArP L w a ws n m P){p:Addr}(hp:L p.block)(u:Value):ArP L (w.setCell p u) a ws n m P:=h.map fun _ h=>h.setCell hp u
theorem ArP.below(h:ArP L w a ws n m P)(hb:Below w.heap.size w w'):ArP L w' a ws n m P:=h.map fun _ h=>h.below hb
theorem ArP.sub(h:ArP L w a ws n m P)(hs: ∀b,L' b->L b):ArP L' w a ws n m P:=h.map fun _ h=>h.sub hs
end
theorem Acp{c d:Int}(hd:0<=d)(h0:0<=c): ∀(l:List Int) (M:Mem),c<M.ts.length->tr (M.sees c l).ts d=if d=c then tr M.ts d++l.map (fun i=>(i,false))else tr M.ts d
 | [],M,_=>by simp[Mem.sees]
 | i::l,M,hc=>by
  have hs:=Mem.same.see M c i
  show tr ((M.see c i).sees c l).ts d=_
  rw[Acp hd h0 l (M.see c i) (by rw[hs.ts];exact hc),Mem.see_core M h0]
  show(if d=c then tr (noted M.ts c (i,false)) d++_ else tr (noted M.ts c (i,false)) d)=_
  rw[Aft _ ⟨h0,hc⟩ hd]
  by_cases e:d=c
  ·simp[e]
  ·simp[e]
theorem Seen.tr{c:Int}{n:Nat}{M M':Mem}(h:Seen c n M M')(h0:0<=c/\c<M.ts.length): ∃l:List Int,l.length<=n/\ (∀i∈l,0<=i/\i<9549)/\ ∀d:Int,0<=d->Go.Proofs.YtkebjgebkneijaaGreat.tr M'.ts d=if d=c then Go.Proofs.YtkebjgebkneijaaGreat.tr M.ts d++l.map (fun i=>(i,false))else Go.Proofs.YtkebjgebkneijaaGreat.tr M.ts d:=by
 obtain⟨l,h1,h2,rfl⟩:=h
 exact⟨l,h1,h2,fun d hd=>Acp hd h0.1 l M h0.2⟩
theorem Seen.gd{k n m m0:Nat}{M M':Mem}(h:Seen k n M M')(hk:k<M.ts.length)(hok:M.ok m0)(hm:m0+n<=m)(hw: ∀y∈Go.Proofs.YtkebjgebkneijaaGreat.tr M.ts k,0<=y.1/\y.1<=1000000):Gd m M M' k:=by
 obtain⟨l,h1,h2,h3⟩:=h.tr ⟨by omega,by omega⟩
 have e:=h3 k (by omega)
 rw[if_pos rfl]at e
 refine⟨(h.ok hok).mono hm,h.same.ts,by rw[e];simp,fun y hy=>?_⟩
 rw[e]at hy
 rcases List.mem_append.1 hy with hy | hy
 ·exact hw y hy
 ·obtain⟨i,hi,rfl⟩:=List.mem_map.1 hy
  have:=h2 i hi
  exact⟨this.1,by show i<=_;omega⟩
theorem Ws{w:World}{v:Value}{L:List (ByteArray)}{C:Nat->Nat->Value}(h:Ak w v L.length 1 C)(hC:CL encS L C 1)(hone: ∀x∈L,∀u∈encS x,u.oneCell'=true)(hn:L.length<=90000):
  Calls Tryz.prog 42 #[v] w fun e w'=>(∃v',e= .returned v'/\w'.ownsRow w.heap.size 9 1 v' L.length (L.flatMap encS))/\Below w.heap.size w w':=by
 have HR:=lhi h
 have HC:=lhi hC
 have HO:=lhi hone
 obtain⟨A,cap,rfl,hcap,-⟩:=h
 clear hC hone
 have he: ∀(W:World) (a:Option Addr) (n c:Nat),(binOp BinOp.eql 39 (.slice a n c) (.slice none 0 0)).run Tryz.prog W= .ok (.bool a.isNone) W:=fun W a n c=>Lib.run_eql_slice_nil W 39 9 a n c 0 0 Tryz.underlying39
 go_enter Tryz.func42,Tryz.ntmps42
 cases A with
 | none=>
  have h0:L=[]:=by
   rcases Nat.eq_zero_or_pos L.length with q | q
   ·exact List.length_eq_zero_iff.1 q
   ·obtain⟨A',cap',e,-,hx⟩:=HR.out
    injection e with e1 e2 e3
    subst e1
    obtain⟨g,off,hg,-⟩:=hx q
    cases hg
  subst h0
  go_wp2_with (fail)
  go_ret
  exact⟨⟨_,rfl,World.ownsRow_nil _ _ _ _⟩,Amf _ _⟩
 | some ad=>
  obtain⟨i0,hi0,hz⟩:=Option.map_eq_some_iff.1 (show(Tryz.prog.info? 9).map (fun i=>(i.zero,i.size,i.bytes))=some (some (.string ⟨#[]⟩),1,16)by kernel_rfl)
  have hz0:i0.zero=some (.string ⟨#[]⟩):=congrArg (fun p=>p.1) hz
  have hz1:i0.size=1:=congrArg (fun p=>p.2.1) hz
  have hz2:i0.bytes=16:=congrArg (fun p=>p.2.2) hz
  clear hz
  have HB:=lhi ((Amf w.heap.size w).alloc (Ama _) (.cells #[] 9))
  have HRA:=lhi (HR.out.keep HB.out)
  have HOW:=lhi (Iu w w.heap.size 9 1 (Ama _))
  go_wp2_with (at_builtin;refine Cm (k:=1) (enc:=encS) _ rfl (.tmp 5) (.tmp 6) 39 9 rfl i0 _ 16 Tryz.underlying39 hi0 hz0 hz1 hz2 rfl (by decide) w.heap.size (.slice (some ⟨w.heap.size,0,none⟩) 0 0) [] rfl HOW.out (.slice (some ad) L.length cap) rfl L HRA.out HC.out (fun _=>rfl) HO.out (by simp;omega) (by decide) HB.out.size ?_;intro A' n' cap' w5 hn' ho hgr hor;have HOO:=lhi ho;have HG:=lhi hgr;have HNE:=lhi hn';clear ho hgr hor hn')
  go_ret
  have hl:n'=L.length:=by have:=HNE.out;simpa using this
  subst hl
  refine⟨⟨_,rfl,by have:=HOO.out;simpa using this⟩,?_⟩
  have hg:=HG.out
  have hs:=HB.out.size
  exact HB.out.trans ⟨hg.os,hg.tape,hg.output,hg.size,fun b hb=>hg.block b (by simp at hs;simp;omega) (fun e=>by
   have e:b=w.heap.size:=Amg e
   omega)⟩
theorem Ns: ∀l:List ByteArray,l.flatMap encS=l.map .string
 | []=>rfl
 | x::l=>by rw[List.flatMap_cons,Ns l];rfl
theorem Agd{L:Nat->Prop}{w:World}{fb s pb:Nat}{M:Mem}{ps:List PV}(h:FsAt L w fb s pb M ps){k:Nat}(hk:k<ps.length)(he:ps[k].ended=true){r:ResV}(hr:ps[k].r=r){ns:List ByteArray}(hn:r.nl=ns.length)(hnl:ns.length<=90000)(hrow:Ak w (.slice r.na r.nl r.nc) ns.length 1 (nmC ns)):
  Calls Tryz.prog 20 #[.pointer (some ⟨fb,0,none⟩),.int .i64 k] w fun e w'=>(∃na nc,e= .returned (.tuple #[.agg {r with na:=na,nc:=nc}.cs,.bool true])/\w'.ownsRow w.heap.size 9 1 (.slice na ns.length nc) ns.length (ns.map .string))/\Below w.heap.size w w':=by
 have h8:=h.tsl
 obtain⟨rcode,rfd,rnum,rdir,rdata,rna,rnl,rnc⟩:=r
 obtain rfl:rnl=ns.length:=hn
 have d1:decide ((k:Int)<0)=false:=by simp
 have d2:decide ((k:Int)<ps.length)=true:=by simp;omega
 have ha:=h.alloc (.cells #[.int .i64 0,.int .i64 0,.int .i64 0,.bool false,.string ⟨#[]⟩,.slice none 0 0] 41)
 have HC:=lhi (Kt ha (c:=k) ⟨by omega,by omega⟩)
 have hfl:=h.f.lt
 have hpl:=h.p.1.lt
 have f1:w.cell? ⟨fb,1,none⟩=some (.slice (some ⟨pb,0,none⟩) ps.length ps.length):=h.f.cell 1
 have q: ∀j,j<17->w.cell? ⟨pb,k*17+j,none⟩=ps[k].cs[j]?:=fun j hj=>h.at_ hj hk
 unfold PV.cs at q
 rw[hr,he]at q
 have p9:w.cell? ⟨pb,k*17+9,none⟩=some (.bool true):=q 9 (by decide)
 have p10:w.cell? ⟨pb,k*17+10,none⟩=some (.int .i64 rcode):=q 10 (by decide)
 have p11:w.cell? ⟨pb,k*17+10+1,none⟩=some (.int .i64 rfd):=q 11 (by decide)
 have p12:w.cell? ⟨pb,k*17+10+2,none⟩=some (.int .i64 rnum):=q 12 (by decide)
 have p13:w.cell? ⟨pb,k*17+10+3,none⟩=some (.bool rdir):=q 13 (by decide)
 have p14:w.cell? ⟨pb,k*17+10+4,none⟩=some (.string rdata):=q 14 (by decide)
 have p15:w.cell? ⟨pb,k*17+10+5,none⟩=some (.slice rna ns.length rnc):=q 15 (by decide)
 have HRW:=lhi hrow
 clear h ha q hr he hrow
 go_enter Tryz.func20,Tryz.ntmps20
 go_upto_region 4 with(go_at_call 28;refine HC.out.mono ?_;rintro e w' ⟨rfl,hww⟩;subst hww)
 refine letW (fun w2 hw2=>?_)
 obtain⟨B4,B6,hb⟩:=Lp hw2
 have HCL:=lhi (Ws (HRW.out.keep hb) (Xe ns) (fun x _ u hu=>by simp[encS]at hu;subst hu;rfl) hnl)
 have hsz:w.heap.size<=w2.heap.size:=hb.size
 obtain⟨n,hn⟩:=xx w.heap.size
 have HB:=lhi hb
 have HN:=lhi hn
 rw[hn]at B4 B6⊢
 have H4:=lhi B4
 have H6:=lhi B6
 have t5:w2.cell? ⟨n+1,5,none⟩=some (.slice rna ns.length rnc):=B6.cell 5
 clear hw2 hb hn B4 B6 p9 p10 p11 p12 p13 p14 p15 f1 HC
 go_upto_region 5 with(go_at_call 42;refine HCL.out.mono ?_;rintro e w3 ⟨⟨v,rfl,ho⟩,hb3⟩;obtain⟨A,cap,rfl,-⟩:=Aj ho;have b4:=Blk.of_heap (hb3.block _ H4.out.lt) H4.out;have b6:=Blk.of_heap (hb3.block _ H6.out.lt) H6.out;have u5:=b6.cell 5;have v5:=b6.frozen 5;simp at u5)
 have c4:=b4.far (p:=⟨n+1,5,none⟩) (by show n≠n+1;omega) (.slice A ns.length cap)
 have c6:=b6.set_ 5 (.slice A ns.length cap)
 have ho2:=ownsRow_setCell_other ho (a:=⟨n+1,5,none⟩) (Ah ho b6 (by decide)) (.slice A ns.length cap)
 have hb2:Below w.heap.size w (w3.setCell ⟨n+1,5,none⟩ (.slice A ns.length cap)):=(HB.out.trans (hb3.mono hsz)).setCell (p:=⟨n+1,5,none⟩) (by show _<=n+1;have:=HN.out;omega) _
 refine letW (fun w4 hw4=>?_)
 rw[<-hw4]at c4 c6 ho2 hb2
 clear hw4 ho b4 b6 hb3 u5 v5 HCL
 have HO:=lhi ho2
 have HB2:=lhi hb2
 obtain⟨x0,x1,x2,x3,x4,x5⟩:=Blk.d6 c6
 obtain⟨y0,y1,y2,y3,y4,y5⟩:=Blk.d6 c4
 obtain⟨z0,z1,z2,z3,z4,z5⟩:=Blk.f6 c4
 have HP:=lhi (c4.put6 (.int .i64 rcode) (.int .i64 rfd) (.int .i64 rnum) (.bool rdir) (.string rdata) (.slice A ns.length cap))
 have H44:=lhi c4
 clear c4 c6 ho2 hb2 t5
 go_wp2_with (fail)
 obtain⟨q0,q1,q2,q3,q4,q5⟩:=Blk.d6 HP.out.1
 refine bodyPost_ret (v:=.tuple #[.agg #[.int .i64 rcode,.int .i64 rfd,.int .i64 rnum,.bool rdir,.string rdata,.slice A ns.length cap],.bool true]) (by simp[results,Tryz.results20,go_sem,q0,q1,q2,q3,q4,q5]) rfl ?_
 have hO:=HO.out
 have hR:=Dr (Dq hO HP.out.2 fun q hq e=>Ah hO H44.out (by decide) (hq.trans e.symm)) hsz
 rw[Ns]at hR
 exact⟨⟨A,cap,rfl,hR⟩,HB2.out.trans (Bg HP.out.2 HB2.out.size fun b hb=>Amg hb▸Nat.le_of_eq HN.out)⟩
end Go.Proofs.YtkebjgebkneijaaGreat
