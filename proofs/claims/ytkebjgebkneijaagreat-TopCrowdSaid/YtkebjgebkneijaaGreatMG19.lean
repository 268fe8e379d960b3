/- Texts of one's own that a claim's last text rests on: MpT MpU Mp4 HeldE Qin2 HeldF. -/
import Derived.Test.YtkebjgebkneijaaGreatMG18
import Derived.Test.YtkebjgebkneijaaGreatMG17
import Derived.Test.YtkebjgebkneijaaGreatMG1
import Derived.Deep.RegionHeld3
import Derived.Test.YtkebjgebkneijaaGreatMG14
import Derived.Lib.Hide
set_option linter.unusedVariables false
set_option linter.unusedSimpArgs false
namespace Go.Proofs.YtkebjgebkneijaaGreat
section
open Go.RowKit
set_option maxHeartbeats 2000000
abbrev InV:=Ino×Value
def faV(fa:Int->Option InV):Int->Option Value:=fun i=>(fa i).map fun p=>.agg (encI p).toArray
def rowTy(e:TypeId):Prop:=e=93∨e=144∨e=3
def EntIn(W:World)(p:InV):Prop:=RowT W 0 132 2 p.2 p.1.ents.length (entL p.1.ents)
theorem own_same{w w':World}{base:Nat}{e:TypeId}{size k:Nat}{v:Value}{xs:List Value}(h:w.ownsRow base e size v k xs)(hk: ∀q,v.ownBlock=some q->w'.heap[q]? =w.heap[q]?):w'.ownsRow base e size v k xs:=by
 refine⟨h.1,?_⟩
 rcases h.2 with h2 | ⟨g,cap,cur,hv,hg,hh,rest⟩
 ·exact .inl h2
 ·exact .inr ⟨g,cap,cur,hv,hg,by rw[hk g (by rw[hv];rfl)];exact hh,rest⟩
structure Sc (L:Nat->Prop) (w:World) (s fb ab gb vb xb ob:Nat) (M:Mem) (Q:Nat->Prop) (nf:Nat) (ff:Int->Option Value) (na:Nat) (fa:Int->Option Value) (X:Array Value) (W:World):Prop where
 ex: ∃K:Nat->Prop,(∀b,L b->K b)/\ (K fb/\K ab/\K gb/\K vb/\K xb/\K ob)/\ (∀b,Q b->K b)/\MemAt K W s M
 kw:Kw L w W
 f:MapV W fb nf ff
 a:MapV W ab na fa
 ne:fb≠ab
 gB:Blk W gb 172 #[.pointer (some ⟨s,0,none⟩),.int .i64 (-1),.map (some fb),.map (some ab)]
 vB:Blk W vb 168 #[.pointer (some ⟨s,0,none⟩),.int .i64 (-1)]
 xB:Blk W xb 30 X
 oB:Blk W ob 30 #[.slice none 0 0,.slice none 0 0,.slice none 0 0]
 nx:xb≠ob
 lo:w.heap.size<=fb/\w.heap.size<=ab/\w.heap.size<=gb/\w.heap.size<=vb/\w.heap.size<=xb/\w.heap.size<=ob
 qt: ∀b,Q b->w.heap.size<=b/\ ∃e cs,Blk W b e cs/\rowTy e
structure Rk (Q:Nat->Prop) (W W':World):Prop where
 size:W.heap.size<=W'.heap.size
 q: ∀b,Q b->W'.heap[b]? =W.heap[b]?
 e: ∀b cs,Blk W b 132 cs->Blk W' b 132 cs
theorem EntIn.rk{Q:Nat->Prop}{W W':World}{p:InV}(h:EntIn W p)(hk: ∀b cs,Blk W b 132 cs->Blk W' b 132 cs):EntIn W' p:=RowT.heap h fun q cs _ hq=>hk q cs hq
theorem map_blk{w:World}{b:Nat}{t:TypeId}{cs:Array Value}(h: ∃es cl,w.heap[b]? =some (.map es cl))(hb:Blk w b t cs):False:=by
 obtain⟨es,cl,h⟩:=h
 unfold Blk at hb
 rw[h]at hb;cases hb
namespace Sc
variable{L:Nat->Prop}{w W W':World}{s fb ab gb vb xb ob:Nat}{M:Mem}{Q:Nat->Prop}{nf na:Nat}{ff fa:Int->Option Value}{X:Array Value}
theorem m(h:Sc L w s fb ab gb vb xb ob M Q nf ff na fa X W):MemAt L W s M:=by obtain⟨K,h1,-,-,h2⟩:=h.ex;exact h2.sub h1
theorem below(h:Sc L w s fb ab gb vb xb ob M Q nf ff na fa X W)(hb:Below W.heap.size W W'):Sc L w s fb ab gb vb xb ob M Q nf ff na fa X W'/\Rk Q W W':=by
 obtain⟨K,h1,h2,h3,h4⟩:=h.ex
 have hB: ∀{b:Nat} {t:TypeId} {cs:Array Value},Blk W b t cs->Blk W' b t cs:=fun hq=>Blk.of_heap (hb.block _ hq.lt) hq
 exact⟨⟨⟨K,h1,h2,h3,h4.below hb⟩,h.kw.trans (Kw.below h.m.bd hb),h.f.below hb,h.a.below hb,h.ne,hB h.gB,hB h.vB,hB h.xB,hB h.oB,h.nx,h.lo,fun b hq=>by obtain⟨q1,e,cs,q2,q3⟩:=h.qt b hq;exact⟨q1,e,cs,hB q2,q3⟩⟩,
  hb.size,fun b hq=>by obtain⟨-,e,cs,q2,-⟩:=h.qt b hq;exact hb.block b q2.lt,fun b cs hq=>hB hq⟩
theorem call(h:Sc L w s fb ab gb vb xb ob M Q nf ff na fa X W){P:FuncId}{args:Array Value}{R:Ending->World->Prop}
  (hc: ∀K,MemAt K W s M->Calls Tryz.prog P args W fun e w'=>R e w'/\MemAt K w' s M/\Kw K W w'):
  Calls Tryz.prog P args W fun e w'=>R e w'/\Sc L w s fb ab gb vb xb ob M Q nf ff na fa X w'/\Rk Q W w'/\ ∀b,b<W.heap.size-> ¬ StoreTy W b->w'.heap[b]? =W.heap[b]?:=by
 obtain⟨K,h1,⟨k1,k2,k3,k4,k5,k6⟩,h3,h4⟩:=h.ex
 refine(hc K h4).mono ?_
 rintro e w' ⟨hr,hm,hk⟩
 have hB: ∀{b:Nat} {t:TypeId} {cs:Array Value},K b->Blk W b t cs->Blk w' b t cs:=fun hb hq=>Blk.of_heap (hk.k.k.block _ hb) hq
 exact⟨hr,⟨⟨K,h1,⟨k1,k2,k3,k4,k5,k6⟩,h3,hm⟩,h.kw.trans (hk.sub h1),h.f.heap (hk.k.k.block _ k1),h.a.heap (hk.k.k.block _ k2),h.ne,hB k3 h.gB,hB k4 h.vB,hB k5 h.xB,hB k6 h.oB,h.nx,h.lo,fun b hq=>by obtain⟨q1,e,cs,q2,q3⟩:=h.qt b hq;exact⟨q1,e,cs,hB (h3 b hq) q2,q3⟩⟩,
  ⟨hk.size,fun b hq=>hk.k.k.block b (h3 b hq),fun b cs hq=>hk.blk hq not_st_entry⟩,hk.o⟩
theorem kwNew(h:Sc L w s fb ab gb vb xb ob M Q nf ff na fa X W)(hL:Bd L w){row:Option Nat}(hr: ∀q,row=some q->w.heap.size<=q)(hi:KI W W')(hg:W.grownBy W' row):Kw L w W':=
 have hs:=h.kw.size
 ⟨⟨⟨hg.os.trans h.kw.k.k.os,hg.tape.trans h.kw.k.k.tape,hg.output.trans h.kw.k.k.output,Nat.le_trans hs hg.size,fun b hb=>(hg.block b (by have:=hL b hb;omega) (fun e=>by have:=hr b e.symm;have:=hL b hb;omega)).trans (h.kw.k.k.block b hb)⟩,h.kw.k.i.trans hi⟩,
  fun b hb hn=>(hg.block b (by omega) (fun e=>by have:=hr b e.symm;omega)).trans (h.kw.o b hb hn)⟩
theorem grow(h:Sc L w s fb ab gb vb xb ob M Q nf ff na fa X W)(hL:Bd L w){Q':Nat->Prop}{v:Value}{e:TypeId}{k:Nat}{xs ys:List Value}{v':Value}{k':Nat}{n:Nat}(hv:W.ownsRow w.heap.size e n v k xs)(he:rowTy e)(hq: ∀q,v.ownBlock=some q->Q q)(hv':W'.ownsRow w.heap.size e n v' k' ys)(hg:W.grownBy W' v.ownBlock)
  (hr:v'.ownBlock=v.ownBlock∨v'.ownBlock=some W.heap.size) (hQ: ∀b,Q' b->(Q b/\v.ownBlock≠some b)∨v'.ownBlock=some b):Sc L w s fb ab gb vb xb ob M Q' nf ff na fa X W'/\ (∀b t cs,Blk W b t cs->t≠e->Blk W' b t cs):=by
 obtain⟨K,h1,⟨k1,k2,k3,k4,k5,k6⟩,h3,h4⟩:=h.ex
 have hty: ∀b t cs,Blk W b t cs->t≠e->Blk W' b t cs:=fun b t cs hb ht=>Blk.of_heap (hg.block b hb.lt (fun q=>by
  obtain⟨-,cs',hq⟩:=own_type hv q.symm
  exact Blk.ne_ hb hq ht rfl)) hb
 have hnew: ∀b,v'.ownBlock=some b->b<W.heap.size->v.ownBlock=some b:=fun b hb hlt=>by
  rcases hr with hr | hr
  ·rw[<-hr];exact hb
  ·rw[hr]at hb
   have:=Option.some.inj hb
   omega
 have hmap: ∀{b:Nat},(∃es cl,W.heap[b]? =some (.map es cl))->b<W.heap.size->W'.heap[b]? =W.heap[b]?:=fun hb hlt=>hg.block _ hlt fun q=>by
  obtain⟨-,cs',hq⟩:=own_type hv q.symm
  exact map_blk hb hq
 have hK:Bd (fun b=>K b∨v'.ownBlock=some b) W':=fun b hb=>by
  rcases hb with hb | hb
  ·exact Nat.lt_of_lt_of_le (h4.bd b hb) hg.size
  ·exact(hv'.lt b hb).2
 have hm':MemAt (fun b=>K b∨v'.ownBlock=some b) W' s M:=by
  refine h4.move hK hg.size (fun b hb hlt=>?_) (fun b hlt hn=>hg.block b hlt (fun e=>hn (h3 b (hq b e.symm))))
  rcases hb with hb | hb
  ·exact hb
  ·exact h3 b (hq b (hnew b hb hlt))
 have hi:KI W W':=fun b t cs ht hb=>hty b t cs hb (by rcases ht with rfl | rfl <;> rcases he with rfl | rfl | rfl <;> decide)
 have d1:172≠e:=by rcases he with rfl | rfl | rfl <;> decide
 have d2:168≠e:=by rcases he with rfl | rfl | rfl <;> decide
 have d3:30≠e:=by rcases he with rfl | rfl | rfl <;> decide
 refine⟨⟨⟨_,fun b hb=>.inl (h1 b hb),⟨.inl k1,.inl k2,.inl k3,.inl k4,.inl k5,.inl k6⟩,fun b hb=>?_,hm'⟩,h.kwNew hL (fun q e=>(hv.lt q e).1) hi hg,h.f.heap (hmap h.f.obj h.f.lt),h.a.heap (hmap h.a.obj h.a.lt),h.ne,hty _ _ _ h.gB d1,hty _ _ _ h.vB d2,hty _ _ _ h.xB d3,hty _ _ _ h.oB d3,h.nx,h.lo,fun b hb=>?_⟩,hty⟩
 ·rcases hQ b hb with q | q
  ·exact .inl (h3 b q.1)
  ·exact .inr q
 ·rcases hQ b hb with q | q
  ·obtain⟨q1,e',cs,q2,q3⟩:=h.qt b q.1
   exact⟨q1,_,cs,Blk.of_heap (hg.block b q2.lt (fun e=>q.2 e.symm)) q2,q3⟩
  ·obtain⟨q1,cs',q2⟩:=own_type hv' q
   exact⟨q1,_,cs',q2,he⟩
theorem setX(h:Sc L w s fb ab gb vb xb ob M Q nf ff na fa X W)(hL:Bd L w)(i:Nat)(v:Value):Sc L w s fb ab gb vb xb ob M Q nf ff na fa (X.setIfInBounds i v) (W.setCell ⟨xb,i,none⟩ v)/\Rk Q W (W.setCell ⟨xb,i,none⟩ v):=by
 obtain⟨K,h1,⟨k1,k2,k3,k4,k5,k6⟩,h3,h4⟩:=h.ex
 have hfar: ∀{b:Nat} {t:TypeId} {cs:Array Value},Blk W b t cs->b≠xb->Blk (W.setCell ⟨xb,i,none⟩ v) b t cs:=fun hb hn=>hb.far (p:=⟨xb,i,none⟩) hn v
 have hq: ∀b,Q b->b≠xb:=fun b hb=>by
  obtain⟨-,e,cs,q2,q3⟩:=h.qt b hb
  exact Blk.ne_ q2 h.xB (by rcases q3 with rfl | rfl | rfl <;> decide)
 have hhp: ∀b,b≠xb->(W.setCell ⟨xb,i,none⟩ v).heap[b]? =W.heap[b]?:=fun b hb=>Below.heap_setCell _ _ _ _ hb
 have n1:fb≠xb:=fun e=>map_blk h.f.obj (e▸h.xB)
 have n2:ab≠xb:=fun e=>map_blk h.a.obj (e▸h.xB)
 have hsz:(W.setCell ⟨xb,i,none⟩ v).heap.size=W.heap.size:=by simp[World.setCell]
 have hs:=h.kw.size
 have hl:=h.lo
 refine⟨⟨⟨K,h1,⟨k1,k2,k3,k4,k5,k6⟩,h3,h4.set h.xB k5 i v⟩,⟨⟨⟨h.kw.k.k.os,h.kw.k.k.tape,h.kw.k.k.output,by rw[hsz];exact hs,fun b hb=>?_⟩,h.kw.k.i.setNew (by omega) i v⟩,fun b hb hn=>(hhp b (by omega)).trans (h.kw.o b hb hn)⟩,h.f.heap (hhp _ n1),h.a.heap (hhp _ n2),h.ne,hfar h.gB (Blk.ne_ h.gB h.xB (by decide)),hfar h.vB (Blk.ne_ h.vB h.xB (by decide)),h.xB.set_ i v,hfar h.oB (Ne.symm h.nx),h.nx,h.lo,fun b hb=>?_⟩,?_,fun b hb=>hhp b (hq b hb),fun b cs hb=>hfar hb (Blk.ne_ hb h.xB (by decide))⟩
 ·exact(hhp b (by have:=hL b hb;omega)).trans (h.kw.k.k.block b hb)
 ·obtain⟨q1,e,cs,q2,q3⟩:=h.qt b hb
  exact⟨q1,e,cs,hfar q2 (hq b hb),q3⟩
 ·rw[hsz];exact Nat.le_refl _
theorem iter(h:Sc L w s fb ab gb vb xb ob M Q nf ff na fa X W)(hL:Bd L w){r:Nat}(hr: ∀t cs,¬ Blk W r t cs)(h1:r≠fb)(h2:r≠ab)(h3:w.heap.size<=r)(h4:r<W.heap.size)(hg:W.grownBy W' (some r)):Sc L w s fb ab gb vb xb ob M Q nf ff na fa X W'/\Rk Q W W':=by
 obtain⟨K,q1,q2,q3,q4⟩:=h.ex
 have hB: ∀{b:Nat} {t:TypeId} {cs:Array Value},Blk W b t cs->Blk W' b t cs:=fun {b t cs} hb=>Blk.of_heap (hg.block b hb.lt (fun e=>by
  have e:=Option.some.inj e
  subst e
  exact hr _ _ hb)) hb
 have hm:MemAt K W' s M:=((MemAt.wide q4).grown (.inr ⟨h4,fun⟨t,cs,hb,_⟩=>hr t cs hb⟩) hg).sub fun _ q=>.inl q
 exact⟨⟨⟨K,q1,q2,q3,hm⟩,h.kwNew hL (fun q e=>by rw[<-Option.some.inj e];exact h3) (fun b t cs _ hb=>hB hb) hg,h.f.kept hg (fun q=>h1 (Option.some.inj q).symm),h.a.kept hg (fun q=>h2 (Option.some.inj q).symm),h.ne,hB h.gB,hB h.vB,hB h.xB,hB h.oB,h.nx,h.lo,fun b hq=>by obtain⟨q1,e,cs,q2,q3⟩:=h.qt b hq;exact⟨q1,e,cs,hB q2,q3⟩⟩,
  hg.size,fun b hq=>by
   obtain⟨-,e,cs,q2,-⟩:=h.qt b hq
   exact hg.block b q2.lt (fun e=>by
    have e:=Option.some.inj e
    subst e
    exact hr _ _ q2),fun b cs hq=>hB hq⟩
theorem mapF(h:Sc L w s fb ab gb vb xb ob M Q nf ff na fa X W)(hL:Bd L w){ff':Int->Option Value}{nf':Nat}(hm:MapV W' fb nf' ff')(hg:W.grownBy W' (some fb)):Sc L w s fb ab gb vb xb ob M Q nf' ff' na fa X W'/\Rk Q W W':=by
 obtain⟨K,h1,⟨k1,k2,k3,k4,k5,k6⟩,h3,h4⟩:=h.ex
 have hB: ∀{b:Nat} {t:TypeId} {cs:Array Value},Blk W b t cs->Blk W' b t cs:=fun {b t cs} hb=>Blk.of_heap (hg.block b hb.lt (fun e=>by
  have e:=Option.some.inj e
  subst e
  exact map_blk h.f.obj hb)) hb
 exact⟨⟨⟨K,h1,⟨k1,k2,k3,k4,k5,k6⟩,h3,h4.grown k1 hg⟩,h.kwNew hL (fun q e=>by have:=h.lo.1;have:=Option.some.inj e;omega) (KI.grown h.f.obj hg) hg,hm,h.a.kept hg (fun q=>h.ne (Option.some.inj q).symm),h.ne,hB h.gB,hB h.vB,hB h.xB,hB h.oB,h.nx,h.lo,fun b hq=>by obtain⟨q1,e,cs,q2,q3⟩:=h.qt b hq;exact⟨q1,e,cs,hB q2,q3⟩⟩,
  hg.size,fun b hq=>by
   obtain⟨-,e,cs,q2,-⟩:=h.qt b hq
   exact hg.block b q2.lt (fun e=>by
    have e:=Option.some.inj e
    subst e
    exact map_blk h.f.obj q2),fun b cs hq=>hB hq⟩
theorem mapA(h:Sc L w s fb ab gb vb xb ob M Q nf ff na fa X W)(hL:Bd L w){fa':Int->Option Value}{na':Nat}(hm:MapV W' ab na' fa')(hg:W.grownBy W' (some ab)):Sc L w s fb ab gb vb xb ob M Q nf ff na' fa' X W'/\Rk Q W W':=by
 obtain⟨K,h1,⟨k1,k2,k3,k4,k5,k6⟩,h3,h4⟩:=h.ex
 have hB: ∀{b:Nat} {t:TypeId} {cs:Array Value},Blk W b t cs->Blk W' b t cs:=fun {b t cs} hb=>Blk.of_heap (hg.block b hb.lt (fun e=>by
  have e:=Option.some.inj e
  subst e
  exact map_blk h.a.obj hb)) hb
 exact⟨⟨⟨K,h1,⟨k1,k2,k3,k4,k5,k6⟩,h3,h4.grown k2 hg⟩,h.kwNew hL (fun q e=>by have:=h.lo.2.1;have:=Option.some.inj e;omega) (KI.grown h.a.obj hg) hg,h.f.kept hg (fun q=>h.ne (Option.some.inj q)),hm,h.ne,hB h.gB,hB h.vB,hB h.xB,hB h.oB,h.nx,h.lo,fun b hq=>by obtain⟨q1,e,cs,q2,q3⟩:=h.qt b hq;exact⟨q1,e,cs,hB q2,q3⟩⟩,
  hg.size,fun b hq=>by
   obtain⟨-,e,cs,q2,-⟩:=h.qt b hq
   exact hg.block b q2.lt (fun e=>by
    have e:=Option.some.inj e
    subst e
    exact map_blk h.a.obj q2),fun b cs hq=>hB hq⟩
end Sc
def Q3(iv ov mv:Value):Nat->Prop:=fun b=>iv.ownBlock=some b∨ov.ownBlock=some b∨mv.ownBlock=some b
structure Rs (w:World) (iv ov mv:Value) (I:List InV) (O:List (Int×Int×Int)) (Md:List Int) (fa:Int->Option InV) (W:World):Prop where
 ri:W.ownsRow w.heap.size 93 4 iv I.length (I.flatMap encI)
 ro:W.ownsRow w.heap.size 144 3 ov O.length (O.flatMap encD)
 rm:W.ownsRow w.heap.size 3 1 mv Md.length (Md.flatMap encM)
 en: ∀p∈I,EntIn W p
 ea: ∀i p,fa i=some p->EntIn W p
namespace Rs
variable{w W W':World}{iv ov mv:Value}{I:List InV}{O:List (Int×Int×Int)}{Md:List Int}{fa:Int->Option InV}
theorem keep(h:Rs w iv ov mv I O Md fa W)(hk:Rk (Q3 iv ov mv) W W'):Rs w iv ov mv I O Md fa W':=
 ⟨own_same h.ri fun q hq=>hk.q q (.inl hq),own_same h.ro fun q hq=>hk.q q (.inr (.inl hq)),own_same h.rm fun q hq=>hk.q q (.inr (.inr hq)),fun p hp=>(h.en p hp).rk (Q:=fun _=>True) hk.e,fun i p hp=>(h.ea i p hp).rk (Q:=fun _=>True) hk.e⟩
end Rs
structure Sw (L:Nat->Prop) (w:World) (s fb ab gb vb xb ob:Nat) (M:Mem) (nf:Nat) (ff:Int->Option Value) (na:Nat) (fa:Int->Option InV) (iv ov mv:Value) (I:List InV) (O:List (Int×Int×Int)) (Md:List Int) (W:World):Prop where
 c:Sc L w s fb ab gb vb xb ob M (Q3 iv ov mv) nf ff na (faV fa) #[iv,ov,mv] W
 r:Rs w iv ov mv I O Md fa W
namespace Sw
variable{L:Nat->Prop}{w W W':World}{s fb ab gb vb xb ob:Nat}{M:Mem}{nf na:Nat}{ff:Int->Option Value}{fa:Int->Option InV}{iv ov mv:Value}{I:List InV}{O:List (Int×Int×Int)}{Md:List Int}
theorem below(h:Sw L w s fb ab gb vb xb ob M nf ff na fa iv ov mv I O Md W)(hb:Below W.heap.size W W'):Sw L w s fb ab gb vb xb ob M nf ff na fa iv ov mv I O Md W':=⟨(h.c.below hb).1,h.r.keep (h.c.below hb).2⟩
theorem alloc(h:Sw L w s fb ab gb vb xb ob M nf ff na fa iv ov mv I O Md W)(o:Obj):Sw L w s fb ab gb vb xb ob M nf ff na fa iv ov mv I O Md (W.alloc o):=h.below ((Below.refl _ _).alloc (Nat.le_refl _) o)
theorem drew(h:Sw L w s fb ab gb vb xb ob M nf ff na fa iv ov mv I O Md W):Sw L w s fb ab gb vb xb ob M nf ff na fa iv ov mv I O Md W.drew:=h.below (below_drew W)
theorem call(h:Sw L w s fb ab gb vb xb ob M nf ff na fa iv ov mv I O Md W){P:FuncId}{args:Array Value}{R:Ending->World->Prop}
  (hc: ∀K,MemAt K W s M->Calls Tryz.prog P args W fun e w'=>R e w'/\MemAt K w' s M/\Kw K W w'):
  Calls Tryz.prog P args W fun e w'=>R e w'/\Sw L w s fb ab gb vb xb ob M nf ff na fa iv ov mv I O Md w'/\ ∀b,b<W.heap.size-> ¬ StoreTy W b->w'.heap[b]? =W.heap[b]?:=by
 refine(h.c.call hc).mono ?_
 rintro e w' ⟨h1,h2,h3,h4⟩
 exact⟨h1,⟨h2,h.r.keep h3⟩,h4⟩
theorem ne_ty(h:Sw L w s fb ab gb vb xb ob M nf ff na fa iv ov mv I O Md W):(∀q,iv.ownBlock=some q->ov.ownBlock≠some q/\mv.ownBlock≠some q)/\ (∀q,ov.ownBlock=some q->mv.ownBlock≠some q):=by
 refine⟨fun q h1=>⟨fun h2=>?_,fun h2=>?_⟩,fun q h1 h2=>?_⟩
 ·obtain⟨-,c1,b1⟩:=own_type h.r.ri h1
  obtain⟨-,c2,b2⟩:=own_type h.r.ro h2
  exact Blk.ne_ b1 b2 (by decide) rfl
 ·obtain⟨-,c1,b1⟩:=own_type h.r.ri h1
  obtain⟨-,c2,b2⟩:=own_type h.r.rm h2
  exact Blk.ne_ b1 b2 (by decide) rfl
 ·obtain⟨-,c1,b1⟩:=own_type h.r.ro h1
  obtain⟨-,c2,b2⟩:=own_type h.r.rm h2
  exact Blk.ne_ b1 b2 (by decide) rfl
theorem pushM(h:Sw L w s fb ab gb vb xb ob M nf ff na fa iv ov mv I O Md W)(hL:Bd L w){v':Value}{Md':List Int}{n':Nat}(hn:n'=Md'.length)(ho:W'.ownsRow w.heap.size 3 1 v' n' (Md'.flatMap encM))(hg:W.grownBy W' mv.ownBlock)(hr:v'.ownBlock=mv.ownBlock∨v'.ownBlock=some W.heap.size):
  Sw L w s fb ab gb vb xb ob M nf ff na fa iv ov v' I O Md' (W'.setCell ⟨xb,2,none⟩ v'):=by
 subst hn
 obtain⟨n1,n2⟩:=h.ne_ty
 obtain⟨h1,h2⟩:=h.c.grow (Q':=Q3 iv ov v') hL h.r.rm (.inr (.inr rfl)) (fun q hq=>.inr (.inr hq)) ho hg hr (fun b hb=>by
  rcases hb with hb | hb | hb
  ·exact .inl ⟨.inl hb,(n1 b hb).2⟩
  ·exact .inl ⟨.inr (.inl hb),n2 b hb⟩
  ·exact .inr hb)
 obtain⟨h3,h4⟩:=h1.setX hL 2 v'
 have he: ∀b cs,Blk W b 132 cs->Blk W' b 132 cs:=fun b cs hb=>h2 b _ cs hb (by decide)
 have hh: ∀q,mv.ownBlock≠some q->q<W.heap.size->W'.heap[q]? =W.heap[q]?:=fun q hq hl=>hg.block q hl (fun e=>hq e.symm)
 exact⟨h3,Rs.keep ⟨own_same h.r.ri fun q hq=>hh q (n1 q hq).2 (h.r.ri.lt q hq).2,own_same h.r.ro fun q hq=>hh q (n2 q hq) (h.r.ro.lt q hq).2,ho,fun p hp=>(h.r.en p hp).rk (Q:=fun _=>True) he,fun i p hp=>(h.r.ea i p hp).rk (Q:=fun _=>True) he⟩ h4⟩
theorem pushO(h:Sw L w s fb ab gb vb xb ob M nf ff na fa iv ov mv I O Md W)(hL:Bd L w){v':Value}{O':List (Int×Int×Int)}{n':Nat}(hn:n'=O'.length)(ho:W'.ownsRow w.heap.size 144 3 v' n' (O'.flatMap encD))(hg:W.grownBy W' ov.ownBlock)(hr:v'.ownBlock=ov.ownBlock∨v'.ownBlock=some W.heap.size):
  Sw L w s fb ab gb vb xb ob M nf ff na fa iv v' mv I O' Md (W'.setCell ⟨xb,1,none⟩ v'):=by
 subst hn
 obtain⟨n1,n2⟩:=h.ne_ty
 obtain⟨h1,h2⟩:=h.c.grow (Q':=Q3 iv v' mv) hL h.r.ro (.inr (.inl rfl)) (fun q hq=>.inr (.inl hq)) ho hg hr (fun b hb=>by
  rcases hb with hb | hb | hb
  ·exact .inl ⟨.inl hb,(n1 b hb).1⟩
  ·exact .inr hb
  ·exact .inl ⟨.inr (.inr hb),fun e=>n2 b e hb⟩)
 obtain⟨h3,h4⟩:=h1.setX hL 1 v'
 have he: ∀b cs,Blk W b 132 cs->Blk W' b 132 cs:=fun b cs hb=>h2 b _ cs hb (by decide)
 have hh: ∀q,ov.ownBlock≠some q->q<W.heap.size->W'.heap[q]? =W.heap[q]?:=fun q hq hl=>hg.block q hl (fun e=>hq e.symm)
 exact⟨h3,Rs.keep ⟨own_same h.r.ri fun q hq=>hh q (n1 q hq).1 (h.r.ri.lt q hq).2,ho,own_same h.r.rm fun q hq=>hh q (fun e=>n2 q e hq) (h.r.rm.lt q hq).2,fun p hp=>(h.r.en p hp).rk (Q:=fun _=>True) he,fun i p hp=>(h.r.ea i p hp).rk (Q:=fun _=>True) he⟩ h4⟩
theorem pushI(h:Sw L w s fb ab gb vb xb ob M nf ff na fa iv ov mv I O Md W)(hL:Bd L w){v':Value}{p:InV}{n':Nat}(hn:n'=(I++[p]).length)(ho:W'.ownsRow w.heap.size 93 4 v' n' ((I++[p]).flatMap encI))(hp:EntIn W p)(hg:W.grownBy W' iv.ownBlock)(hr:v'.ownBlock=iv.ownBlock∨v'.ownBlock=some W.heap.size):
  Sw L w s fb ab gb vb xb ob M nf ff na fa v' ov mv (I++[p]) O Md (W'.setCell ⟨xb,0,none⟩ v'):=by
 subst hn
 obtain⟨n1,n2⟩:=h.ne_ty
 obtain⟨h1,h2⟩:=h.c.grow (Q':=Q3 v' ov mv) hL h.r.ri (.inl rfl) (fun q hq=>.inl hq) ho hg hr (fun b hb=>by
  rcases hb with hb | hb | hb
  ·exact .inr hb
  ·exact .inl ⟨.inr (.inl hb),fun e=>(n1 b e).1 hb⟩
  ·exact .inl ⟨.inr (.inr hb),fun e=>(n1 b e).2 hb⟩)
 obtain⟨h3,h4⟩:=h1.setX hL 0 v'
 have he: ∀b cs,Blk W b 132 cs->Blk W' b 132 cs:=fun b cs hb=>h2 b _ cs hb (by decide)
 have hh: ∀q,iv.ownBlock≠some q->q<W.heap.size->W'.heap[q]? =W.heap[q]?:=fun q hq hl=>hg.block q hl (fun e=>hq e.symm)
 exact⟨h3,Rs.keep ⟨ho,own_same h.r.ro fun q hq=>hh q (fun e=>(n1 q e).1 hq) (h.r.ro.lt q hq).2,own_same h.r.rm fun q hq=>hh q (fun e=>(n1 q e).2 hq) (h.r.rm.lt q hq).2,fun x hx=>by
  rcases List.mem_append.1 hx with hx | hx
  ·exact(h.r.en x hx).rk (Q:=fun _=>True) he
  ·rw[List.mem_singleton.1 hx];exact hp.rk (Q:=fun _=>True) he,fun i p hp=>(h.r.ea i p hp).rk (Q:=fun _=>True) he⟩ h4⟩
theorem mapF(h:Sw L w s fb ab gb vb xb ob M nf ff na fa iv ov mv I O Md W)(hL:Bd L w){ff':Int->Option Value}{nf':Nat}(hm:MapV W' fb nf' ff')(hg:W.grownBy W' (some fb)):Sw L w s fb ab gb vb xb ob M nf' ff' na fa iv ov mv I O Md W':=
 ⟨(h.c.mapF hL hm hg).1,h.r.keep (h.c.mapF hL hm hg).2⟩
theorem mapA(h:Sw L w s fb ab gb vb xb ob M nf ff na fa iv ov mv I O Md W)(hL:Bd L w){num:Int}{p:InV}{na':Nat}(hm:MapV W' ab na' (fun j=>if j=num then some (.agg (encI p).toArray)else faV fa j))(hp:EntIn W p)(hg:W.grownBy W' (some ab)):Sw L w s fb ab gb vb xb ob M nf ff na' (fun j=>if j=num then some p else fa j) iv ov mv I O Md W':=by
 have hm':MapV W' ab na' (faV fun j=>if j=num then some p else fa j):=hm.congr fun j=>by
  unfold faV
  by_cases e:j=num <;> simp[e]
 have h1:=h.c.mapA hL hm' hg
 have h2:=h.r.keep h1.2
 exact⟨h1.1,h2.ri,h2.ro,h2.rm,h2.en,fun i q hq=>by
  by_cases e:i=num
  ·simp only[if_pos e]at hq
   rw[<-Option.some.inj hq]
   exact hp.rk (Q:=fun _=>True) h1.2.e
  ·simp only[if_neg e]at hq
   exact h2.ea i q hq⟩
theorem iter(h:Sw L w s fb ab gb vb xb ob M nf ff na fa iv ov mv I O Md W)(hL:Bd L w){r:Nat}(hr: ∀t cs,¬ Blk W r t cs)(h1:r≠fb)(h2:r≠ab)(h3:w.heap.size<=r)(h4:r<W.heap.size)(hg:W.grownBy W' (some r)):Sw L w s fb ab gb vb xb ob M nf ff na fa iv ov mv I O Md W':=
 ⟨(h.c.iter hL hr h1 h2 h3 h4 hg).1,h.r.keep (h.c.iter hL hr h1 h2 h3 h4 hg).2⟩
end Sw
theorem RangeV.heap{w w':World}{b r n cnt:Nat}{f:Int->Option Value}{lf:Int->Bool}(h:RangeV w b r n f lf cnt)(e1:w'.heap[b]? =w.heap[b]?)(e2:w'.heap[r]? =w.heap[r]?):RangeV w' b r n f lf cnt:=by
 obtain⟨D,left,hr,hf,hl⟩:=h
 refine⟨D,left,?_,hf,hl⟩
 unfold World.ranges at hr⊢
 rw[e1,e2]
 exact hr
theorem RangeV.noBlk{w:World}{b r n cnt:Nat}{f:Int->Option Value}{lf:Int->Bool}(h:RangeV w b r n f lf cnt)(t:TypeId)(cs:Array Value): ¬ Blk w r t cs:=by
 obtain⟨D,left,hr,hf,hl⟩:=h
 obtain⟨es,clock,since,seen,c0,h1,h2,h3,h4,h5,-⟩:=hr
 intro hb
 unfold Blk at hb
 rw[h5]at hb;cases hb
theorem RangeV.cnt_le{w:World}{b r n cnt:Nat}{f:Int->Option Value}{lf:Int->Bool}(h:RangeV w b r n f lf cnt):cnt<=n:=by
 obtain⟨D,left,hr,hf,hl⟩:=h
 obtain⟨es,clock,since,seen,c0,h1,h2,h3,h4,h5,h6,h7,-⟩:=hr
 rw[<-h7]
 refine Nat.le_trans ?_ h3
 unfold leftOf
 exact Array.size_filter_le
theorem RangeV.noMap{w:World}{b r n cnt:Nat}{f:Int->Option Value}{lf:Int->Bool}(h:RangeV w b r n f lf cnt){q:Nat}(hq: ∃es cl,w.heap[q]? =some (.map es cl)):r≠q:=by
 obtain⟨D,left,hr,hf,hl⟩:=h
 obtain⟨es,clock,since,seen,c0,h1,h2,h3,h4,h5,-⟩:=hr
 rintro rfl
 obtain⟨es',cl',hq⟩:=hq
 rw[h5]at hq;cases hq
end
section
open Go.RowKit
set_option maxHeartbeats 2000000
def madeTo(M:Mem)(c:Nat):List Int:=(List.range c).map fun k=>rd M.ws (mdw (k:Nat))
def opsC(M:Mem)(c k:Nat):List (Int×Int×Int):=(List.range k).filterMap fun j=>if rd M.ws (fdw (c:Nat) (j:Nat))=0 then none else some ((c:Int),(j:Int),rd M.ws (fdw (c:Nat) (j:Nat)))
def opsTo(M:Mem)(c:Nat):List (Int×Int×Int):=(List.range c).flatMap fun q=>opsC M q 4
def filesO(FL:List Int)(O:List (Int×Int×Int)):Int->Option Value:=fun j=>if j∈FL∨j∈O.map (·.2.2)then some (.bool true)else none
theorem madeTo_succ(M:Mem)(c:Nat):madeTo M (c+1)=madeTo M c++[rd M.ws (mdw (c:Nat))]:=by
 unfold madeTo
 rw[List.range_succ,List.map_append];rfl
theorem madeTo_len(M:Mem)(c:Nat):(madeTo M c).length=c:=by simp[madeTo]
theorem opsC_zero{M:Mem}{c k:Nat}(h:rd M.ws (fdw (c:Nat) (k:Nat))=0):opsC M c (k+1)=opsC M c k:=by
 unfold opsC
 rw[List.range_succ,List.filterMap_append]
 simp[h]
theorem opsC_some{M:Mem}{c k:Nat}(h:rd M.ws (fdw (c:Nat) (k:Nat))≠0):opsC M c (k+1)=opsC M c k++[((c:Int),(k:Int),rd M.ws (fdw (c:Nat) (k:Nat)))]:=by
 unfold opsC
 rw[List.range_succ,List.filterMap_append]
 simp[h]
theorem opsC_len(M:Mem)(c k:Nat):(opsC M c k).length<=k:=by
 unfold opsC
 exact Nat.le_trans (List.length_filterMap_le _ _) (by simp)
theorem opsTo_succ(M:Mem)(c:Nat):opsTo M (c+1)=opsTo M c++opsC M c 4:=by
 unfold opsTo
 rw[List.range_succ,List.flatMap_append];simp
theorem opsTo_len(M:Mem): ∀c,(opsTo M c).length<=4*c
 | 0=>by simp[opsTo]
 | c+1=>by rw[opsTo_succ,List.length_append];have:=opsTo_len M c;have:=opsC_len M c 4;omega
theorem opsTo_num{M:Mem}{n:Nat}(h: ∀c k:Nat,c<n->k<4->0<=rd M.ws (fdw (c:Nat) (k:Nat))/\rd M.ws (fdw (c:Nat) (k:Nat))<=257){x:Int×Int×Int}(hx:x∈opsTo M n):0<=x.2.2/\x.2.2<=257:=by
 unfold opsTo at hx
 obtain⟨c,hc,hx⟩:=List.mem_flatMap.1 hx
 unfold opsC at hx
 obtain⟨k,hk,hx⟩:=List.mem_filterMap.1 hx
 split at hx
 ·cases hx
 ·rw[<-Option.some.inj hx]
  exact h c k (List.mem_range.1 hc) (List.mem_range.1 hk)
theorem filesO_num{M:Mem}{n:Nat}{FL:List Int}(h: ∀c k:Nat,c<n->k<4->0<=rd M.ws (fdw (c:Nat) (k:Nat))/\rd M.ws (fdw (c:Nat) (k:Nat))<=257)(hf: ∀i∈FL,0<=i/\i<=257){i:Int}(hi:(filesO FL (opsTo M n) i).isSome=true):0<=i/\i<=257:=by
 unfold filesO at hi
 split at hi
 ·rename_i q
  rcases q with q | q
  ·exact hf i q
  ·obtain⟨x,hx,rfl⟩:=List.mem_map.1 q
   exact opsTo_num h hx
 ·cases hi
theorem filesO_nil(g:Gt)(i:Int):filesO g.fs [] i=filesV g i:=by unfold filesO filesV;simp
theorem filesO_snoc(FL:List Int)(O:List (Int×Int×Int))(x:Int×Int×Int)(j:Int):(if j=x.2.2 then some (.bool true)else filesO FL O j)=filesO FL (O++[x]) j:=by
 unfold filesO
 by_cases e:j=x.2.2
 ·simp[e]
 ·have q:(j∈FL∨j∈(O++[x]).map (·.2.2))↔(j∈FL∨j∈O.map (·.2.2)):=by
   rw[List.map_append,List.mem_append]
   simp[e]
  rw[if_neg e]
  by_cases r:j∈FL∨j∈O.map (·.2.2)
  ·rw[if_pos r,if_pos (q.2 r)]
  ·rw[if_neg r,if_neg (fun h=>r (q.1 h))]
def AllD(M:Mem)(g:Gt)(fa:Int->Option InV):Prop:=∀i,((fa i).isSome=decide (i∈g.ds))/\ ∀p,fa i=some p->p.1.num=i/\p.1.dir=true/\p.1.data=⟨#[]⟩/\p.1.ents.Perm ((itsM M i).map entIt)/\SortedL p.1.ents
theorem all_of{V:Nat->Prop}{W:World}{fb ab:Nat}{M:Mem}{g:Gt}(h:GV V W fb ab M g): ∃fa:Int->Option InV,MapV W ab g.n (faV fa)/\AllD M g fa/\ ∀i p,fa i=some p->EntIn W p:=by
 obtain⟨fv,h1,h2⟩:=h.a
 have hch: ∀i,∃o:Option InV,(o.map fun p=>Value.agg (encI p).toArray)=fv i/\ ∀p,o=some p->p.1.num=i/\p.1.dir=true/\p.1.data=⟨#[]⟩/\EntIn W p/\p.1.ents.Perm ((itsM M i).map entIt)/\SortedL p.1.ents:=fun i=>by
  cases e:fv i with
  | none=>exact⟨none,rfl,fun p hp=>by cases hp⟩
  | some v=>
   obtain⟨ev,l,rfl,q1,q2,q3,q4⟩:=(h2 i).2 v e
   exact⟨some (⟨i,true,l,⟨#[]⟩⟩,ev),rfl,fun p hp=>by
    rw[<-Option.some.inj hp]
    exact⟨rfl,rfl,rfl,q1,q3,q4⟩⟩
 refine⟨fun i=>(hch i).choose,?_,fun i=>⟨?_,fun p hp=>?_⟩,fun i p hp=>((hch i).choose_spec.2 p hp).2.2.2.1⟩
 ·exact h1.congr fun i=>((hch i).choose_spec.1).symm
 ·have:=(hch i).choose_spec.1
  rw[<-(h2 i).1,<-this]
  simp
 ·obtain⟨q1,q2,q3,q4,q5⟩:=(hch i).choose_spec.2 p hp
  exact⟨q1,q2,q3,q5⟩
def filI(D:Int->ByteArray)(i:Int):InV:=(⟨i,false,[],D i⟩,.slice none 0 0)
def allF(FL:List Int)(O:List (Int×Int×Int))(D:Int->ByteArray)(fa:Int->Option InV)(lf:Int->Bool):Int->Option InV:=fun i=>if(filesO FL O i).isSome=true/\lf i=false then some (filI D i)else fa i
def inoTo(fa:Int->Option InV)(m:Nat):List InV:=(List.range m).filterMap fun(j:Nat)=>fa ((j:Int)+1)
theorem inoTo_some{fa:Int->Option InV}{m:Nat}{p:InV}(h:fa ((m:Int)+1)=some p):inoTo fa (m+1)=inoTo fa m++[p]:=by
 unfold inoTo
 rw[List.range_succ,List.filterMap_append];simp[h]
theorem inoTo_none{fa:Int->Option InV}{m:Nat}(h:fa ((m:Int)+1)=none):inoTo fa (m+1)=inoTo fa m:=by
 unfold inoTo
 rw[List.range_succ,List.filterMap_append];simp[h]
theorem inoTo_len(fa:Int->Option InV)(m:Nat):(inoTo fa m).length<=m:=by
 unfold inoTo
 exact Nat.le_trans (List.length_filterMap_le _ _) (by simp)
theorem ent_fil(W:World)(D:Int->ByteArray)(i:Int):EntIn W (filI D i):=RowT.nil_ _ _ _ _ _
structure IsState (M:Mem) (g:Gt) (D:Int->ByteArray) (n:Nat) (S:St):Prop where
 made:S.made=madeTo M n
 opens : S.opens = opsTo M n
 ino: ∃A:Int->Option Ino,S.inodes=(List.range 257).filterMap (fun(j:Nat)=>A ((j:Int)+1))/\ ∀i,((filesO g.fs (opsTo M n) i).isSome=true->A i=some ⟨i,false,[],D i⟩)/\ (¬ (filesO g.fs (opsTo M n) i).isSome=true->((A i).isSome=decide (i∈g.ds))/\ ∀p,A i=some p->p.num=i/\p.dir=true/\p.data=⟨#[]⟩/\p.ents.Perm ((itsM M i).map entIt)/\SortedL p.ents)
end
section
open Go.RowKit
set_option maxHeartbeats 1000000
section
variable{L:Nat->Prop}{w:World}{s:Nat}{M:Mem}{m:Nat}
theorem ThingV.wide{v:Value}{t:Thing}(h:ThingV L w v t):ThingV (wideS L w) w v t:=by
 cases t with
 | bucket l=>
  obtain⟨sv,h1,h2,h3⟩:=h
  refine⟨sv,h1,h2,fun hl q hq hw=>?_⟩
  rcases hw with hw | hw
  ·exact h3 hl q hq hw
  ·refine hw.2 ?_
   obtain⟨A,cap,rfl,r2,r3⟩:=h2
   obtain⟨g,off,cs,rfl,r4,r5,r6⟩:=r3 hl
   obtain⟨o,n,c,e⟩:=hq
   injection e with e
   injection e with e
   injection e with e
   exact e▸⟨_,_,r5,by simp⟩
 | base a d h'=>exact h
 | quad b q d=>exact h
 | page b q d=>exact h
theorem give_w(h:MemAt L w s M)(hok:M.ok m)(hm:m<=1000000000){c:Int}(hc:0<=c/\c<M.ts.length){ty:TypeId}{x:Value}{t:Thing}(ht:ThingV L w (.iface ty x) t):
  Calls Tryz.prog 66 #[.pointer (some ⟨s,0,none⟩),.int .i64 c,.iface ty x] w fun e w'=>(e= .returned (.int .i64 (M.next c))/\w'.cell? ⟨s,0,none⟩=w.cell? ⟨s,0,none⟩)/\MemAt L w' s (M.give c t)/\Kw L w w':=by
 refine(give_full h.wide hok hm hc ht.wide).mono ?_
 rintro e w' ⟨h1,h2,h3⟩
 exact⟨h1,h2.sub fun _ q=>.inl q,Kw.of h3⟩
theorem poke_m(h:MemAt L w s M)(hok:M.ok m){i v:Int}(hi:0<=i/\i<9549){a:Nat}(ha:w.cell? ⟨s,0,none⟩=some (.pointer (some ⟨a,0,none⟩))):
  Calls Tryz.prog 64 #[.pointer (some ⟨a,0,none⟩),.int .i64 i,.int .i64 v] w fun e w'=>(e= .returned (.tuple #[])/\w'.cell? ⟨s,0,none⟩=w.cell? ⟨s,0,none⟩)/\MemAt L w' s (M.put i v)/\Kp L w w':=by
 obtain⟨a',L1,h0,har,hback⟩:=h.lend
 have e:a'=a:=by
  rw[h0]at ha
  injection ha with ha
  injection ha with ha
  injection ha with ha
  injection ha
 subst e
 refine(poke_to har (i:=i) (by rw[hok.wl];exact hi) rfl).mono ?_
 rintro e w' ⟨rfl,hA,hK⟩
 obtain⟨h1,h2,h3,h4⟩:=hback w' _ _ rfl hA hK
 exact⟨⟨rfl,h4.trans h0.symm⟩,h1,h2,h3⟩
theorem poke_w(h:MemAt L w s M)(hok:M.ok m){i v:Int}(hi:0<=i/\i<9549){a:Nat}(ha:w.cell? ⟨s,0,none⟩=some (.pointer (some ⟨a,0,none⟩))):
  Calls Tryz.prog 64 #[.pointer (some ⟨a,0,none⟩),.int .i64 i,.int .i64 v] w fun e w'=>(e= .returned (.tuple #[])/\w'.cell? ⟨s,0,none⟩=w.cell? ⟨s,0,none⟩)/\MemAt L w' s (M.put i v)/\Kw L w w':=by
 refine(poke_m h.wide hok hi ha).mono ?_
 rintro e w' ⟨h1,h2,h3⟩
 exact⟨h1,h2.sub fun _ q=>.inl q,Kw.of h3⟩
theorem MemAt.arena(h:MemAt L w s M): ∃a,w.cell? ⟨s,0,none⟩=some (.pointer (some ⟨a,0,none⟩)):=by
 obtain⟨a,L1,h0,-,-⟩:=h.lend
 exact⟨a,h0⟩
end
namespace Kw
variable{L:Nat->Prop}{w w':World}
theorem cellB{g:Nat}{t:TypeId}{cs:Array Value}(h:Kw L w w')(hb:Blk w g t cs)(ht: ¬ (t=78∨t=150∨t=20∨t=152∨t=3∨t=136)){i:Nat}{v:Value}(hc:w.cell? ⟨g,i,none⟩=some v):w'.cell? ⟨g,i,none⟩=some v:=by
 rw[(h.blk hb ht).cell,<-hb.cell];exact hc
theorem it(h:Kw L w w'){v:Value}{l:List Item}(hi:ItB w v l):ItB w' v l:=hi.ki h.k.i
end Kw
end
section
section
variable{P:Program}{ops:Array Oper}{Q:Exit->Act->World->Prop}{md:Region.Mode}{S:World->Prop}
def wpAnyE(P:Program)(md:Region.Mode)(ops:Array Oper)(Q:Exit->Act->World->Prop)(S:World->Prop)(L:Nat):Nat->Array Bool->Act->World->Prop
 | 0,listed,a,w=>Region.ready md ops listed=[]/\Q .normal a w
 | fuel+1,listed,a,w=>
  (Region.ready md ops listed=[]->Q .normal a w)/\
  ∀i∈Region.ready md ops listed,wpOp P ops Q i (fun a' w'=>(i≠L->S w')/\wpAnyE P md ops Q S L fuel (listed.setIfInBounds i true) a' w') a w
theorem wpAny_of_E{L:Nat}: ∀(fuel:Nat) (listed:Array Bool) (a:Act) (w:World),wpAnyE P md ops Q S L fuel listed a w->wpAny P md ops Q fuel listed a w
 | 0,_,_,_,h=>h
 | fuel+1,_,_,_,h=>⟨h.1,fun i hi=>wpOp_mono (fun a' w' h'=>wpAny_of_E fuel _ a' w' h'.2) (h.2 i hi)⟩
theorem wpAnyE_done{L:Nat}{listed:Array Bool}{a:Act}{w:World}(hr:Region.ready md ops listed=[])(h:Q .normal a w):
  ∀fuel,wpAnyE P md ops Q S L fuel listed a w
 | 0=>⟨hr,h⟩
 | _+1=>⟨fun _=>h,by rw[hr];simp⟩
theorem wpAnyE_one{L i:Nat}{o:Oper}{fuel:Nat}{listed:Array Bool}{a:Act}{w:World}(hr:Region.ready md ops listed=[i])(ho:ops[i]? =some o)
  (h: ∀K':Act->World->Prop,Shut (∀a w,(i≠L->S w)->((i≠L->S w)->wpAnyE P md ops Q S L fuel (listed.setIfInBounds i true) a w)->K' a w)->if Region.wanted o (yielded ops a.tmps)=true then Oper.wp P o a w K' Q else K' (a.put o.dst undef) w):
  wpAnyE P md ops Q S L (fuel+1) listed a w:=by
 refine⟨fun h0=>(by rw[hr]at h0;cases h0),fun j hj=>?_⟩
 rw[hr]at hj
 obtain rfl:=List.mem_singleton.1 hj
 exact wpOp_step ho (fun K' hK=>h K' (fun a w hS hW=>hK a w ⟨hS,hW hS⟩))
theorem wp_region_E_drew{id L:Nat}{a:Act}{w:World}(hm:P.follows .mixedOrders=true)(hS:S w.drew)
  (h:S w.drew->wpAnyE P .any ops Q S L ops.size (Array.replicate ops.size false) a w.drew):(Code.region id ops true).wp P Q a w:=
 wp_region_any hm (wpAny_of_E _ _ _ _ (h hS))
end
end
section
open Go.RowKit
set_option maxHeartbeats 400000
section
variable{P:Program}{ops:Array Oper}{md:Region.Mode}{C:World->Prop}{Q:Exit->Act->World->Prop}
def awaits(md:Region.Mode)(ops:Array Oper)(k j:Nat):Bool:=match ops[k]? with
 | some o=>o.after.toList.any fun e=>Region.binds md e&&e.on==j
 | none=>false
def lastB(md:Region.Mode)(ops:Array Oper)(L:Nat):Bool:=(List.range ops.size).all fun j=>j==L|| (List.range ops.size).any fun k=>decide (j<k)&&awaits md ops k j
def backB(md:Region.Mode)(ops:Array Oper):Bool:=(List.range ops.size).all fun i=>match ops[i]? with
 | some o=>o.after.toList.all fun e=>!Region.binds md e||decide (e.on<i)
 | none=>true
def Down(md:Region.Mode)(ops:Array Oper)(listed:Array Bool):Prop:=∀k o,ops[k]? =some o->listed.getD k false=true-> ∀e∈o.after,Region.binds md e=true->listed.getD e.on false=true
theorem awaits_spec{k j:Nat}(h:awaits md ops k j=true): ∃o,ops[k]? =some o/\ ∃e∈o.after,Region.binds md e=true/\e.on=j:=by
 unfold awaits at h
 cases ho:ops[k]? with
 | none=>rw[ho]at h;cases h
 | some o=>
  rw[ho]at h
  simp only[List.any_eq_true,Bool.and_eq_true,beq_iff_eq]at h
  obtain⟨e,he,hb,heq⟩:=h
  exact⟨o,rfl,e,Array.mem_toList_iff.1 he,hb,heq⟩
theorem all_listed{L:Nat}{listed:Array Bool}(hs:listed.size=ops.size)(hl:lastB md ops L=true)(hd:Down md ops listed)(hL:L∈Region.ready md ops listed): ∀(d j:Nat),ops.size - j<=d->j<ops.size->j≠L->listed.getD j false=true
 | 0,j,h1,h2,_=>by omega
 | d+1,j,h1,h2,h3=>by
  have hl2:=hl
  unfold lastB at hl2
  rw[List.all_eq_true]at hl2
  have h4:=hl2 j (List.mem_range.2 h2)
  rw[Bool.or_eq_true]at h4
  rcases h4 with h4 | h4
  ·exact absurd (by simpa using h4) h3
  ·rw[List.any_eq_true]at h4
   obtain⟨k,hk,h5⟩:=h4
   have hk:=List.mem_range.1 hk
   rw[Bool.and_eq_true,decide_eq_true_eq]at h5
   obtain⟨o,ho,e,he,hb,rfl⟩:=awaits_spec h5.2
   by_cases hkL:k=L
   ·subst hkL
    obtain⟨-,o',ho',hall⟩:=mem_ready.1 hL
    rw[ho]at ho'
    cases ho'
    exact hall e he hb
   ·exact hd k o ho (all_listed hs hl hd hL d k (by omega) hk hkL) e he hb
theorem some_ready{listed:Array Bool}(hs:listed.size=ops.size)(hb:backB md ops=true): ∀(n i:Nat),i<=n->i<ops.size->listed.getD i true=false->Region.ready md ops listed≠[]
 | n,i,hn,hi,hu=>by
  intro he
  have hni:i∉Region.ready md ops listed:=by rw[he];simp
  rw[mem_ready]at hni
  have ho:ops[i]? =some ops[i]:=Array.getElem?_eq_getElem hi
  have: ∃e∈ops[i].after,Region.binds md e=true/\listed.getD e.on false≠true:=by
   by_cases q: ∃e∈ops[i].after,Region.binds md e=true/\listed.getD e.on false≠true
   ·exact q
   ·refine absurd ⟨hu,_,ho,fun e he hb=>?_⟩ hni
    by_cases q2:listed.getD e.on false=true
    ·exact q2
    ·exact absurd ⟨e,he,hb,q2⟩ q
  obtain⟨e,hm,hbi,hne⟩:=this
  unfold backB at hb
  rw[List.all_eq_true]at hb
  have h1:=hb i (List.mem_range.2 hi)
  rw[ho]at h1
  have h1:(ops[i].after.toList.all fun e=>!Region.binds md e||decide (e.on<i))=true:=h1
  rw[List.all_eq_true]at h1
  have h2:=h1 e (Array.mem_toList_iff.2 hm)
  rw[hbi]at h2
  have hlt:e.on<i:=by simpa using h2
  have h3:listed.getD e.on true=false:=by
   have hsz:e.on<listed.size:=by omega
   simp[hsz]at hne⊢
   exact hne
  cases n with
  | zero=>omega
  | succ n=>exact some_ready hs (by unfold backB;rw[List.all_eq_true];exact hb) n e.on (by omega) (by omega) h3 he
theorem wpAny_none{listed:Array Bool}{a:Act}{w:World}(hr:Region.ready md ops listed=[])(h:Q .normal a w): ∀fuel,wpAny P md ops Q fuel listed a w
 | 0=>⟨hr,h⟩
 | _+1=>⟨fun _=>h,by rw[hr];simp⟩
theorem wpAny_then{L:Nat}(hL:L<ops.size)(hl:lastB md ops L=true)(hb:backB md ops=true): ∀(fuel:Nat) (listed:Array Bool) (a:Act) (w:World),C w->listed.size=ops.size->listed.getD L true=false->Down md ops listed->
  wpAnyQ P md ops C (fun a=>∀w,C w->wpOp P ops Q L (fun a' w'=>Q .normal a' w') a w) fuel (listed.setIfInBounds L true) a->wpAny P md ops Q (fuel+1) listed a w
 | fuel,listed,a,w,hC,hs,hu,hd,h=>by
  refine⟨fun h0=>absurd h0 (some_ready hs hb L L (Nat.le_refl _) hL hu),fun i hi=>?_⟩
  by_cases e:i=L
  ·subst e
   have hall:=all_listed hs hl hd hi
   have hnil:Region.ready md ops (listed.setIfInBounds i true)=[]:=by
    rw[List.eq_nil_iff_forall_not_mem]
    intro j hj
    obtain⟨hun,o,ho,-⟩:=mem_ready.1 hj
    have hjl:j<ops.size:=(Array.getElem?_eq_some_iff.1 ho).1
    by_cases q:j=i
    ·subst q
     simp[hs,hjl]at hun
    ·rw[getD_set_ne true (Ne.symm q)]at hun
     have:=hall (ops.size - j) j (Nat.le_refl _) hjl q
     simp[hs,hjl]at hun this
     rw[hun]at this;cases this
   have hq:wpOp P ops Q i (fun a' w'=>Q .normal a' w') a w:=by
    cases fuel with
    | zero=>exact h.2 w hC
    | succ f=>exact h.1 hnil w hC
   exact wpOp_mono (fun a' w' hq=>wpAny_none hnil hq fuel) hq
  ·have hi2:=ready_mono hi e
   cases fuel with
   | zero=>
    have:=h.1
    rw[this]at hi2;cases hi2
   | succ f=>
    refine wpOp_of_qOp hC (fun a' w' hC' hq=>?_) (h.2 i hi2)
    rw[Array.setIfInBounds_comm _ _ (Ne.symm e)]at hq
    refine wpAny_then hL hl hb f (listed.setIfInBounds i true) a' w' hC' (by simpa using hs) (by rw[getD_set_ne true e];exact hu) (fun k o ho hk e' he' hb'=>?_) hq
    by_cases q:k=i
    ·subst q
     obtain⟨-,o',ho',hall⟩:=mem_ready.1 hi
     rw[ho]at ho'
     cases ho'
     exact getD_set_true (hall e' he' hb')
    ·rw[getD_set_ne false (Ne.symm q)]at hk
     exact getD_set_true (hd k o ho hk e' he' hb')
theorem rep_false(n k:Nat):(Array.replicate n false).getD k false=false:=by
 rw[Array.getD_eq_getD_getElem?,Array.getElem?_replicate]
 split <;> rfl
theorem wpAnyQ_lex'{Q:Act->Prop}(hs:Region.noSelect ops=true): ∀(l:List Oper) (k:Nat) (listed:Array Bool) (a:Act),(∀j,j<l.length->l[j]? =ops[k+j]?)->
  Region.lexFrom md ops l.length k listed=true->wpQuiet P ops C Q l a->wpAnyQ P md ops C Q l.length listed a
 | [],_,_,_,_,hB,h=>⟨by simpa[Region.lexFrom]using hB,h⟩
 | o::l,k,listed,a,hl,hB,h=>by
  have h0:ops[k]? =some o:=by simpa using(hl 0 (by simp)).symm
  simp only[List.length_cons,Region.lexFrom,Bool.and_eq_true]at hB
  obtain⟨⟨hr,hf⟩,hB'⟩:=hB
  have hst:qOp P ops C k (wpQuiet P ops C Q l) a:=by unfold qOp;simp only[h0];exact h
  obtain⟨v,hy,hK⟩:=yieldsIn_of_qOp h0 hst
  exact wpAnyQ_first h0 (Region.noSelect_spec hs) l.length listed a (Region.free_spec h0 hf) (by simpa using hr) hy
   (wpAnyQ_lex' hs l (k+1) _ _ (fun j hj=>by have:=hl (j+1) (by simp;omega);simpa[Nat.add_assoc,Nat.add_comm 1 j]using this) hB' hK)
def Then(P:Program)(ops:Array Oper)(Q:Exit->Act->World->Prop)(L:Nat)(a:Act)(w:World):Prop:=wpOp P ops Q L (fun a' w'=>Q .normal a' w') a w
theorem then_of{L:Nat}{o:Oper}{a:Act}{w:World}(ho:ops[L]? =some o)(h: ∀K:Act->World->Prop,Hid (∀a w,Q .normal a w->K a w)->if Region.wanted o (yielded ops a.tmps)=true then Oper.wp P o a w K Q else K (a.put o.dst undef) w):Then P ops Q L a w:=by
 unfold Then wpOp
 rw[ho]
 have:=h _ (lhi fun _ _ h=>h)
 show if _ then _ else _
 split
 ·rename_i hw;rw[if_pos hw]at this;exact .inl this
 ·rename_i hw;rw[if_neg hw]at this;exact this
theorem wp_region_then{id:Nat}{a:Act}{w:World}{l:List Oper}(C:World->Prop)(hm:P.follows .mixedOrders=true)(hn:Region.noSelect l.toArray=true)(hB:Region.lexFrom .any l.toArray l.dropLast.length 0 ((Array.replicate l.toArray.size false).setIfInBounds l.dropLast.length true)=true)
  (hl:lastB .any l.toArray l.dropLast.length=true) (hb:backB .any l.toArray=true) (hne:l.dropLast.length<l.length) (hC:C w.drew)
  (h:wpQuiet P l.toArray (fun w'=>∃x:WIn C,w'=x.v) (fun a'=>∀w',(∃x:WIn C,w'=x.v)->Then P l.toArray Q l.dropLast.length a' w') l.dropLast a):(Code.region id l.toArray true).wp P Q a w:=by
 have hsz:l.toArray.size=l.dropLast.length+1:=by simp at hne⊢;omega
 refine wp_region_any hm ?_
 rw[hsz]at hB⊢
 refine wpAny_then (C:=fun w'=>∃x:WIn C,w'=x.v) (L:=l.dropLast.length) (by omega) hl hb _ _ a _ ⟨⟨w.drew,hC⟩,rfl⟩ (by simp[hsz]) (by simp) (fun k o ho hk=>?_) ?_
 ·exfalso
  rw[rep_false]at hk
  cases hk
 ·refine wpAnyQ_lex' hn l.dropLast 0 _ a (fun j hj=>?_) hB h
  rw[Nat.zero_add,List.getElem?_dropLast,if_pos (by simpa using hj)]
  simp
end
end
section
section
variable{P:Program}{ops:Array Oper}{Q:Exit->Act->World->Prop}{md:Region.Mode}{S:World->Prop}
def downB(md:Region.Mode)(ops:Array Oper)(listed:Array Bool):Bool:=(listed.size==ops.size)&& (List.range ops.size).all fun k=>!listed.getD k false||match ops[k]? with
 | some o=>o.after.toList.all fun e=>!Region.binds md e||listed.getD e.on false
 | none=>true
theorem downB_spec{listed:Array Bool}(h:downB md ops listed=true):listed.size=ops.size/\Down md ops listed:=by
 unfold downB at h
 rw[Bool.and_eq_true,List.all_eq_true]at h
 refine⟨by simpa using h.1,fun k o ho hk e he hb=>?_⟩
 have h1:=h.2 k (List.mem_range.2 (Array.getElem?_eq_some_iff.1 ho).1)
 rw[hk,ho]at h1
 have h1:(o.after.toList.all fun e=>!Region.binds md e||listed.getD e.on false)=true:=by simpa using h1
 rw[List.all_eq_true]at h1
 have h2:=h1 e (Array.mem_toList_iff.2 he)
 rw[hb]at h2
 simpa using h2
theorem Down.set{listed:Array Bool}{j:Nat}(hd:Down md ops listed)(hj:j∈Region.ready md ops listed):Down md ops (listed.setIfInBounds j true):=fun k o ho hk e' he' hb'=>by
 by_cases q:k=j
 ·subst q
  obtain⟨-,o',ho',hall⟩:=mem_ready.1 hj
  rw[ho]at ho'
  cases ho'
  exact getD_set_true (hall e' he' hb')
 ·rw[getD_set_ne false (Ne.symm q)]at hk
  exact getD_set_true (hd k o ho hk e' he' hb')
theorem wpAnyE_first'{L i:Nat}{oi:Oper}{v:Value}(hi:ops[i]? =some oi)(hsel: ∀(j:Nat) (o:Oper) cs b,ops[j]? =some o->o.op≠.select cs b)
  (hQ: ∀c a w,Q (.panic c) (a.put oi.dst v) w->Q (.panic c) a w) (hl:lastB md ops L=true) (hLi:i≠L):
  ∀(fuel:Nat) (listed:Array Bool) (a:Act) (w:World),listed.size=ops.size->Down md ops listed->
   (∀j oj,ops[j]? =some oj->j≠i->listed.getD j true=false->(∀e∈oj.after,Region.binds md e=true->e.on≠i)->oi.apart ops oj=true)->
   i∈Region.ready md ops listed->YieldsIf P ops S oi v a->S w->
   wpAnyE P md ops Q S L fuel (listed.setIfInBounds i true) (a.put oi.dst v) w->wpAnyE P md ops Q S L (fuel+1) listed a w:=by
 intro fuel
 induction fuel with
 | zero=>
  intro listed a w _ _ _ hr hy hS H
  refine⟨fun h=>(by rw[h]at hr;cases hr),fun j hj=>?_⟩
  by_cases hji:j=i
  ·subst hji;exact hy.wpOp hi hS ⟨fun _=>hS,H⟩
  ·have:=ready_mono hj hji
   rw[H.1]at this
   cases this
 | succ fuel ih=>
  intro listed a w hsz hdn hfree hr hy hS H
  refine⟨fun h=>(by rw[h]at hr;cases hr),fun j hj=>?_⟩
  by_cases hji:j=i
  ·subst hji;exact hy.wpOp hi hS ⟨fun _=>hS,H⟩
  ·have h1:=H.2 j (ready_mono hj hji)
   obtain⟨hjun,oj,hoj,hall⟩:=mem_ready.1 hj
   have hnot: ∀e∈oj.after,Region.binds md e=true->e.on≠i:=fun e he hb heq=>by
    have h1:=hall e he hb
    have h0:=(mem_ready.1 hr).1
    rw[heq]at h1
    rcases Nat.lt_or_ge i listed.size with h' | h'
    ·simp[h']at h0 h1;rw[h0]at h1;cases h1
    ·simp[Array.getElem?_eq_none h']at h1
   have hjL:j≠L:=by
    rintro rfl
    have h2:=all_listed hsz hl hdn hj (ops.size - i) i (Nat.le_refl _) (Array.getElem?_eq_some_iff.1 hi).1 hLi
    have h0:=(mem_ready.1 hr).1
    rcases Nat.lt_or_ge i listed.size with h' | h'
    ·simp[h']at h0 h2;rw[h0]at h2;cases h2
    ·simp[Array.getElem?_eq_none h']at h2
   have h2:=wpOp_putIf hoj (hfree j oj hoj hji hjun hnot) (fun cs b=>hsel i oi cs b hi) (fun cs b=>hsel j oj cs b hoj) hQ hy h1
   have hfree': ∀k ok,ops[k]? =some ok->k≠i->(listed.setIfInBounds j true).getD k true=false->
     (∀e∈ok.after,Region.binds md e=true->e.on≠i)->oi.apart ops ok=true:=fun k ok hk hki hun hno=>by
    refine hfree k ok hk hki ?_ hno
    by_cases hjk:j=k
    ·subst hjk;exact hjun
    ·rw[getD_set_ne true hjk]at hun;exact hun
   refine wpOp_mono (fun a' w' h3=>⟨fun _=>h3.2.1 hjL,ih (listed.setIfInBounds j true) a' w' (by simpa using hsz) (hdn.set hj) hfree' (ready_mono hr (Ne.symm hji)) h3.1 (h3.2.1 hjL) ?_⟩) h2
   rw[Array.setIfInBounds_comm _ _ hji]
   exact h3.2.2
theorem wpAnyF_take{L i:Nat}{oi:Oper}{v:Value}{fuel:Nat}{listed:Array Bool}{a:Act}{w:World}(hi:ops[i]? =some oi)
  (hc:(Region.noSelect ops&& (Region.free md ops listed i&& ((Region.ready md ops listed).contains i&& (lastB md ops L&& (downB md ops listed&& (i != L))))))=true)
  (hQ: ∀c a w,Q (.panic c) (a.put oi.dst v) w->Q (.panic c) a w) (hy:YieldsIf P ops S oi v a) (hS:S w)
  (h:wpAnyE P md ops Q S L fuel (listed.setIfInBounds i true) (a.put oi.dst v) w):wpAnyE P md ops Q S L (fuel+1) listed a w:=by
 simp only[Bool.and_eq_true]at hc
 obtain⟨hs,hf,hr,hl,hd,hn⟩:=hc
 obtain⟨hsz,hdn⟩:=downB_spec hd
 exact wpAnyE_first' hi (Region.noSelect_spec hs) hQ hl (by simpa using hn) fuel listed a w hsz hdn (Region.free_spec hi hf) (by simpa using hr) hy hS h
end
end
end Go.Proofs.YtkebjgebkneijaaGreat
