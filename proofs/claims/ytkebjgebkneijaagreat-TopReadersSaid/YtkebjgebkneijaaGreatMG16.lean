/- Texts of one's own that a claim's last text rests on: MpO MpT MpU Mp4. -/
import Derived.Test.YtkebjgebkneijaaGreatMG2
import Derived.Test.YtkebjgebkneijaaGreatMG11
import Derived.Test.YtkebjgebkneijaaGreatMG15
import Derived.Test.YtkebjgebkneijaaGreatMG14
set_option linter.unusedVariables false
set_option linter.unusedSimpArgs false
namespace Go.Proofs.YtkebjgebkneijaaGreat
open Go.RowKit
set_option maxHeartbeats 16000000
set_option maxRecDepth 1000000
structure StV (w:World) (base:Nat) (iv ov mv:Value) (ev:Nat->Value) (S:St):Prop where
 ino:RowT w base 93 4 iv S.inodes.length (inoC S ev)
 ent: ∀i,i<S.inodes.length->RowT w base 132 2 (ev i) (S.ne i) (entC S i)
 opn:RowT w base 144 3 ov S.opens.length (opnC S)
 mad:RowT w base 3 1 mv S.made.length (madC S)
namespace StV
variable{w w':World}{base:Nat}{iv ov mv:Value}{ev:Nat->Value}{S:St}
theorem stm(h:StV w base iv ov mv ev S):StM w iv ov mv ev S:=⟨h.ino.at',fun i hi=>(h.ent i hi).at',h.opn.at',h.mad.at'⟩
theorem below(h:StV w base iv ov mv ev S)(hb:Below w.heap.size w w'):StV w' base iv ov mv ev S:=⟨h.ino.below hb,fun i hi=>(h.ent i hi).below hb,h.opn.below hb,h.mad.below hb⟩
theorem base_le{base':Nat}(h:StV w base iv ov mv ev S)(hb:base'<=base):StV w base' iv ov mv ev S:=⟨h.ino.base_le hb,fun i hi=>(h.ent i hi).base_le hb,h.opn.base_le hb,h.mad.base_le hb⟩
theorem far(h:StV w base iv ov mv ev S){g:Nat}{u:TypeId}{cs:Array Value}(hg:Blk w g u cs)(h1:93≠u)(h2:132≠u)(h3:144≠u)(h4:3≠u)(i:Nat)(x:Value):StV (w.setCell ⟨g,i,none⟩ x) base iv ov mv ev S:=
 ⟨h.ino.far hg h1 i x,fun j hj=>(h.ent j hj).far hg h2 i x,h.opn.far hg h3 i x,h.mad.far hg h4 i x⟩
end StV
def encI(p:Ino×Value):List Value:=[.int .i64 p.1.num,.bool p.1.dir,p.2,.string p.1.data]
def encD(o:Int×Int×Int):List Value:=[.int .i64 o.1,.int .i64 o.2.1,.int .i64 o.2.2]
def encM(m:Int):List Value:=[.int .i64 m]
theorem Db(p:Ino×Value):(encI p).length=4:=rfl
theorem Ek(o:Int×Int×Int):(encD o).length=3:=rfl
theorem Jf(m:Int):(encM m).length=1:=rfl
theorem Zz(o:Int×Int×Int): ∀u∈encD o,u.oneCell'=true:=by intro u hu;simp[encD]at hu;rcases hu with rfl | rfl | rfl <;> rfl
theorem Zy(m:Int): ∀u∈encM m,u.oneCell'=true:=by intro u hu;simp[encM]at hu;rcases hu with rfl;rfl
theorem Fv{A:Type}{l:List A}{i:Nat}{d:A}(h:i<l.length):l.getD i d=l[i]:=by
 rw[Ame,Amh h];rfl
theorem Ab8(S:St):CL encD S.opens (opnC S) 3:=by
 intro k j hk hj
 have e:S.opens.getD k (0,0,0)=S.opens[k]:=Fv hk
 have:j=0∨j=1∨j=2:=by omega
 rcases this with rfl | rfl | rfl
 ·show some (Value.int .i64 _)=some (Value.int .i64 (S.opens.getD k (0,0,0)).1);rw[e]
 ·show some (Value.int .i64 _)=some (Value.int .i64 (S.opens.getD k (0,0,0)).2.1);rw[e]
 ·show some (Value.int .i64 _)=some (Value.int .i64 (S.opens.getD k (0,0,0)).2.2);rw[e]
theorem Ab9(S:St):CL encM S.made (madC S) 1:=by
 intro k j hk hj
 have e:S.made.getD k 0=S.made[k]:=Fv hk
 obtain rfl:j=0:=by omega
 show some (Value.int .i64 _)=some (Value.int .i64 (S.made.getD k 0));rw[e]
theorem Ah7(S:St)(L:List (Ino×Value))(h:L.map (·.1)=S.inodes):CL encI L (inoC S fun i=>(L.getD i (Ds,.int .i64 0)).2) 4:=by
 intro k j hk hj
 have e:S.inodes.getD k Ds=L[k].1:=by
  have:k<S.inodes.length:=by rw[<-h];simpa using hk
  rw[Fv this]
  simp only[<-h,List.getElem_map]
 have e2:L.getD k (Ds,.int .i64 0)=L[k]:=Fv hk
 have:j=0∨j=1∨j=2∨j=3:=by omega
 rcases this with rfl | rfl | rfl | rfl
 ·show some (Value.int .i64 _)=some (Value.int .i64 (S.inodes.getD k Ds).num);rw[e]
 ·show some (Value.bool _)=some (Value.bool (S.inodes.getD k Ds).dir);rw[e]
 ·show some _=some (L.getD k (Ds,.int .i64 0)).2;rw[e2]
 ·show some (Value.string _)=some (Value.string (S.inodes.getD k Ds).data);rw[e]
theorem Ja:(Tryz.prog.info? 93).map (fun i=>(i.zero,i.size,i.bytes))=some (some (.agg #[.int .i64 0,.bool false,.slice none 0 0,.string ⟨#[]⟩]),4,56):=by kernel_rfl
theorem Lk:(Tryz.prog.info? 132).map (fun i=>(i.zero,i.size,i.bytes))=some (some (.agg #[.string ⟨#[]⟩,.int .i64 0]),2,24):=by kernel_rfl
theorem Jb:(Tryz.prog.info? 144).map (fun i=>(i.zero,i.size,i.bytes))=some (some (.agg #[.int .i64 0,.int .i64 0,.int .i64 0]),3,24):=by kernel_rfl
theorem Aes:(Tryz.prog.info? 3).map (fun i=>(i.zero,i.size,i.bytes))=some (some (.int .i64 0),1,8):=by kernel_rfl
def opnL(L:List (Int×Int×Int)):Nat->Nat->Value:=fun k j=>match j with
 | 0=>.int .i64 (L.getD k (0,0,0)).1
 | 1=>.int .i64 (L.getD k (0,0,0)).2.1
 | _=>.int .i64 (L.getD k (0,0,0)).2.2
theorem Ajz(L:List (Int×Int×Int)):CL encD L (opnL L) 3:=by
 intro k j hk hj
 have e:L.getD k (0,0,0)=L[k]:=Fv hk
 have:j=0∨j=1∨j=2:=by omega
 rcases this with rfl | rfl | rfl
 ·show some (Value.int .i64 _)=some (Value.int .i64 (L.getD k (0,0,0)).1);rw[e]
 ·show some (Value.int .i64 _)=some (Value.int .i64 (L.getD k (0,0,0)).2.1);rw[e]
 ·show some (Value.int .i64 _)=some (Value.int .i64 (L.getD k (0,0,0)).2.2);rw[e]
theorem StV.of_list{w:World}{base:Nat}{v ov mv:Value}{L:List (Ino×Value)}{S:St}(hL:L.map (·.1)=S.inodes)(hv:w.ownsRow base 93 4 v L.length (L.flatMap encI))(he: ∀p∈L,RowT w base 132 2 p.2 p.1.ents.length (entL p.1.ents))
  (ho:RowT w base 144 3 ov S.opens.length (opnC S)) (hm:RowT w base 3 1 mv S.made.length (madC S)):StV w base v ov mv (fun i=>(L.getD i (Ds,.int .i64 0)).2) S:=by
 have hl:L.length=S.inodes.length:=by rw[<-hL,List.length_map]
 refine⟨?_,fun i hi=>?_,ho,hm⟩
 ·have:=Cc (by decide) Db hv (Ah7 S L hL)
  rwa [hl]at this
 ·have h1:L.getD i (Ds,.int .i64 0)=L[i]:=Fv (by omega)
  have h2:S.ino i=L[i].1:=by
   show S.inodes.getD i Ds=_
   rw[Fv hi]
   simp only[<-hL,List.getElem_map]
  have h3:=he L[i] (List.getElem_mem _)
  show RowT w base 132 2 (L.getD i (Ds,.int .i64 0)).2 (S.ino i).ents.length (entC S i)
  rw[h1,h2]
  have:entC S i=entL L[i].1.ents:=by
   funext k j
   unfold entC entL St.enm St.enu
   rw[h2]
   cases j <;> rfl
  rw[this]
  exact h3
abbrev InV:=Ino×Value
def faV(fa:Int->Option InV):Int->Option Value:=fun i=>(fa i).map fun p=>.agg (encI p).toArray
def Aka(e:TypeId):Prop:=e=93∨e=144∨e=3
def La(W:World)(p:InV):Prop:=RowT W 0 132 2 p.2 p.1.ents.length (entL p.1.ents)
theorem Fe{w w':World}{base:Nat}{e:TypeId}{size k:Nat}{v:Value}{xs:List Value}(h:w.ownsRow base e size v k xs)(hk: ∀q,v.ownBlock=some q->w'.heap[q]? =w.heap[q]?):w'.ownsRow base e size v k xs:=by
 refine⟨h.1,?_⟩
 rcases h.2 with h2 | ⟨g,cap,cur,hv,hg,hh,rest⟩
 ·exact .inl h2
 ·exact .inr ⟨g,cap,cur,hv,hg,by rw[hk g (by rw[hv];rfl)];exact hh,rest⟩
structure Sc (L:Nat->Prop) (w:World) (s fb ab gb vb xb ob:Nat) (M:Mem) (Q:Nat->Prop) (nf:Nat) (ff:Int->Option Value) (na:Nat) (fa:Int->Option Value) (X:Array Value) (W:World):Prop where
 ex: ∃K:Nat->Prop,(∀b,L b->K b)/\ (K fb/\K ab/\K gb/\K vb/\K xb/\K ob)/\ (∀b,Q b->K b)/\Ab K W s M
 kw:Kw L w W
 f:MapV W fb nf ff
 a:MapV W ab na fa
 ne:fb≠ab
 gB:Blk W gb 172 #[.pointer (some ⟨s,0,none⟩),.int .i64 (-1),.map (some fb),.map (some ab)]
 vB:Blk W vb 168 #[.pointer (some ⟨s,0,none⟩),.int .i64 (-1)]
 xB:Blk W xb 30 X
 oB:Blk W ob 30 #[.slice none 0 0,.slice none 0 0,.slice none 0 0]
 nx:xb≠ob
 lo:w.heap.size<=fb/\w.heap.size<=ab/\w.heap.size<=gb/\w.heap.size<=vb/\w.heap.size<=xb/\w.heap.size<=ob
 qt: ∀b,Q b->w.heap.size<=b/\ ∃e cs,Blk W b e cs/\Aka e
structure Rk (Q:Nat->Prop) (W W':World):Prop where
 size:W.heap.size<=W'.heap.size
 q: ∀b,Q b->W'.heap[b]? =W.heap[b]?
 e: ∀b cs,Blk W b 132 cs->Blk W' b 132 cs
theorem La.rk{Q:Nat->Prop}{W W':World}{p:InV}(h:La W p)(hk: ∀b cs,Blk W b 132 cs->Blk W' b 132 cs):La W' p:=RowT.heap h fun q cs _ hq=>hk q cs hq
theorem Jt{w:World}{b:Nat}{t:TypeId}{cs:Array Value}(h: ∃es cl,w.heap[b]? =some (.map es cl))(hb:Blk w b t cs):False:=by
 obtain⟨es,cl,h⟩:=h
 unfold Blk at hb
 rw[h]at hb;cases hb
namespace Sc
variable{L:Nat->Prop}{w W W':World}{s fb ab gb vb xb ob:Nat}{M:Mem}{Q:Nat->Prop}{nf na:Nat}{ff fa:Int->Option Value}{X:Array Value}
theorem m(h:Sc L w s fb ab gb vb xb ob M Q nf ff na fa X W):Ab L W s M:=by obtain⟨K,h1,-,-,h2⟩:=h.ex;exact h2.sub h1
theorem below(h:Sc L w s fb ab gb vb xb ob M Q nf ff na fa X W)(hb:Below W.heap.size W W'):Sc L w s fb ab gb vb xb ob M Q nf ff na fa X W'/\Rk Q W W':=by
 obtain⟨K,h1,h2,h3,h4⟩:=h.ex
 have hB: ∀{b:Nat} {t:TypeId} {cs:Array Value},Blk W b t cs->Blk W' b t cs:=fun hq=>Blk.of_heap (hb.block _ hq.lt) hq
 exact⟨⟨⟨K,h1,h2,h3,h4.below hb⟩,h.kw.trans (Kw.below h.m.bd hb),h.f.below hb,h.a.below hb,h.ne,hB h.gB,hB h.vB,hB h.xB,hB h.oB,h.nx,h.lo,fun b hq=>by obtain⟨q1,e,cs,q2,q3⟩:=h.qt b hq;exact⟨q1,e,cs,hB q2,q3⟩⟩,
  hb.size,fun b hq=>by obtain⟨-,e,cs,q2,-⟩:=h.qt b hq;exact hb.block b q2.lt,fun b cs hq=>hB hq⟩
theorem call(h:Sc L w s fb ab gb vb xb ob M Q nf ff na fa X W){P:FuncId}{args:Array Value}{R:Ending->World->Prop}
  (hc: ∀K,Ab K W s M->Calls Tryz.prog P args W fun e w'=>R e w'/\Ab K w' s M/\Kw K W w'):
  Calls Tryz.prog P args W fun e w'=>R e w'/\Sc L w s fb ab gb vb xb ob M Q nf ff na fa X w'/\Rk Q W w'/\ ∀b,b<W.heap.size-> ¬ Bw W b->w'.heap[b]? =W.heap[b]?:=by
 obtain⟨K,h1,⟨k1,k2,k3,k4,k5,k6⟩,h3,h4⟩:=h.ex
 refine(hc K h4).mono ?_
 rintro e w' ⟨hr,hm,hk⟩
 have hB: ∀{b:Nat} {t:TypeId} {cs:Array Value},K b->Blk W b t cs->Blk w' b t cs:=fun hb hq=>Blk.of_heap (hk.k.k.block _ hb) hq
 exact⟨hr,⟨⟨K,h1,⟨k1,k2,k3,k4,k5,k6⟩,h3,hm⟩,h.kw.trans (hk.sub h1),h.f.heap (hk.k.k.block _ k1),h.a.heap (hk.k.k.block _ k2),h.ne,hB k3 h.gB,hB k4 h.vB,hB k5 h.xB,hB k6 h.oB,h.nx,h.lo,fun b hq=>by obtain⟨q1,e,cs,q2,q3⟩:=h.qt b hq;exact⟨q1,e,cs,hB (h3 b hq) q2,q3⟩⟩,
  ⟨hk.size,fun b hq=>hk.k.k.block b (h3 b hq),fun b cs hq=>hk.blk hq Eo⟩,hk.o⟩
theorem kwNew(h:Sc L w s fb ab gb vb xb ob M Q nf ff na fa X W)(hL:Bd L w){row:Option Nat}(hr: ∀q,row=some q->w.heap.size<=q)(hi:KI W W')(hg:W.grownBy W' row):Kw L w W':=
 have hs:=h.kw.size
 ⟨⟨⟨hg.os.trans h.kw.k.k.os,hg.tape.trans h.kw.k.k.tape,hg.output.trans h.kw.k.k.output,Aml hs hg.size,fun b hb=>(hg.block b (by have:=hL b hb;omega) (fun e=>by have:=hr b e.symm;have:=hL b hb;omega)).trans (h.kw.k.k.block b hb)⟩,h.kw.k.i.trans hi⟩,
  fun b hb hn=>(hg.block b (by omega) (fun e=>by have:=hr b e.symm;omega)).trans (h.kw.o b hb hn)⟩
theorem grow(h:Sc L w s fb ab gb vb xb ob M Q nf ff na fa X W)(hL:Bd L w){Q':Nat->Prop}{v:Value}{e:TypeId}{k:Nat}{xs ys:List Value}{v':Value}{k':Nat}{n:Nat}(hv:W.ownsRow w.heap.size e n v k xs)(he:Aka e)(hq: ∀q,v.ownBlock=some q->Q q)(hv':W'.ownsRow w.heap.size e n v' k' ys)(hg:W.grownBy W' v.ownBlock)
  (hr:v'.ownBlock=v.ownBlock∨v'.ownBlock=some W.heap.size) (hQ: ∀b,Q' b->(Q b/\v.ownBlock≠some b)∨v'.ownBlock=some b):Sc L w s fb ab gb vb xb ob M Q' nf ff na fa X W'/\ (∀b t cs,Blk W b t cs->t≠e->Blk W' b t cs):=by
 obtain⟨K,h1,⟨k1,k2,k3,k4,k5,k6⟩,h3,h4⟩:=h.ex
 have hty: ∀b t cs,Blk W b t cs->t≠e->Blk W' b t cs:=fun b t cs hb ht=>Blk.of_heap (hg.block b hb.lt (fun q=>by
  obtain⟨-,cs',hq⟩:=Ag hv q.symm
  exact Blk.ne_ hb hq ht rfl)) hb
 have hnew: ∀b,v'.ownBlock=some b->b<W.heap.size->v.ownBlock=some b:=fun b hb hlt=>by
  rcases hr with hr | hr
  ·rw[<-hr];exact hb
  ·rw[hr]at hb
   have:=Amg hb
   omega
 have hmap: ∀{b:Nat},(∃es cl,W.heap[b]? =some (.map es cl))->b<W.heap.size->W'.heap[b]? =W.heap[b]?:=fun hb hlt=>hg.block _ hlt fun q=>by
  obtain⟨-,cs',hq⟩:=Ag hv q.symm
  exact Jt hb hq
 have hK:Bd (fun b=>K b∨v'.ownBlock=some b) W':=fun b hb=>by
  rcases hb with hb | hb
  ·exact Amk (h4.bd b hb) hg.size
  ·exact(hv'.lt b hb).2
 have hm':Ab (fun b=>K b∨v'.ownBlock=some b) W' s M:=by
  refine h4.move hK hg.size (fun b hb hlt=>?_) (fun b hlt hn=>hg.block b hlt (fun e=>hn (h3 b (hq b e.symm))))
  rcases hb with hb | hb
  ·exact hb
  ·exact h3 b (hq b (hnew b hb hlt))
 have hi:KI W W':=fun b t cs ht hb=>hty b t cs hb (by rcases ht with rfl | rfl <;> rcases he with rfl | rfl | rfl <;> decide)
 have d1:172≠e:=by rcases he with rfl | rfl | rfl <;> decide
 have d2:168≠e:=by rcases he with rfl | rfl | rfl <;> decide
 have d3:30≠e:=by rcases he with rfl | rfl | rfl <;> decide
 refine⟨⟨⟨_,fun b hb=>.inl (h1 b hb),⟨.inl k1,.inl k2,.inl k3,.inl k4,.inl k5,.inl k6⟩,fun b hb=>?_,hm'⟩,h.kwNew hL (fun q e=>(hv.lt q e).1) hi hg,h.f.heap (hmap h.f.obj h.f.lt),h.a.heap (hmap h.a.obj h.a.lt),h.ne,hty _ _ _ h.gB d1,hty _ _ _ h.vB d2,hty _ _ _ h.xB d3,hty _ _ _ h.oB d3,h.nx,h.lo,fun b hb=>?_⟩,hty⟩
 ·rcases hQ b hb with q | q
  ·exact .inl (h3 b q.1)
  ·exact .inr q
 ·rcases hQ b hb with q | q
  ·obtain⟨q1,e',cs,q2,q3⟩:=h.qt b q.1
   exact⟨q1,_,cs,Blk.of_heap (hg.block b q2.lt (fun e=>q.2 e.symm)) q2,q3⟩
  ·obtain⟨q1,cs',q2⟩:=Ag hv' q
   exact⟨q1,_,cs',q2,he⟩
theorem setX(h:Sc L w s fb ab gb vb xb ob M Q nf ff na fa X W)(hL:Bd L w)(i:Nat)(v:Value):Sc L w s fb ab gb vb xb ob M Q nf ff na fa (X.setIfInBounds i v) (W.setCell ⟨xb,i,none⟩ v)/\Rk Q W (W.setCell ⟨xb,i,none⟩ v):=by
 obtain⟨K,h1,⟨k1,k2,k3,k4,k5,k6⟩,h3,h4⟩:=h.ex
 have hfar: ∀{b:Nat} {t:TypeId} {cs:Array Value},Blk W b t cs->b≠xb->Blk (W.setCell ⟨xb,i,none⟩ v) b t cs:=fun hb hn=>hb.far (p:=⟨xb,i,none⟩) hn v
 have hq: ∀b,Q b->b≠xb:=fun b hb=>by
  obtain⟨-,e,cs,q2,q3⟩:=h.qt b hb
  exact Blk.ne_ q2 h.xB (by rcases q3 with rfl | rfl | rfl <;> decide)
 have hhp: ∀b,b≠xb->(W.setCell ⟨xb,i,none⟩ v).heap[b]? =W.heap[b]?:=fun b hb=>Below.heap_setCell _ _ _ _ hb
 have n1:fb≠xb:=fun e=>Jt h.f.obj (e▸h.xB)
 have n2:ab≠xb:=fun e=>Jt h.a.obj (e▸h.xB)
 have hsz:(W.setCell ⟨xb,i,none⟩ v).heap.size=W.heap.size:=by simp[World.setCell]
 have hs:=h.kw.size
 have hl:=h.lo
 refine⟨⟨⟨K,h1,⟨k1,k2,k3,k4,k5,k6⟩,h3,h4.set h.xB k5 i v⟩,⟨⟨⟨h.kw.k.k.os,h.kw.k.k.tape,h.kw.k.k.output,by rw[hsz];exact hs,fun b hb=>?_⟩,h.kw.k.i.setNew (by omega) i v⟩,fun b hb hn=>(hhp b (by omega)).trans (h.kw.o b hb hn)⟩,h.f.heap (hhp _ n1),h.a.heap (hhp _ n2),h.ne,hfar h.gB (Blk.ne_ h.gB h.xB (by decide)),hfar h.vB (Blk.ne_ h.vB h.xB (by decide)),h.xB.set_ i v,hfar h.oB (Ne.symm h.nx),h.nx,h.lo,fun b hb=>?_⟩,?_,fun b hb=>hhp b (hq b hb),fun b cs hb=>hfar hb (Blk.ne_ hb h.xB (by decide))⟩
 ·exact(hhp b (by have:=hL b hb;omega)).trans (h.kw.k.k.block b hb)
 ·obtain⟨q1,e,cs,q2,q3⟩:=h.qt b hb
  exact⟨q1,e,cs,hfar q2 (hq b hb),q3⟩
 ·rw[hsz];exact Ama _
theorem iter(h:Sc L w s fb ab gb vb xb ob M Q nf ff na fa X W)(hL:Bd L w){r:Nat}(hr: ∀t cs,¬ Blk W r t cs)(h1:r≠fb)(h2:r≠ab)(h3:w.heap.size<=r)(h4:r<W.heap.size)(hg:W.grownBy W' (some r)):Sc L w s fb ab gb vb xb ob M Q nf ff na fa X W'/\Rk Q W W':=by
 obtain⟨K,q1,q2,q3,q4⟩:=h.ex
 have hB: ∀{b:Nat} {t:TypeId} {cs:Array Value},Blk W b t cs->Blk W' b t cs:=fun {b t cs} hb=>Blk.of_heap (hg.block b hb.lt (fun e=>by
  have e:=Amg e
  subst e
  exact hr _ _ hb)) hb
 have hm:Ab K W' s M:=((Ab.wide q4).grown (.inr ⟨h4,fun⟨t,cs,hb,_⟩=>hr t cs hb⟩) hg).sub fun _ q=>.inl q
 exact⟨⟨⟨K,q1,q2,q3,hm⟩,h.kwNew hL (fun q e=>by rw[<-Amg e];exact h3) (fun b t cs _ hb=>hB hb) hg,h.f.kept hg (fun q=>h1 (Amg q).symm),h.a.kept hg (fun q=>h2 (Amg q).symm),h.ne,hB h.gB,hB h.vB,hB h.xB,hB h.oB,h.nx,h.lo,fun b hq=>by obtain⟨q1,e,cs,q2,q3⟩:=h.qt b hq;exact⟨q1,e,cs,hB q2,q3⟩⟩,
  hg.size,fun b hq=>by
   obtain⟨-,e,cs,q2,-⟩:=h.qt b hq
   exact hg.block b q2.lt (fun e=>by
    have e:=Amg e
    subst e
    exact hr _ _ q2),fun b cs hq=>hB hq⟩
theorem mapF(h:Sc L w s fb ab gb vb xb ob M Q nf ff na fa X W)(hL:Bd L w){ff':Int->Option Value}{nf':Nat}(hm:MapV W' fb nf' ff')(hg:W.grownBy W' (some fb)):Sc L w s fb ab gb vb xb ob M Q nf' ff' na fa X W'/\Rk Q W W':=by
 obtain⟨K,h1,⟨k1,k2,k3,k4,k5,k6⟩,h3,h4⟩:=h.ex
 have hB: ∀{b:Nat} {t:TypeId} {cs:Array Value},Blk W b t cs->Blk W' b t cs:=fun {b t cs} hb=>Blk.of_heap (hg.block b hb.lt (fun e=>by
  have e:=Amg e
  subst e
  exact Jt h.f.obj hb)) hb
 exact⟨⟨⟨K,h1,⟨k1,k2,k3,k4,k5,k6⟩,h3,h4.grown k1 hg⟩,h.kwNew hL (fun q e=>by have:=h.lo.1;have:=Amg e;omega) (KI.grown h.f.obj hg) hg,hm,h.a.kept hg (fun q=>h.ne (Amg q).symm),h.ne,hB h.gB,hB h.vB,hB h.xB,hB h.oB,h.nx,h.lo,fun b hq=>by obtain⟨q1,e,cs,q2,q3⟩:=h.qt b hq;exact⟨q1,e,cs,hB q2,q3⟩⟩,
  hg.size,fun b hq=>by
   obtain⟨-,e,cs,q2,-⟩:=h.qt b hq
   exact hg.block b q2.lt (fun e=>by
    have e:=Amg e
    subst e
    exact Jt h.f.obj q2),fun b cs hq=>hB hq⟩
theorem mapA(h:Sc L w s fb ab gb vb xb ob M Q nf ff na fa X W)(hL:Bd L w){fa':Int->Option Value}{na':Nat}(hm:MapV W' ab na' fa')(hg:W.grownBy W' (some ab)):Sc L w s fb ab gb vb xb ob M Q nf ff na' fa' X W'/\Rk Q W W':=by
 obtain⟨K,h1,⟨k1,k2,k3,k4,k5,k6⟩,h3,h4⟩:=h.ex
 have hB: ∀{b:Nat} {t:TypeId} {cs:Array Value},Blk W b t cs->Blk W' b t cs:=fun {b t cs} hb=>Blk.of_heap (hg.block b hb.lt (fun e=>by
  have e:=Amg e
  subst e
  exact Jt h.a.obj hb)) hb
 exact⟨⟨⟨K,h1,⟨k1,k2,k3,k4,k5,k6⟩,h3,h4.grown k2 hg⟩,h.kwNew hL (fun q e=>by have:=h.lo.2.1;have:=Amg e;omega) (KI.grown h.a.obj hg) hg,h.f.kept hg (fun q=>h.ne (Amg q)),hm,h.ne,hB h.gB,hB h.vB,hB h.xB,hB h.oB,h.nx,h.lo,fun b hq=>by obtain⟨q1,e,cs,q2,q3⟩:=h.qt b hq;exact⟨q1,e,cs,hB q2,q3⟩⟩,
  hg.size,fun b hq=>by
   obtain⟨-,e,cs,q2,-⟩:=h.qt b hq
   exact hg.block b q2.lt (fun e=>by
    have e:=Amg e
    subst e
    exact Jt h.a.obj q2),fun b cs hq=>hB hq⟩
end Sc
def Q3(iv ov mv:Value):Nat->Prop:=fun b=>iv.ownBlock=some b∨ov.ownBlock=some b∨mv.ownBlock=some b
structure Rs (w:World) (iv ov mv:Value) (I:List InV) (O:List (Int×Int×Int)) (Md:List Int) (fa:Int->Option InV) (W:World):Prop where
 ri:W.ownsRow w.heap.size 93 4 iv I.length (I.flatMap encI)
 ro:W.ownsRow w.heap.size 144 3 ov O.length (O.flatMap encD)
 rm:W.ownsRow w.heap.size 3 1 mv Md.length (Md.flatMap encM)
 en: ∀p∈I,La W p
 ea: ∀i p,fa i=some p->La W p
namespace Rs
variable{w W W':World}{iv ov mv:Value}{I:List InV}{O:List (Int×Int×Int)}{Md:List Int}{fa:Int->Option InV}
theorem keep(h:Rs w iv ov mv I O Md fa W)(hk:Rk (Q3 iv ov mv) W W'):Rs w iv ov mv I O Md fa W':=
 ⟨Fe h.ri fun q hq=>hk.q q (.inl hq),Fe h.ro fun q hq=>hk.q q (.inr (.inl hq)),Fe h.rm fun q hq=>hk.q q (.inr (.inr hq)),fun p hp=>(h.en p hp).rk (Q:=fun _=>True) hk.e,fun i p hp=>(h.ea i p hp).rk (Q:=fun _=>True) hk.e⟩
end Rs
structure Sw (L:Nat->Prop) (w:World) (s fb ab gb vb xb ob:Nat) (M:Mem) (nf:Nat) (ff:Int->Option Value) (na:Nat) (fa:Int->Option InV) (iv ov mv:Value) (I:List InV) (O:List (Int×Int×Int)) (Md:List Int) (W:World):Prop where
 c:Sc L w s fb ab gb vb xb ob M (Q3 iv ov mv) nf ff na (faV fa) #[iv,ov,mv] W
 r:Rs w iv ov mv I O Md fa W
namespace Sw
variable{L:Nat->Prop}{w W W':World}{s fb ab gb vb xb ob:Nat}{M:Mem}{nf na:Nat}{ff:Int->Option Value}{fa:Int->Option InV}{iv ov mv:Value}{I:List InV}{O:List (Int×Int×Int)}{Md:List Int}
theorem below(h:Sw L w s fb ab gb vb xb ob M nf ff na fa iv ov mv I O Md W)(hb:Below W.heap.size W W'):Sw L w s fb ab gb vb xb ob M nf ff na fa iv ov mv I O Md W':=⟨(h.c.below hb).1,h.r.keep (h.c.below hb).2⟩
theorem alloc(h:Sw L w s fb ab gb vb xb ob M nf ff na fa iv ov mv I O Md W)(o:Obj):Sw L w s fb ab gb vb xb ob M nf ff na fa iv ov mv I O Md (W.alloc o):=h.below ((Amf _ _).alloc (Ama _) o)
theorem drew(h:Sw L w s fb ab gb vb xb ob M nf ff na fa iv ov mv I O Md W):Sw L w s fb ab gb vb xb ob M nf ff na fa iv ov mv I O Md W.drew:=h.below (Ae W)
theorem call(h:Sw L w s fb ab gb vb xb ob M nf ff na fa iv ov mv I O Md W){P:FuncId}{args:Array Value}{R:Ending->World->Prop}
  (hc: ∀K,Ab K W s M->Calls Tryz.prog P args W fun e w'=>R e w'/\Ab K w' s M/\Kw K W w'):
  Calls Tryz.prog P args W fun e w'=>R e w'/\Sw L w s fb ab gb vb xb ob M nf ff na fa iv ov mv I O Md w'/\ ∀b,b<W.heap.size-> ¬ Bw W b->w'.heap[b]? =W.heap[b]?:=by
 refine(h.c.call hc).mono ?_
 rintro e w' ⟨h1,h2,h3,h4⟩
 exact⟨h1,⟨h2,h.r.keep h3⟩,h4⟩
theorem ne_ty(h:Sw L w s fb ab gb vb xb ob M nf ff na fa iv ov mv I O Md W):(∀q,iv.ownBlock=some q->ov.ownBlock≠some q/\mv.ownBlock≠some q)/\ (∀q,ov.ownBlock=some q->mv.ownBlock≠some q):=by
 refine⟨fun q h1=>⟨fun h2=>?_,fun h2=>?_⟩,fun q h1 h2=>?_⟩
 ·obtain⟨-,c1,b1⟩:=Ag h.r.ri h1
  obtain⟨-,c2,b2⟩:=Ag h.r.ro h2
  exact Blk.ne_ b1 b2 (by decide) rfl
 ·obtain⟨-,c1,b1⟩:=Ag h.r.ri h1
  obtain⟨-,c2,b2⟩:=Ag h.r.rm h2
  exact Blk.ne_ b1 b2 (by decide) rfl
 ·obtain⟨-,c1,b1⟩:=Ag h.r.ro h1
  obtain⟨-,c2,b2⟩:=Ag h.r.rm h2
  exact Blk.ne_ b1 b2 (by decide) rfl
theorem pushM(h:Sw L w s fb ab gb vb xb ob M nf ff na fa iv ov mv I O Md W)(hL:Bd L w){v':Value}{Md':List Int}{n':Nat}(hn:n'=Md'.length)(ho:W'.ownsRow w.heap.size 3 1 v' n' (Md'.flatMap encM))(hg:W.grownBy W' mv.ownBlock)(hr:v'.ownBlock=mv.ownBlock∨v'.ownBlock=some W.heap.size):
  Sw L w s fb ab gb vb xb ob M nf ff na fa iv ov v' I O Md' (W'.setCell ⟨xb,2,none⟩ v'):=by
 subst hn
 obtain⟨n1,n2⟩:=h.ne_ty
 obtain⟨h1,h2⟩:=h.c.grow (Q':=Q3 iv ov v') hL h.r.rm (.inr (.inr rfl)) (fun q hq=>.inr (.inr hq)) ho hg hr (fun b hb=>by
  rcases hb with hb | hb | hb
  ·exact .inl ⟨.inl hb,(n1 b hb).2⟩
  ·exact .inl ⟨.inr (.inl hb),n2 b hb⟩
  ·exact .inr hb)
 obtain⟨h3,h4⟩:=h1.setX hL 2 v'
 have he: ∀b cs,Blk W b 132 cs->Blk W' b 132 cs:=fun b cs hb=>h2 b _ cs hb (by decide)
 have hh: ∀q,mv.ownBlock≠some q->q<W.heap.size->W'.heap[q]? =W.heap[q]?:=fun q hq hl=>hg.block q hl (fun e=>hq e.symm)
 exact⟨h3,Rs.keep ⟨Fe h.r.ri fun q hq=>hh q (n1 q hq).2 (h.r.ri.lt q hq).2,Fe h.r.ro fun q hq=>hh q (n2 q hq) (h.r.ro.lt q hq).2,ho,fun p hp=>(h.r.en p hp).rk (Q:=fun _=>True) he,fun i p hp=>(h.r.ea i p hp).rk (Q:=fun _=>True) he⟩ h4⟩
theorem pushO(h:Sw L w s fb ab gb vb xb ob M nf ff na fa iv ov mv I O Md W)(hL:Bd L w){v':Value}{O':List (Int×Int×Int)}{n':Nat}(hn:n'=O'.length)(ho:W'.ownsRow w.heap.size 144 3 v' n' (O'.flatMap encD))(hg:W.grownBy W' ov.ownBlock)(hr:v'.ownBlock=ov.ownBlock∨v'.ownBlock=some W.heap.size):
  Sw L w s fb ab gb vb xb ob M nf ff na fa iv v' mv I O' Md (W'.setCell ⟨xb,1,none⟩ v'):=by
 subst hn
 obtain⟨n1,n2⟩:=h.ne_ty
 obtain⟨h1,h2⟩:=h.c.grow (Q':=Q3 iv v' mv) hL h.r.ro (.inr (.inl rfl)) (fun q hq=>.inr (.inl hq)) ho hg hr (fun b hb=>by
  rcases hb with hb | hb | hb
  ·exact .inl ⟨.inl hb,(n1 b hb).1⟩
  ·exact .inr hb
  ·exact .inl ⟨.inr (.inr hb),fun e=>n2 b e hb⟩)
 obtain⟨h3,h4⟩:=h1.setX hL 1 v'
 have he: ∀b cs,Blk W b 132 cs->Blk W' b 132 cs:=fun b cs hb=>h2 b _ cs hb (by decide)
 have hh: ∀q,ov.ownBlock≠some q->q<W.heap.size->W'.heap[q]? =W.heap[q]?:=fun q hq hl=>hg.block q hl (fun e=>hq e.symm)
 exact⟨h3,Rs.keep ⟨Fe h.r.ri fun q hq=>hh q (n1 q hq).1 (h.r.ri.lt q hq).2,ho,Fe h.r.rm fun q hq=>hh q (fun e=>n2 q e hq) (h.r.rm.lt q hq).2,fun p hp=>(h.r.en p hp).rk (Q:=fun _=>True) he,fun i p hp=>(h.r.ea i p hp).rk (Q:=fun _=>True) he⟩ h4⟩
theorem pushI(h:Sw L w s fb ab gb vb xb ob M nf ff na fa iv ov mv I O Md W)(hL:Bd L w){v':Value}{p:InV}{n':Nat}(hn:n'=(I++[p]).length)(ho:W'.ownsRow w.heap.size 93 4 v' n' ((I++[p]).flatMap encI))(hp:La W p)(hg:W.grownBy W' iv.ownBlock)(hr:v'.ownBlock=iv.ownBlock∨v'.ownBlock=some W.heap.size):
  Sw L w s fb ab gb vb xb ob M nf ff na fa v' ov mv (I++[p]) O Md (W'.setCell ⟨xb,0,none⟩ v'):=by
 subst hn
 obtain⟨n1,n2⟩:=h.ne_ty
 obtain⟨h1,h2⟩:=h.c.grow (Q':=Q3 v' ov mv) hL h.r.ri (.inl rfl) (fun q hq=>.inl hq) ho hg hr (fun b hb=>by
  rcases hb with hb | hb | hb
  ·exact .inr hb
  ·exact .inl ⟨.inr (.inl hb),fun e=>(n1 b e).1 hb⟩
  ·exact .inl ⟨.inr (.inr hb),fun e=>(n1 b e).2 hb⟩)
 obtain⟨h3,h4⟩:=h1.setX hL 0 v'
 have he: ∀b cs,Blk W b 132 cs->Blk W' b 132 cs:=fun b cs hb=>h2 b _ cs hb (by decide)
 have hh: ∀q,iv.ownBlock≠some q->q<W.heap.size->W'.heap[q]? =W.heap[q]?:=fun q hq hl=>hg.block q hl (fun e=>hq e.symm)
 exact⟨h3,Rs.keep ⟨ho,Fe h.r.ro fun q hq=>hh q (fun e=>(n1 q e).1 hq) (h.r.ro.lt q hq).2,Fe h.r.rm fun q hq=>hh q (fun e=>(n1 q e).2 hq) (h.r.rm.lt q hq).2,fun x hx=>by
  rcases List.mem_append.1 hx with hx | hx
  ·exact(h.r.en x hx).rk (Q:=fun _=>True) he
  ·rw[List.mem_singleton.1 hx];exact hp.rk (Q:=fun _=>True) he,fun i p hp=>(h.r.ea i p hp).rk (Q:=fun _=>True) he⟩ h4⟩
theorem mapF(h:Sw L w s fb ab gb vb xb ob M nf ff na fa iv ov mv I O Md W)(hL:Bd L w){ff':Int->Option Value}{nf':Nat}(hm:MapV W' fb nf' ff')(hg:W.grownBy W' (some fb)):Sw L w s fb ab gb vb xb ob M nf' ff' na fa iv ov mv I O Md W':=
 ⟨(h.c.mapF hL hm hg).1,h.r.keep (h.c.mapF hL hm hg).2⟩
theorem mapA(h:Sw L w s fb ab gb vb xb ob M nf ff na fa iv ov mv I O Md W)(hL:Bd L w){num:Int}{p:InV}{na':Nat}(hm:MapV W' ab na' (fun j=>if j=num then some (.agg (encI p).toArray)else faV fa j))(hp:La W p)(hg:W.grownBy W' (some ab)):Sw L w s fb ab gb vb xb ob M nf ff na' (fun j=>if j=num then some p else fa j) iv ov mv I O Md W':=by
 have hm':MapV W' ab na' (faV fun j=>if j=num then some p else fa j):=hm.congr fun j=>by
  unfold faV
  by_cases e:j=num <;> simp[e]
 have h1:=h.c.mapA hL hm' hg
 have h2:=h.r.keep h1.2
 exact⟨h1.1,h2.ri,h2.ro,h2.rm,h2.en,fun i q hq=>by
  by_cases e:i=num
  ·simp only[if_pos e]at hq
   rw[<-Amg hq]
   exact hp.rk (Q:=fun _=>True) h1.2.e
  ·simp only[if_neg e]at hq
   exact h2.ea i q hq⟩
theorem iter(h:Sw L w s fb ab gb vb xb ob M nf ff na fa iv ov mv I O Md W)(hL:Bd L w){r:Nat}(hr: ∀t cs,¬ Blk W r t cs)(h1:r≠fb)(h2:r≠ab)(h3:w.heap.size<=r)(h4:r<W.heap.size)(hg:W.grownBy W' (some r)):Sw L w s fb ab gb vb xb ob M nf ff na fa iv ov mv I O Md W':=
 ⟨(h.c.iter hL hr h1 h2 h3 h4 hg).1,h.r.keep (h.c.iter hL hr h1 h2 h3 h4 hg).2⟩
end Sw
theorem Cp.heap{w w':World}{b r n cnt:Nat}{f:Int->Option Value}{lf:Int->Bool}(h:Cp w b r n f lf cnt)(e1:w'.heap[b]? =w.heap[b]?)(e2:w'.heap[r]? =w.heap[r]?):Cp w' b r n f lf cnt:=by
 obtain⟨D,left,hr,hf,hl⟩:=h
 refine⟨D,left,?_,hf,hl⟩
 unfold World.ranges at hr⊢
 rw[e1,e2]
 exact hr
theorem Cp.noBlk{w:World}{b r n cnt:Nat}{f:Int->Option Value}{lf:Int->Bool}(h:Cp w b r n f lf cnt)(t:TypeId)(cs:Array Value): ¬ Blk w r t cs:=by
 obtain⟨D,left,hr,hf,hl⟩:=h
 obtain⟨es,clock,since,seen,c0,h1,h2,h3,h4,h5,-⟩:=hr
 intro hb
 unfold Blk at hb
 rw[h5]at hb;cases hb
theorem Cp.cnt_le{w:World}{b r n cnt:Nat}{f:Int->Option Value}{lf:Int->Bool}(h:Cp w b r n f lf cnt):cnt<=n:=by
 obtain⟨D,left,hr,hf,hl⟩:=h
 obtain⟨es,clock,since,seen,c0,h1,h2,h3,h4,h5,h6,h7,-⟩:=hr
 rw[<-h7]
 refine Aml ?_ h3
 unfold leftOf
 exact Array.size_filter_le
theorem Cp.noMap{w:World}{b r n cnt:Nat}{f:Int->Option Value}{lf:Int->Bool}(h:Cp w b r n f lf cnt){q:Nat}(hq: ∃es cl,w.heap[q]? =some (.map es cl)):r≠q:=by
 obtain⟨D,left,hr,hf,hl⟩:=h
 obtain⟨es,clock,since,seen,c0,h1,h2,h3,h4,h5,-⟩:=hr
 rintro rfl
 obtain⟨es',cl',hq⟩:=hq
 rw[h5]at hq;cases hq
def Ca(M:Mem)(c:Nat):List Int:=(List.range c).map fun k=>rd M.ws (mdw (k:Nat))
def opsC(M:Mem)(c k:Nat):List (Int×Int×Int):=(List.range k).filterMap fun j=>if rd M.ws (fdw (c:Nat) (j:Nat))=0 then none else some ((c:Int),(j:Int),rd M.ws (fdw (c:Nat) (j:Nat)))
def Bj(M:Mem)(c:Nat):List (Int×Int×Int):=(List.range c).flatMap fun q=>opsC M q 4
def Bb(FL:List Int)(O:List (Int×Int×Int)):Int->Option Value:=fun j=>if j∈FL∨j∈O.map (·.2.2)then some (.bool true)else none
theorem Yz(M:Mem)(c:Nat):Ca M (c+1)=Ca M c++[rd M.ws (mdw (c:Nat))]:=by
 unfold Ca
 rw[List.range_succ,List.map_append];rfl
theorem Ju(M:Mem)(c:Nat):(Ca M c).length=c:=by simp[Ca]
theorem Aeb{M:Mem}{c k:Nat}(h:rd M.ws (fdw (c:Nat) (k:Nat))=0):opsC M c (k+1)=opsC M c k:=by
 unfold opsC
 rw[List.range_succ,List.filterMap_append]
 simp[h]
theorem Aec{M:Mem}{c k:Nat}(h:rd M.ws (fdw (c:Nat) (k:Nat))≠0):opsC M c (k+1)=opsC M c k++[((c:Int),(k:Int),rd M.ws (fdw (c:Nat) (k:Nat)))]:=by
 unfold opsC
 rw[List.range_succ,List.filterMap_append]
 simp[h]
theorem Yj(M:Mem)(c k:Nat):(opsC M c k).length<=k:=by
 unfold opsC
 exact Aml (List.length_filterMap_le _ _) (by simp)
theorem Rq(M:Mem)(c:Nat):Bj M (c+1)=Bj M c++opsC M c 4:=by
 unfold Bj
 rw[List.range_succ,List.flatMap_append];simp
theorem Ou(M:Mem): ∀c,(Bj M c).length<=4*c
 | 0=>by simp[Bj]
 | c+1=>by rw[Rq,Ami];have:=Ou M c;have:=Yj M c 4;omega
theorem Aea{M:Mem}{n:Nat}(h: ∀c k:Nat,c<n->k<4->0<=rd M.ws (fdw (c:Nat) (k:Nat))/\rd M.ws (fdw (c:Nat) (k:Nat))<=257){x:Int×Int×Int}(hx:x∈Bj M n):0<=x.2.2/\x.2.2<=257:=by
 unfold Bj at hx
 obtain⟨c,hc,hx⟩:=List.mem_flatMap.1 hx
 unfold opsC at hx
 obtain⟨k,hk,hx⟩:=List.mem_filterMap.1 hx
 split at hx
 ·cases hx
 ·rw[<-Amg hx]
  exact h c k (List.mem_range.1 hc) (List.mem_range.1 hk)
theorem Abz{M:Mem}{n:Nat}{FL:List Int}(h: ∀c k:Nat,c<n->k<4->0<=rd M.ws (fdw (c:Nat) (k:Nat))/\rd M.ws (fdw (c:Nat) (k:Nat))<=257)(hf: ∀i∈FL,0<=i/\i<=257){i:Int}(hi:(Bb FL (Bj M n) i).isSome=true):0<=i/\i<=257:=by
 unfold Bb at hi
 split at hi
 ·rename_i q
  rcases q with q | q
  ·exact hf i q
  ·obtain⟨x,hx,rfl⟩:=List.mem_map.1 q
   exact Aea h hx
 ·cases hi
theorem Ab0(g:Gt)(i:Int):Bb g.fs [] i=Ih g i:=by unfold Bb Ih;simp
theorem Zv(FL:List Int)(O:List (Int×Int×Int))(x:Int×Int×Int)(j:Int):(if j=x.2.2 then some (.bool true)else Bb FL O j)=Bb FL (O++[x]) j:=by
 unfold Bb
 by_cases e:j=x.2.2
 ·simp[e]
 ·have q:(j∈FL∨j∈(O++[x]).map (·.2.2))↔(j∈FL∨j∈O.map (·.2.2)):=by
   rw[List.map_append,List.mem_append]
   simp[e]
  rw[if_neg e]
  by_cases r:j∈FL∨j∈O.map (·.2.2)
  ·rw[if_pos r,if_pos (q.2 r)]
  ·rw[if_neg r,if_neg (fun h=>r (q.1 h))]
def AllD(M:Mem)(g:Gt)(fa:Int->Option InV):Prop:=∀i,((fa i).isSome=decide (i∈g.ds))/\ ∀p,fa i=some p->p.1.num=i/\p.1.dir=true/\p.1.data=⟨#[]⟩/\p.1.ents.Perm ((itsM M i).map Gp)/\Kb p.1.ents
theorem Ali{V:Nat->Prop}{W:World}{fb ab:Nat}{M:Mem}{g:Gt}(h:GV V W fb ab M g): ∃fa:Int->Option InV,MapV W ab g.n (faV fa)/\AllD M g fa/\ ∀i p,fa i=some p->La W p:=by
 obtain⟨fv,h1,h2⟩:=h.a
 have hch: ∀i,∃o:Option InV,(o.map fun p=>Value.agg (encI p).toArray)=fv i/\ ∀p,o=some p->p.1.num=i/\p.1.dir=true/\p.1.data=⟨#[]⟩/\La W p/\p.1.ents.Perm ((itsM M i).map Gp)/\Kb p.1.ents:=fun i=>by
  cases e:fv i with
  | none=>exact⟨none,rfl,fun p hp=>by cases hp⟩
  | some v=>
   obtain⟨ev,l,rfl,q1,q2,q3,q4⟩:=(h2 i).2 v e
   exact⟨some (⟨i,true,l,⟨#[]⟩⟩,ev),rfl,fun p hp=>by
    rw[<-Amg hp]
    exact⟨rfl,rfl,rfl,q1,q3,q4⟩⟩
 refine⟨fun i=>(hch i).choose,?_,fun i=>⟨?_,fun p hp=>?_⟩,fun i p hp=>((hch i).choose_spec.2 p hp).2.2.2.1⟩
 ·exact h1.congr fun i=>((hch i).choose_spec.1).symm
 ·have:=(hch i).choose_spec.1
  rw[<-(h2 i).1,<-this]
  simp
 ·obtain⟨q1,q2,q3,q4,q5⟩:=(hch i).choose_spec.2 p hp
  exact⟨q1,q2,q3,q5⟩
def filI(D:Int->ByteArray)(i:Int):InV:=(⟨i,false,[],D i⟩,.slice none 0 0)
def allF(FL:List Int)(O:List (Int×Int×Int))(D:Int->ByteArray)(fa:Int->Option InV)(lf:Int->Bool):Int->Option InV:=fun i=>if(Bb FL O i).isSome=true/\lf i=false then some (filI D i)else fa i
def Eu(fa:Int->Option InV)(m:Nat):List InV:=(List.range m).filterMap fun(j:Nat)=>fa ((j:Int)+1)
theorem Abt{fa:Int->Option InV}{m:Nat}{p:InV}(h:fa ((m:Int)+1)=some p):Eu fa (m+1)=Eu fa m++[p]:=by
 unfold Eu
 rw[List.range_succ,List.filterMap_append];simp[h]
theorem Abu{fa:Int->Option InV}{m:Nat}(h:fa ((m:Int)+1)=none):Eu fa (m+1)=Eu fa m:=by
 unfold Eu
 rw[List.range_succ,List.filterMap_append];simp[h]
theorem Aen(fa:Int->Option InV)(m:Nat):(Eu fa m).length<=m:=by
 unfold Eu
 exact Aml (List.length_filterMap_le _ _) (by simp)
theorem Ajm(W:World)(D:Int->ByteArray)(i:Int):La W (filI D i):=RowT.nil_ _ _ _ _ _
structure Og (M:Mem) (g:Gt) (D:Int->ByteArray) (n:Nat) (S:St):Prop where
 made:S.made=Ca M n
 opens : S.opens = Bj M n
 ino: ∃A:Int->Option Ino,S.inodes=(List.range 257).filterMap (fun(j:Nat)=>A ((j:Int)+1))/\ ∀i,((Bb g.fs (Bj M n) i).isSome=true->A i=some ⟨i,false,[],D i⟩)/\ (¬ (Bb g.fs (Bj M n) i).isSome=true->((A i).isSome=decide (i∈g.ds))/\ ∀p,A i=some p->p.num=i/\p.dir=true/\p.data=⟨#[]⟩/\p.ents.Perm ((itsM M i).map Gp)/\Kb p.ents)
section
variable{L:Nat->Prop}{w:World}{s:Nat}{M:Mem}{m:Nat}
theorem Dx.wide{v:Value}{t:Co}(h:Dx L w v t):Dx (Ua L w) w v t:=by
 cases t with
 | bucket l=>
  obtain⟨sv,h1,h2,h3⟩:=h
  refine⟨sv,h1,h2,fun hl q hq hw=>?_⟩
  rcases hw with hw | hw
  ·exact h3 hl q hq hw
  ·refine hw.2 ?_
   obtain⟨A,cap,rfl,r2,r3⟩:=h2
   obtain⟨g,off,cs,rfl,r4,r5,r6⟩:=r3 hl
   obtain⟨o,n,c,e⟩:=hq
   injection e with e
   injection e with e
   injection e with e
   exact e▸⟨_,_,r5,by simp⟩
 | base a d h'=>exact h
 | quad b q d=>exact h
 | page b q d=>exact h
theorem Ahg(h:Ab L w s M)(hok:M.ok m)(hm:m<=1000000000){c:Int}(hc:0<=c/\c<M.ts.length){ty:TypeId}{x:Value}{t:Co}(ht:Dx L w (.iface ty x) t):
  Calls Tryz.prog 66 #[.pointer (some ⟨s,0,none⟩),.int .i64 c,.iface ty x] w fun e w'=>(e= .returned (.int .i64 (M.next c))/\w'.cell? ⟨s,0,none⟩=w.cell? ⟨s,0,none⟩)/\Ab L w' s (M.give c t)/\Kw L w w':=by
 refine(Up h.wide hok hm hc ht.wide).mono ?_
 rintro e w' ⟨h1,h2,h3⟩
 exact⟨h1,h2.sub fun _ q=>.inl q,Kw.of h3⟩
theorem Ak0(h:Ab L w s M)(hok:M.ok m){i v:Int}(hi:0<=i/\i<9549){a:Nat}(ha:w.cell? ⟨s,0,none⟩=some (.pointer (some ⟨a,0,none⟩))):
  Calls Tryz.prog 64 #[.pointer (some ⟨a,0,none⟩),.int .i64 i,.int .i64 v] w fun e w'=>(e= .returned (.tuple #[])/\w'.cell? ⟨s,0,none⟩=w.cell? ⟨s,0,none⟩)/\Ab L w' s (M.put i v)/\Kp L w w':=by
 obtain⟨a',L1,h0,har,hback⟩:=h.lend
 have e:a'=a:=by
  rw[h0]at ha
  injection ha with ha
  injection ha with ha
  injection ha with ha
  injection ha
 subst e
 refine(Aiy har (i:=i) (by rw[hok.wl];exact hi) rfl).mono ?_
 rintro e w' ⟨rfl,hA,hK⟩
 obtain⟨h1,h2,h3,h4⟩:=hback w' _ _ rfl hA hK
 exact⟨⟨rfl,h4.trans h0.symm⟩,h1,h2,h3⟩
theorem Rn(h:Ab L w s M)(hok:M.ok m){i v:Int}(hi:0<=i/\i<9549){a:Nat}(ha:w.cell? ⟨s,0,none⟩=some (.pointer (some ⟨a,0,none⟩))):
  Calls Tryz.prog 64 #[.pointer (some ⟨a,0,none⟩),.int .i64 i,.int .i64 v] w fun e w'=>(e= .returned (.tuple #[])/\w'.cell? ⟨s,0,none⟩=w.cell? ⟨s,0,none⟩)/\Ab L w' s (M.put i v)/\Kw L w w':=by
 refine(Ak0 h.wide hok hi ha).mono ?_
 rintro e w' ⟨h1,h2,h3⟩
 exact⟨h1,h2.sub fun _ q=>.inl q,Kw.of h3⟩
theorem Ab.arena(h:Ab L w s M): ∃a,w.cell? ⟨s,0,none⟩=some (.pointer (some ⟨a,0,none⟩)):=by
 obtain⟨a,L1,h0,-,-⟩:=h.lend
 exact⟨a,h0⟩
end
namespace Kw
variable{L:Nat->Prop}{w w':World}
theorem cellB{g:Nat}{t:TypeId}{cs:Array Value}(h:Kw L w w')(hb:Blk w g t cs)(ht: ¬ (t=78∨t=150∨t=20∨t=152∨t=3∨t=136)){i:Nat}{v:Value}(hc:w.cell? ⟨g,i,none⟩=some v):w'.cell? ⟨g,i,none⟩=some v:=by
 rw[(h.blk hb ht).cell,<-hb.cell];exact hc
theorem it(h:Kw L w w'){v:Value}{l:List Item}(hi:ItB w v l):ItB w' v l:=hi.ki h.k.i
end Kw
end Go.Proofs.YtkebjgebkneijaaGreat
