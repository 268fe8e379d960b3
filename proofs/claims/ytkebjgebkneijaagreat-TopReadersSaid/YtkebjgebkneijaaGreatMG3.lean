/- Texts of one's own that a claim's last text rests on: Mf Mf2 Mf3 Mf4 Mf5. -/
import Derived.Test.YtkebjgebkneijaaGreatMG1
import Derived.Test.YtkebjgebkneijaaGreatMG2
import Derived.Deep.RegionHeld3
import Derived.IntWalk
set_option linter.unusedVariables false
set_option linter.unusedSimpArgs false
namespace Go.Proofs.YtkebjgebkneijaaGreat
open Go.RowKit
set_option maxHeartbeats 16000000
set_option maxRecDepth 1000000
structure Item where
 name:ByteArray
 num:Int
 dir:Bool
inductive Co where
 | bucket (l:List Item)
 | base (v:Int) (d:ByteArray) (h:Bool)
 | quad (b v:Int) (d:ByteArray)
 | page (b q:Int) (d:ByteArray)
instance:Inhabited Co:=⟨.bucket []⟩
def Ba:Item:=⟨ByteArray.empty,0,false⟩
def itC(l:List Item):Nat->Nat->Value:=fun i j=>match j with
 | 0=>.string (l.getD i Ba).name
 | 1=>.int .i64 (l.getD i Ba).num
 | _=>.bool (l.getD i Ba).dir
def Ib(x:Item):List Value:=[.string x.name,.int .i64 x.num,.bool x.dir]
def ItB(w:World)(v:Value)(l:List Item):Prop:=RowT w 0 136 3 v l.length (itC l)
def Dx(L:Nat->Prop)(w:World)(v:Value):Co->Prop
 | .bucket l=>∃sv,v= .iface 129 sv/\ItB w sv l/\ (0<l.length-> ∀q,Es sv q-> ¬ L q)
 | .base a d h=>v= .iface 142 (.agg #[.int .i64 a,.string d,.bool h])
 | .quad b q d=>v= .iface 260 (.agg #[.int .i64 b,.int .i64 q,.string d])
 | .page b q d=>v= .iface 307 (.agg #[.int .i64 b,.int .i64 q,.string d])
def Dg(t:TypeId):Prop:=t=136∨t=9
def KI(w w':World):Prop:=∀b t cs,Dg t->Blk w b t cs->Blk w' b t cs
namespace KI
variable{w w' w'':World}
theorem refl(w:World):KI w w:=fun _ _ _ _ h=>h
theorem trans(h:KI w w')(k:KI w' w''):KI w w'':=fun b t cs ht hb=>k b t cs ht (h b t cs ht hb)
theorem below(hb:Below w.heap.size w w'):KI w w':=fun b _ _ _ h=>Blk.of_heap (hb.block b h.lt) h
theorem set{g:Nat}{t:TypeId}{cs:Array Value}(hg:Blk w g t cs)(ht: ¬ Dg t)(i:Nat)(u:Value):KI w (w.setCell ⟨g,i,none⟩ u):=fun b t' cs' ht' h=>h.far (p:=⟨g,i,none⟩) (fun e=>by
 have e:b=g:=e
 subst e
 unfold Blk at h hg
 rw[h]at hg
 injection hg with hg
 injection hg with _ hg
 exact ht (hg▸ht')) u
theorem drew(h:KI w w'):KI w w'.drew:=h
theorem drewN(h:KI w w')(n:Nat):KI w (w'.drewN n):=h
theorem undrew(h:KI w.drew w'):KI w w':=h
theorem alloc(h:KI w w')(o:Obj):KI w (w'.alloc o):=h.trans (below ((Amf _ _).alloc (Ama _) o))
end KI
theorem ItB.ki{w w':World}{v:Value}{l:List Item}(h:ItB w v l)(k:KI w w'):ItB w' v l:=RowT.heap h fun q cs _ hq=>k q _ cs (.inl rfl) hq
theorem ItB.lt{w:World}{v:Value}{l:List Item}(h:ItB w v l)(hl:0<l.length){q:Nat}(hq:Es v q):q<w.heap.size:=by
 obtain⟨A,cap,rfl,h2,h3⟩:=h
 obtain⟨g,off,cs,rfl,h4,h5,h6⟩:=h3 hl
 obtain⟨o,n,c,e⟩:=hq
 injection e with e
 injection e with e
 injection e with e
 exact e▸h5.lt
theorem ItB.keep{w w':World}{v:Value}{l:List Item}(h:ItB w v l)(hk:0<l.length-> ∀q,Es v q->w'.heap[q]? =w.heap[q]?):ItB w' v l:=by
 obtain⟨A,cap,rfl,h2,h3⟩:=h
 refine⟨A,cap,rfl,h2,fun hn=>?_⟩
 obtain⟨g,off,cs,rfl,h4,h5,h6⟩:=h3 hn
 exact⟨g,off,cs,rfl,h4,Blk.of_heap (hk hn g ⟨off,_,cap,rfl⟩) h5,h6⟩
theorem Dx.ki{L:Nat->Prop}{w w':World}{v:Value}{t:Co}(h:Dx L w v t)(k:KI w w'):Dx L w' v t:=by
 cases t with
 | bucket l=>obtain⟨sv,h1,h2,h3⟩:=h;exact⟨sv,h1,h2.ki k,h3⟩
 | base a d h'=>exact h
 | quad b q d=>exact h
 | page b q d=>exact h
theorem Dx.move{L L':Nat->Prop}{w w':World}{v:Value}{t:Co}(h:Dx L w v t)(hl: ∀b,L' b->b<w.heap.size->L b)(hk: ∀b,b<w.heap.size-> ¬ L b->w'.heap[b]? =w.heap[b]?):Dx L' w' v t:=by
 cases t with
 | bucket l=>
  obtain⟨sv,h1,h2,h3⟩:=h
  exact⟨sv,h1,h2.keep fun hn q hq=>hk q (h2.lt hn hq) (h3 hn q hq),fun hn q hq hq'=>h3 hn q hq (hl q hq' (h2.lt hn hq))⟩
 | base a d h'=>exact h
 | quad b q d=>exact h
 | page b q d=>exact h
theorem Dx.it{L:Nat->Prop}{w:World}{v:Value}{l:List Item}(h:Dx L w v (.bucket l)): ∃sv,v= .iface 129 sv/\ItB w sv l:=by obtain⟨sv,h1,h2,-⟩:=h;exact⟨sv,h1,h2⟩
structure NmIn (K:Nat->Prop) (w:World) (s a bn:Nat) (vs:List Value) (xs:List (List Value)):Prop where
 bd:Bd K w
 ks:K s
 kn:K bn
 bs:Blk w s 78 #[.pointer (some ⟨a,0,none⟩),.slice (some ⟨bn,0,none⟩) xs.length xs.length]
 bns:Blk w bn 150 vs.toArray
 vl:vs.length=xs.length
 row: ∀c,c<xs.length->w.ownsRow 0 20 1 (vs.getD c undef) (xs.getD c []).length (xs.getD c [])
 krow: ∀c,c<xs.length-> ∀b,(vs.getD c undef).ownBlock=some b->K b
 apart: ∀c c',c<xs.length->c'<xs.length->c≠c'-> ∀b,(vs.getD c undef).ownBlock=some b->(vs.getD c' undef).ownBlock≠some b
section
variable{K:Nat->Prop}{w w':World}{s a bn:Nat}{vs:List Value}{xs:List (List Value)}
theorem NmIn.move(h:NmIn K w s a bn vs xs)(hs:w.heap.size<=w'.heap.size)(hk: ∀b,K b->w'.heap[b]? =w.heap[b]?):NmIn K w' s a bn vs xs:=by
 refine⟨fun b hb=>Amk (h.bd b hb) hs,h.ks,h.kn,Blk.of_heap (hk _ h.ks) h.bs,Blk.of_heap (hk _ h.kn) h.bns,h.vl,?_,h.krow,h.apart⟩
 intro c hc
 have r:=h.row c hc
 refine⟨r.1,?_⟩
 rcases r.2 with r2 | ⟨g,cap,cur,hv,hg,hh,rest⟩
 ·exact .inl r2
 ·refine .inr ⟨g,cap,cur,hv,hg,?_,rest⟩
  rw[hk g (h.krow c hc g (by rw[hv];rfl))]
  exact hh
end
structure Mem where
 ws:List Int
 ts:List (List Acc)
 nm:List (List Co)
def ThVs(L:Nat->Prop)(w:World)(xs:List (List Value))(nm:List (List Co)):Prop:=
 xs.length=nm.length/\ ∀c,c<nm.length->(xs.getD c []).length=(nm.getD c []).length/\ ∀k,k< (nm.getD c []).length->Dx L w ((xs.getD c []).getD k undef) ((nm.getD c []).getD k default)
theorem ThVs.move{L L':Nat->Prop}{w w':World}{xs:List (List Value)}{nm:List (List Co)}(h:ThVs L w xs nm)(hl: ∀b,L' b->b<w.heap.size->L b)(hk: ∀b,b<w.heap.size-> ¬ L b->w'.heap[b]? =w.heap[b]?):ThVs L' w' xs nm:=⟨h.1,fun c hc=>⟨(h.2 c hc).1,fun j hj=>((h.2 c hc).2 j hj).move hl hk⟩⟩
theorem ThVs.ki{L:Nat->Prop}{w w':World}{xs:List (List Value)}{nm:List (List Co)}(h:ThVs L w xs nm)(k:KI w w'):ThVs L w' xs nm:=⟨h.1,fun c hc=>⟨(h.2 c hc).1,fun j hj=>((h.2 c hc).2 j hj).ki k⟩⟩
structure Aa0 (L:Nat->Prop) (w:World) (s a bn:Nat) (K:Nat->Prop) (vs:List Value) (xs:List (List Value)) (M:Mem):Prop where
 bd:Bd L w
 dis: ∀b,K b-> ¬ L b
 ar:ArAt (fun b=>L b∨K b) w a M.ws M.ts
 nm:NmIn K w s a bn vs xs
 th:ThVs L w xs M.nm
 len:M.nm.length=M.ts.length
def Ab(L:Nat->Prop)(w:World)(s:Nat)(M:Mem):Prop:=∃a bn K vs xs,Aa0 L w s a bn K vs xs M
section
variable{L L':Nat->Prop}{w w':World}{s a bn:Nat}{K:Nat->Prop}{vs:List Value}{xs:List (List Value)}{M:Mem}
theorem Aa0.move(h:Aa0 L w s a bn K vs xs M)(hb:Bd L' w')(hs:w.heap.size<=w'.heap.size)(hl: ∀b,L' b->b<w.heap.size->L b)
  (hk: ∀b,b<w.heap.size-> ¬ L b->w'.heap[b]? =w.heap[b]?):Aa0 L' w' s a bn K vs xs M:=by
 refine⟨hb,fun b hkb hlb=>h.dis b hkb (hl b hlb (h.nm.bd b hkb)),?_,h.nm.move hs fun b hkb=>hk b (h.nm.bd b hkb) (h.dis b hkb),h.th.move hl hk,h.len⟩
 refine h.ar.move (fun b hlb=>?_) (fun b hlb hlt=>?_) (fun b hlt hn=>hk b hlt fun q=>hn (.inl q))
 ·rcases hlb with q | q
  ·exact hb b q
  ·exact Amk (h.nm.bd b q) hs
 ·rcases hlb with q | q
  ·exact .inl (hl b q hlt)
  ·exact .inr q
theorem Ab.move(h:Ab L w s M)(hb:Bd L' w')(hs:w.heap.size<=w'.heap.size)(hl: ∀b,L' b->b<w.heap.size->L b)
  (hk: ∀b,b<w.heap.size-> ¬ L b->w'.heap[b]? =w.heap[b]?):Ab L' w' s M:=by
 obtain⟨a,bn,K,vs,xs,h⟩:=h
 exact⟨a,bn,K,vs,xs,h.move hb hs hl hk⟩
theorem Ab.bd(h:Ab L w s M):Bd L w:=by obtain⟨a,bn,K,vs,xs,h⟩:=h;exact h.bd
theorem Ab.sub(h:Ab L w s M)(hs: ∀b,L' b->L b):Ab L' w s M:=h.move (h.bd.sub hs) (Ama _) (fun b hb _=>hs b hb) (fun _ _ _=>rfl)
theorem Ab.below(h:Ab L w s M)(hb:Below w.heap.size w w'):Ab L w' s M:=
 h.move (fun b hl=>Amk (h.bd b hl) hb.size) hb.size (fun _ hl _=>hl) (fun b hlt _=>hb.block b hlt)
theorem Ab.drew(h:Ab L w s M):Ab L w.drew s M:=h.move h.bd (Ama _) (fun _ hb _=>hb) (fun _ _ _=>rfl)
theorem Ab.drewN(h:Ab L w s M)(n:Nat):Ab L (w.drewN n) s M:=h.move h.bd (Ama _) (fun _ hb _=>hb) (fun _ _ _=>rfl)
theorem Ab.alloc(h:Ab L w s M)(o:Obj):Ab L (w.alloc o) s M:=h.below ((Amf _ _).alloc (Ama _) o)
def new(w w':World)(L:Nat->Prop):Nat->Prop:=fun b=>L b∨(w.heap.size<=b/\b<w'.heap.size)
theorem Ab.fresh(h:Ab L w s M)(hb:Below w.heap.size w w'):Ab (new w w' L) w' s M:=
 h.move (fun b hl=>by
  rcases hl with hl | hl
  ·exact Amk (h.bd b hl) hb.size
  ·exact hl.2) hb.size (fun b hl hlt=>by
  rcases hl with hl | hl
  ·exact hl
  ·omega) (fun b hlt _=>hb.block b hlt)
theorem Ab.allocIns(h:Ab L w s M)(o:Obj):Ab (ins L w.heap.size) (w.alloc o) s M:=
 (h.fresh ((Amf _ _).alloc (Ama _) o)).sub fun b hb=>by
  rcases hb with hb | hb
  ·exact .inl hb
  ·exact .inr ⟨by omega,by simp;omega⟩
theorem Ab.set(h:Ab L w s M){g:Nat}{t:TypeId}{cs:Array Value}(_hg:Blk w g t cs)(hl:L g)(i:Nat)(u:Value):Ab L (w.setCell ⟨g,i,none⟩ u) s M:=
 h.move (h.bd.setCell _ _) (by simp[World.setCell]) (fun _ hb _=>hb) (fun b _ hn=>Below.heap_setCell _ _ _ _ (fun e=>hn (by have e:b=g:=e;rw[e];exact hl)))
theorem Ab.lt(h:Ab L w s M):s<w.heap.size:=by obtain⟨a,bn,K,vs,xs,h⟩:=h;exact h.nm.bs.lt
theorem Ab.nl(h:Ab L w s M): ¬ L s:=by obtain⟨a,bn,K,vs,xs,h⟩:=h;exact h.dis _ h.nm.ks
theorem Ab.tsl(h:Ab L w s M):M.ts.length<=8:=by obtain⟨a,bn,K,vs,xs,h⟩:=h;exact h.ar.tsl
theorem Ab.wsl(h:Ab L w s M):M.ws.length<=65536:=by obtain⟨a,bn,K,vs,xs,h⟩:=h;exact h.ar.wsl
theorem Ab.len(h:Ab L w s M):M.nm.length=M.ts.length:=by obtain⟨a,bn,K,vs,xs,h⟩:=h;exact h.len
theorem ArAt.stillIns{ws:List Int}{ts:List (List Acc)}(h:ArAt L w a ws ts):ArAt (fun b=>L b∨ ∃t cs,Dg t/\Blk w b t cs) w a ws ts:=by
 obtain⟨bw,bt,vs,h⟩:=h
 have no: ∀{g:Nat} {t:TypeId} {cs:Array Value},Blk w g t cs-> ¬ L g-> ¬ Dg t-> ¬ (L g∨ ∃t cs,Dg t/\Blk w g t cs):=fun hg h1 h2 h3=>by
  rcases h3 with h3 | ⟨t',cs',h3,h4⟩
  ·exact h1 h3
  ·unfold Blk at hg h4
   rw[hg]at h4
   injection h4 with h4
   injection h4 with _ h4
   exact h2 (h4▸h3)
 refine⟨bw,bt,vs,fun b hb=>?_,no h.ba h.la (by unfold Dg;decide),no h.bws h.lw (by unfold Dg;decide),no h.bts h.lt (by unfold Dg;decide),h.ba,h.bws,h.bts,h.vl,h.row,fun c hc b hb=>?_,h.apart,h.wsl,h.tsl⟩
 ·rcases hb with hb | ⟨t,cs,-,hb⟩
  ·exact h.bd b hb
  ·exact hb.lt
 ·obtain⟨-,cs,hq⟩:=Ag (h.row c hc) hb
  exact no hq (h.lrow c hc b hb) (by unfold Dg;decide)
theorem Ab.lend(h:Ab L w s M): ∃a L1,w.cell? ⟨s,0,none⟩=some (.pointer (some ⟨a,0,none⟩))/\ArAt L1 w a M.ws M.ts/\
  ∀(w':World) (ws':List Int) (ts':List (List Acc)),ts'.length=M.ts.length->ArAt L1 w' a ws' ts'->Az L1 w w'->Ab L w' s ⟨ws',ts',M.nm⟩/\Az L w w'/\KI w w'/\w'.cell? ⟨s,0,none⟩=some (.pointer (some ⟨a,0,none⟩)):=by
 obtain⟨a,bn,K,vs,xs,h⟩:=h
 refine⟨a,_,h.nm.bs.cell 0,h.ar.stillIns,fun w' ws' ts' hlen ha hk=>?_⟩
 have ki:KI w w':=fun b t cs ht hb=>hk.blk hb (.inr ⟨t,cs,ht,hb⟩)
 refine⟨⟨a,bn,K,vs,xs,⟨fun b hb=>Amk (h.bd b hb) hk.size,h.dis,ha.sub fun b hb=>.inl hb,h.nm.move hk.size fun b hb=>hk.block b (.inl (.inr hb)),h.th.ki ki,by rw[hlen];exact h.len⟩⟩,hk.sub fun b hb=>.inl (.inl hb),ki,hk.cellOf (p:=⟨s,0,none⟩) (.inl (.inr h.nm.ks)) (h.nm.bs.cell 0)⟩
end
section
variable{L K:Nat->Prop}{w:World}{s a bn:Nat}{vs:List Value}{xs:List (List Value)}{M:Mem}
theorem Da{A:Type}(l:List A)(i j:Nat)(x d:A)(hi:i<l.length):(l.set i x).getD j d=if j=i then x else l.getD j d:=by
 by_cases e:j=i
 ·subst e;simp[List.getD,hi]
 ·simp[List.getD,Ne.symm e,e]
theorem Ahi{w1:World}{o:Obj}{v:Value}{g cap c:Nat}{x:Value}(h:NmIn K w s a bn vs xs)(hc:c<xs.length)(hv:vs.getD c undef=v){tt:List Value}(htt:xs.getD c []=tt)
  (hown:w1.ownsRow 0 20 1 (.slice (some ⟨g,0,none⟩) (tt.length+1) cap) (tt.length+1) (tt++[x]))
  (hg:(w.alloc o).drew.grownBy w1 v.ownBlock) (hat:v.ownBlock=some g∨g=w.heap.size+1):
  NmIn (ins K g) (w1.setCell ⟨bn,c,none⟩ (.slice (some ⟨g,0,none⟩) (tt.length+1) cap)) s a bn (vs.set c (.slice (some ⟨g,0,none⟩) (tt.length+1) cap)) (xs.set c (tt++[x]))/\
  w.heap.size<= (w1.setCell ⟨bn,c,none⟩ (.slice (some ⟨g,0,none⟩) (tt.length+1) cap)).heap.size/\
  (∀b,b<w.heap.size-> ¬ K b->(w1.setCell ⟨bn,c,none⟩ (.slice (some ⟨g,0,none⟩) (tt.length+1) cap)).heap[b]? =w.heap[b]?)/\
  KI w (w1.setCell ⟨bn,c,none⟩ (.slice (some ⟨g,0,none⟩) (tt.length+1) cap))/\ (∀b,ins K g b->b<w.heap.size->K b)/\w1.os=w.os/\w1.tape=w.tape/\w1.output=w.output:=by
 subst htt
 subst hv
 have old: ∀b,b<w.heap.size->some b≠(vs.getD c undef).ownBlock->w1.heap[b]? =w.heap[b]?:=fun b hb hn=>
  (hg.block b (by simp;omega) hn).trans (Below.heap_alloc _ _ _ hb)
 have na:=Ah (h.row c hc) h.bs (by decide)
 have nt:=Ah (h.row c hc) h.bns (by decide)
 have sz:w.heap.size<=w1.heap.size:=by have:=hg.size;simp at this;omega
 have bs1:Blk w1 s _ _:=Blk.of_heap (old _ h.bs.lt (Ne.symm na)) h.bs
 have bn1:Blk w1 bn _ _:=Blk.of_heap (old _ h.bns.lt (Ne.symm nt)) h.bns
 have nab:s≠bn:=h.bs.ne_ h.bns (by decide)
 have ngb:g≠bn:=fun e=>Ah hown bn1 (by decide) (by simp[Value.ownBlock,e])
 have glt:g<w1.heap.size:=by
  obtain⟨-,cs,hq⟩:=Ag hown (q:=g) rfl
  exact hq.lt
 have hl':=h.vl
 have hins: ∀b,ins K g b->b<w.heap.size->K b:=fun b hb hlt=>by
  rcases hb with hb | hb
  ·exact hb
  ·rcases hat with e | e
   ·exact hb▸h.krow c hc g e
   ·omega
 refine⟨⟨fun b hb=>?_,ins.old h.ks,ins.old h.kn,?_,?_,by simp[hl'],?_,?_,?_⟩,by simpa[World.setCell]using sz,fun b hb hk=>?_,?_,hins,hg.os,hg.tape,hg.output⟩
 ·show b< (w1.setCell _ _).heap.size
  rcases hb with hb | hb
  ·have:=h.bd b hb;simp[World.setCell];omega
  ·subst hb;simpa[World.setCell]using glt
 ·rw[List.length_set];exact bs1.far nab _
 ·have:=bn1.set_ c (.slice (some ⟨g,0,none⟩) ((xs.getD c []).length+1) cap)
  simpa using this
 ·intro c' hc'
  rw[List.length_set]at hc'
  rw[Da _ _ _ _ _ (by omega),Da _ _ _ _ _ hc]
  by_cases e:c'=c
  ·rw[if_pos e,if_pos e,Ami,List.length_singleton]
   exact ownsRow_setCell_other hown (a:=⟨bn,c,none⟩) (by simp[Value.ownBlock];exact ngb) _
  ·rw[if_neg e,if_neg e]
   have r:=h.row c' hc'
   have r1:w1.ownsRow 0 20 1 (vs.getD c' undef) (xs.getD c' []).length (xs.getD c' []):=by
    refine⟨r.1,?_⟩
    rcases r.2 with r2 | ⟨g',cap',cur,hv',hg',hh,rest⟩
    ·exact .inl r2
    ·refine .inr ⟨g',cap',cur,hv',hg',?_,rest⟩
     rw[old g' (lt_of_block hh) (fun e'=>h.apart c' c hc' hc e g' (by rw[hv'];rfl) e'.symm)]
     exact hh
   exact ownsRow_setCell_other r1 (a:=⟨bn,c,none⟩) (Ah r1 bn1 (by decide)) _
 ·intro c' hc' b hb
  rw[List.length_set]at hc'
  rw[Da _ _ _ _ _ (by omega)]at hb
  by_cases e:c'=c
  ·rw[if_pos e]at hb
   simp[Value.ownBlock]at hb
   exact .inr hb.symm
  ·rw[if_neg e]at hb
   exact .inl (h.krow c' hc' b hb)
 ·intro c1 c2 hc1 hc2 hne b hb1 hb2
  rw[List.length_set]at hc1 hc2
  rw[Da _ _ _ _ _ (by omega)]at hb1 hb2
  have key: ∀c',c'<xs.length->c'≠c->(vs.getD c' undef).ownBlock=some g->False:=fun c' hc' e hb=>by
   rcases hat with e2 | e2
   ·exact h.apart c' c hc' hc e g hb e2
   ·have:=((h.row c' hc').lt g hb).2;omega
  by_cases e1:c1=c
  ·have e2:c2≠c:=fun q=>hne (e1.trans q.symm)
   rw[if_pos e1]at hb1
   rw[if_neg e2]at hb2
   simp[Value.ownBlock]at hb1
   subst hb1
   exact key c2 hc2 e2 hb2
  ·rw[if_neg e1]at hb1
   by_cases e2:c2=c
   ·rw[if_pos e2]at hb2
    simp[Value.ownBlock]at hb2
    subst hb2
    exact key c1 hc1 e1 hb1
   ·rw[if_neg e2]at hb2
    exact h.apart c1 c2 hc1 hc2 hne b hb1 hb2
 ·have hbn:b≠bn:=fun e=>hk (e▸h.kn)
  rw[Below.heap_setCell _ _ _ _ (by show b≠bn;exact hbn)]
  exact old b hb (fun e=>hk (h.krow c hc b e.symm))
 ·intro b t cs ht hq
  have h1:some b≠(vs.getD c undef).ownBlock:=fun e=>by
   obtain⟨-,cs',hq'⟩:=Ag (h.row c hc) e.symm
   unfold Blk at hq hq'
   rw[hq]at hq'
   injection hq' with hq'
   injection hq' with _ hq'
   rw[hq']at ht
   revert ht
   unfold Dg
   decide
  have h2:Blk w1 b t cs:=Blk.of_heap (old b hq.lt h1) hq
  exact h2.far (p:=⟨bn,c,none⟩) (Blk.ne_ h2 bn1 (by intro e;rw[e]at ht;revert ht;unfold Dg;decide)) _
end
def Mem.give(M:Mem)(c:Int)(t:Co):Mem:={M with nm:=M.nm.set c.toNat (M.nm.getD c.toNat []++[t])}
def Mem.next(M:Mem)(c:Int):Int:=1+c+8* (M.nm.getD c.toNat []).length
def Mem.put(M:Mem)(i v:Int):Mem:={M with ws:=wr M.ws i v}
def Mem.note(M:Mem)(c:Int)(x:Acc):Mem:={M with ts:=noted M.ts c x}
def Mem.see(M:Mem)(c i:Int):Mem:=if c<0 then M else M.note c (i,false)
def Mem.thing(M:Mem)(n:Int):Option Co:=if n<1 then none else(M.nm.getD ((n - 1) % 8).toNat [])[((n - 1) / 8).toNat]?
def Mem.fine(M:Mem)(i:Int):Prop:=rd M.ws i=0∨(0<rd M.ws i/\ (M.thing (rd M.ws i)).isSome=true)
def wd(num at_:Int):Int:=(num - 1)*37+at_
def fdw(c k:Int):Int:=9517+c*4+k
def mdw(c:Int):Int:=9509+c
def Mem.at_(M:Mem)(i:Int):Option Co:=M.thing (rd M.ws i)
def Mem.bkt(M:Mem)(num b:Int):List Item:=match M.at_ (wd num b)with
 | some (.bucket l)=>l
 | _=>[]
structure Mem.ok (M:Mem) (m:Nat):Prop where
 wl:M.ws.length=9549
 sh:Gq m M.ts
 nl: ∀c,(M.nm.getD c []).length<=m
theorem Mem.ok.mono{M:Mem}{m m':Nat}(h:M.ok m)(hm:m<=m'):M.ok m':=⟨h.wl,h.sh.mono hm,fun c=>Aml (h.nl c) hm⟩
theorem Mem.ok.see{M:Mem}{m:Nat}(h:M.ok m)(c i:Int):(M.see c i).ok (m+1):=by
 unfold Mem.see
 split
 ·exact h.mono (by omega)
 ·exact⟨h.wl,h.sh.noted _,fun c=>by have:=h.nl c;show _<=m+1;simp only[Mem.note];omega⟩
theorem Mem.ok.note{M:Mem}{m:Nat}(h:M.ok m)(c:Int)(x:Acc):(M.note c x).ok (m+1):=⟨h.wl,h.sh.noted _,fun c=>by have:=h.nl c;show _<=m+1;simp only[Mem.note];omega⟩
theorem Mem.ok.put{M:Mem}{m:Nat}(h:M.ok m)(i v:Int):(M.put i v).ok m:=⟨by simp only[Mem.put,Tz];exact h.wl,h.sh,h.nl⟩
theorem Mem.ok.give{M:Mem}{m:Nat}(h:M.ok m)(c:Int)(t:Co):(M.give c t).ok (m+1):=by
 refine⟨h.wl,h.sh.mono (by omega),fun j=>?_⟩
 show((M.nm.set c.toNat (M.nm.getD c.toNat []++[t])).getD j []).length<=m+1
 by_cases hc:c.toNat<M.nm.length
 ·rw[Da _ _ _ _ _ hc]
  split
  ·rw[Ami,List.length_singleton];have:=h.nl c.toNat;omega
  ·have:=h.nl j;omega
 ·rw[List.set_eq_of_length_le (by omega)]
  have:=h.nl j;omega
theorem Nd{k:IntKind}{a b:Int}(h:a=b):Ending.returned (.int k a)= .returned (.int k b):=by rw[h]
theorem Cs(n k:Int)(hn: -1000000<=n/\n<=1000000)(hk: -1000000<=k/\k<=1000000)(w:World):
  Calls Tryz.prog 65 #[.int .i64 n,.int .i64 k] w fun e w'=>e= .returned (.int .i64 (wd n k))/\w=w':=by
 have HX:=lhi (show(n - 1)*37+k=wd n k from rfl)
 obtain⟨h1,h2⟩:=hn
 obtain⟨h3,h4⟩:=hk
 go_enter Tryz.func65,Tryz.ntmps65
 go_wp2
 go_ret
 exact⟨Nd HX.out,rfl⟩
theorem Nu(c k:Int)(hc: -1000000<=c/\c<=1000000)(hk: -1000000<=k/\k<=1000000)(w:World):
  Calls Tryz.prog 70 #[.int .i64 c,.int .i64 k] w fun e w'=>e= .returned (.int .i64 (fdw c k))/\w=w':=by
 have HX:=lhi (show 9517+c*4+k=fdw c k from rfl)
 obtain⟨h1,h2⟩:=hc
 obtain⟨h3,h4⟩:=hk
 go_enter Tryz.func70,Tryz.ntmps70
 go_wp2
 go_ret
 exact⟨Nd HX.out,rfl⟩
theorem Gu(c:Int)(hc: -1000000<=c/\c<=1000000)(w:World):
  Calls Tryz.prog 69 #[.int .i64 c] w fun e w'=>e= .returned (.int .i64 (mdw c))/\w=w':=by
 have HX:=lhi (show 9509+c=mdw c from rfl)
 obtain⟨h1,h2⟩:=hc
 go_enter Tryz.func69,Tryz.ntmps69
 go_wp2
 go_ret
 exact⟨Nd HX.out,rfl⟩
structure Kp (L:Nat->Prop) (w w':World):Prop where
 k:Az L w w'
 i:KI w w'
namespace Kp
variable{L L':Nat->Prop}{w w' w'':World}
theorem refl(L:Nat->Prop)(w:World):Kp L w w:=⟨Az.refl _ _,KI.refl _⟩
theorem trans(h:Kp L w w')(k:Kp L w' w''):Kp L w w'':=⟨h.k.trans k.k,h.i.trans k.i⟩
theorem sub(h:Kp L w w')(hs: ∀b,L' b->L b):Kp L' w w':=⟨h.k.sub hs,h.i⟩
theorem below(hb:Bd L w)(h:Below w.heap.size w w'):Kp L w w':=⟨Az.ofNew hb h,KI.below h⟩
theorem alloc(hb:Bd L w)(o:Obj):Kp L w (w.alloc o):=below hb ((Amf _ _).alloc (Ama _) o)
theorem drew(h:Kp L w w'):Kp L w w'.drew:=⟨h.k.drew,h.i⟩
theorem drewN(h:Kp L w w')(n:Nat):Kp L w (w'.drewN n):=⟨h.k.drewN n,h.i⟩
theorem undrew(h:Kp L w.drew w'):Kp L w w':=⟨h.k.undrew,h.i⟩
theorem blk(h:Kp L w w'){g:Nat}{t:TypeId}{cs:Array Value}(hb:Blk w g t cs)(hg:L g):Blk w' g t cs:=h.k.blk hb hg
theorem cellOf(h:Kp L w w'){p:Addr}{v:Value}(hp:L p.block)(hc:w.cell? p=some v):w'.cell? p=some v:=h.k.cellOf hp hc
theorem it(h:Kp L w w'){v:Value}{l:List Item}(hi:ItB w v l):ItB w' v l:=hi.ki h.i
theorem bd(h:Kp L w w')(hb:Bd L w):Bd L w':=h.k.bd hb
theorem size(h:Kp L w w'):w.heap.size<=w'.heap.size:=h.k.size
end Kp
section
variable{L:Nat->Prop}{w:World}{s a:Nat}{M:Mem}{m:Nat}
theorem Acv{ws:List Int}{ts:List (List Acc)}(h:ArAt L w a ws ts){i:Int}(hi:0<=i/\i<ws.length){r:Int}(hr:rd ws i=r):
  Calls Tryz.prog 90 #[.pointer (some ⟨a,0,none⟩),.int .i64 i] w fun e w'=>e= .returned (.int .i64 r)/\w=w':=by
 subst hr
 obtain⟨bw,bt,vs,h⟩:=h
 have hl:=h.wsl
 have c0:=h.c0
 have cw:=h.cwI hi.1 hi.2
 obtain⟨h1,h2⟩:=hi
 clear h
 go_enter Tryz.func90,Tryz.ntmps90
 go_wp2
 go_ret
 exact⟨rfl,rfl⟩
theorem Pj(h:Ab L w s M)(hok:M.ok m)(hm:m<=1000000000){c:Int}(hc:0<=c/\c<M.ts.length):
  Calls Tryz.prog 68 #[.pointer (some ⟨s,0,none⟩),.int .i64 c] w fun e w'=>e= .returned (.int .i64 (M.next c))/\w=w':=by
 obtain⟨c,rfl⟩:=Int.eq_ofNat_of_zero_le hc.1
 have hl8:=h.tsl
 have hlen:=h.len
 have hcn:c<M.nm.length:=by omega
 obtain⟨a,bn,K,vs,xs,h⟩:=h
 have hx:=h.th.1
 have hxl:=(h.th.2 c hcn).1
 have hcx:c<xs.length:=by omega
 have r:=(h.nm.row c hcx)
 have hb0:w.cell? ⟨s,1,none⟩=some (.slice (some ⟨bn,0,none⟩) xs.length xs.length):=h.nm.bs.cell 1
 have hb1:w.cell? ⟨bn,c,none⟩=some (vs.getD c undef):=by rw[h.nm.bns.cell];simp[h.nm.vl,hcx,List.getD]
 have hform: ∃A cap,vs.getD c undef= .slice A (M.nm.getD c []).length cap:=by
  rw[<-hxl]
  rcases r.2 with⟨e,h0⟩ | ⟨g,cap,cur,e,_⟩
  ·exact⟨none,0,by rw[e,h0]⟩
  ·exact⟨_,_,e⟩
 obtain⟨A,cap,hv⟩:=hform
 rw[hv]at hb1
 have HX:=lhi (show 1+ (c:Int)+8* (M.nm.getD c []).length=M.next c from rfl)
 have hbd:=hok.nl c
 have hxs8:xs.length<=8:=by omega
 generalize (M.nm.getD c []).length=q at*
 generalize xs.length=n at*
 clear h hv r hok hxl hx hlen
 go_enter Tryz.func68,Tryz.ntmps68
 go_wp2
 go_ret
 exact⟨Nd HX.out,rfl⟩
theorem ThVs.give{L:Nat->Prop}{w w':World}{xs:List (List Value)}{nm:List (List Co)}(h:ThVs L w xs nm)(k:KI w w'){c:Nat}(hc:c<nm.length){x:Value}{t:Co}(ht:Dx L w' x t):
  ThVs L w' (xs.set c (xs.getD c []++[x])) (nm.set c (nm.getD c []++[t])):=by
 have hx:=h.1
 refine⟨by simp[hx],fun j hj=>?_⟩
 rw[List.length_set]at hj
 rw[Da _ _ _ _ _ (by omega),Da _ _ _ _ _ hc]
 obtain⟨h1,h2⟩:=h.2 j hj
 by_cases e:j=c
 ·subst e
  rw[if_pos rfl,if_pos rfl]
  refine⟨by simp only[Ami,List.length_singleton,h1],fun i hi=>?_⟩
  rw[Ami,List.length_singleton]at hi
  by_cases q:i< (nm.getD j []).length
  ·have e1:(xs.getD j []++[x]).getD i undef=(xs.getD j []).getD i undef:=by
    simp only[Ame];rw[List.getElem?_append_left (by rw[<-Ame];omega)]
   have e2:(nm.getD j []++[t]).getD i default=(nm.getD j []).getD i default:=by
    simp only[Ame];rw[List.getElem?_append_left (by rw[<-Ame];omega)]
   rw[e1,e2]
   exact(h2 i q).ki k
  ·have:i=(nm.getD j []).length:=by omega
   subst this
   have e1:(xs.getD j []++[x]).getD (nm.getD j []).length undef=x:=by rw[<-h1];simp[Ame]
   have e2:(nm.getD j []++[t]).getD (nm.getD j []).length default=t:=by simp[Ame]
   rw[e1,e2]
   exact ht
 ·rw[if_neg e,if_neg e]
  exact⟨h1,fun i hi=>(h2 i hi).ki k⟩
theorem Ahh{w':World}{bn g:Nat}{K:Nat->Prop}{vs vs':List Value}{xs:List (List Value)}{c:Nat}{x:Value}{t:Co}(H:Aa0 L w s a bn K vs xs M)(hc:c<M.nm.length){tt:List Value}(htt:xs.getD c []=tt)
  (hn:NmIn (ins K g) w' s a bn vs' (xs.set c (tt++[x]))) (hs:w.heap.size<=w'.heap.size) (ho: ∀b,b<w.heap.size-> ¬ K b->w'.heap[b]? =w.heap[b]?) (ki:KI w w')
  (hi: ∀b,ins K g b->b<w.heap.size->K b) (h1:w'.os=w.os) (h2:w'.tape=w.tape) (h3:w'.output=w.output) (ht:Dx L w x t):Ab L w' s (M.give c t)/\Kp L w w':=by
 subst htt
 refine⟨⟨a,bn,_,vs',_,fun b hb=>Amk (H.bd b hb) hs,fun b hb hl=>H.dis b (hi b hb (H.bd b hl)) hl,?_,hn,H.th.give ki hc (ht.ki ki),by simp only[Mem.give,List.length_set];exact H.len⟩,⟨h1,h2,h3,hs,fun b hb=>ho b (H.bd b hb) (fun hk=>H.dis b hk hb)⟩,ki⟩
 refine H.ar.move (fun b hlb=>?_) (fun b hlb hlt=>?_) (fun b hlt hnn=>ho b hlt fun q=>hnn (.inr q))
 ·rcases hlb with q | q
  ·exact Amk (H.bd b q) hs
  ·exact hn.bd b q
 ·rcases hlb with q | q
  ·exact .inl q
  ·exact .inr (hi b q hlt)
theorem Up(h:Ab L w s M)(hok:M.ok m)(hm:m<=1000000000){c:Int}(hc:0<=c/\c<M.ts.length){ty:TypeId}{x:Value}{t:Co}(ht:Dx L w (.iface ty x) t):
  Calls Tryz.prog 66 #[.pointer (some ⟨s,0,none⟩),.int .i64 c,.iface ty x] w fun e w'=>(e= .returned (.int .i64 (M.next c))/\w'.cell? ⟨s,0,none⟩=w.cell? ⟨s,0,none⟩)/\Ab L w' s (M.give c t)/\Kp L w w':=by
 have HN:=lhi (Pj h hok hm hc)
 obtain⟨c,rfl⟩:=Int.eq_ofNat_of_zero_le hc.1
 have hl8:=h.tsl
 have hlen:=h.len
 have hcn:c<M.nm.length:=by omega
 obtain⟨a,bn,K,vs,xs,h⟩:=h
 have hx:=h.th.1
 have hxl:=(h.th.2 c hcn).1
 have hcx:c<xs.length:=by omega
 obtain⟨i0,hi,hz0,hz1,hz2⟩:=info_parts Zr
 have c1:w.cell? ⟨s,1,none⟩=some (.slice (some ⟨bn,0,none⟩) xs.length xs.length):=h.nm.bs.cell 1
 have ct:w.cell? ⟨bn,c,none⟩=some (vs.getD c undef):=by rw[h.nm.bns.cell];simp[h.nm.vl,hcx,List.getD]
 have la:=h.nm.bs.lt
 have lt:=h.nm.bns.lt
 have hown:=lhi (h.nm.row c hcx)
 have NE:=lhi (Ah (h.nm.row c hcx) h.nm.bns (by decide))
 have NA:=lhi (Ah (h.nm.row c hcx) h.nm.bs (by decide))
 have FB:=lhi (h.nm.bns.frozen)
 have H:=lhi h
 have HT:=lhi ht
 have HCN:=lhi hcn
 have HXL:=lhi hxl
 have hbd:=hok.nl c
 have hxs8:xs.length<=8:=by omega
 have hq:(xs.getD c []).length<=1000000000:=by omega
 clear h ht hcn hxl hx hok hbd hlen
 generalize hv:vs.getD c undef=v at*
 have HV:=lhi hv
 clear hv
 generalize hxs:xs.getD c []=tt at*
 have HXS:=lhi hxs
 clear hxs
 go_enter Tryz.func66,Tryz.ntmps66
 go_wp2_with (go_at_call 68;refine HN.out.mono ?_;rintro e w' ⟨rfl,rfl⟩)
 have fbt:w.frozen? ⟨bn,c,none⟩=false:=FB.out c
 go_region_law ((refine step_append_lies _ rfl (.tmp 22) (.tmp 24) 150 rfl 0 20 i0 .nilIface 1 16 Tryz.underlying150 hi hz0 hz1 hz2 rfl (by decide) v _ _ rfl ((hown.out.alloc (Obj.cells #[.iface ty x] 20))) ⟨w.heap.size,0,none⟩ 1 1 [.iface ty x] rfl rfl (cell_one_new _ _ _) (by intro u hu;simp at hu;subst hu;rfl) (by decide) (by simp only[maxLen];omega) (by omega) (Nat.zero_le _) _ rfl ?_;intro g cap w1 hown1 hgrow hat hlt;have ne1:some bn≠v.ownBlock:=fun e=>NE.out e.symm;have k1:w1.cell? ⟨bn,c,none⟩=some v:=(hgrow.cell_far ⟨bn,c,none⟩ (by simp;omega) ne1).trans ((Amj _ _ _ lt).trans ct);have k2:w1.frozen? ⟨bn,c,none⟩=false:=(hgrow.frozen_far ⟨bn,c,none⟩ (by simp;omega) ne1).trans ((World.frozen?_alloc_past _ _ _ lt).trans fbt);have ne2:some s≠v.ownBlock:=fun e=>NA.out e.symm;have k3:w1.cell? ⟨s,1,none⟩=some (.slice (some ⟨bn,0,none⟩) xs.length xs.length):=(hgrow.cell_far ⟨s,1,none⟩ (by simp;omega) ne2).trans ((Amj _ _ _ la).trans c1);clear ne1 ne2))
 all_goals
  have hend:=Ahi H.out.nm (by rw[H.out.th.1];exact HCN.out) HV.out HXS.out hown1 hgrow (by simpa using hat)
  have hc0:=lhi ((hend.1.bs.cell 0).trans (H.out.nm.bs.cell 0).symm)
  have hg:=lhi (Ahh H.out HCN.out HXS.out hend.1 hend.2.1 hend.2.2.1 hend.2.2.2.1 hend.2.2.2.2.1 hend.2.2.2.2.2.1 hend.2.2.2.2.2.2.1 hend.2.2.2.2.2.2.2 HT.out)
  clear hend k1 k2 k3 hown1 hgrow hat hlt
  go_wp2
  go_ret
  exact⟨⟨rfl,hc0.out⟩,hg.out.1,hg.out.2⟩
theorem Nr(w:World)(s:Nat):Calls Tryz.prog 179 #[.pointer (some ⟨s,0,none⟩),.int .i64 0] w fun e w'=>e= .returned .nilIface/\w=w':=by
 go_enter Tryz.func179,Tryz.ntmps179
 go_wp2
 go_ret
 exact⟨rfl,rfl⟩
theorem Uq(h:Ab L w s M)(hok:M.ok m){n:Int}{t:Co}(ht:M.thing n=some t)(hn:n<=1000000000000):
  Calls Tryz.prog 179 #[.pointer (some ⟨s,0,none⟩),.int .i64 n] w fun e w'=>(∃v,e= .returned v/\Dx L w v t)/\w=w':=by
 unfold Mem.thing at ht
 by_cases h0:n<1
 ·rw[if_pos h0]at ht;cases ht
 rw[if_neg h0]at ht
 have hl8:=h.tsl
 have hlen:=h.len
 obtain⟨a,bn,K,vs,xs,h⟩:=h
 have hx:=h.th.1
 obtain⟨c,hc⟩: ∃c:Nat,(n - 1) % 8=c:=⟨((n - 1) % 8).toNat,by omega⟩
 obtain⟨k,hk⟩: ∃k:Nat,(n - 1) / 8=k:=⟨((n - 1) / 8).toNat,by omega⟩
 rw[hc,hk,Int.toNat_natCast,Int.toNat_natCast]at ht
 have hkl:k< (M.nm.getD c []).length:=(List.getElem?_eq_some_iff.1 ht).1
 have hcn:c<M.nm.length:=by
  rcases Nat.lt_or_ge c M.nm.length with q | q
  ·exact q
  ·rw[Ame,List.getElem?_eq_none q]at hkl;exact absurd hkl (by simp)
 obtain⟨hxl,hth⟩:=h.th.2 c hcn
 have hth:=hth k hkl
 rw[show(M.nm.getD c []).getD k default=t by rw[Ame,ht];rfl]at hth
 have hcx:c<xs.length:=by omega
 have c1:w.cell? ⟨s,1,none⟩=some (.slice (some ⟨bn,0,none⟩) xs.length xs.length):=h.nm.bs.cell 1
 have ct:w.cell? ⟨bn,c,none⟩=some (vs.getD c undef):=by rw[h.nm.bns.cell];simp[h.nm.vl,hcx,List.getD]
 have r:=h.nm.row c hcx
 obtain⟨g,cap,hv,hle,hcell⟩: ∃g cap,vs.getD c undef= .slice (some ⟨g,0,none⟩) (xs.getD c []).length cap/\ (xs.getD c []).length<=cap/\w.cell? ⟨g,k,none⟩=some ((xs.getD c []).getD k undef):=by
  rcases r.2 with⟨-,h0⟩ | ⟨g,cap,cur,e,-,-,hcap,-⟩
  ·rw[hxl]at h0;omega
  ·refine⟨g,cap,e,hcap,?_⟩
   have:=r.cells (g:=g) (by rw[e];rfl) k ((xs.getD c []).getD k undef) (by rw[Ame (l:=xs.getD c []),Amh (by omega)];rfl)
   rw[Addr.add_lit,Nat.zero_add]at this
   exact this
 rw[hv]at ct
 have hbd:=hok.nl c
 have HT:=lhi hth
 generalize (xs.getD c []).getD k undef=x at*
 have hxs8:xs.length<=8:=by omega
 rw[hxl]at ct hle
 generalize (M.nm.getD c []).length=q at*
 generalize hxn:xs.length=nn at*
 have h1:1<=n:=by omega
 have h2:(n==0)=false:=by rw[beq_eq_false_iff_ne];omega
 have b1:0<= (n - 1) % 8:=by omega
 have b2:(n - 1) % 8< (nn:Int):=by omega
 have b3:0<= (n - 1) / 8:=by omega
 have b4:(n - 1) / 8< (q:Int):=by omega
 have ct:w.cell? ⟨bn,((n - 1) % 8).toNat,none⟩=some (.slice (some ⟨g,0,none⟩) q cap):=by rw[hc];exact ct
 have hcell:w.cell? ⟨g,((n - 1) / 8).toNat,none⟩=some x:=by rw[hk];exact hcell
 rename_i ct0 hcell0
 clear ct0 hcell0
 clear h r hv ht hth hok hlen hx hxl hkl hcn hxn h0 hc hk hcx
 go_enter Tryz.func179,Tryz.ntmps179
 go_wp2
 go_ret
 exact⟨⟨_,rfl,HT.out⟩,rfl⟩
end
def Who(M:Mem)(c:Int):Prop:=c= -1∨(0<=c/\c<M.ts.length)
section
variable{L:Nat->Prop}{w:World}{s a:Nat}{M:Mem}{m:Nat}
theorem Mem.see_neg(M:Mem)(i:Int):M.see (-1) i=M:=by unfold Mem.see;rw[if_pos (by decide)]
theorem Mem.see_core(M:Mem){c:Int}(h:0<=c)(i:Int):M.see c i=M.note c (i,false):=by unfold Mem.see;rw[if_neg (by omega)]
theorem Who.see{c c' i:Int}(h:Who M c):Who (M.see c' i) c:=by
 unfold Who Mem.see Mem.note at*
 split
 ·exact h
 ·simpa using h
theorem Wa(h:Ab L w s M)(hok:M.ok m)(hm:m<=1000000000){c i:Int}(hc:Who M c)(hi:0<=i/\i<9549):
  Calls Tryz.prog 180 #[.agg #[.pointer (some ⟨s,0,none⟩),.int .i64 c],.int .i64 i] w fun e w'=>e= .returned (.int .i64 (rd M.ws i))/\Ab L w' s (M.see c i)/\Kp L w w':=by
 rcases hc with rfl | hc
 ·have HA:=h.alloc (.cells #[.pointer (some ⟨s,0,none⟩),.int .i64 (-1)] 168)
  obtain⟨a,L1,s0,ha,-⟩:=HA.lend
  have p0:=(Blk.new w 168 #[.pointer (some ⟨s,0,none⟩),.int .i64 (-1)]).cell 0
  have p1:=(Blk.new w 168 #[.pointer (some ⟨s,0,none⟩),.int .i64 (-1)]).cell 1
  have HP:=lhi (Acv ha (i:=i) ⟨hi.1,by rw[hok.wl];omega⟩ rfl)
  have HK:=lhi (Kp.alloc h.bd (.cells #[.pointer (some ⟨s,0,none⟩),.int .i64 (-1)] 168))
  have HM:=lhi HA
  rw[Mem.see_neg]
  clear h hok HA ha hi
  go_enter Tryz.func180,Tryz.ntmps180
  go_wp2_with (go_at_call 90;refine HP.out.mono ?_;rintro e w' ⟨rfl,rfl⟩)
  go_ret
  exact⟨rfl,HM.out,HK.out⟩
 ·have HA:=h.allocIns (.cells #[.pointer (some ⟨s,0,none⟩),.int .i64 c] 168)
  obtain⟨a,L1,s0,ha,hback⟩:=HA.lend
  have p0:=(Blk.new w 168 #[.pointer (some ⟨s,0,none⟩),.int .i64 c]).cell 0
  have p1:=(Blk.new w 168 #[.pointer (some ⟨s,0,none⟩),.int .i64 c]).cell 1
  have HP:=lhi (Ai8 (lhi ha).out.drew (Room.of hok.sh (by omega)) hc (i:=i) ⟨hi.1,by rw[hok.wl];omega⟩ rfl rfl)
  have HK:=lhi (Kp.alloc h.bd (.cells #[.pointer (some ⟨s,0,none⟩),.int .i64 c] 168))
  have HB:=lhi hback
  rw[Mem.see_core _ hc.1]
  obtain⟨hc0,hc1⟩:=hc
  clear h hok HA ha hi hback
  go_enter Tryz.func180,Tryz.ntmps180
  go_wp2_with (fail)
  go_region_held3 (fun w'=>w'.cell? ⟨w.heap.size,0,none⟩=some (.pointer (some ⟨s,0,none⟩))/\w'.cell? ⟨w.heap.size,1,none⟩=some (.int .i64 c)/\w'.cell? ⟨s,0,none⟩=some (.pointer (some ⟨a,0,none⟩)))
   (first | exact⟨p0,p1,s0⟩ | exact⟨HQ.out.2.1.cellOf (ins.new _ _) p0,HQ.out.2.1.cellOf (ins.new _ _) p1,HQ.out.2.2.2⟩)
   ((go_at_call 227;refine HP.out.mono ?_;rintro e w1 ⟨rfl,hA1,hK1⟩;have HQ:=lhi (HB.out w1 _ _ (by simp) hA1 hK1.undrew);clear hA1 hK1))
  all_goals
   go_wp2
   go_ret
   exact⟨rfl,HQ.out.1.sub fun _=>ins.old,HK.out.trans ⟨HQ.out.2.1.out,HQ.out.2.2.1⟩⟩
theorem Aib{num b:Int}{l:List Item}(h:M.bkt num b=l)(hf:M.fine (wd num b))(hk: ∀t,M.at_ (wd num b)=some t-> ∃l,t= .bucket l):
  (rd M.ws (wd num b)=0/\l=[])∨(0<rd M.ws (wd num b)/\M.thing (rd M.ws (wd num b))=some (.bucket l)):=by
 unfold Mem.bkt Mem.at_ at h
 unfold Mem.at_ at hk
 rcases hf with h0 | ⟨h0,h1⟩
 ·refine .inl ⟨h0,?_⟩
  rw[h0,show M.thing 0=none from rfl]at h
  exact h.symm
 ·obtain⟨t,ht⟩:=Option.isSome_iff_exists.1 h1
  obtain⟨l',rfl⟩:=hk t ht
  rw[ht]at h
  exact .inr ⟨h0,h▸ht⟩
end
theorem Aks(v:Value)(W:World):(Instr.typeAssert (.iface 129 v) 20 129 true).run Tryz.prog W= .ok (.tuple #[v,.bool true]) W:=by kernel_rfl
theorem Aio(W:World):(Instr.typeAssert .nilIface 20 129 true).run Tryz.prog W= .ok (.tuple #[.slice none 0 0,.bool false]) W:=by kernel_rfl
theorem Il{num b:Int}(h1:1<=num/\num<=257)(h2:0<=b/\b<37):0<=wd num b/\wd num b<9549:=by unfold wd;omega
structure Mem.isBkt (M:Mem) (num b:Int):Prop where
 f:M.fine (wd num b)
 k: ∀t,M.at_ (wd num b)=some t-> ∃l,t= .bucket l
section
variable{L:Nat->Prop}{w:World}{s a:Nat}{M:Mem}{m:Nat}
theorem Mem.thing_see(M:Mem)(c i n:Int):(M.see c i).thing n=M.thing n:=by unfold Mem.see;split <;> rfl
theorem Ij(h:Ab L w s M)(hok:M.ok m)(hm:m<=1000000000){c num b:Int}(hc:Who M c)(hn:1<=num/\num<=257)(hb:0<=b/\b<8)(hk:M.isBkt num b)(hz:rd M.ws (wd num b)<=1000000000000):
  Calls Tryz.prog 136 #[.agg #[.pointer (some ⟨s,0,none⟩),.int .i64 c],.int .i64 num,.int .i64 b] w fun e w'=>(∃v,e= .returned v/\ItB w' v (M.bkt num b))/\Ab L w' s (M.see c (wd num b))/\Kp L w w':=by
 have hcase:=Aib rfl hk.f hk.k
 have HA:=h.allocIns (.cells #[.pointer (some ⟨s,0,none⟩),.int .i64 c] 168)
 have p0:=(Blk.new w 168 #[.pointer (some ⟨s,0,none⟩),.int .i64 c]).cell 0
 have p1:=(Blk.new w 168 #[.pointer (some ⟨s,0,none⟩),.int .i64 c]).cell 1
 have HW:=lhi (Cs num b (by omega) (by omega))
 have HL:=Wa HA.drew hok hm hc (Il (b:=b) hn (by omega))
 have HK:=lhi (Kp.alloc h.bd (.cells #[.pointer (some ⟨s,0,none⟩),.int .i64 c] 168))
 have HOK:=lhi (hok.see c (wd num b))
 have HTS:=lhi (M.thing_see c (wd num b))
 obtain⟨ix,hix⟩: ∃x,wd num b=x:=⟨_,rfl⟩
 obtain⟨bl,hbl⟩: ∃x,M.bkt num b=x:=⟨_,rfl⟩
 rw[hix]at HL HOK HTS hcase hz HW⊢
 rw[hbl]at hcase⊢
 rcases hcase with⟨h0,rfl⟩ | ⟨h0,h1⟩
 ·rw[h0]at HL
  have HLH:=lhi HL
  have hta:=Aio
  clear h hok HA hk HL hix hbl h0 hc hn hb hz
  go_enter Tryz.func136,Tryz.ntmps136
  go_wp2_with (fail)
  go_region_held3 (fun w'=>w'.cell? ⟨w.heap.size,0,none⟩=some (.pointer (some ⟨s,0,none⟩))/\w'.cell? ⟨w.heap.size,1,none⟩=some (.int .i64 c))
   (first | exact⟨p0,p1⟩ | exact⟨HQ.out.2.cellOf (ins.new _ _) p0,HQ.out.2.cellOf (ins.new _ _) p1⟩)
   ((first
    | (go_at_call 65;refine(HW.out _).mono ?_;rintro e w' ⟨rfl,rfl⟩)
    | (go_at_call 180;refine HLH.out.mono ?_;rintro e w1 ⟨rfl,hq⟩;have HQ:=lhi hq;clear hq)
    | (go_at_call 179;refine(Nr _ _).mono ?_;rintro e w' ⟨rfl,rfl⟩)))
  all_goals
   go_wp2
   go_ret
   exact⟨⟨_,rfl,RowT.nil_ _ _ _ _ _⟩,HQ.out.1.sub fun _=>ins.old,HK.out.trans (HQ.out.2.undrew.sub fun _=>ins.old)⟩
 ·have HLH:=lhi HL
  have HT:=lhi h1
  have HZ:=lhi hz
  obtain⟨nn,hnn⟩: ∃x,rd M.ws ix=x:=⟨_,rfl⟩
  rw[hnn]at HLH HT HZ
  clear h hok HA hk HL hix hbl h0 hc hn hb h1 hz hnn
  go_enter Tryz.func136,Tryz.ntmps136
  go_wp2_with (fail)
  go_region_held3 (fun w'=>w'.cell? ⟨w.heap.size,0,none⟩=some (.pointer (some ⟨s,0,none⟩))/\w'.cell? ⟨w.heap.size,1,none⟩=some (.int .i64 c))
   (first | exact⟨p0,p1⟩ | exact⟨HQ.out.2.cellOf (ins.new _ _) p0,HQ.out.2.cellOf (ins.new _ _) p1⟩)
   ((first
    | (go_at_call 65;refine(HW.out _).mono ?_;rintro e w' ⟨rfl,rfl⟩)
    | (go_at_call 180;refine HLH.out.mono ?_;rintro e w1 ⟨rfl,hq⟩;have HQ:=lhi hq;clear hq)
    | (go_at_call 179;refine(Uq HQ.out.1 HOK.out (by rw[HTS.out];exact HT.out) HZ.out).mono ?_;rintro e w' ⟨⟨v,rfl,hv⟩,rfl⟩;obtain⟨sv,rfl,hsv⟩:=hv.it;have HSV:=lhi hsv;clear hsv;have hta:=Aks sv)))
  all_goals
   go_wp2
   go_ret
   exact⟨⟨_,rfl,HSV.out⟩,HQ.out.1.sub fun _=>ins.old,HK.out.trans (HQ.out.2.undrew.sub fun _=>ins.old)⟩
end
end Go.Proofs.YtkebjgebkneijaaGreat
