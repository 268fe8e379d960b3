/- Texts of one's own that a claim's last text rests on: MpV Mp2 Mp3 MpS. -/
import Derived.Test.YtkebjgebkneijaaGreatMG2
import Derived.Maps.RangeWalk
import Derived.Test.YtkebjgebkneijaaGreatMG16
set_option linter.unusedVariables false
set_option linter.unusedSimpArgs false
namespace Go.Proofs.YtkebjgebkneijaaGreat
section
open Go.RowKit Go.Maps Go.WideShapes
set_option maxHeartbeats 1000000
def anyE(v:Value):Option (DataW Value×List MemPlace):=some (.held v,[])
def unheld:DataW Value->Value
 | .held v=>v
 | _=>undef
theorem anyE_inv{v x:Value}{ps:List MemPlace}(h:anyE v=some (.held x,ps)):v=x:=by
 unfold anyE at h
 injection h with h
 injection h with h
 injection h
def ReadsV(D:DataW Value)(f:Int->Option Value):Prop:=∀i,(f i=none->Maps.has D (kI i)=false/\ ∀z,D.atKey (kI i) z=z)/\ ∀v,f i=some v->Maps.has D (kI i)=true/\ ∀z,D.atKey (kI i) z= .held v
def MapV(w:World)(b n:Nat)(f:Int->Option Value):Prop:=∃D:DataW Value,w.ownsMap Tryz.prog 3 anyE b n D/\ReadsV D f
def RangeV(w:World)(b r n:Nat)(f:Int->Option Value)(lf:Int->Bool)(cnt:Nat):Prop:=∃(D:DataW Value) (left:Lit->Bool),w.ranges Tryz.prog 3 anyE b r n D left cnt/\ReadsV D f/\ ∀i,left (kI i)=lf i
theorem ReadsV.put{D:DataW Value}{f:Int->Option Value}(h:ReadsV D f)(hm:IsMap D)(i:Int)(v:Value):ReadsV (D.put (kI i) (.held v)) (fun j=>if j=i then some v else f j):=by
 intro j
 show((if j=i then some v else f j)=none->_)/\ ∀u,(if j=i then some v else f j)=some u->_
 by_cases e:j=i
 ·subst e
  have hk:WideAt.IsKeyLit (kI j):=by simp[kI,WideAt.IsKeyLit]
  refine⟨fun h0=>by simp at h0,fun u hu=>?_⟩
  have hu:v=u:=by simpa using hu
  subst hu
  exact⟨has_put_same hm hk _,fun z=>atKey_put_same hm hk _ _⟩
 ·have hne:=kI_ne e
  rw[if_neg e]
  refine⟨fun h0=>?_,fun u hu=>?_⟩
  ·obtain⟨h1,h2⟩:=(h j).1 h0
   exact⟨by rw[has_put_other hne];exact h1,fun z=>by rw[atKey_put_other hne];exact h2 z⟩
  ·obtain⟨h1,h2⟩:=(h j).2 u hu
   exact⟨by rw[has_put_other hne];exact h1,fun z=>by rw[atKey_put_other hne];exact h2 z⟩
theorem same_kI(j x:Int):(kI j).sameKey (kI x)=decide (j=x):=by
 by_cases e:j=x
 ·subst e
  rw[WideAt.sameKey_self (by simp[kI,WideAt.IsKeyLit])];simp
 ·rw[decide_eq_false e]
  cases hs:(kI j).sameKey (kI x)with
  | false=>rfl
  | true=>exact absurd (WideAt.sameKey_eq hs) (kI_ne e)
namespace MapV
variable{w w':World}{b n:Nat}{f g:Int->Option Value}{row:Option Nat}
theorem made(w:World):MapV (w.alloc (.map #[] 0)) w.heap.size 0 (fun _=>none):=⟨.map [],World.ownsMap_made _ _ _ _,fun _=>⟨fun _=>⟨rfl,fun _=>rfl⟩,fun _ h=>by cases h⟩⟩
theorem kept(h:MapV w b n f)(hg:w.grownBy w' row)(hne:some b≠row):MapV w' b n f:=by
 obtain⟨D,ho,hf⟩:=h
 exact⟨D,ho.kept hg hne,hf⟩
theorem heap(h:MapV w b n f)(hk:w'.heap[b]? =w.heap[b]?):MapV w' b n f:=by
 obtain⟨D,⟨es,clock,hb,F,hs,hD⟩,hf⟩:=h
 exact⟨D,⟨es,clock,by rw[hk];exact hb,F,hs,hD⟩,hf⟩
theorem lt(h:MapV w b n f):b<w.heap.size:=by
 obtain⟨D,ho,hf⟩:=h
 exact ho.lt
theorem below(h:MapV w b n f)(hb:Below w.heap.size w w'):MapV w' b n f:=h.heap (hb.block _ h.lt)
theorem alloc(h:MapV w b n f)(o:Obj):MapV (w.alloc o) b n f:=h.kept (World.grownBy_alloc w o none) (by simp)
theorem drew(h:MapV w b n f):MapV w.drew b n f:=h
theorem drewN(h:MapV w b n f)(k:Nat):MapV (w.drewN k) b n f:=h
theorem congr(h:MapV w b n f)(e: ∀i,f i=g i):MapV w b n g:=(funext e:f=g)▸h
theorem mono(h:MapV w b n f){n':Nat}(hn:n<=n'):MapV w b n' f:=by
 obtain⟨D,ho,hf⟩:=h
 exact⟨D,ho.mono hn,hf⟩
theorem obj(h:MapV w b n f): ∃es cl,w.heap[b]? =some (.map es cl):=by
 obtain⟨D,⟨es,cl,hb,_⟩,_⟩:=h
 exact⟨es,cl,hb⟩
theorem look(h:MapV w b n f){T E:TypeId}(hT:Tryz.prog.underlying T=some (.map 3 E)){z:Value}(hz:(zeroValue E).run Tryz.prog w= .ok z w){i:Int}(hi: -1000000<=i/\i<=1000000):
  (Instr.lookup T (.map (some b)) (.int .i64 i) false).run Tryz.prog w= .ok ((f i).getD z) w:=by
 obtain⟨D,ho,hf⟩:=h
 obtain⟨v,ps,hrun,hv⟩:=ho.lookup lawI hT hz (zd:=.held z) (zp:=[]) rfl (keyI hi)
 cases e:f i with
 | none=>rw[((hf i).1 e).2]at hv;rw[anyE_inv hv]at hrun;exact hrun
 | some u=>rw[((hf i).2 u e).2]at hv;rw[anyE_inv hv]at hrun;exact hrun
theorem look_ok(h:MapV w b n f){T E:TypeId}(hT:Tryz.prog.underlying T=some (.map 3 E)){z:Value}(hz:(zeroValue E).run Tryz.prog w= .ok z w){i:Int}(hi: -1000000<=i/\i<=1000000):
  (Instr.lookup T (.map (some b)) (.int .i64 i) true).run Tryz.prog w= .ok (.tuple #[(f i).getD z,.bool (f i).isSome]) w:=by
 obtain⟨D,ho,hf⟩:=h
 obtain⟨v,ps,hrun,hv⟩:=ho.look_ok lawI hT hz (zd:=.held z) (zp:=[]) rfl (keyI hi)
 have hrun:(Instr.lookup T (.map (some b)) (.int .i64 i) true).run Tryz.prog w= .ok (.tuple #[v,.bool (Maps.has D (kI i))]) w:=hrun
 cases e:f i with
 | none=>
  obtain⟨h1,h2⟩:=(hf i).1 e
  rw[h2]at hv
  rw[anyE_inv hv,h1]at hrun
  exact hrun
 | some u=>
  obtain⟨h1,h2⟩:=(hf i).2 u e
  rw[h2]at hv
  rw[anyE_inv hv,h1]at hrun
  exact hrun
end MapV
section
variable{ops:Array Oper}{rest:List Oper}{o:Oper}{a:Act}{Q:Exit->Act->World->Prop}
theorem wpList_setV(w:World)(hg:o.guard=none)(T E:TypeId)(hT:Tryz.prog.underlying T=some (.map 3 E))(m x v:Operand)(hop:o.op=Op.mapUpdate T m x v∨o.op=Op.insert T m x v)(b n:Nat)(f:Int->Option Value)(hm:a.eval m= .map (some b))(h:MapV w b n f)(hn:n<1000000000)
  (i:Int) (hi: -1000000<=i/\i<=1000000) (hx:a.eval x= .int .i64 i) (y:Value) (hv:a.eval v=y)
  (hK: ∀w',MapV w' b (n+1) (fun j=>if j=i then some y else f j)->w.grownBy w' (some b)->wpList Tryz.prog ops Q rest (a.put o.dst undef) w'):wpList Tryz.prog ops Q (o::rest) a w:=by
 obtain⟨D,ho,hf⟩:=h
 refine wpList_plain hg fun K' hK'=>?_
 obtain⟨w',hrun,r1,r2⟩:=ho.update (val:=y) lawI hT (by unfold maxLen;omega) (keyI hi) (show anyE y=some (.held y,[])from rfl)
 have hM:MapV w' b (n+1) (fun j=>if j=i then some y else f j):=⟨_,r1,hf.put ho.isMap i y⟩
 unfold Oper.wp
 rcases hop with hop | hop
 all_goals
  simp[execOp,hop,hm,hx,hv,hrun,Result.andThen]
  exact hK' _ _ (hK w' hM r2)
theorem wpList_rangeV(w:World)(hg:o.guard=none)(T E:TypeId)(hT:Tryz.prog.underlying T=some (.map 3 E))(m:Operand)(hop:o.op=Op.range T m)(b n:Nat)(f:Int->Option Value)(hm:a.eval m= .map (some b))(h:MapV w b n f)
  (hK: ∀w' cnt,RangeV w' b w.heap.size n f (fun i=>(f i).isSome) cnt->w.grownBy w' none->w'.heap.size=w.heap.size+1->wpList Tryz.prog ops Q rest (a.put o.dst (.pointer (some ⟨w.heap.size,0,none⟩))) w'):wpList Tryz.prog ops Q (o::rest) a w:=by
 obtain⟨D,ho,hf⟩:=h
 refine wpList_range_own w hg m T hop 3 E lawI hT anyE b n D hm ho fun w' h1 h2 h3=>hK w' _ ⟨D,_,h1,hf,fun i=>?_⟩ h2 h3
 show Maps.has D (kI i)=(f i).isSome
 cases e:f i with
 | none=>exact((hf i).1 e).1
 | some u=>exact((hf i).2 u e).1
theorem wpList_nextV(w:World)(hg:o.guard=none)(it:Operand)(hop:o.op=Op.next it false)(b r n:Nat)(f:Int->Option Value)(lf:Int->Bool)(cnt:Nat)(hit:a.eval it= .pointer (some ⟨r,0,none⟩))(h:RangeV w b r n f lf cnt)
  (hDone:cnt=0->(∀i,lf i=false)->wpList Tryz.prog ops Q rest (a.put o.dst (.tuple #[.bool false])) w)
  (hMore: ∀(i:Int) (v:Value) (w':World) (cnt':Nat),lf i=true->f i=some v->RangeV w' b r n f (fun j=>lf j&&!decide (j=i)) cnt'->cnt'<cnt->w.grownBy w' (some r)->w'.heap.size=w.heap.size->
   (Instr.entry (.pointer (some ⟨r,0,none⟩))).run Tryz.prog w'= .ok (.tuple #[.int .i64 i,v]) w'->wpList Tryz.prog ops Q rest (a.put o.dst (.tuple #[.bool true,.int .i64 i,v])) w'):wpList Tryz.prog ops Q (o::rest) a w:=by
 obtain⟨D,left,hr,hf,hl⟩:=h
 refine wpList_next_ranges w hg it hop 3 lawI anyE (fun x=>Value.int .i64 x) id (fun key kl hk=>?_) (fun v y _=>⟨v,rfl⟩) b r n D left cnt hit hr (fun h0 h1=>hDone h0 fun i=>by rw[<-hl i];exact h1 _) fun x c kl y w' cnt' h1 h2 h3 h4 h5 h6 h7 h8 h9=>?_
 ·obtain⟨x,rfl,-,-⟩:=Maps.keyOf_int_inv Tryz.underlying3 hk
  exact⟨x,rfl⟩
 ·obtain⟨x',hx,rfl,hw⟩:=Maps.keyOf_int_inv Tryz.underlying3 h1
  injection hx with _ hx
  subst hx
  have h2:left (kI x)=true:=h2
  have h3:anyE c=some y:=h3
  unfold anyE at h3
  injection h3 with h3
  subst h3
  have h4: ∀zd,D.atKey (kI x) zd= .held c:=h4
  have hfx:f x=some c:=by
   cases e:f x with
   | none=>
    have:=((hf x).1 e).2 .nil
    rw[h4]at this
    cases this
   | some u=>
    have:=((hf x).2 u e).2 .nil
    have:=(h4 .nil).symm.trans this
    exact congrArg some (congrArg unheld this).symm
  refine hMore x c w' cnt' (by rw[<-hl x];exact h2) hfx ⟨D,_,h5,hf,fun j=>?_⟩ h6 h7 h8 h9
  exact congr (congrArg _ (hl j)) (congrArg _ (same_kI j x))
end
namespace RangeV
variable{w w':World}{b r n cnt:Nat}{f:Int->Option Value}{lf:Int->Bool}{row:Option Nat}
theorem map(h:RangeV w b r n f lf cnt):MapV w b n f:=by
 obtain⟨D,left,hr,hf,hl⟩:=h
 exact⟨D,hr.owns,hf⟩
theorem left_eq(h:RangeV w b r n f lf cnt):w.rangeLeft b r=cnt:=by
 obtain⟨D,left,hr,hf,hl⟩:=h
 exact hr.left_eq
theorem ne(h:RangeV w b r n f lf cnt):r≠b:=by
 obtain⟨D,left,hr,hf,hl⟩:=h
 exact hr.ne
theorem lt(h:RangeV w b r n f lf cnt):r<w.heap.size:=by
 obtain⟨D,left,hr,hf,hl⟩:=h
 exact hr.lt
theorem kept(h:RangeV w b r n f lf cnt)(hg:w.grownBy w' row)(hb':some b≠row)(hr':some r≠row):RangeV w' b r n f lf cnt:=by
 obtain⟨D,left,hr,hf,hl⟩:=h
 exact⟨D,left,hr.kept hg hb' hr',hf,hl⟩
theorem below(h:RangeV w b r n f lf cnt)(hb:Below w.heap.size w w'):RangeV w' b r n f lf cnt:=h.kept (row:=none) ⟨hb.os,hb.tape,hb.output,hb.size,fun i hi _=>hb.block i hi⟩ (by simp) (by simp)
theorem congr{lg:Int->Bool}(h:RangeV w b r n f lf cnt)(e: ∀i,lf i=lg i):RangeV w b r n f lg cnt:=(funext e:lf=lg)▸h
end RangeV
end
section
open Go.RowKit
set_option maxHeartbeats 1000000
def itsTo(M:Mem)(num:Int)(b:Nat):List Item:=(List.range b).flatMap fun q=>M.bkt num (q:Nat)
def itsM(M:Mem)(num:Int):List Item:=itsTo M num 8
def entIt(i:Item):ByteArray×Int:=(i.name,i.num)
theorem itsTo_succ(M:Mem)(num:Int)(b:Nat):itsTo M num (b+1)=itsTo M num b++M.bkt num (b:Nat):=by
 unfold itsTo
 rw[List.range_succ,List.flatMap_append];simp
structure Gt where
 fs:List Int
 ds:List Int
def Gt.n(g:Gt):Nat:=g.fs.length+g.ds.length
def gIt(rec_:Int->Gt->Gt)(g:Gt)(i:Item):Gt:=if i.dir then rec_ i.num g else⟨i.num::g.fs,g.ds⟩
def gDir(M:Mem):Nat->Int->Gt->Gt
 | 0,_,g=>g
 | f+1,num,g=>⟨((itsM M num).foldl (gIt (gDir M f)) g).fs,num::((itsM M num).foldl (gIt (gDir M f)) g).ds⟩
def Deep(M:Mem):Nat->Int->Prop
 | 0,_=>False
 | f+1,num=>(1<=num/\num<=257)/\ ∀i∈itsM M num,i.dir=true->Deep M f i.num
theorem gIt_le{rec_:Int->Gt->Gt}(h: ∀n g,g.n<= (rec_ n g).n)(g:Gt)(i:Item):g.n<= (gIt rec_ g i).n:=by
 unfold gIt
 split
 ·exact h _ _
 ·unfold Gt.n
  simp only[List.length_cons]
  omega
theorem fold_le{rec_:Int->Gt->Gt}(h: ∀n g,g.n<= (rec_ n g).n): ∀(l:List Item) (g:Gt),g.n<= (l.foldl (gIt rec_) g).n
 | [],_=>Nat.le_refl _
 | i::l,g=>Nat.le_trans (gIt_le h g i) (fold_le h l _)
theorem gDir_le(M:Mem): ∀(f:Nat) (num:Int) (g:Gt),g.n<= (gDir M f num g).n
 | 0,_,_=>Nat.le_refl _
 | f+1,num,g=>by
  have:=fold_le (gDir_le M f) (itsM M num) g
  unfold gDir Gt.n
  unfold Gt.n at this
  simp;omega
def SortedL(l:List (ByteArray×Int)):Prop:=l.Pairwise fun a b=>nlt b.1 a.1=false
end
section
open Go.RowKit
set_option maxHeartbeats 1000000
def StoreTy(w:World)(b:Nat):Prop:=∃t cs,Blk w b t cs/\ (t=78∨t=150∨t=20∨t=152∨t=3∨t=136)
def wideS(L:Nat->Prop)(w:World):Nat->Prop:=fun b=>L b∨(b<w.heap.size/\ ¬ StoreTy w b)
theorem MemAt.wide{L:Nat->Prop}{w:World}{s:Nat}{M:Mem}(h:MemAt L w s M):MemAt (wideS L w) w s M:=by
 obtain⟨a,bn,K,vs,xs,h⟩:=h
 obtain⟨bw,bt,us,ha⟩:=h.ar
 have ty: ∀{v:Value} {e:TypeId} {base size k:Nat} {ys:List Value} {q:Nat},w.ownsRow base e size v k ys->v.ownBlock=some q->e=20->StoreTy w q:=fun ho hq he=>by
  obtain⟨-,cs,hb⟩:=own_type ho hq
  exact⟨_,cs,hb,.inr (.inr (.inl he))⟩
 have no: ∀{b:Nat},StoreTy w b-> ¬ L b-> ¬ wideS L w b:=fun h1 h2 h3=>h3.elim h2 fun q=>q.2 h1
 have sa:StoreTy w a:=⟨_,_,ha.ba,by simp⟩
 have sw:StoreTy w bw:=⟨_,_,ha.bws,by simp⟩
 have st:StoreTy w bt:=⟨_,_,ha.bts,by simp⟩
 have both: ∀{b:Nat},StoreTy w b-> ¬ (L b∨K b)-> ¬ (wideS L w b∨(K b/\StoreTy w b)):=fun h1 h2 h3=>by
  rcases h3 with h3 | h3
  ·exact no h1 (fun q=>h2 (.inl q)) h3
  ·exact h2 (.inr h3.1)
 have wl: ∀b,wideS L w b->b<w.heap.size:=fun b hb=>hb.elim (h.bd b) fun q=>q.1
 refine⟨a,bn,fun b=>K b/\StoreTy w b,vs,xs,⟨wl,fun b hk hl=>hl.elim (h.dis b hk.1) fun q=>q.2 hk.2,⟨bw,bt,us,⟨fun b hb=>hb.elim (wl b) fun q=>h.nm.bd b q.1,both sa ha.la,both sw ha.lw,both st ha.lt,ha.ba,ha.bws,ha.bts,ha.vl,ha.row,fun c hc b hb=>both (ty (ha.row c hc) hb rfl) (ha.lrow c hc b hb),ha.apart,ha.wsl,ha.tsl⟩⟩,
  ⟨fun b hb=>h.nm.bd b hb.1,⟨h.nm.ks,_,_,h.nm.bs,by simp⟩,⟨h.nm.kn,_,_,h.nm.bns,by simp⟩,h.nm.bs,h.nm.bns,h.nm.vl,h.nm.row,fun c hc b hb=>⟨h.nm.krow c hc b hb,ty (h.nm.row c hc) hb rfl⟩,h.nm.apart⟩,?_,h.len⟩⟩
 refine⟨h.th.1,fun c hc=>⟨(h.th.2 c hc).1,fun k hk=>?_⟩⟩
 have hv:=(h.th.2 c hc).2 k hk
 generalize (xs.getD c []).getD k undef=v at hv⊢
 generalize (M.nm.getD c []).getD k default=t at hv⊢
 cases t with
 | bucket l=>
  obtain⟨sv,h1,h2,h3⟩:=hv
  refine⟨sv,h1,h2,fun hl q hq=>no ?_ (h3 hl q hq)⟩
  obtain⟨A,cap,rfl,r2,r3⟩:=h2
  obtain⟨g,off,cs,rfl,r4,r5,r6⟩:=r3 hl
  obtain⟨o,n,c,e⟩:=hq
  injection e with e
  injection e with e
  injection e with e
  exact e▸⟨_,_,r5,by simp⟩
 | base a d h'=>exact hv
 | quad b q d=>exact hv
 | page b q d=>exact hv
structure Kw (L:Nat->Prop) (w w':World):Prop where
 k:Kp L w w'
 o: ∀b,b<w.heap.size-> ¬ StoreTy w b->w'.heap[b]? =w.heap[b]?
theorem StoreTy.lt{w:World}{b:Nat}(h:StoreTy w b):b<w.heap.size:=by
 obtain⟨t,cs,h1,-⟩:=h
 exact h1.lt
theorem StoreTy.heap{w w':World}{b:Nat}(h:w'.heap[b]? =w.heap[b]?):StoreTy w' b↔StoreTy w b:=by
 constructor
 ·rintro⟨t,cs,h1,h2⟩
  exact⟨t,cs,Blk.of_heap h.symm h1,h2⟩
 ·rintro⟨t,cs,h1,h2⟩
  exact⟨t,cs,Blk.of_heap h h1,h2⟩
theorem StoreTy.map_no{w:World}{b:Nat}(h: ∃es cl,w.heap[b]? =some (.map es cl)): ¬ StoreTy w b:=by
 rintro⟨t,cs,h1,-⟩
 obtain⟨es,cl,h⟩:=h
 unfold Blk at h1
 rw[h]at h1;cases h1
namespace Kw
variable{L:Nat->Prop}{w w' w'':World}
theorem refl(L:Nat->Prop)(w:World):Kw L w w:=⟨Kp.refl _ _,fun _ _ _=>rfl⟩
theorem trans(h:Kw L w w')(k:Kw L w' w''):Kw L w w'':=⟨h.k.trans k.k,fun b hb hn=>by
 have h1:=h.o b hb hn
 exact(k.o b (Nat.lt_of_lt_of_le hb h.k.size) (fun q=>hn ((StoreTy.heap h1).1 q))).trans h1⟩
theorem below(hb:Bd L w)(h:Below w.heap.size w w'):Kw L w w':=⟨Kp.below hb h,fun b hb _=>h.block b hb⟩
theorem drew(h:Kw L w w'):Kw L w w'.drew:=⟨h.k.drew,h.o⟩
theorem undrew(h:Kw L w.drew w'):Kw L w w':=⟨h.k.undrew',h.o⟩
theorem bd(h:Kw L w w')(hb:Bd L w):Bd L w':=h.k.bd hb
theorem size(h:Kw L w w'):w.heap.size<=w'.heap.size:=h.k.size
theorem sub{L':Nat->Prop}(h:Kw L w w')(hs: ∀b,L' b->L b):Kw L' w w':=⟨h.k.sub hs,h.o⟩
theorem map{b n:Nat}{f:Int->Option Value}(h:Kw L w w')(hm:MapV w b n f):MapV w' b n f:=hm.heap (h.o _ hm.lt (StoreTy.map_no hm.obj))
theorem blk{g:Nat}{t:TypeId}{cs:Array Value}(h:Kw L w w')(hb:Blk w g t cs)(ht: ¬ (t=78∨t=150∨t=20∨t=152∨t=3∨t=136)):Blk w' g t cs:=
 Blk.of_heap (h.o _ hb.lt (fun⟨t',cs',h1,h2⟩=>by
  unfold Blk at h1 hb
  rw[hb]at h1
  injection h1 with h1
  injection h1 with _ h1
  subst h1
  exact ht h2)) hb
theorem of(h:Kp (wideS L w) w w'):Kw L w w':=⟨h.sub fun _ q=>.inl q,fun b hb hn=>h.k.block b (.inr ⟨hb,hn⟩)⟩
theorem row{v:Value}{base:Nat}{e:TypeId}{size k:Nat}{xs:List Value}(h:Kw L w w')(hr:w.ownsRow base e size v k xs)(ht: ¬ (e=78∨e=150∨e=20∨e=152∨e=3∨e=136)):w'.ownsRow base e size v k xs:=by
 refine⟨hr.1,?_⟩
 rcases hr.2 with h2 | ⟨g,cap,cur,hv,hg,hh,rest⟩
 ·exact .inl h2
 ·exact .inr ⟨g,cap,cur,hv,hg,h.blk (show Blk w g _ cur from hh) ht,rest⟩
end Kw
theorem call_wide{L:Nat->Prop}{w:World}{s:Nat}{M M':Mem}(h:MemAt L w s M){P:FuncId}{args:Array Value}{R:Ending->World->Prop}
  (hc: ∀K,MemAt K w s M->Calls Tryz.prog P args w fun e w'=>R e w'/\MemAt K w' s M'/\Kp K w w'):
  Calls Tryz.prog P args w fun e w'=>R e w'/\MemAt L w' s M'/\Kw L w w':=by
 refine(hc _ h.wide).mono ?_
 rintro e w' ⟨h1,h2,h3⟩
 exact⟨h1,h2.sub fun _ q=>.inl q,Kw.of h3⟩
def DirV(V:Nat->Prop)(w:World)(M:Mem)(num:Int)(v:Value):Prop:=∃ev l,v= .agg #[.int .i64 num,.bool true,ev,.string ⟨#[]⟩]/\RowT w 0 132 2 ev l.length (entL l)/\ (∀q,svBlk ev q->q<w.heap.size/\ ¬ V q)/\l.Perm ((itsM M num).map entIt)/\SortedL l
def filesV(g:Gt):Int->Option Value:=fun i=>if i∈g.fs then some (.bool true)else none
structure GV (V:Nat->Prop) (w:World) (fb ab:Nat) (M:Mem) (g:Gt):Prop where
 f:MapV w fb g.n (filesV g)
 ne:fb≠ab
 a: ∃fa,MapV w ab g.n fa/\ ∀i,(fa i).isSome=decide (i∈g.ds)/\ ∀v,fa i=some v->DirV V w M i v
structure Kd (L:Nat->Prop) (fb ab:Nat) (w w':World):Prop where
 os:w'.os=w.os
 tape:w'.tape=w.tape
 output:w'.output=w.output
 size:w.heap.size<=w'.heap.size
 l: ∀b,L b->b≠fb->b≠ab->w'.heap[b]? =w.heap[b]?
 o: ∀b,b<w.heap.size-> ¬ StoreTy w b->b≠fb->b≠ab->w'.heap[b]? =w.heap[b]?
 i:KI w w'
theorem KI.grown{w w':World}{b:Nat}(hb: ∃es cl,w.heap[b]? =some (.map es cl))(h:w.grownBy w' (some b)):KI w w':=fun q t cs _ hq=>Blk.of_heap (h.block q hq.lt (fun e=>by
 have e:=Option.some.inj e
 subst e
 obtain⟨es,cl,hb⟩:=hb
 unfold Blk at hq
 rw[hb]at hq;cases hq)) hq
namespace Kd
variable{L:Nat->Prop}{fb ab:Nat}{w w' w'':World}
theorem refl(w:World):Kd L fb ab w w:=⟨rfl,rfl,rfl,Nat.le_refl _,fun _ _ _ _=>rfl,fun _ _ _ _ _=>rfl,KI.refl _⟩
theorem trans(h:Kd L fb ab w w')(k:Kd L fb ab w' w''):Kd L fb ab w w'':=⟨k.os.trans h.os,k.tape.trans h.tape,k.output.trans h.output,Nat.le_trans h.size k.size,fun b hb h1 h2=>(k.l b hb h1 h2).trans (h.l b hb h1 h2),fun b hb hn h1 h2=>by
 have e:=h.o b hb hn h1 h2
 exact(k.o b (Nat.lt_of_lt_of_le hb h.size) (fun q=>hn ((StoreTy.heap e).1 q)) h1 h2).trans e,h.i.trans k.i⟩
theorem below(hb:Bd L w)(h:Below w.heap.size w w'):Kd L fb ab w w':=⟨h.os,h.tape,h.output,h.size,fun b q _ _=>h.block b (hb b q),fun b q _ _ _=>h.block b q,KI.below h⟩
theorem ofKw(h:Kw L w w'):Kd L fb ab w w':=⟨h.k.k.os,h.k.k.tape,h.k.k.output,h.size,fun b q _ _=>h.k.k.block b q,fun b q hn _ _=>h.o b q hn,h.k.i⟩
theorem grownF(hbd:Bd L w)(hb: ∃es cl,w.heap[fb]? =some (.map es cl))(h:w.grownBy w' (some fb)):Kd L fb ab w w':=⟨h.os,h.tape,h.output,h.size,fun b q h1 _=>h.block b (hbd b q) (fun e=>h1 (Option.some.inj e)),fun b q _ h1 _=>h.block b q (fun e=>h1 (Option.some.inj e)),KI.grown hb h⟩
theorem grownA(hbd:Bd L w)(hb: ∃es cl,w.heap[ab]? =some (.map es cl))(h:w.grownBy w' (some ab)):Kd L fb ab w w':=⟨h.os,h.tape,h.output,h.size,fun b q _ h2=>h.block b (hbd b q) (fun e=>h2 (Option.some.inj e)),fun b q _ _ h2=>h.block b q (fun e=>h2 (Option.some.inj e)),KI.grown hb h⟩
theorem drew(h:Kd L fb ab w w'):Kd L fb ab w w'.drew:=⟨h.os,h.tape,h.output,h.size,h.l,h.o,h.i⟩
theorem undrew(h:Kd L fb ab w.drew w'):Kd L fb ab w w':=⟨h.os,h.tape,h.output,h.size,h.l,h.o,h.i.undrew⟩
theorem bd(h:Kd L fb ab w w')(hb:Bd L w):Bd L w':=fun b q=>Nat.lt_of_lt_of_le (hb b q) h.size
theorem blk{g:Nat}{t:TypeId}{cs:Array Value}(h:Kd L fb ab w w')(hf: ∃es cl,w.heap[fb]? =some (.map es cl))(ha: ∃es cl,w.heap[ab]? =some (.map es cl))(hb:Blk w g t cs)(ht: ¬ (t=78∨t=150∨t=20∨t=152∨t=3∨t=136)):Blk w' g t cs:=
 Blk.of_heap (h.o _ hb.lt (fun⟨t',cs',h1,h2⟩=>by
  unfold Blk at h1 hb
  rw[hb]at h1
  injection h1 with h1
  injection h1 with _ h1
  subst h1
  exact ht h2) (fun e=>by
  obtain⟨es,cl,q⟩:=hf
  unfold Blk at hb
  rw[e,q]at hb;cases hb) (fun e=>by
  obtain⟨es,cl,q⟩:=ha
  unfold Blk at hb
  rw[e,q]at hb;cases hb)) hb
theorem row{v:Value}{base:Nat}{e:TypeId}{size k:Nat}{xs:List Value}(h:Kd L fb ab w w')(hf: ∃es cl,w.heap[fb]? =some (.map es cl))(ha: ∃es cl,w.heap[ab]? =some (.map es cl))(hr:w.ownsRow base e size v k xs)(ht: ¬ (e=78∨e=150∨e=20∨e=152∨e=3∨e=136)):w'.ownsRow base e size v k xs:=by
 refine⟨hr.1,?_⟩
 rcases hr.2 with h2 | ⟨g,cap,cur,hv,hg,hh,rest⟩
 ·exact .inl h2
 ·exact .inr ⟨g,cap,cur,hv,hg,h.blk hf ha (show Blk w g _ cur from hh) ht,rest⟩
end Kd
theorem not_st_entry: ¬ ((132:TypeId)=78∨(132:TypeId)=150∨(132:TypeId)=20∨(132:TypeId)=152∨(132:TypeId)=3∨(132:TypeId)=136):=by decide
theorem not_st_inode: ¬ ((93:TypeId)=78∨(93:TypeId)=150∨(93:TypeId)=20∨(93:TypeId)=152∨(93:TypeId)=3∨(93:TypeId)=136):=by decide
namespace DirV
variable{L V V':Nat->Prop}{fb ab:Nat}{w w':World}{M:Mem}{num:Int}{v:Value}
theorem keep(h:DirV V w M num v)(hs:w.heap.size<=w'.heap.size)(hk: ∀q cs,¬ V q->Blk w q 132 cs->Blk w' q 132 cs):DirV V w' M num v:=by
 obtain⟨ev,l,h1,h2,h3,h4⟩:=h
 refine⟨ev,l,h1,?_,fun q hq=>⟨Nat.lt_of_lt_of_le (h3 q hq).1 hs,(h3 q hq).2⟩,h4⟩
 obtain⟨A,cap,rfl,r2,r3⟩:=h2
 refine⟨A,cap,rfl,r2,fun hn=>?_⟩
 obtain⟨g,off,cs,rfl,r4,r5,r6⟩:=r3 hn
 exact⟨g,off,cs,rfl,r4,hk g cs (h3 g ⟨_,_,_,rfl⟩).2 r5,r6⟩
theorem kd(h:DirV V w M num v)(hk:Kd L fb ab w w')(hf: ∃es cl,w.heap[fb]? =some (.map es cl))(ha: ∃es cl,w.heap[ab]? =some (.map es cl)):DirV V w' M num v:=h.keep hk.size fun q cs _ hq=>hk.blk hf ha hq not_st_entry
theorem kw(h:DirV V w M num v)(hk:Kw L w w'):DirV V w' M num v:=h.keep hk.size fun q cs _ hq=>hk.blk hq not_st_entry
theorem below(h:DirV V w M num v)(hb:Below w.heap.size w w'):DirV V w' M num v:=h.keep hb.size fun q cs _ hq=>Blk.of_heap (hb.block q hq.lt) hq
theorem sub(h:DirV V w M num v)(hs: ∀b,V' b->V b):DirV V' w M num v:=by
 obtain⟨ev,l,h1,h2,h3,h4⟩:=h
 exact⟨ev,l,h1,h2,fun q hq=>⟨(h3 q hq).1,fun hv=>(h3 q hq).2 (hs q hv)⟩,h4⟩
theorem addV(h:DirV V w M num v){q:Nat}(hq:w.heap.size<=q∨V q):DirV (ins V q) w M num v:=by
 obtain⟨ev,l,h1,h2,h3,h4⟩:=h
 refine⟨ev,l,h1,h2,fun p hp=>⟨(h3 p hp).1,fun hv=>?_⟩,h4⟩
 have:=h3 p hp
 rcases hv with hv | hv
 ·exact this.2 hv
 ·rcases hq with hq | hq
  ·omega
  ·exact this.2 (hv▸hq)
end DirV
namespace GV
variable{L V V':Nat->Prop}{w w':World}{fb ab:Nat}{M:Mem}{g:Gt}
theorem below(h:GV V w fb ab M g)(hb:Below w.heap.size w w'):GV V w' fb ab M g:=by
 obtain⟨fa,h1,h2⟩:=h.a
 exact⟨h.f.below hb,h.ne,fa,h1.below hb,fun i=>⟨(h2 i).1,fun v hv=>((h2 i).2 v hv).below hb⟩⟩
theorem alloc(h:GV V w fb ab M g)(o:Obj):GV V (w.alloc o) fb ab M g:=h.below ((Below.refl _ _).alloc (Nat.le_refl _) o)
theorem kw(h:GV V w fb ab M g)(hk:Kw L w w'):GV V w' fb ab M g:=by
 obtain⟨fa,h1,h2⟩:=h.a
 exact⟨hk.map h.f,h.ne,fa,hk.map h1,fun i=>⟨(h2 i).1,fun v hv=>((h2 i).2 v hv).kw hk⟩⟩
theorem sub(h:GV V w fb ab M g)(hs: ∀b,V' b->V b):GV V' w fb ab M g:=by
 obtain⟨fa,h1,h2⟩:=h.a
 exact⟨h.f,h.ne,fa,h1,fun i=>⟨(h2 i).1,fun v hv=>((h2 i).2 v hv).sub hs⟩⟩
theorem addV(h:GV V w fb ab M g){q:Nat}(hq:w.heap.size<=q∨V q):GV (ins V q) w fb ab M g:=by
 obtain⟨fa,h1,h2⟩:=h.a
 exact⟨h.f,h.ne,fa,h1,fun i=>⟨(h2 i).1,fun v hv=>((h2 i).2 v hv).addV hq⟩⟩
theorem objF(h:GV V w fb ab M g): ∃es cl,w.heap[fb]? =some (.map es cl):=h.f.obj
theorem objA(h:GV V w fb ab M g): ∃es cl,w.heap[ab]? =some (.map es cl):=by
 obtain⟨fa,h1,h2⟩:=h.a
 exact h1.obj
theorem grown(h:GV V w fb ab M g){row:Option Nat}(hg:w.grownBy w' row)(hr: ∀q,row=some q->V q/\ ∃t cs,Blk w q t cs):GV V w' fb ab M g:=by
 have hm: ∀{b n:Nat} {f:Int->Option Value},MapV w b n f->MapV w' b n f:=fun {b n f} h=>h.heap (hg.block b h.lt (fun e=>by
  obtain⟨-,t,cs,hq⟩:=hr b e.symm
  obtain⟨es,cl,ho⟩:=h.obj
  unfold Blk at hq
  rw[ho]at hq;cases hq))
 obtain⟨fa,h1,h2⟩:=h.a
 exact⟨hm h.f,h.ne,fa,hm h1,fun i=>⟨(h2 i).1,fun v hv=>((h2 i).2 v hv).keep hg.size fun q cs hn hq=>Blk.of_heap (hg.block q hq.lt (fun e=>hn (hr q e.symm).1)) hq⟩⟩
theorem setE(h:GV V w fb ab M g){q:Nat}{t:TypeId}{cs:Array Value}(hq:Blk w q t cs)(ht:t≠132)(i:Nat)(u:Value):GV V (w.setCell ⟨q,i,none⟩ u) fb ab M g:=by
 have hm: ∀{b n:Nat} {f:Int->Option Value},MapV w b n f->MapV (w.setCell ⟨q,i,none⟩ u) b n f:=fun {b n f} h=>h.heap (Below.heap_setCell _ _ _ _ (show b≠q by
  intro e
  obtain⟨es,cl,ho⟩:=h.obj
  unfold Blk at hq
  rw[<-e,ho]at hq;cases hq))
 obtain⟨fa,h1,h2⟩:=h.a
 exact⟨hm h.f,h.ne,fa,hm h1,fun i=>⟨(h2 i).1,fun v hv=>((h2 i).2 v hv).keep (by simp[World.setCell]) fun p cs' _ hp=>hp.far (p:=⟨q,_,none⟩) (Blk.ne_ hp hq (Ne.symm ht)) _⟩⟩
theorem file(hbd:Bd L w)(h:GV V w fb ab M g){num:Int}(hm:MapV w' fb (g.n+1) (fun j=>if j=num then some (.bool true)else filesV g j))(hg:w.grownBy w' (some fb)):GV V w' fb ab M ⟨num::g.fs,g.ds⟩:=by
 obtain⟨fa,h1,h2⟩:=h.a
 have kb:Kd L fb ab w w':=Kd.grownF hbd h.objF hg
 have e:Gt.n ⟨num::g.fs,g.ds⟩=g.n+1:=by unfold Gt.n;simp;omega
 have hc: ∀j,(if j=num then some (Value.bool true)else filesV g j)=filesV ⟨num::g.fs,g.ds⟩ j:=fun j=>by
  unfold filesV
  by_cases q:j=num
  ·subst q;simp
  ·simp[q]
 exact⟨by rw[e];exact hm.congr hc,h.ne,fa,by rw[e];exact(h1.kept hg fun q=>h.ne (Option.some.inj q).symm).mono (by omega),fun i=>⟨(h2 i).1,fun v hv=>((h2 i).2 v hv).kd kb h.objF h.objA⟩⟩
theorem dir(hbd:Bd L w)(h:GV V w fb ab M g){num:Int}{y:Value}(hm: ∀fa,MapV w ab g.n fa->MapV w' ab (g.n+1) (fun j=>if j=num then some y else fa j))(hy:DirV V w M num y)(hg:w.grownBy w' (some ab)):GV V w' fb ab M ⟨g.fs,num::g.ds⟩:=by
 obtain⟨fa,h1,h2⟩:=h.a
 have kb:Kd L fb ab w w':=Kd.grownA hbd h.objA hg
 have e:Gt.n ⟨g.fs,num::g.ds⟩=g.n+1:=by unfold Gt.n;simp;omega
 refine⟨by rw[e];exact(h.f.kept hg fun q=>h.ne (Option.some.inj q)).mono (by omega),h.ne,_,by rw[e];exact hm fa h1,fun i=>?_⟩
 by_cases q:i=num
 ·subst q
  simp only[if_pos rfl]
  refine⟨by simp,fun v hv=>?_⟩
  injection hv with hv
  exact hv▸hy.kd kb h.objF h.objA
 ·simp only[if_neg q]
  refine⟨by rw[(h2 i).1];simp[q],fun v hv=>((h2 i).2 v hv).kd kb h.objF h.objA⟩
theorem made{a:World}:GV (fun _=>False) ((a.alloc (.map #[] 0)).alloc (.map #[] 0)) a.heap.size (a.heap.size+1) M ⟨[],[]⟩:=
 ⟨((MapV.made a).alloc _).congr fun i=>by simp[filesV],by omega,fun _=>none,by
  have:=MapV.made (a.alloc (.map #[] 0))
  simpa[Gt.n]using this,fun i=>⟨by simp,fun v hv=>by cases hv⟩⟩
end GV
theorem MemAt.grown{L:Nat->Prop}{w w':World}{s:Nat}{M:Mem}{q:Nat}(h:MemAt L w s M)(hq:L q)(hg:w.grownBy w' (some q)):MemAt L w' s M:=
 h.move (fun b hb=>Nat.lt_of_lt_of_le (h.bd b hb) hg.size) hg.size (fun _ hb _=>hb) fun b hlt hn=>hg.block b hlt fun e=>hn (Option.some.inj e▸hq)
end
section
open Go.RowKit Go.Shelf Go.Lib Go.Sort
set_option maxHeartbeats 1000000
abbrev En:=ByteArray×Int
instance:Inhabited En:=⟨(ByteArray.empty,0)⟩
theorem ltOf_cmpE(x y:En):ltOf (fun x y:En=>cmpS x.1 y.1) x y=nlt x.1 y.1:=by
 show decide (cmpS x.1 y.1<0)=_
 unfold cmpS
 by_cases h:nlt x.1 y.1=true
 ·rw[if_pos h,h];rfl
 ·rw[if_neg h,Bool.eq_false_iff.2 h]
  split <;> rfl
theorem swo_en:SWO (ltOf fun x y:En=>cmpS x.1 y.1) where
 irrefl x:=by rw[ltOf_cmpE];simp[nlt_irrefl]
 trans x y z h1 h2:=by rw[ltOf_cmpE]at*;exact nlt_trans h1 h2
 ntrans x y z h1 h2:=by
  rw[ltOf_cmpE]at*
  cases h:nlt x.1 z.1
  ·rfl
  ·rcases nlt_tri x.1 y.1 with q | q | q
   ·rw[q]at h1;cases h1
   ·rw[q]at h;rw[h]at h2;cases h2
   ·have:=nlt_trans q h;rw[this]at h2;cases h2
def encEn(e:En):List Value:=[.string e.1,.int .i64 e.2]
set_option maxRecDepth 1000000 in
theorem cmpEn_calls(x y:En)(W:World):
  Calls Tryz.prog 138 #[.agg #[.string x.1,.int .i64 x.2],.agg #[.string y.1,.int .i64 y.2]] W fun e w'=>e= .returned (.int .i64 (cmpS x.1 y.1))/\ ∃q os',w'=grow (W.drewN q) os':=by
 have hcon:=fun W=>compareS_calls x.1 y.1 W
 generalize cmpS x.1 y.1=r at hcon⊢
 go_enter Tryz.func138,Tryz.ntmps138
 go_wp2_with (go_at_call 59;refine(hcon _).mono ?_;rintro e w' ⟨rfl,rfl⟩)
 go_ret
 exact⟨rfl,0,_,by rw[alloc_eq_grow,alloc_eq_grow,grow_grow];rfl⟩
theorem cmpLaysEn(blk off size:Nat)(w:World):CmpLays Tryz.prog 138 #[] encEn 2 (fun x y=>cmpS x.1 y.1) blk off size w:=
 fun _ _ _ _ x y=>cmpEn_calls x y _
theorem sortEn_calls(blk off cap:Nat)(D:Array En)(w:World)(hH:HoldsK encEn 2 w blk off D)(hblk:blk<w.heap.size)(hsz:D.size<4611686018427387904):
  Calls Tryz.prog 137 #[.slice (some ⟨blk,off,none⟩) D.size cap,.func (.func 138) #[] #[]] w fun e w'=>e= .returned (.tuple #[])/\ ∃D' n os,PermIn 0 D.size D D'/\SortedIn (ltOf fun x y:En=>cmpS x.1 y.1) 0 D.size D'/\w'=sortWorldK encEn 2 w blk off n D' os:=by
 have eg: ∀args w,(callFunc 138 args).run Tryz.prog w= .ok (.enter 138 args) w:=enters_of Tryz.func138 (by kernel_rfl) rfl
 exact AnyQ.slices_SortFunc Tryz.sortEnt 2 Tryz.isAgg132 Tryz.sizeOf132 encEn (fun _=>rfl) (fun x v hv=>by simp[encEn]at hv;rcases hv with rfl | rfl <;> rfl) (fun x y=>cmpS x.1 y.1) swo_en 138 #[] blk off cap D w eg (cmpLaysEn blk off D.size w) hH hblk hsz
theorem flatEn_get: ∀(D:List En) (t:Nat),(D.flatMap encEn)[t]? =(D[t / 2]?).bind fun e=>(encEn e)[t % 2]?
 | [],t=>by simp
 | e::D,t=>by
  rw[List.flatMap_cons]
  by_cases h:t<2
  ·have:t=0∨t=1:=by omega
   rcases this with rfl | rfl <;> simp[encEn]
  ·have e1:t / 2=(t - 2) / 2+1:=by omega
   have e2:t % 2=(t - 2) % 2:=by omega
   rw[List.getElem?_append_right (by simp[encEn];omega),e1,List.getElem?_cons_succ,e2,<-flatEn_get D (t - 2)]
   simp[encEn]
theorem flatEn_len(D:List En):(D.flatMap encEn).length=D.length*2:=by
 induction D with
 | nil=>rfl
 | cons e D ih=>rw[List.flatMap_cons,List.length_append,ih];simp[encEn];omega
theorem flatKEn_eq(D:List En):flatK encEn 2 D.toArray=(D.flatMap encEn).toArray:=by
 apply Array.ext
 ·rw[size_flatK,List.size_toArray,List.size_toArray,flatEn_len]
 ·intro t h1 h2
  have h3:t<D.length*2:=by rw[size_flatK]at h1;simpa using h1
  have ha:=get_flatK encEn 2 D.toArray t (by simpa using h3)
  rw[getElem!_pos (flatK encEn 2 D.toArray) t h1]at ha
  rw[ha]
  have hb:=flatEn_get D t
  have hd:t / 2<D.length:=by omega
  rw[List.getElem?_eq_getElem (by rw[flatEn_len];exact h3),List.getElem?_eq_getElem hd]at hb
  have hm:t % 2< (encEn D[t / 2]).length:=by simp[encEn];omega
  simp only[Option.bind_some]at hb
  rw[List.getElem?_eq_getElem hm]at hb
  have hb:=Option.some.inj hb
  simp only[List.getElem_toArray]
  rw[hb]
  have hx:D.toArray[t / 2]! =D[t / 2]:=by simp[hd]
  rw[hx]
  exact getElem!_pos (encEn D[t / 2]) (t % 2) hm
theorem holdsEn_of{w:World}{base g cap:Nat}{D:List En}(h:w.ownsRow base 132 2 (.slice (some ⟨g,0,none⟩) D.length cap) D.length (D.flatMap encEn)):HoldsK encEn 2 w g 0 D.toArray:=by
 unfold HoldsK
 rw[flatKEn_eq]
 intro j hj
 have hj':j< (D.flatMap encEn).length:=by simpa using hj
 have hget:(D.flatMap encEn)[j]? =some ((D.flatMap encEn).toArray[j]!):=by
  rw[getElem!_pos (D.flatMap encEn).toArray j hj,List.getElem_toArray,List.getElem?_eq_getElem hj']
 have hc:=h.cells (g:=g) rfl j _ hget
 have e:(⟨g,0,none⟩:Addr).add j=⟨g,0+j,none⟩:=by unfold Addr.add;split <;> simp_all
 rw[e]at hc
 refine⟨hc,?_⟩
 rcases h.2 with⟨hn,_⟩ | ⟨g',cap',cur,hv,_,hh,_⟩
 ·cases hn
 ·have:g=g':=by simpa[Value.ownBlock]using congrArg Value.ownBlock hv
  subst this
  exact(Blk.frozen (show Blk w g _ cur from hh) _)
theorem sortedEn_heap{w:World}{g n:Nat}{D':List En}{os:Array Obj}(_:g<w.heap.size)(k:Nat)(hk:k<w.heap.size):
  (sortWorldK encEn 2 w g 0 n D'.toArray os).heap[k]? =if k=g then(w.heap[k]?).map (onCells (putCells id 0 (flatK encEn 2 D'.toArray)))else w.heap[k]?:=by
 unfold sortWorldK grow putRowK putRow mapBlock Sort.ahead
 show((w.heap.modify g (onCells (putCells id 0 (flatK encEn 2 D'.toArray))))++os)[k]? =_
 rw[Array.getElem?_append_left (by simpa using hk),Array.getElem?_modify]
 by_cases e:g=k
 ·rw[if_pos e,if_pos e.symm]
 ·rw[if_neg e,if_neg (fun h=>e h.symm)]
theorem sortedEn_own{w:World}{base g cap n:Nat}{D D':List En}{os:Array Obj}(h:w.ownsRow base 132 2 (.slice (some ⟨g,0,none⟩) D.length cap) D.length (D.flatMap encEn))(hl:D'.length=D.length):
  (sortWorldK encEn 2 w g 0 n D'.toArray os).ownsRow base 132 2 (.slice (some ⟨g,0,none⟩) D'.length cap) D'.length (D'.flatMap encEn):=by
 refine⟨flatEn_len D',.inr ?_⟩
 rcases h.2 with⟨hn,_⟩ | ⟨g',cap',cur,hv,hb,hh,h1,h2,h3,h4⟩
 ·cases hn
 ·have e1:g=g':=by simpa[Value.ownBlock]using congrArg Value.ownBlock hv
  subst e1
  have e2:cap=cap':=by
   injection hv
  subst e2
  have hg:g<w.heap.size:=Blk.lt (show Blk w g _ cur from hh)
  refine⟨g,cap,putCells id 0 (flatK encEn 2 D'.toArray) cur,rfl,hb,?_,by omega,h2,?_,?_⟩
  ·rw[sortedEn_heap hg g hg,if_pos rfl,hh]
   rfl
  ·simp[putCells,h3]
  ·rw[flatKEn_eq]
   have hle:D'.length*2<=cap*2:=Nat.mul_le_mul_right _ (by omega)
   apply List.ext_getElem
   ·simp only[List.length_take,Array.length_toList,Array.size_mapIdx,flatEn_len,h3,putCells,List.size_toArray]
    omega
   ·intro j q1 q2
    rw[flatEn_len]at q2
    have hp:(0<=j/\j<0+ (D'.flatMap encEn).toArray.size):=by
     refine⟨Nat.zero_le _,?_⟩
     rw[List.size_toArray,flatEn_len]
     omega
    simp only[List.getElem_take,Array.getElem_toList,putCells,Array.getElem_mapIdx]
    rw[if_pos hp]
    have hq:j - 0< (D'.flatMap encEn).toArray.size:=by rw[List.size_toArray,flatEn_len];omega
    rw[getElem!_pos (D'.flatMap encEn).toArray (j - 0) hq]
    simp
theorem encEn_len(e:En):(encEn e).length=2:=rfl
theorem encEn_one(e:En): ∀u∈encEn e,u.oneCell'=true:=by intro u hu;simp[encEn]at hu;rcases hu with rfl | rfl <;> rfl
theorem cl_entEn(L:List En):CL encEn L (entL L) 2:=by
 intro i j hi hj
 have e:L.getD i (ByteArray.empty,0)=L[i]:=by simp[List.getD,hi]
 have:j=0∨j=1:=by omega
 rcases this with rfl | rfl
 ·rw[show entL L i 0= .string (L.getD i (ByteArray.empty,0)).1 from rfl,e];rfl
 ·rw[show entL L i 1= .int .i64 (L.getD i (ByteArray.empty,0)).2 from rfl,e];rfl
theorem sortedL_of{D':List En}(h:SortedIn (ltOf fun x y:En=>cmpS x.1 y.1) 0 D'.length D'.toArray):SortedL D':=by
 unfold SortedL
 rw[List.pairwise_iff_getElem]
 intro i j hi hj hij
 have h2:=h i j (Nat.zero_le _) hij hj
 rw[getElem!_pos D'.toArray i (by simpa using hi),getElem!_pos D'.toArray j (by simpa using hj)]at h2
 simp only[List.getElem_toArray]at h2
 rw[ltOf_cmpE]at h2
 exact h2
theorem ents_sort{w:World}{base:Nat}{v:Value}{D:List En}(hown:w.ownsRow base 132 2 v D.length (D.flatMap encEn))(hlen:D.length<=10000000):
  Calls Tryz.prog 137 #[v,.func (.func 138) #[] #[]] w fun e w'=>e= .returned (.tuple #[])/\ ∃D':List En,D'.Perm D/\SortedL D'/\w.grownBy w' v.ownBlock/\w'.ownsRow base 132 2 v D.length (D'.flatMap encEn):=by
 rcases hown.2 with⟨rfl,h0⟩ | ⟨g,cap,cur,rfl,hb,hh,_⟩
 ·refine(AnyF.slices_SortFunc_none Tryz.sortEnt none 0 _ w).mono ?_
  rintro e w' ⟨rfl,rfl⟩
  refine⟨rfl,D,.refl _,?_,⟨rfl,rfl,rfl,Nat.le_refl _,fun _ _ _=>rfl⟩,hown⟩
  have:D=[]:=List.length_eq_zero_iff.1 h0
  rw[this]
  exact List.Pairwise.nil
 ·have hg:g<w.heap.size:=Blk.lt (show Blk w g _ cur from hh)
  have hH:=holdsEn_of hown
  refine(sortEn_calls g 0 cap D.toArray w hH hg (by rw[List.size_toArray];omega)).mono ?_
  rintro e w' ⟨rfl,D',n',os,hp,hs,rfl⟩
  obtain⟨D',rfl⟩: ∃l:List En,D'=l.toArray:=⟨D'.toList,rfl⟩
  have hsz:D'.length=D.length:=by simpa using hp.1
  have hperm:D'.Perm D:=by
   have:=hp.2.2
   have e1:D'.toArray.extract 0 D.toArray.size=D'.toArray:=by rw[<-hp.1];exact Array.extract_size
   have e2:D.toArray.extract 0 D.toArray.size=D.toArray:=Array.extract_size
   rw[e1,e2]at this
   simpa using this
  refine⟨rfl,D',hperm,sortedL_of (by have:=hs;rw[List.size_toArray,<-hsz]at this;exact this),⟨rfl,rfl,rfl,?_,fun k hk hn=>?_⟩,?_⟩
  ·show w.heap.size<= ((w.heap.modify g _)++os).size
   simp
  ·rw[sortedEn_heap hg k hk,if_neg (fun e=>hn (by rw[e];rfl))]
  ·have:=sortedEn_own (n:=n') (os:=os) hown hsz
   rw[hsz]at this
   exact this
end
end Go.Proofs.YtkebjgebkneijaaGreat
