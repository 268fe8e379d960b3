/- Texts of one's own that a claim's last text rests on: MpV Mp2 Mp3. -/
import Derived.Test.YtkebjgebkneijaaGreatMG9
import Derived.Maps.RangeWalk
import Derived.Test.YtkebjgebkneijaaGreatMG13
set_option linter.unusedVariables false
set_option linter.unusedSimpArgs false
namespace Go.Proofs.YtkebjgebkneijaaGreat
open Go.RowKit
set_option maxHeartbeats 16000000
set_option maxRecDepth 1000000
section
open Go.RowKit Go.Maps Go.WideShapes
def anyE(v:Value):Option (DataW Value×List MemPlace):=some (.held v,[])
def Akp:DataW Value->Value
 | .held v=>v
 | _=>undef
theorem Od{v x:Value}{ps:List MemPlace}(h:anyE v=some (.held x,ps)):v=x:=by
 unfold anyE at h
 injection h with h
 injection h with h
 injection h
def To(D:DataW Value)(f:Int->Option Value):Prop:=∀i,(f i=none->Maps.has D (kI i)=false/\ ∀z,D.atKey (kI i) z=z)/\ ∀v,f i=some v->Maps.has D (kI i)=true/\ ∀z,D.atKey (kI i) z= .held v
def MapV(w:World)(b n:Nat)(f:Int->Option Value):Prop:=∃D:DataW Value,w.ownsMap Tryz.prog 3 anyE b n D/\To D f
def Cp(w:World)(b r n:Nat)(f:Int->Option Value)(lf:Int->Bool)(cnt:Nat):Prop:=∃(D:DataW Value) (left:Lit->Bool),w.ranges Tryz.prog 3 anyE b r n D left cnt/\To D f/\ ∀i,left (kI i)=lf i
theorem To.put{D:DataW Value}{f:Int->Option Value}(h:To D f)(hm:IsMap D)(i:Int)(v:Value):To (D.put (kI i) (.held v)) (fun j=>if j=i then some v else f j):=by
 intro j
 show((if j=i then some v else f j)=none->_)/\ ∀u,(if j=i then some v else f j)=some u->_
 by_cases e:j=i
 ·subst e
  have hk:WideAt.IsKeyLit (kI j):=by simp[kI,WideAt.IsKeyLit]
  refine⟨fun h0=>by simp at h0,fun u hu=>?_⟩
  have hu:v=u:=by simpa using hu
  subst hu
  exact⟨has_put_same hm hk _,fun z=>atKey_put_same hm hk _ _⟩
 ·have hne:=Ahb e
  rw[if_neg e]
  refine⟨fun h0=>?_,fun u hu=>?_⟩
  ·obtain⟨h1,h2⟩:=(h j).1 h0
   exact⟨by rw[has_put_other hne];exact h1,fun z=>by rw[atKey_put_other hne];exact h2 z⟩
  ·obtain⟨h1,h2⟩:=(h j).2 u hu
   exact⟨by rw[has_put_other hne];exact h1,fun z=>by rw[atKey_put_other hne];exact h2 z⟩
theorem Aiv(j x:Int):(kI j).sameKey (kI x)=decide (j=x):=by
 by_cases e:j=x
 ·subst e
  rw[WideAt.sameKey_self (by simp[kI,WideAt.IsKeyLit])];simp
 ·rw[decide_eq_false e]
  cases hs:(kI j).sameKey (kI x)with
  | false=>rfl
  | true=>exact absurd (WideAt.sameKey_eq hs) (Ahb e)
namespace MapV
variable{w w':World}{b n:Nat}{f g:Int->Option Value}{row:Option Nat}
theorem made(w:World):MapV (w.alloc (.map #[] 0)) w.heap.size 0 (fun _=>none):=⟨.map [],World.ownsMap_made _ _ _ _,fun _=>⟨fun _=>⟨rfl,fun _=>rfl⟩,fun _ h=>by cases h⟩⟩
theorem kept(h:MapV w b n f)(hg:w.grownBy w' row)(hne:some b≠row):MapV w' b n f:=by
 obtain⟨D,ho,hf⟩:=h
 exact⟨D,ho.kept hg hne,hf⟩
theorem heap(h:MapV w b n f)(hk:w'.heap[b]? =w.heap[b]?):MapV w' b n f:=by
 obtain⟨D,⟨es,clock,hb,F,hs,hD⟩,hf⟩:=h
 exact⟨D,⟨es,clock,by rw[hk];exact hb,F,hs,hD⟩,hf⟩
theorem lt(h:MapV w b n f):b<w.heap.size:=by
 obtain⟨D,ho,hf⟩:=h
 exact ho.lt
theorem below(h:MapV w b n f)(hb:Below w.heap.size w w'):MapV w' b n f:=h.heap (hb.block _ h.lt)
theorem alloc(h:MapV w b n f)(o:Obj):MapV (w.alloc o) b n f:=h.kept (World.grownBy_alloc w o none) (by simp)
theorem drew(h:MapV w b n f):MapV w.drew b n f:=h
theorem drewN(h:MapV w b n f)(k:Nat):MapV (w.drewN k) b n f:=h
theorem congr(h:MapV w b n f)(e: ∀i,f i=g i):MapV w b n g:=(funext e:f=g)▸h
theorem mono(h:MapV w b n f){n':Nat}(hn:n<=n'):MapV w b n' f:=by
 obtain⟨D,ho,hf⟩:=h
 exact⟨D,ho.mono hn,hf⟩
theorem obj(h:MapV w b n f): ∃es cl,w.heap[b]? =some (.map es cl):=by
 obtain⟨D,⟨es,cl,hb,_⟩,_⟩:=h
 exact⟨es,cl,hb⟩
theorem look(h:MapV w b n f){T E:TypeId}(hT:Tryz.prog.underlying T=some (.map 3 E)){z:Value}(hz:(zeroValue E).run Tryz.prog w= .ok z w){i:Int}(hi: -1000000<=i/\i<=1000000):
  (Instr.lookup T (.map (some b)) (.int .i64 i) false).run Tryz.prog w= .ok ((f i).getD z) w:=by
 obtain⟨D,ho,hf⟩:=h
 obtain⟨v,ps,hrun,hv⟩:=ho.lookup lawI hT hz (zd:=.held z) (zp:=[]) rfl (keyI hi)
 cases e:f i with
 | none=>rw[((hf i).1 e).2]at hv;rw[Od hv]at hrun;exact hrun
 | some u=>rw[((hf i).2 u e).2]at hv;rw[Od hv]at hrun;exact hrun
theorem look_ok(h:MapV w b n f){T E:TypeId}(hT:Tryz.prog.underlying T=some (.map 3 E)){z:Value}(hz:(zeroValue E).run Tryz.prog w= .ok z w){i:Int}(hi: -1000000<=i/\i<=1000000):
  (Instr.lookup T (.map (some b)) (.int .i64 i) true).run Tryz.prog w= .ok (.tuple #[(f i).getD z,.bool (f i).isSome]) w:=by
 obtain⟨D,ho,hf⟩:=h
 obtain⟨v,ps,hrun,hv⟩:=ho.look_ok lawI hT hz (zd:=.held z) (zp:=[]) rfl (keyI hi)
 have hrun:(Instr.lookup T (.map (some b)) (.int .i64 i) true).run Tryz.prog w= .ok (.tuple #[v,.bool (Maps.has D (kI i))]) w:=hrun
 cases e:f i with
 | none=>
  obtain⟨h1,h2⟩:=(hf i).1 e
  rw[h2]at hv
  rw[Od hv,h1]at hrun
  exact hrun
 | some u=>
  obtain⟨h1,h2⟩:=(hf i).2 u e
  rw[h2]at hv
  rw[Od hv,h1]at hrun
  exact hrun
end MapV
section
variable{ops:Array Oper}{rest:List Oper}{o:Oper}{a:Act}{Q:Exit->Act->World->Prop}
theorem Hu(w:World)(hg:o.guard=none)(T E:TypeId)(hT:Tryz.prog.underlying T=some (.map 3 E))(m x v:Operand)(hop:o.op=Op.mapUpdate T m x v∨o.op=Op.insert T m x v)(b n:Nat)(f:Int->Option Value)(hm:a.eval m= .map (some b))(h:MapV w b n f)(hn:n<1000000000)
  (i:Int) (hi: -1000000<=i/\i<=1000000) (hx:a.eval x= .int .i64 i) (y:Value) (hv:a.eval v=y)
  (hK: ∀w',MapV w' b (n+1) (fun j=>if j=i then some y else f j)->w.grownBy w' (some b)->wpList Tryz.prog ops Q rest (a.put o.dst undef) w'):wpList Tryz.prog ops Q (o::rest) a w:=by
 obtain⟨D,ho,hf⟩:=h
 refine wpList_plain hg fun K' hK'=>?_
 obtain⟨w',hrun,r1,r2⟩:=ho.update (val:=y) lawI hT (by unfold maxLen;omega) (keyI hi) (show anyE y=some (.held y,[])from rfl)
 have hM:MapV w' b (n+1) (fun j=>if j=i then some y else f j):=⟨_,r1,hf.put ho.isMap i y⟩
 unfold Oper.wp
 rcases hop with hop | hop
 all_goals
  simp[execOp,hop,hm,hx,hv,hrun,Result.andThen]
  exact hK' _ _ (hK w' hM r2)
theorem Tp(w:World)(hg:o.guard=none)(T E:TypeId)(hT:Tryz.prog.underlying T=some (.map 3 E))(m:Operand)(hop:o.op=Op.range T m)(b n:Nat)(f:Int->Option Value)(hm:a.eval m= .map (some b))(h:MapV w b n f)
  (hK: ∀w' cnt,Cp w' b w.heap.size n f (fun i=>(f i).isSome) cnt->w.grownBy w' none->w'.heap.size=w.heap.size+1->wpList Tryz.prog ops Q rest (a.put o.dst (.pointer (some ⟨w.heap.size,0,none⟩))) w'):wpList Tryz.prog ops Q (o::rest) a w:=by
 obtain⟨D,ho,hf⟩:=h
 refine wpList_range_own w hg m T hop 3 E lawI hT anyE b n D hm ho fun w' h1 h2 h3=>hK w' _ ⟨D,_,h1,hf,fun i=>?_⟩ h2 h3
 show Maps.has D (kI i)=(f i).isSome
 cases e:f i with
 | none=>exact((hf i).1 e).1
 | some u=>exact((hf i).2 u e).1
theorem Mx(w:World)(hg:o.guard=none)(it:Operand)(hop:o.op=Op.next it false)(b r n:Nat)(f:Int->Option Value)(lf:Int->Bool)(cnt:Nat)(hit:a.eval it= .pointer (some ⟨r,0,none⟩))(h:Cp w b r n f lf cnt)
  (hDone:cnt=0->(∀i,lf i=false)->wpList Tryz.prog ops Q rest (a.put o.dst (.tuple #[.bool false])) w)
  (hMore: ∀(i:Int) (v:Value) (w':World) (cnt':Nat),lf i=true->f i=some v->Cp w' b r n f (fun j=>lf j&&!decide (j=i)) cnt'->cnt'<cnt->w.grownBy w' (some r)->w'.heap.size=w.heap.size->
   (Instr.entry (.pointer (some ⟨r,0,none⟩))).run Tryz.prog w'= .ok (.tuple #[.int .i64 i,v]) w'->wpList Tryz.prog ops Q rest (a.put o.dst (.tuple #[.bool true,.int .i64 i,v])) w'):wpList Tryz.prog ops Q (o::rest) a w:=by
 obtain⟨D,left,hr,hf,hl⟩:=h
 refine wpList_next_ranges w hg it hop 3 lawI anyE (fun x=>Value.int .i64 x) id (fun key kl hk=>?_) (fun v y _=>⟨v,rfl⟩) b r n D left cnt hit hr (fun h0 h1=>hDone h0 fun i=>by rw[<-hl i];exact h1 _) fun x c kl y w' cnt' h1 h2 h3 h4 h5 h6 h7 h8 h9=>?_
 ·obtain⟨x,rfl,-,-⟩:=Maps.keyOf_int_inv Tryz.underlying3 hk
  exact⟨x,rfl⟩
 ·obtain⟨x',hx,rfl,hw⟩:=Maps.keyOf_int_inv Tryz.underlying3 h1
  injection hx with _ hx
  subst hx
  have h2:left (kI x)=true:=h2
  have h3:anyE c=some y:=h3
  unfold anyE at h3
  injection h3 with h3
  subst h3
  have h4: ∀zd,D.atKey (kI x) zd= .held c:=h4
  have hfx:f x=some c:=by
   cases e:f x with
   | none=>
    have:=((hf x).1 e).2 .nil
    rw[h4]at this
    cases this
   | some u=>
    have:=((hf x).2 u e).2 .nil
    have:=(h4 .nil).symm.trans this
    exact congrArg some (congrArg Akp this).symm
  refine hMore x c w' cnt' (by rw[<-hl x];exact h2) hfx ⟨D,_,h5,hf,fun j=>?_⟩ h6 h7 h8 h9
  exact congr (congrArg _ (hl j)) (congrArg _ (Aiv j x))
end
namespace Cp
variable{w w':World}{b r n cnt:Nat}{f:Int->Option Value}{lf:Int->Bool}{row:Option Nat}
theorem map(h:Cp w b r n f lf cnt):MapV w b n f:=by
 obtain⟨D,left,hr,hf,hl⟩:=h
 exact⟨D,hr.owns,hf⟩
theorem left_eq(h:Cp w b r n f lf cnt):w.rangeLeft b r=cnt:=by
 obtain⟨D,left,hr,hf,hl⟩:=h
 exact hr.left_eq
theorem ne(h:Cp w b r n f lf cnt):r≠b:=by
 obtain⟨D,left,hr,hf,hl⟩:=h
 exact hr.ne
theorem lt(h:Cp w b r n f lf cnt):r<w.heap.size:=by
 obtain⟨D,left,hr,hf,hl⟩:=h
 exact hr.lt
theorem kept(h:Cp w b r n f lf cnt)(hg:w.grownBy w' row)(hb':some b≠row)(hr':some r≠row):Cp w' b r n f lf cnt:=by
 obtain⟨D,left,hr,hf,hl⟩:=h
 exact⟨D,left,hr.kept hg hb' hr',hf,hl⟩
theorem below(h:Cp w b r n f lf cnt)(hb:Below w.heap.size w w'):Cp w' b r n f lf cnt:=h.kept (row:=none) ⟨hb.os,hb.tape,hb.output,hb.size,fun i hi _=>hb.block i hi⟩ (by simp) (by simp)
theorem congr{lg:Int->Bool}(h:Cp w b r n f lf cnt)(e: ∀i,lf i=lg i):Cp w b r n f lg cnt:=(funext e:lf=lg)▸h
end Cp
end
def Dt(M:Mem)(num:Int)(b:Nat):List Item:=(List.range b).flatMap fun q=>M.bkt num (q:Nat)
def itsM(M:Mem)(num:Int):List Item:=Dt M num 8
def Gp(i:Item):ByteArray×Int:=(i.name,i.num)
theorem Jw(M:Mem)(num:Int)(b:Nat):Dt M num (b+1)=Dt M num b++M.bkt num (b:Nat):=by
 unfold Dt
 rw[List.range_succ,List.flatMap_append];simp
structure Gt where
 fs:List Int
 ds:List Int
def Gt.n(g:Gt):Nat:=g.fs.length+g.ds.length
def gIt(rec_:Int->Gt->Gt)(g:Gt)(i:Item):Gt:=if i.dir then rec_ i.num g else⟨i.num::g.fs,g.ds⟩
def gDir(M:Mem):Nat->Int->Gt->Gt
 | 0,_,g=>g
 | f+1,num,g=>⟨((itsM M num).foldl (gIt (gDir M f)) g).fs,num::((itsM M num).foldl (gIt (gDir M f)) g).ds⟩
def Deep(M:Mem):Nat->Int->Prop
 | 0,_=>False
 | f+1,num=>(1<=num/\num<=257)/\ ∀i∈itsM M num,i.dir=true->Deep M f i.num
theorem Ak9{rec_:Int->Gt->Gt}(h: ∀n g,g.n<= (rec_ n g).n)(g:Gt)(i:Item):g.n<= (gIt rec_ g i).n:=by
 unfold gIt
 split
 ·exact h _ _
 ·unfold Gt.n
  simp only[List.length_cons]
  omega
theorem Wh{rec_:Int->Gt->Gt}(h: ∀n g,g.n<= (rec_ n g).n): ∀(l:List Item) (g:Gt),g.n<= (l.foldl (gIt rec_) g).n
 | [],_=>Ama _
 | i::l,g=>Aml (Ak9 h g i) (Wh h l _)
theorem Ada(M:Mem): ∀(f:Nat) (num:Int) (g:Gt),g.n<= (gDir M f num g).n
 | 0,_,_=>Ama _
 | f+1,num,g=>by
  have:=Wh (Ada M f) (itsM M num) g
  unfold gDir Gt.n
  unfold Gt.n at this
  simp;omega
def Kb(l:List (ByteArray×Int)):Prop:=l.Pairwise fun a b=>nlt b.1 a.1=false
def Bw(w:World)(b:Nat):Prop:=∃t cs,Blk w b t cs/\ (t=78∨t=150∨t=20∨t=152∨t=3∨t=136)
def Ua(L:Nat->Prop)(w:World):Nat->Prop:=fun b=>L b∨(b<w.heap.size/\ ¬ Bw w b)
theorem Ab.wide{L:Nat->Prop}{w:World}{s:Nat}{M:Mem}(h:Ab L w s M):Ab (Ua L w) w s M:=by
 obtain⟨a,bn,K,vs,xs,h⟩:=h
 obtain⟨bw,bt,us,ha⟩:=h.ar
 have ty: ∀{v:Value} {e:TypeId} {base size k:Nat} {ys:List Value} {q:Nat},w.ownsRow base e size v k ys->v.ownBlock=some q->e=20->Bw w q:=fun ho hq he=>by
  obtain⟨-,cs,hb⟩:=Ag ho hq
  exact⟨_,cs,hb,.inr (.inr (.inl he))⟩
 have no: ∀{b:Nat},Bw w b-> ¬ L b-> ¬ Ua L w b:=fun h1 h2 h3=>h3.elim h2 fun q=>q.2 h1
 have sa:Bw w a:=⟨_,_,ha.ba,by simp⟩
 have sw:Bw w bw:=⟨_,_,ha.bws,by simp⟩
 have st:Bw w bt:=⟨_,_,ha.bts,by simp⟩
 have both: ∀{b:Nat},Bw w b-> ¬ (L b∨K b)-> ¬ (Ua L w b∨(K b/\Bw w b)):=fun h1 h2 h3=>by
  rcases h3 with h3 | h3
  ·exact no h1 (fun q=>h2 (.inl q)) h3
  ·exact h2 (.inr h3.1)
 have wl: ∀b,Ua L w b->b<w.heap.size:=fun b hb=>hb.elim (h.bd b) fun q=>q.1
 refine⟨a,bn,fun b=>K b/\Bw w b,vs,xs,⟨wl,fun b hk hl=>hl.elim (h.dis b hk.1) fun q=>q.2 hk.2,⟨bw,bt,us,⟨fun b hb=>hb.elim (wl b) fun q=>h.nm.bd b q.1,both sa ha.la,both sw ha.lw,both st ha.lt,ha.ba,ha.bws,ha.bts,ha.vl,ha.row,fun c hc b hb=>both (ty (ha.row c hc) hb rfl) (ha.lrow c hc b hb),ha.apart,ha.wsl,ha.tsl⟩⟩,
  ⟨fun b hb=>h.nm.bd b hb.1,⟨h.nm.ks,_,_,h.nm.bs,by simp⟩,⟨h.nm.kn,_,_,h.nm.bns,by simp⟩,h.nm.bs,h.nm.bns,h.nm.vl,h.nm.row,fun c hc b hb=>⟨h.nm.krow c hc b hb,ty (h.nm.row c hc) hb rfl⟩,h.nm.apart⟩,?_,h.len⟩⟩
 refine⟨h.th.1,fun c hc=>⟨(h.th.2 c hc).1,fun k hk=>?_⟩⟩
 have hv:=(h.th.2 c hc).2 k hk
 generalize (xs.getD c []).getD k undef=v at hv⊢
 generalize (M.nm.getD c []).getD k default=t at hv⊢
 cases t with
 | bucket l=>
  obtain⟨sv,h1,h2,h3⟩:=hv
  refine⟨sv,h1,h2,fun hl q hq=>no ?_ (h3 hl q hq)⟩
  obtain⟨A,cap,rfl,r2,r3⟩:=h2
  obtain⟨g,off,cs,rfl,r4,r5,r6⟩:=r3 hl
  obtain⟨o,n,c,e⟩:=hq
  injection e with e
  injection e with e
  injection e with e
  exact e▸⟨_,_,r5,by simp⟩
 | base a d h'=>exact hv
 | quad b q d=>exact hv
 | page b q d=>exact hv
structure Kw (L:Nat->Prop) (w w':World):Prop where
 k:Kp L w w'
 o: ∀b,b<w.heap.size-> ¬ Bw w b->w'.heap[b]? =w.heap[b]?
theorem Bw.lt{w:World}{b:Nat}(h:Bw w b):b<w.heap.size:=by
 obtain⟨t,cs,h1,-⟩:=h
 exact h1.lt
theorem Bw.heap{w w':World}{b:Nat}(h:w'.heap[b]? =w.heap[b]?):Bw w' b↔Bw w b:=by
 constructor
 ·rintro⟨t,cs,h1,h2⟩
  exact⟨t,cs,Blk.of_heap h.symm h1,h2⟩
 ·rintro⟨t,cs,h1,h2⟩
  exact⟨t,cs,Blk.of_heap h h1,h2⟩
theorem Bw.map_no{w:World}{b:Nat}(h: ∃es cl,w.heap[b]? =some (.map es cl)): ¬ Bw w b:=by
 rintro⟨t,cs,h1,-⟩
 obtain⟨es,cl,h⟩:=h
 unfold Blk at h1
 rw[h]at h1;cases h1
namespace Kw
variable{L:Nat->Prop}{w w' w'':World}
theorem refl(L:Nat->Prop)(w:World):Kw L w w:=⟨Kp.refl _ _,fun _ _ _=>rfl⟩
theorem trans(h:Kw L w w')(k:Kw L w' w''):Kw L w w'':=⟨h.k.trans k.k,fun b hb hn=>by
 have h1:=h.o b hb hn
 exact(k.o b (Amk hb h.k.size) (fun q=>hn ((Bw.heap h1).1 q))).trans h1⟩
theorem below(hb:Bd L w)(h:Below w.heap.size w w'):Kw L w w':=⟨Kp.below hb h,fun b hb _=>h.block b hb⟩
theorem drew(h:Kw L w w'):Kw L w w'.drew:=⟨h.k.drew,h.o⟩
theorem undrew(h:Kw L w.drew w'):Kw L w w':=⟨h.k.undrew',h.o⟩
theorem bd(h:Kw L w w')(hb:Bd L w):Bd L w':=h.k.bd hb
theorem size(h:Kw L w w'):w.heap.size<=w'.heap.size:=h.k.size
theorem sub{L':Nat->Prop}(h:Kw L w w')(hs: ∀b,L' b->L b):Kw L' w w':=⟨h.k.sub hs,h.o⟩
theorem map{b n:Nat}{f:Int->Option Value}(h:Kw L w w')(hm:MapV w b n f):MapV w' b n f:=hm.heap (h.o _ hm.lt (Bw.map_no hm.obj))
theorem blk{g:Nat}{t:TypeId}{cs:Array Value}(h:Kw L w w')(hb:Blk w g t cs)(ht: ¬ (t=78∨t=150∨t=20∨t=152∨t=3∨t=136)):Blk w' g t cs:=
 Blk.of_heap (h.o _ hb.lt (fun⟨t',cs',h1,h2⟩=>by
  unfold Blk at h1 hb
  rw[hb]at h1
  injection h1 with h1
  injection h1 with _ h1
  subst h1
  exact ht h2)) hb
theorem of(h:Kp (Ua L w) w w'):Kw L w w':=⟨h.sub fun _ q=>.inl q,fun b hb hn=>h.k.block b (.inr ⟨hb,hn⟩)⟩
theorem row{v:Value}{base:Nat}{e:TypeId}{size k:Nat}{xs:List Value}(h:Kw L w w')(hr:w.ownsRow base e size v k xs)(ht: ¬ (e=78∨e=150∨e=20∨e=152∨e=3∨e=136)):w'.ownsRow base e size v k xs:=by
 refine⟨hr.1,?_⟩
 rcases hr.2 with h2 | ⟨g,cap,cur,hv,hg,hh,rest⟩
 ·exact .inl h2
 ·exact .inr ⟨g,cap,cur,hv,hg,h.blk (show Blk w g _ cur from hh) ht,rest⟩
end Kw
theorem Vf{L:Nat->Prop}{w:World}{s:Nat}{M M':Mem}(h:Ab L w s M){P:FuncId}{args:Array Value}{R:Ending->World->Prop}
  (hc: ∀K,Ab K w s M->Calls Tryz.prog P args w fun e w'=>R e w'/\Ab K w' s M'/\Kp K w w'):
  Calls Tryz.prog P args w fun e w'=>R e w'/\Ab L w' s M'/\Kw L w w':=by
 refine(hc _ h.wide).mono ?_
 rintro e w' ⟨h1,h2,h3⟩
 exact⟨h1,h2.sub fun _ q=>.inl q,Kw.of h3⟩
def DirV(V:Nat->Prop)(w:World)(M:Mem)(num:Int)(v:Value):Prop:=∃ev l,v= .agg #[.int .i64 num,.bool true,ev,.string ⟨#[]⟩]/\RowT w 0 132 2 ev l.length (entL l)/\ (∀q,Es ev q->q<w.heap.size/\ ¬ V q)/\l.Perm ((itsM M num).map Gp)/\Kb l
def Ih(g:Gt):Int->Option Value:=fun i=>if i∈g.fs then some (.bool true)else none
structure GV (V:Nat->Prop) (w:World) (fb ab:Nat) (M:Mem) (g:Gt):Prop where
 f:MapV w fb g.n (Ih g)
 ne:fb≠ab
 a: ∃fa,MapV w ab g.n fa/\ ∀i,(fa i).isSome=decide (i∈g.ds)/\ ∀v,fa i=some v->DirV V w M i v
structure Kd (L:Nat->Prop) (fb ab:Nat) (w w':World):Prop where
 os:w'.os=w.os
 tape:w'.tape=w.tape
 output:w'.output=w.output
 size:w.heap.size<=w'.heap.size
 l: ∀b,L b->b≠fb->b≠ab->w'.heap[b]? =w.heap[b]?
 o: ∀b,b<w.heap.size-> ¬ Bw w b->b≠fb->b≠ab->w'.heap[b]? =w.heap[b]?
 i:KI w w'
theorem KI.grown{w w':World}{b:Nat}(hb: ∃es cl,w.heap[b]? =some (.map es cl))(h:w.grownBy w' (some b)):KI w w':=fun q t cs _ hq=>Blk.of_heap (h.block q hq.lt (fun e=>by
 have e:=Amg e
 subst e
 obtain⟨es,cl,hb⟩:=hb
 unfold Blk at hq
 rw[hb]at hq;cases hq)) hq
namespace Kd
variable{L:Nat->Prop}{fb ab:Nat}{w w' w'':World}
theorem refl(w:World):Kd L fb ab w w:=⟨rfl,rfl,rfl,Ama _,fun _ _ _ _=>rfl,fun _ _ _ _ _=>rfl,KI.refl _⟩
theorem trans(h:Kd L fb ab w w')(k:Kd L fb ab w' w''):Kd L fb ab w w'':=⟨k.os.trans h.os,k.tape.trans h.tape,k.output.trans h.output,Aml h.size k.size,fun b hb h1 h2=>(k.l b hb h1 h2).trans (h.l b hb h1 h2),fun b hb hn h1 h2=>by
 have e:=h.o b hb hn h1 h2
 exact(k.o b (Amk hb h.size) (fun q=>hn ((Bw.heap e).1 q)) h1 h2).trans e,h.i.trans k.i⟩
theorem below(hb:Bd L w)(h:Below w.heap.size w w'):Kd L fb ab w w':=⟨h.os,h.tape,h.output,h.size,fun b q _ _=>h.block b (hb b q),fun b q _ _ _=>h.block b q,KI.below h⟩
theorem ofKw(h:Kw L w w'):Kd L fb ab w w':=⟨h.k.k.os,h.k.k.tape,h.k.k.output,h.size,fun b q _ _=>h.k.k.block b q,fun b q hn _ _=>h.o b q hn,h.k.i⟩
theorem grownF(hbd:Bd L w)(hb: ∃es cl,w.heap[fb]? =some (.map es cl))(h:w.grownBy w' (some fb)):Kd L fb ab w w':=⟨h.os,h.tape,h.output,h.size,fun b q h1 _=>h.block b (hbd b q) (fun e=>h1 (Amg e)),fun b q _ h1 _=>h.block b q (fun e=>h1 (Amg e)),KI.grown hb h⟩
theorem grownA(hbd:Bd L w)(hb: ∃es cl,w.heap[ab]? =some (.map es cl))(h:w.grownBy w' (some ab)):Kd L fb ab w w':=⟨h.os,h.tape,h.output,h.size,fun b q _ h2=>h.block b (hbd b q) (fun e=>h2 (Amg e)),fun b q _ _ h2=>h.block b q (fun e=>h2 (Amg e)),KI.grown hb h⟩
theorem drew(h:Kd L fb ab w w'):Kd L fb ab w w'.drew:=⟨h.os,h.tape,h.output,h.size,h.l,h.o,h.i⟩
theorem undrew(h:Kd L fb ab w.drew w'):Kd L fb ab w w':=⟨h.os,h.tape,h.output,h.size,h.l,h.o,h.i.undrew⟩
theorem bd(h:Kd L fb ab w w')(hb:Bd L w):Bd L w':=fun b q=>Amk (hb b q) h.size
theorem blk{g:Nat}{t:TypeId}{cs:Array Value}(h:Kd L fb ab w w')(hf: ∃es cl,w.heap[fb]? =some (.map es cl))(ha: ∃es cl,w.heap[ab]? =some (.map es cl))(hb:Blk w g t cs)(ht: ¬ (t=78∨t=150∨t=20∨t=152∨t=3∨t=136)):Blk w' g t cs:=
 Blk.of_heap (h.o _ hb.lt (fun⟨t',cs',h1,h2⟩=>by
  unfold Blk at h1 hb
  rw[hb]at h1
  injection h1 with h1
  injection h1 with _ h1
  subst h1
  exact ht h2) (fun e=>by
  obtain⟨es,cl,q⟩:=hf
  unfold Blk at hb
  rw[e,q]at hb;cases hb) (fun e=>by
  obtain⟨es,cl,q⟩:=ha
  unfold Blk at hb
  rw[e,q]at hb;cases hb)) hb
theorem row{v:Value}{base:Nat}{e:TypeId}{size k:Nat}{xs:List Value}(h:Kd L fb ab w w')(hf: ∃es cl,w.heap[fb]? =some (.map es cl))(ha: ∃es cl,w.heap[ab]? =some (.map es cl))(hr:w.ownsRow base e size v k xs)(ht: ¬ (e=78∨e=150∨e=20∨e=152∨e=3∨e=136)):w'.ownsRow base e size v k xs:=by
 refine⟨hr.1,?_⟩
 rcases hr.2 with h2 | ⟨g,cap,cur,hv,hg,hh,rest⟩
 ·exact .inl h2
 ·exact .inr ⟨g,cap,cur,hv,hg,h.blk hf ha (show Blk w g _ cur from hh) ht,rest⟩
end Kd
theorem Eo: ¬ ((132:TypeId)=78∨(132:TypeId)=150∨(132:TypeId)=20∨(132:TypeId)=152∨(132:TypeId)=3∨(132:TypeId)=136):=by decide
theorem Bf: ¬ ((93:TypeId)=78∨(93:TypeId)=150∨(93:TypeId)=20∨(93:TypeId)=152∨(93:TypeId)=3∨(93:TypeId)=136):=by decide
namespace DirV
variable{L V V':Nat->Prop}{fb ab:Nat}{w w':World}{M:Mem}{num:Int}{v:Value}
theorem keep(h:DirV V w M num v)(hs:w.heap.size<=w'.heap.size)(hk: ∀q cs,¬ V q->Blk w q 132 cs->Blk w' q 132 cs):DirV V w' M num v:=by
 obtain⟨ev,l,h1,h2,h3,h4⟩:=h
 refine⟨ev,l,h1,?_,fun q hq=>⟨Nat.lt_of_lt_of_le (h3 q hq).1 hs,(h3 q hq).2⟩,h4⟩
 obtain⟨A,cap,rfl,r2,r3⟩:=h2
 refine⟨A,cap,rfl,r2,fun hn=>?_⟩
 obtain⟨g,off,cs,rfl,r4,r5,r6⟩:=r3 hn
 exact⟨g,off,cs,rfl,r4,hk g cs (h3 g ⟨_,_,_,rfl⟩).2 r5,r6⟩
theorem kd(h:DirV V w M num v)(hk:Kd L fb ab w w')(hf: ∃es cl,w.heap[fb]? =some (.map es cl))(ha: ∃es cl,w.heap[ab]? =some (.map es cl)):DirV V w' M num v:=h.keep hk.size fun q cs _ hq=>hk.blk hf ha hq Eo
theorem kw(h:DirV V w M num v)(hk:Kw L w w'):DirV V w' M num v:=h.keep hk.size fun q cs _ hq=>hk.blk hq Eo
theorem below(h:DirV V w M num v)(hb:Below w.heap.size w w'):DirV V w' M num v:=h.keep hb.size fun q cs _ hq=>Blk.of_heap (hb.block q hq.lt) hq
theorem sub(h:DirV V w M num v)(hs: ∀b,V' b->V b):DirV V' w M num v:=by
 obtain⟨ev,l,h1,h2,h3,h4⟩:=h
 exact⟨ev,l,h1,h2,fun q hq=>⟨(h3 q hq).1,fun hv=>(h3 q hq).2 (hs q hv)⟩,h4⟩
theorem addV(h:DirV V w M num v){q:Nat}(hq:w.heap.size<=q∨V q):DirV (ins V q) w M num v:=by
 obtain⟨ev,l,h1,h2,h3,h4⟩:=h
 refine⟨ev,l,h1,h2,fun p hp=>⟨(h3 p hp).1,fun hv=>?_⟩,h4⟩
 have:=h3 p hp
 rcases hv with hv | hv
 ·exact this.2 hv
 ·rcases hq with hq | hq
  ·omega
  ·exact this.2 (hv▸hq)
end DirV
namespace GV
variable{L V V':Nat->Prop}{w w':World}{fb ab:Nat}{M:Mem}{g:Gt}
theorem below(h:GV V w fb ab M g)(hb:Below w.heap.size w w'):GV V w' fb ab M g:=by
 obtain⟨fa,h1,h2⟩:=h.a
 exact⟨h.f.below hb,h.ne,fa,h1.below hb,fun i=>⟨(h2 i).1,fun v hv=>((h2 i).2 v hv).below hb⟩⟩
theorem alloc(h:GV V w fb ab M g)(o:Obj):GV V (w.alloc o) fb ab M g:=h.below ((Amf _ _).alloc (Ama _) o)
theorem kw(h:GV V w fb ab M g)(hk:Kw L w w'):GV V w' fb ab M g:=by
 obtain⟨fa,h1,h2⟩:=h.a
 exact⟨hk.map h.f,h.ne,fa,hk.map h1,fun i=>⟨(h2 i).1,fun v hv=>((h2 i).2 v hv).kw hk⟩⟩
theorem sub(h:GV V w fb ab M g)(hs: ∀b,V' b->V b):GV V' w fb ab M g:=by
 obtain⟨fa,h1,h2⟩:=h.a
 exact⟨h.f,h.ne,fa,h1,fun i=>⟨(h2 i).1,fun v hv=>((h2 i).2 v hv).sub hs⟩⟩
theorem addV(h:GV V w fb ab M g){q:Nat}(hq:w.heap.size<=q∨V q):GV (ins V q) w fb ab M g:=by
 obtain⟨fa,h1,h2⟩:=h.a
 exact⟨h.f,h.ne,fa,h1,fun i=>⟨(h2 i).1,fun v hv=>((h2 i).2 v hv).addV hq⟩⟩
theorem objF(h:GV V w fb ab M g): ∃es cl,w.heap[fb]? =some (.map es cl):=h.f.obj
theorem objA(h:GV V w fb ab M g): ∃es cl,w.heap[ab]? =some (.map es cl):=by
 obtain⟨fa,h1,h2⟩:=h.a
 exact h1.obj
theorem grown(h:GV V w fb ab M g){row:Option Nat}(hg:w.grownBy w' row)(hr: ∀q,row=some q->V q/\ ∃t cs,Blk w q t cs):GV V w' fb ab M g:=by
 have hm: ∀{b n:Nat} {f:Int->Option Value},MapV w b n f->MapV w' b n f:=fun {b n f} h=>h.heap (hg.block b h.lt (fun e=>by
  obtain⟨-,t,cs,hq⟩:=hr b e.symm
  obtain⟨es,cl,ho⟩:=h.obj
  unfold Blk at hq
  rw[ho]at hq;cases hq))
 obtain⟨fa,h1,h2⟩:=h.a
 exact⟨hm h.f,h.ne,fa,hm h1,fun i=>⟨(h2 i).1,fun v hv=>((h2 i).2 v hv).keep hg.size fun q cs hn hq=>Blk.of_heap (hg.block q hq.lt (fun e=>hn (hr q e.symm).1)) hq⟩⟩
theorem setE(h:GV V w fb ab M g){q:Nat}{t:TypeId}{cs:Array Value}(hq:Blk w q t cs)(ht:t≠132)(i:Nat)(u:Value):GV V (w.setCell ⟨q,i,none⟩ u) fb ab M g:=by
 have hm: ∀{b n:Nat} {f:Int->Option Value},MapV w b n f->MapV (w.setCell ⟨q,i,none⟩ u) b n f:=fun {b n f} h=>h.heap (Below.heap_setCell _ _ _ _ (show b≠q by
  intro e
  obtain⟨es,cl,ho⟩:=h.obj
  unfold Blk at hq
  rw[<-e,ho]at hq;cases hq))
 obtain⟨fa,h1,h2⟩:=h.a
 exact⟨hm h.f,h.ne,fa,hm h1,fun i=>⟨(h2 i).1,fun v hv=>((h2 i).2 v hv).keep (by simp[World.setCell]) fun p cs' _ hp=>hp.far (p:=⟨q,_,none⟩) (Blk.ne_ hp hq (Ne.symm ht)) _⟩⟩
theorem file(hbd:Bd L w)(h:GV V w fb ab M g){num:Int}(hm:MapV w' fb (g.n+1) (fun j=>if j=num then some (.bool true)else Ih g j))(hg:w.grownBy w' (some fb)):GV V w' fb ab M ⟨num::g.fs,g.ds⟩:=by
 obtain⟨fa,h1,h2⟩:=h.a
 have kb:Kd L fb ab w w':=Kd.grownF hbd h.objF hg
 have e:Gt.n ⟨num::g.fs,g.ds⟩=g.n+1:=by unfold Gt.n;simp;omega
 have hc: ∀j,(if j=num then some (Value.bool true)else Ih g j)=Ih ⟨num::g.fs,g.ds⟩ j:=fun j=>by
  unfold Ih
  by_cases q:j=num
  ·subst q;simp
  ·simp[q]
 exact⟨by rw[e];exact hm.congr hc,h.ne,fa,by rw[e];exact(h1.kept hg fun q=>h.ne (Amg q).symm).mono (by omega),fun i=>⟨(h2 i).1,fun v hv=>((h2 i).2 v hv).kd kb h.objF h.objA⟩⟩
theorem dir(hbd:Bd L w)(h:GV V w fb ab M g){num:Int}{y:Value}(hm: ∀fa,MapV w ab g.n fa->MapV w' ab (g.n+1) (fun j=>if j=num then some y else fa j))(hy:DirV V w M num y)(hg:w.grownBy w' (some ab)):GV V w' fb ab M ⟨g.fs,num::g.ds⟩:=by
 obtain⟨fa,h1,h2⟩:=h.a
 have kb:Kd L fb ab w w':=Kd.grownA hbd h.objA hg
 have e:Gt.n ⟨g.fs,num::g.ds⟩=g.n+1:=by unfold Gt.n;simp;omega
 refine⟨by rw[e];exact(h.f.kept hg fun q=>h.ne (Amg q)).mono (by omega),h.ne,_,by rw[e];exact hm fa h1,fun i=>?_⟩
 by_cases q:i=num
 ·subst q
  simp only[if_pos rfl]
  refine⟨by simp,fun v hv=>?_⟩
  injection hv with hv
  exact hv▸hy.kd kb h.objF h.objA
 ·simp only[if_neg q]
  refine⟨by rw[(h2 i).1];simp[q],fun v hv=>((h2 i).2 v hv).kd kb h.objF h.objA⟩
theorem made{a:World}:GV (fun _=>False) ((a.alloc (.map #[] 0)).alloc (.map #[] 0)) a.heap.size (a.heap.size+1) M ⟨[],[]⟩:=
 ⟨((MapV.made a).alloc _).congr fun i=>by simp[Ih],by omega,fun _=>none,by
  have:=MapV.made (a.alloc (.map #[] 0))
  simpa[Gt.n]using this,fun i=>⟨by simp,fun v hv=>by cases hv⟩⟩
end GV
theorem Ab.grown{L:Nat->Prop}{w w':World}{s:Nat}{M:Mem}{q:Nat}(h:Ab L w s M)(hq:L q)(hg:w.grownBy w' (some q)):Ab L w' s M:=
 h.move (fun b hb=>Amk (h.bd b hb) hg.size) hg.size (fun _ hb _=>hb) fun b hlt hn=>hg.block b hlt fun e=>hn (Amg e▸hq)
end Go.Proofs.YtkebjgebkneijaaGreat
