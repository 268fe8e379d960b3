/- Texts of one's own that a claim's last text rests on: CkCmp CkSort CkCpt CkBod CkState NoP1 NoP2 Ml1 Ml2 Ml3 Ml4. -/
import Derived.Test.YtkebjgebkneijaaGreatMG9
import Derived.Test.YtkebjgebkneijaaGreatMShelf
import Derived.Shelf.SlSortCmp.NoneTotal
import Derived.Test.YtkebjgebkneijaaGreatMG2
import Derived.IntWalk
import Derived.Lib.Bytealg
import Derived.Laws.Externs
set_option linter.unusedVariables false
set_option linter.unusedSimpArgs false
namespace Go.Proofs.YtkebjgebkneijaaGreat
open Go.RowKit
set_option maxHeartbeats 16000000
set_option maxRecDepth 1000000
section
open Go.RowKit Go.Shelf Go.Lib Go.Sort
attribute [local go_sem↓] Go.wp_at_zero Go.wp_at_succ
theorem Pb: ∀x:List UInt8,Op.bytesLess x x=false
 | []=>rfl
 | a::x=>by
  unfold Op.bytesLess
  have h:decide (a<a)=false:=by simp
  rw[h,Pb x]
  simp
theorem Wy(a b:UInt8)(x y:List UInt8):Op.bytesLess (a::x) (b::y)=true↔a<b∨(a=b/\Op.bytesLess x y=true):=by
 conv=>lhs;unfold Op.bytesLess
 simp
theorem Aaq: ∀x y z:List UInt8,Op.bytesLess x y=true->Op.bytesLess y z=true->Op.bytesLess x z=true
 | [],[],_,h,_=>by cases h
 | [],_::_,[],_,h=>by cases h
 | [],_::_,_::_,_,_=>rfl
 | _::_,[],_,h,_=>by cases h
 | _::_,_::_,[],_,h=>by cases h
 | a::x,b::y,c::z,h1,h2=>by
  rw[Wy]at*
  rcases h1 with h1 | ⟨rfl,h1⟩
  ·rcases h2 with h2 | ⟨rfl,h2⟩
   ·exact .inl (UInt8.lt_trans h1 h2)
   ·exact .inl h1
  ·rcases h2 with h2 | ⟨rfl,h2⟩
   ·exact .inl h2
   ·exact .inr ⟨rfl,Aaq x y z h1 h2⟩
theorem Aia: ∀x y:List UInt8,Op.bytesLess x y=true∨x=y∨Op.bytesLess y x=true
 | [],[]=>.inr (.inl rfl)
 | [],_::_=>.inl rfl
 | _::_,[]=>.inr (.inr rfl)
 | a::x,b::y=>by
  rw[Wy,Wy]
  rcases Nat.lt_trichotomy a.toNat b.toNat with h | h | h
  ·exact .inl (.inl (UInt8.lt_iff_toNat_lt.2 h))
  ·have:a=b:=UInt8.toNat_inj.1 h
   subst this
   rcases Aia x y with h | rfl | h
   ·exact .inl (.inr ⟨rfl,h⟩)
   ·exact .inr (.inl rfl)
   ·exact .inr (.inr (.inr ⟨rfl,h⟩))
  ·exact .inr (.inr (.inl (UInt8.lt_iff_toNat_lt.2 h)))
def nlt(s t:ByteArray):Bool:=Op.bytesLess s.toList t.toList
theorem toList_inj{s t:ByteArray}(h:s.toList=t.toList):s=t:=by
 rw[ByteArray.toList_eq,ByteArray.toList_eq]at h
 exact ByteArray.ext (Array.ext' h)
theorem Ct(s:ByteArray):nlt s s=false:=Pb _
theorem Ep{s t u:ByteArray}(h1:nlt s t=true)(h2:nlt t u=true):nlt s u=true:=Aaq _ _ _ h1 h2
theorem Qh(s t:ByteArray):nlt s t=true∨s=t∨nlt t s=true:=by
 rcases Aia s.toList t.toList with h | h | h
 ·exact .inl h
 ·exact .inr (.inl (toList_inj h))
 ·exact .inr (.inr h)
def cmpS(s t:ByteArray):Int:=if nlt s t=true then -1 else if(s.toList==t.toList)=true then 0 else 1
theorem Mi(s:ByteArray)(w:World):
  Calls Tryz.prog 111 #[.string s] w fun e w'=>e= .returned (.bool false)/\w=w':=by
 go_enter Tryz.func111,Tryz.ntmps111
 go_wp2_with (fail)
 go_ret
 exact⟨rfl,rfl⟩
theorem Kv(s t:ByteArray)(w:World):
  Calls Tryz.prog 59 #[.string s,.string t] w fun e w'=>e= .returned (.int .i64 (cmpS s t))/\w=w':=by
 by_cases h:nlt s t=true
 ·have HF:=lhi (show cmpS s t= -1 by unfold cmpS;rw[if_pos h])
  have h':Op.bytesLess s.toList t.toList=true:=h
  go_enter Tryz.func59,Tryz.ntmps59
  go_wp2_with (go_at_call 111;refine(Mi _ _).mono ?_;rintro e w' ⟨rfl,rfl⟩)
  go_ret
  exact⟨by rw[HF.out];rfl,rfl⟩
 ·have h':Op.bytesLess s.toList t.toList=false:=Bool.eq_false_iff.2 h
  by_cases h2:(s.toList==t.toList)=true
  ·have HF:=lhi (show cmpS s t=0 by unfold cmpS;rw[if_neg h,if_pos h2])
   go_enter Tryz.func59,Tryz.ntmps59
   go_wp2_with (go_at_call 111;refine(Mi _ _).mono ?_;rintro e w' ⟨rfl,rfl⟩)
   go_ret
   exact⟨by rw[HF.out];rfl,rfl⟩
  ·have h2':=Bool.eq_false_iff.2 h2
   have HF:=lhi (show cmpS s t=1 by unfold cmpS;rw[if_neg h,if_neg h2])
   go_enter Tryz.func59,Tryz.ntmps59
   go_wp2_with (go_at_call 111;refine(Mi _ _).mono ?_;rintro e w' ⟨rfl,rfl⟩)
   go_ret
   exact⟨by rw[HF.out];rfl,rfl⟩
end
section
open Go.RowKit Go.Shelf Go.Lib Go.Sort
attribute [local go_sem↓] Go.wp_at_zero Go.wp_at_succ
instance:Inhabited Fnd:=⟨⟨0,0,nm0⟩⟩
end
section
attribute [local go_sem↓] Go.wp_at_zero Go.wp_at_succ
end
section
attribute [local go_sem↓] Go.wp_at_zero Go.wp_at_succ
end
section
open Go.RowKit Go.Shelf Go.Lib Go.Sort
theorem Hb{A:Type}(P:A->Prop)(l:List A)(d:A)(h: ∀x∈l,P x)(hd:P d)(i:Nat):P (l.getD i d):=by
 rw[List.getD]
 rcases hi:l[i]? with _ | x
 ·exact hd
 ·exact h x (List.mem_of_getElem? hi)
end
theorem Ys{F:List Int}{x y:Int}:y∈add1 F x↔y∈F∨y=x:=by
 unfold add1
 by_cases h:F.contains x=true
 ·rw[if_pos h]
  have h2:x∈F:=by simpa using h
  exact⟨Or.inl,fun q=>q.elim id fun e=>e▸h2⟩
 ·rw[if_neg h];simp
theorem Ml{y:Int}: ∀{es F:List Int},y∈Dv F es↔y∈F∨y∈es
 | [],F=>by simp[Dv]
 | e::es,F=>by
  have h:=Ml (y:=y) (es:=es) (F:=add1 F e)
  show y∈Dv (add1 F e) es↔_
  rw[h,Ys,List.mem_cons,or_assoc]
theorem Aie(F:List Int)(x:Int):F<+:add1 F x:=by
 unfold add1
 split
 ·exact List.prefix_rfl
 ·exact List.prefix_append _ _
theorem Tn: ∀(es F:List Int),F<+:Dv F es
 | [],_=>List.prefix_rfl
 | e::es,F=>(Aie F e).trans (Tn es (add1 F e))
theorem Qb{U:List Int}: ∀(es F:List Int),(∀x∈es,x∈U)->(Dv F es).length+out U (Dv F es)<=F.length+out U F
 | [],_,_=>Ama _
 | e::es,F,h=>by
  have h1:=Qb es (add1 F e) fun x hx=>h x (Amc _ hx)
  have h2:(add1 F e).length+out U (add1 F e)<=F.length+out U F:=by
   unfold add1
   by_cases hc:F.contains e=true
   ·rw[if_pos hc];exact Ama _
   ·rw[if_neg hc];exact Aay (h e (Amb ..)) (by simpa using hc)
  exact Aml h1 h2
theorem Nt{S:St}{x:Int}{i:Nat}(h:Fw S x=some i):i<S.inodes.length/\S.num i=x:=by
 unfold Fw at h
 have h1:=List.find?_some h
 have h2:=List.mem_of_find?_eq_some h
 exact⟨by simpa using h2,by simpa using h1⟩
theorem Aem{S:St}{x y:Int}(h:y∈kids S x):y∈univ S:=by
 unfold kids at h
 cases hf:Fw S x with
 | none=>rw[hf]at h;cases h
 | some i=>
  rw[hf]at h
  have hi:=(Nt hf).1
  simp only at h
  split at h
  ·unfold univ
   rw[List.mem_flatMap]
   exact⟨i,by simpa using hi,h⟩
  ·cases h
def Aii(S:St)(F:List Int)(p:Nat):Prop:=∀j x,j<p->F[j]? =some x-> ∀y∈kids S x,y∈F
theorem Ti(S:St): ∀(f:Nat) (F:List Int) (p:Nat),p<=F.length->F.length+out (univ S) F<p+f->Aii S F p->
  (∀x∈F,x∈bfs S f F p)/\ ∀x∈bfs S f F p,∀y∈kids S x,y∈bfs S f F p
 | 0,F,p,hp,hm,_=>absurd hm (by omega)
 | f+1,F,p,hp,hm,hc=>by
  unfold bfs
  cases hx:F[p]? with
  | none=>
   have hl:F.length<=p:=by simpa using hx
   show(∀x∈F,x∈F)/\ ∀x∈F,∀y∈kids S x,y∈F
   refine⟨fun x h=>h,fun x h y hy=>?_⟩
   obtain⟨j,hj,e⟩:=List.getElem_of_mem h
   exact hc j x (by omega) (by rw[Amh hj,e]) y hy
  | some x=>
   have hl:p<F.length:=by
    rcases Nat.lt_or_ge p F.length with q | q
    ·exact q
    ·rw[List.getElem?_eq_none q]at hx;cases hx
   have hpre:=Tn (kids S x) F
   have hlen:=hpre.length_le
   have hms:=Qb (U:=univ S) (kids S x) F fun y hy=>Aem hy
   have ih:=Ti S f (Dv F (kids S x)) (p+1) (by omega) (by omega) (fun j z hj hz y hy=>by
    have hjl:j<F.length:=by omega
    have hz2:F[j]? =some z:=by
     obtain⟨T,hT⟩:=hpre
     rw[<-hT,List.getElem?_append_left hjl]at hz
     exact hz
    rw[Ml]
    by_cases e:j=p
    ·subst e
     rw[hx]at hz2
     obtain rfl:=Amg hz2
     exact .inr hy
    ·exact .inl (hc j z (by omega) hz2 y hy))
   exact⟨fun y hy=>ih.1 y (Ml.2 (.inl hy)),ih.2⟩
theorem Wg(S:St):(1:Int)∈Jx S/\ ∀x∈Jx S,∀y∈kids S x,y∈Jx S:=by
 have h:=Ti S ((univ S).length+2) [1] 0 (by simp) (by
  have:out (univ S) [1]<= (univ S).length:=List.length_filter_le _ _
  simp only[List.length_singleton]
  omega) (fun j x hj=>absurd hj (by omega))
 exact⟨h.1 1 (by simp),h.2⟩
def Edge(S:St)(d y:Int):Prop:=∃x∈S.inodes,x.num=d/\x.dir=true/\ ∃e∈x.ents,e.2=y
inductive Fm (S:St):Int->Prop where
 | root:Fm S 1
 | step {d y:Int}:Fm S d->Edge S d y->Fm S y
def Aw(x:Ino):List Int:=if x.dir then x.ents.map (·.2)else []
def Bp(S:St):List Int:=S.inodes.flatMap Aw
def Vj(made:List Int)(x:Int):Prop:=2<=x/\ (x - 2) % 8<made.length/\ (x - 2) / 8<made.getD ((x - 2) % 8).toNat 0
structure Inv (S:St):Prop where
 m1:1<=S.made.length
 m8:S.made.length<=8
 mb: ∀m∈S.made,0<=m/\m<=32
 root: ∃x,S.inodes[0]? =some x/\x.num=1/\x.dir=true
 rise:S.inodes.Pairwise (fun x y=>x.num<y.num)
 given: ∀x∈S.inodes,x.num≠1->Vj S.made x.num
 isDir: ∀x∈S.inodes,x.dir=true->x.data.size=0
 isFile: ∀x∈S.inodes,x.dir=false->x.ents=[]
 dat: ∀x∈S.inodes,x.data.size<=256
 nam: ∀x∈S.inodes,∀e∈x.ents,Bu e.1=0
 goal: ∀x∈S.inodes,∀e∈x.ents,e.2≠1/\ ∃y∈S.inodes,y.num=e.2
 up: ∀x∈S.inodes,x.ents.Pairwise (fun a b=>nlt a.1 b.1=true)
 slots: ∀x∈S.inodes,∀q,(x.ents.filter fun e=>Aa e.1==q).length<=4
 one: ∀x∈S.inodes,x.dir=true->x.num≠1->(Bp S).count x.num=1
 reach: ∀x∈S.inodes,x.dir=true->Fm S x.num
 file: ∀x∈S.inodes,x.dir=false->x.num∈Bp S∨ ∃o∈S.opens,o.2.2=x.num
 ok: ∀o∈S.opens,0<=o.1/\o.1<S.made.length/\0<=o.2.1/\o.2.1<4/\ ∃y∈S.inodes,y.num=o.2.2/\y.dir=false
 osort:S.opens.Pairwise (fun a b=>a.1<b.1∨a.1=b.1/\a.2.1<b.2.1)
theorem Bm{A:Type}{l:List A}{i:Nat}{d:A}(h:i<l.length):l.getD i d∈l:=by
 rw[Ame,Amh h]
 exact List.getElem_mem h
theorem An{A:Type}{l:List A}{i:Nat}{d:A}(h:i<l.length):l.getD i d=l[i]:=by
 rw[Ame,Amh h];rfl
namespace Inv
variable{S:St}
theorem pos(h:Inv S):0<S.inodes.length:=by
 obtain⟨x,hx,_⟩:=h.root
 rcases Nat.lt_or_ge 0 S.inodes.length with q | q
 ·exact q
 ·rw[List.getElem?_eq_none q]at hx;cases hx
theorem ino_mem{i:Nat}(hi:i<S.inodes.length):S.ino i∈S.inodes:=Bm hi
theorem num_lt(h:Inv S){i j:Nat}(hj:j<S.inodes.length)(hij:i<j):S.num i<S.num j:=by
 have h1:=List.pairwise_iff_getElem.1 h.rise i j (by omega) hj hij
 unfold St.num St.ino
 rw[An (by omega:i<_),An hj]
 exact h1
theorem num0(h:Inv S):S.num 0=1/\S.dir 0=true:=by
 obtain⟨x,hx,h1,h2⟩:=h.root
 unfold St.num St.dir St.ino
 rw[Ame,hx]
 exact⟨h1,h2⟩
theorem num_inj(h:Inv S){i j:Nat}(hi:i<S.inodes.length)(hj:j<S.inodes.length)(e:S.num i=S.num j):i=j:=by
 rcases Nat.lt_trichotomy i j with q | q | q
 ·have:=h.num_lt hj q;omega
 ·exact q
 ·have:=h.num_lt hi q;omega
theorem ino_inj(h:Inv S){x y:Ino}(hx:x∈S.inodes)(hy:y∈S.inodes)(e:x.num=y.num):x=y:=by
 obtain⟨i,hi,rfl⟩:=List.getElem_of_mem hx
 obtain⟨j,hj,rfl⟩:=List.getElem_of_mem hy
 have:i=j:=h.num_inj hi hj (by unfold St.num St.ino;rw[An hi,An hj];exact e)
 subst this;rfl
theorem firstIx_at(h:Inv S){i:Nat}(hi:i<S.inodes.length):Fw S (S.num i)=some i:=by
 cases hf:Fw S (S.num i)with
 | none=>
  unfold Fw at hf
  rw[List.find?_eq_none]at hf
  exact absurd (hf i (by simpa using hi)) (by simp)
 | some j=>
  have hj:=Nt hf
  rw[h.num_inj hj.1 hi hj.2]
theorem firstIx_mem(h:Inv S){y:Ino}(hy:y∈S.inodes): ∃i,i<S.inodes.length/\S.ino i=y/\Fw S y.num=some i:=by
 obtain⟨i,hi,e⟩:=List.getElem_of_mem hy
 have h1:S.ino i=y:=by unfold St.ino;rw[An hi,e]
 exact⟨i,hi,h1,by have:=h.firstIx_at hi;unfold St.num at this;rwa [h1]at this⟩
theorem num_bound(h:Inv S){x:Ino}(hx:x∈S.inodes):1<=x.num/\x.num<=257:=by
 by_cases e:x.num=1
 ·omega
 ·obtain⟨h1,h2,h3⟩:=h.given x hx e
  have h4:S.made.getD ((x.num - 2) % 8).toNat 0<=32:=(h.mb _ (Bm (by omega))).2
  have h8:=h.m8
  omega
end Inv
theorem Yb: ∀{l:List Ino} {a b:Int},l.Pairwise (fun x y=>x.num<y.num)->(∀x∈l,a<=x.num/\x.num<=b)->a<=b+1->(l.length:Int)<=b+1 - a
 | [],a,b,_,_,hab=>by simp;omega
 | x::l,a,b,hp,hb,hab=>by
  obtain⟨h1,h2⟩:=List.pairwise_cons.1 hp
  have hx:=hb x (Amb ..)
  have ih:=Yb (a:=x.num+1) (b:=b) h2 (fun y hy=>⟨by have:=h1 y hy;omega,(hb y (Amc _ hy)).2⟩) (by omega)
  simp only[List.length_cons]
  omega
theorem Tg{A:Type}(f:A->Nat)(c:Nat): ∀(n:Nat) (l:List A),(∀x∈l,f x<n)->(∀q,(l.filter fun x=>f x==q).length<=c)->l.length<=n*c
 | 0,l,h,_=>by
  cases l with
  | nil=>simp
  | cons x l=>exact absurd (h x (Amb ..)) (by omega)
 | n+1,l,h,hq=>by
  have h1:=Tg f c n (l.filter fun x=>!(f x==n)) (fun x hx=>by
   rw[List.mem_filter]at hx
   have h2:=h x hx.1
   have h3:f x≠n:=by simpa using hx.2
   omega) (fun q=>by
   refine Aml ?_ (hq q)
   rw[List.filter_filter,show(fun a=>(f a==q)&&!(f a==n))=fun a=>!(f a==n)&& (f a==q)from funext fun a=>Bool.and_comm _ _,<-List.filter_filter]
   exact List.length_filter_le _ _)
  have h2:=hq n
  have h3: ∀l:List A,l.length=(l.filter fun x=>f x==n).length+ (l.filter fun x=>!(f x==n)).length:=by
   intro l
   induction l with
   | nil=>rfl
   | cons x l ih=>
    rw[List.filter_cons,List.filter_cons]
    cases f x==n <;> simp <;> omega
  have h3:=h3 l
  rw[Nat.succ_mul]
  omega
theorem Yg: ∀{l:List (Int×Int×Int)} {a:Int},l.Pairwise (fun x y=>x.1<y.1∨x.1=y.1/\x.2.1<y.2.1)->(∀o∈l,0<=o.2.1/\o.2.1<4/\a<=o.1*4+o.2.1/\o.1<8)->a<=32->(l.length:Int)<=32 - a
 | [],a,_,_,ha=>by simp;omega
 | x::l,a,hp,hb,ha=>by
  obtain⟨h1,h2⟩:=List.pairwise_cons.1 hp
  have hx:=hb x (Amb ..)
  have ih:=Yg (l:=l) (a:=x.1*4+x.2.1+1) h2 (fun o ho=>by
   have h3:=h1 o ho
   have h4:=hb o (Amc _ ho)
   refine⟨h4.1,h4.2.1,?_,h4.2.2.2⟩
   rcases h3 with q | ⟨q,q2⟩ <;> omega) (by omega)
  simp only[List.length_cons]
  omega
namespace Inv
variable{S:St}
theorem ni(h:Inv S):S.inodes.length<=257:=by
 have:=Yb (a:=1) (b:=257) h.rise (fun x hx=>h.num_bound hx) (by omega)
 omega
theorem no(h:Inv S):S.opens.length<=32:=by
 have:=Yg (a:=0) (l:=S.opens) h.osort (fun o ho=>by
  have h1:=h.ok o ho
  have h2:=h.m8
  refine⟨h1.2.2.1,h1.2.2.2.1,by omega,by omega⟩) (by omega)
 omega
theorem en(h:Inv S){x:Ino}(hx:x∈S.inodes):x.ents.length<=32:=
 Tg (fun e:ByteArray×Int=>Aa e.1) 4 8 x.ents (fun _ _=>Cz _) (h.slots x hx)
theorem small(h:Inv S):S.small:=by
 have h1:=h.ni
 have h2:=h.no
 have h3:=h.m8
 refine⟨by omega,by omega,by omega,fun i=>?_,fun i=>?_,fun i k=>?_,fun i=>?_⟩
 ·exact Hb (fun x:Ino=>x.ents.length<=1000) S.inodes Ds (fun x hx=>by have:=h.en hx;omega) (by decide) i
 ·exact Hb (fun x:Ino=> -1000000<=x.num/\x.num<=1000000) S.inodes Ds (fun x hx=>by have:=h.num_bound hx;omega) (by decide) i
 ·exact Hb (fun x:Ino=> -1000000<= (x.ents.getD k (ByteArray.empty,0)).2/\ (x.ents.getD k (ByteArray.empty,0)).2<=1000000) S.inodes Ds (fun x hx=>Hb (fun e:ByteArray×Int=> -1000000<=e.2/\e.2<=1000000) x.ents _ (fun e he=>by
   obtain⟨-,y,hy,e2⟩:=h.goal x hx e he
   have:=h.num_bound hy
   omega) (by decide) k) (Hb (fun e:ByteArray×Int=> -1000000<=e.2/\e.2<=1000000) [] _ (fun e he=>absurd he (by simp)) (by decide) k) i
 ·exact Hb (fun m:Int=> -1000000<=m/\m<=1000000) S.made 0 (fun m hm=>by have:=h.mb m hm;omega) (by decide) i
end Inv
def cmpN(a b:Int):Int:=if a<b then -1 else if b<a then 1 else 0
theorem Ps(a b:Int)(d:Bool)(A:Option Addr)(n cap:Nat)(s:ByteArray)(w:World):
  Calls Tryz.prog 146 #[.agg #[.int .i64 a,.bool d,.slice A n cap,.string s],.int .i64 b] w fun e w'=>e= .returned (.int .i64 (cmpN a b))/\Below w.heap.size w w':=by
 have hb:=Below.heap_alloc w (.cells #[.int .i64 a,.bool d,.slice A n cap,.string s] 93)
 have hB:=(Amf w.heap.size w).alloc (Ama _) (.cells #[.int .i64 a,.bool d,.slice A n cap,.string s] 93)
 unfold cmpN
 by_cases h1:a<b
 ·rw[if_pos h1]
  go_enter Tryz.func146,Tryz.ntmps146
  go_wp2
  go_ret
  exact⟨rfl,hB⟩
 ·rw[if_neg h1]
  by_cases h2:b<a
  ·rw[if_pos h2]
   go_enter Tryz.func146,Tryz.ntmps146
   go_wp2
   go_ret
   exact⟨rfl,hB⟩
  ·rw[if_neg h2]
   go_enter Tryz.func146,Tryz.ntmps146
   go_wp2
   go_ret
   exact⟨rfl,hB⟩
theorem Afe{w:World}{iv ov mv:Value}{ev:Nat->Value}{S:St}(hS:StM w iv ov mv ev S)(hn:S.inodes.length<=1000)(x:Int)(hlt: ∀i j,i<j->j<S.inodes.length->S.num i<S.num j):
  Calls Tryz.prog 120 #[iv,.int .i64 x,.func (.func 146) #[] #[]] w fun e w'=>(∃k:Nat,k<=S.inodes.length/\ (∀i,i<k->S.num i<x)/\ (∀i,k<=i->i<S.inodes.length->x<=S.num i)/\e= .returned (.tuple #[.int .i64 k,.bool (decide (k<S.inodes.length)&& (S.num k==x))]))/\Below w.heap.size w w':=by
 have HS:=lhi hS
 have HI:=lhi hS.ino
 obtain⟨A,cap,rfl,hcap,-⟩:=hS.ino
 obtain⟨n,hnn⟩:=xx S.inodes.length
 rw[hnn]at hn hlt HI
 rw[hnn]
 have HNN:=lhi hnn
 have HLT:=lhi hlt
 clear hS hnn hlt hcap
 go_enter Tryz.func120,Tryz.ntmps120
 go_wp2_with (fail)
 go_loopw [9,10] (fun i j wr=>∃a b:Nat,i= .int .i64 a/\j= .int .i64 b/\a<=b/\b<=n/\ (∀i,i<a->S.num i<x)/\ (∀i,b<=i->i<n->x<=S.num i)/\Below w.heap.size w wr) (fun i j _=>(intOf j).toNat - (intOf i).toNat)
 case atStart=>exact⟨0,n,rfl,rfl,by omega,Ama _,fun i hi=>absurd hi (by omega),fun i h1 h2=>absurd h1 (by omega),Amf _ _⟩
 case round=>
  obtain⟨a,b,rfl,rfl,hab,hbn,hlo,hhi,hB⟩:=hrel
  have HLO:=lhi hlo
  have HHI:=lhi hhi
  have HB:=lhi hB
  clear hlo hhi hB
  by_cases hp:a<b
  ·have hp1:(a:Int)<b:=by omega
   obtain⟨h,hh⟩: ∃h:Nat,((a:Int)+b) / 2=h:=⟨(a+b) / 2,by omega⟩
   have hha:a<=h/\h<b:=by omega
   have hhn:h<n:=by omega
   have hl1:decide ((h:Int)<n)=true:=by simp;omega
   obtain⟨-,-,g,off,rfl,hcell⟩:=(HI.out.keep HB.out).at_ hhn
   have q0:wr.cell? ⟨g,off+h*4,none⟩=some (.int .i64 (S.num h)):=hcell 0 (by omega)
   have q1:wr.cell? ⟨g,off+h*4+1,none⟩=some (.bool (S.dir h)):=hcell 1 (by omega)
   have q2:wr.cell? ⟨g,off+h*4+2,none⟩=some (ev h):=hcell 2 (by omega)
   have q3:wr.cell? ⟨g,off+h*4+3,none⟩=some (.string (S.dat h)):=hcell 3 (by omega)
   obtain⟨EA,ecap,hev,-⟩:=HS.out.ent h (by rw[HNN.out];exact hhn)
   rw[hev]at q2
   have HC:=lhi (Ps (S.num h) x (S.dir h) EA (S.ne h) ecap (S.dat h) wr)
   have e1:decide (cmpN (S.num h) x<0)=decide (S.num h<x):=by
    unfold cmpN
    split
    ·simp[*]
    ·split <;> simp[*]
   obtain⟨cv,hcv⟩: ∃c,cmpN (S.num h) x=c:=⟨_,rfl⟩
   rw[hcv]at HC e1
   clear hcell hev hcv
   by_cases hx:S.num h<x
   ·have e2:cv<0:=by simpa[hx]using e1
    clear e1
    go_wp2_with (go_at_call 146;refine HC.out.mono ?_;rintro e w1 ⟨rfl,hb1⟩)
    go_roundw
    case rel=>exact⟨h+1,b,by simp,rfl,by omega,hbn,fun i hi=>by
     by_cases e:i=h
     ·subst e;exact hx
     ·have:=HLT.out i h (by omega) hhn;omega,HHI.out,HB.out.trans (hb1.mono HB.out.size)⟩
    case measure=>
     simp only[intOf]
     omega
   ·have e2: ¬ cv<0:=by simpa[hx]using e1
    clear e1
    go_wp2_with (go_at_call 146;refine HC.out.mono ?_;rintro e w1 ⟨rfl,hb1⟩)
    go_roundw
    case rel=>exact⟨a,h,rfl,rfl,by omega,by omega,HLO.out,fun i h1 h2=>by
     by_cases e:i=h
     ·subst e;omega
     ·have:=HLT.out h i (by omega) h2;omega,HB.out.trans (hb1.mono HB.out.size)⟩
    case measure=>
     simp only[intOf]
     omega
  ·have e:a=b:=by omega
   subst e
   by_cases hq:a<n
   ·have hq1:(a:Int)<n:=by omega
    obtain⟨-,-,g,off,rfl,hcell⟩:=(HI.out.keep HB.out).at_ hq
    have q0:wr.cell? ⟨g,off+a*4,none⟩=some (.int .i64 (S.num a)):=hcell 0 (by omega)
    have q1:wr.cell? ⟨g,off+a*4+1,none⟩=some (.bool (S.dir a)):=hcell 1 (by omega)
    have q2:wr.cell? ⟨g,off+a*4+2,none⟩=some (ev a):=hcell 2 (by omega)
    have q3:wr.cell? ⟨g,off+a*4+3,none⟩=some (.string (S.dat a)):=hcell 3 (by omega)
    obtain⟨EA,ecap,hev,-⟩:=HS.out.ent a (by rw[HNN.out];exact hq)
    rw[hev]at q2
    have HC:=lhi (Ps (S.num a) x (S.dir a) EA (S.ne a) ecap (S.dat a) wr)
    have HE:=lhi (show(cmpN (S.num a) x==0)=(S.num a==x)by
     unfold cmpN
     by_cases h1:S.num a<x
     ·have:S.num a≠x:=by omega
      simp[h1,this]
     ·by_cases h2:x<S.num a
      ·have:S.num a≠x:=by omega
       simp[h1,h2,this]
      ·have:S.num a=x:=by omega
       simp[this])
    obtain⟨cv,hcv⟩: ∃c,cmpN (S.num a) x=c:=⟨_,rfl⟩
    rw[hcv]at HC HE
    clear hcell hev hcv
    go_wp2_with (go_at_call 146;refine HC.out.mono ?_;rintro e w1 ⟨rfl,hb1⟩)
    go_ret2
    exact⟨⟨a,by omega,HLO.out,HHI.out,by simp[hq,<-HE.out]⟩,HB.out.trans (hb1.mono HB.out.size)⟩
   ·have hq1: ¬ (a:Int)<n:=by omega
    go_wp2_with (fail)
    go_ret2
    exact⟨⟨a,by omega,HLO.out,HHI.out,by simp[hq]⟩,HB.out⟩
def Bh(S:St)(x:Int):Int:=match(List.range S.inodes.length).find? (fun i=>S.num i==x)with
 | some k=>k
 | none=> -1
theorem Gw{S:St}{x:Int}{k:Nat}(hk:k<S.inodes.length)(h:S.num k=x)(hlt: ∀i,i<k->S.num i≠x):Bh S x=k:=by
 have:(List.range S.inodes.length).find? (fun i=>S.num i==x)=some k:=by
  rw[List.find?_eq_some_iff_getElem]
  refine⟨by simpa using h,k,by simpa using hk,by simp,fun j hj=>?_⟩
  simpa using hlt j hj
 unfold Bh
 rw[this]
theorem Ad6{S:St}{x:Int}(h: ∀i,i<S.inodes.length->S.num i≠x):Bh S x= -1:=by
 have:(List.range S.inodes.length).find? (fun i=>S.num i==x)=none:=by
  rw[List.find?_eq_none]
  intro i hi
  simpa using h i (by simpa using hi)
 unfold Bh
 rw[this]
theorem Ia{w:World}{sp:Nat}{iv ov mv:Value}{ev:Nat->Value}{S:St}(hS:StM w iv ov mv ev S)(hn:S.inodes.length<=1000)(x:Int)(hlt: ∀i j,i<j->j<S.inodes.length->S.num i<S.num j)(h0:w.cell? ⟨sp,0,none⟩=some iv):
  Calls Tryz.prog 94 #[.pointer (some ⟨sp,0,none⟩),.int .i64 x] w fun e w'=>e= .returned (.int .i64 (Bh S x))/\Below w.heap.size w w':=by
 have HC:=lhi (Afe hS hn x hlt)
 have HP1:=lhi (fun(k:Nat) h1 h2 h3=>Gw (S:=S) (x:=x) (k:=k) h1 h2 h3)
 have HP2:=lhi (fun h=>Ad6 (S:=S) (x:=x) h)
 obtain⟨A,cap,rfl,-⟩:=hS.ino
 have HLT:=lhi hlt
 clear hS hlt
 go_enter Tryz.func94,Tryz.ntmps94
 go_wp2_with (go_at_call 120;refine HC.out.mono ?_;rintro e w1 ⟨⟨k,hk,h1,h2,rfl⟩,hb1⟩;obtain⟨b,hb⟩:=xx ((decide (k<S.inodes.length)&& (S.num k==x)));rw[hb])
 ·rename_i hnb
  obtain rfl:b=false:=by simpa using hnb
  go_ret
  refine⟨?_,hb1⟩
  show Ending.returned (.int .i64 (-1))=_
  rw[HP2.out fun i hi e=>?_]
  by_cases hik:i<k
  ·have:=h1 i hik;omega
  ·have hkn:k<S.inodes.length:=by omega
   have h3:=h2 k (Ama _) hkn
   have h4:S.num k=x:=by
    by_cases e2:k=i
    ·rw[e2];exact e
    ·have:=HLT.out k i (by omega) hi;omega
   simp[hkn,h4]at hb
 ·rename_i hnb
  obtain rfl:b=true:=by simpa using hnb
  go_wp2_with (fail)
  go_ret
  simp only[Bool.and_eq_true,decide_eq_true_eq,beq_iff_eq]at hb
  refine⟨?_,hb1⟩
  show Ending.returned (.int .i64 (k:Int))=_
  rw[HP1.out k hb.1 hb.2 fun i hi e=>by have:=h1 i hi;omega]
def scmp(a b:ByteArray):Int:=Lib.compareBytes a.data.toList b.data.toList
theorem Alf(a b:ByteArray)(w:World):(callFunc 236 #[.string a,.string b]).run Tryz.prog w= .ok (.value (.int .i64 (scmp a b))) w:=by
 rw[run_callFunc_extern Tryz.func236 (by kernel_rfl) (by kernel_rfl) (by kernel_rfl) (e:=Extern.BytealgCompare.compare) (by kernel_rfl),Lib.run_compareString]
 rfl
theorem Acg(a b:ByteArray)(w:World):Calls Tryz.prog 185 #[.string a,.string b] w fun e w'=>e= .returned (.int .i64 (scmp a b))/\w'=w:=by
 have h:=Alf a b
 go_enter Tryz.func185,Tryz.ntmps185
 go_wp2
 go_ret
 exact⟨rfl,rfl⟩
theorem Aa8(a b:ByteArray)(w:World):Calls Tryz.prog 145 #[.string a,.string b] w fun e w'=>e= .returned (.int .i64 (scmp a b))/\w'=w:=by
 go_enter Tryz.func145,Tryz.ntmps145
 go_wp2_with (go_at_call 185;refine(Acg _ _ _).mono ?_;rintro e w' ⟨rfl,rfl⟩)
 go_ret
 exact⟨rfl,rfl⟩
theorem Nw(a b:ByteArray)(n:Int)(w:World):Calls Tryz.prog 144 #[.agg #[.string a,.int .i64 n],.string b] w fun e w'=>e= .returned (.int .i64 (scmp a b))/\Below w.heap.size w w':=by
 have hB:=(Amf w.heap.size w).alloc (Ama _) (.cells #[.string a,.int .i64 n] 132)
 have HB:=lhi hB
 clear hB
 go_enter Tryz.func144,Tryz.ntmps144
 go_wp2_with (go_at_call 145;refine(Aa8 _ _ _).mono ?_;rintro e w' ⟨rfl,h⟩;have h:=h.symm;subst h)
 go_ret
 exact⟨rfl,HB.out⟩
theorem Akg: ∀(x y:List UInt8),Lib.compareBytes x y<0↔Op.bytesLess x y=true
 | [],[]=>by simp[Lib.compareBytes,Op.bytesLess]
 | [],_::_=>by simp[Lib.compareBytes,Op.bytesLess]
 | _::_,[]=>by simp[Lib.compareBytes,Op.bytesLess]
 | a::x,b::y=>by
  unfold Lib.compareBytes Op.bytesLess
  by_cases h1:a<b
  ·simp[h1]
  ·by_cases h2:b<a
   ·have h3:a≠b:=fun e=>by subst e;exact h1 h2
    simp[h1,h2,h3]
   ·have h3:a=b:=by
     apply UInt8.toNat.inj
     rw[UInt8.lt_iff_toNat_lt]at h1 h2
     omega
    subst h3
    simp[h1,Akg x y]
theorem Adj: ∀(x y:List UInt8),Lib.compareBytes x y=0↔x=y
 | [],[]=>by simp[Lib.compareBytes]
 | [],_::_=>by simp[Lib.compareBytes]
 | _::_,[]=>by simp[Lib.compareBytes]
 | a::x,b::y=>by
  unfold Lib.compareBytes
  by_cases h1:a<b
  ·have h3:a≠b:=fun e=>by subst e;rw[UInt8.lt_iff_toNat_lt]at h1;omega
   simp[h1,h3]
  ·by_cases h2:b<a
   ·have h3:a≠b:=fun e=>by subst e;exact h1 h2
    simp[h1,h2,h3]
   ·have h3:a=b:=by
     apply UInt8.toNat.inj
     rw[UInt8.lt_iff_toNat_lt]at h1 h2
     omega
    subst h3
    simp[h1,Adj x y]
theorem Aiu(a b:ByteArray):scmp a b<0↔nlt a b=true:=by
 unfold scmp nlt
 rw[Akg,ByteArray.toList_eq,ByteArray.toList_eq]
theorem Adz(a b:ByteArray):scmp a b=0↔a=b:=by
 unfold scmp
 rw[Adj]
 constructor
 ·intro h
  exact ByteArray.ext (Array.toList_inj.1 h)
 ·rintro rfl;rfl
def entL(l:List (ByteArray×Int)):Nat->Nat->Value:=fun k j=>match j with
 | 0=>.string (l.getD k (ByteArray.empty,0)).1
 | _=>.int .i64 (l.getD k (ByteArray.empty,0)).2
def enmL(l:List (ByteArray×Int))(k:Nat):ByteArray:=(l.getD k (ByteArray.empty,0)).1
def enuL(l:List (ByteArray×Int))(k:Nat):Int:=(l.getD k (ByteArray.empty,0)).2
def Ky(l:List (ByteArray×Int)):Prop:=∀i j,i<j->j<l.length->nlt (enmL l i) (enmL l j)=true
theorem Aff{w:World}{iv:Value}{l:List (ByteArray×Int)}(hS:Ak w iv l.length 2 (entL l))(hn:l.length<=1000)(x:ByteArray)(hlt:Ky l):
  Calls Tryz.prog 143 #[iv,.string x,.func (.func 144) #[] #[]] w fun e w'=>(∃k:Nat,k<=l.length/\ (∀i,i<k->nlt (enmL l i) x=true)/\ (∀i,k<=i->i<l.length->nlt (enmL l i) x=false)/\e= .returned (.tuple #[.int .i64 k,.bool (decide (k<l.length)&&decide (enmL l k=x))]))/\Below w.heap.size w w':=by
 unfold Ky at hlt
 have HI:=lhi hS
 obtain⟨A,cap,rfl,hcap,-⟩:=hS
 obtain⟨n,hnn⟩:=xx l.length
 rw[hnn]at hn hlt HI
 rw[hnn]
 have HNN:=lhi hnn
 have HLT:=lhi hlt
 clear hnn hlt hcap
 go_enter Tryz.func143,Tryz.ntmps143
 go_wp2_with (fail)
 go_loopw [9,10] (fun i j wr=>∃a b:Nat,i= .int .i64 a/\j= .int .i64 b/\a<=b/\b<=n/\ (∀i,i<a->nlt (enmL l i) x=true)/\ (∀i,b<=i->i<n->nlt (enmL l i) x=false)/\Below w.heap.size w wr) (fun i j _=>(intOf j).toNat - (intOf i).toNat)
 case atStart=>exact⟨0,n,rfl,rfl,by omega,Ama _,fun i hi=>absurd hi (by omega),fun i h1 h2=>absurd h1 (by omega),Amf _ _⟩
 case round=>
  obtain⟨a,b,rfl,rfl,hab,hbn,hlo,hhi,hB⟩:=hrel
  have HLO:=lhi hlo
  have HHI:=lhi hhi
  have HB:=lhi hB
  clear hlo hhi hB
  by_cases hp:a<b
  ·have hp1:(a:Int)<b:=by omega
   obtain⟨h,hh⟩: ∃h:Nat,((a:Int)+b) / 2=h:=⟨(a+b) / 2,by omega⟩
   have hha:a<=h/\h<b:=by omega
   have hhn:h<n:=by omega
   have hl1:decide ((h:Int)<n)=true:=by simp;omega
   obtain⟨-,-,g,off,rfl,hcell⟩:=(HI.out.keep HB.out).at_ hhn
   have q0:wr.cell? ⟨g,off+h*2,none⟩=some (.string (enmL l h)):=hcell 0 (by omega)
   have q1:wr.cell? ⟨g,off+h*2+1,none⟩=some (.int .i64 (enuL l h)):=hcell 1 (by omega)
   have HC:=lhi (Nw (enmL l h) x (enuL l h) wr)
   have e1:scmp (enmL l h) x<0↔nlt (enmL l h) x=true:=Aiu _ _
   obtain⟨cv,hcv⟩: ∃c,scmp (enmL l h) x=c:=⟨_,rfl⟩
   rw[hcv]at HC e1
   clear hcell hcv
   by_cases hx:nlt (enmL l h) x=true
   ·have e2:cv<0:=e1.2 hx
    clear e1
    go_wp2_with (go_at_call 144;refine HC.out.mono ?_;rintro e w1 ⟨rfl,hb1⟩)
    go_roundw
    case rel=>exact⟨h+1,b,by simp,rfl,by omega,hbn,fun i hi=>by
     by_cases e:i=h
     ·subst e;exact hx
     ·exact Ep (HLT.out i h (by omega) hhn) hx,HHI.out,HB.out.trans (hb1.mono HB.out.size)⟩
    case measure=>
     simp only[intOf]
     omega
   ·have e2: ¬ cv<0:=fun h=>hx (e1.1 h)
    clear e1
    go_wp2_with (go_at_call 144;refine HC.out.mono ?_;rintro e w1 ⟨rfl,hb1⟩)
    go_roundw
    case rel=>exact⟨a,h,rfl,rfl,by omega,by omega,HLO.out,fun i h1 h2=>by
     by_cases e:i=h
     ·subst e;simpa using hx
     ·cases h3:nlt (enmL l i) x
      ·rfl
      ·exact absurd (Ep (HLT.out h i (by omega) h2) h3) hx,HB.out.trans (hb1.mono HB.out.size)⟩
    case measure=>
     simp only[intOf]
     omega
  ·have e:a=b:=by omega
   subst e
   by_cases hq:a<n
   ·have hq1:(a:Int)<n:=by omega
    obtain⟨-,-,g,off,rfl,hcell⟩:=(HI.out.keep HB.out).at_ hq
    have q0:wr.cell? ⟨g,off+a*2,none⟩=some (.string (enmL l a)):=hcell 0 (by omega)
    have q1:wr.cell? ⟨g,off+a*2+1,none⟩=some (.int .i64 (enuL l a)):=hcell 1 (by omega)
    have HC:=lhi (Nw (enmL l a) x (enuL l a) wr)
    have HE:=lhi (show(scmp (enmL l a) x==0)=decide (enmL l a=x)by
     rw[Bool.eq_iff_iff,beq_iff_eq,decide_eq_true_eq];exact Adz _ _)
    obtain⟨cv,hcv⟩: ∃c,scmp (enmL l a) x=c:=⟨_,rfl⟩
    rw[hcv]at HC HE
    clear hcell hcv
    go_wp2_with (go_at_call 144;refine HC.out.mono ?_;rintro e w1 ⟨rfl,hb1⟩)
    go_ret2
    exact⟨⟨a,by omega,HLO.out,HHI.out,by simp[hq,<-HE.out]⟩,HB.out.trans (hb1.mono HB.out.size)⟩
   ·have hq1: ¬ (a:Int)<n:=by omega
    go_wp2_with (fail)
    go_ret2
    exact⟨⟨a,by omega,HLO.out,HHI.out,by simp[hq]⟩,HB.out⟩
theorem Ku{w:World}{iv:Value}{l:List (ByteArray×Int)}(hS:Ak w iv l.length 2 (entL l))(hn:l.length<=1000)(x:ByteArray)(hlt:Ky l):
  Calls Tryz.prog 93 #[iv,.string x] w fun e w'=>(∃k:Nat,k<=l.length/\ (∀i,i<k->nlt (enmL l i) x=true)/\ (∀i,k<=i->i<l.length->nlt (enmL l i) x=false)/\e= .returned (.tuple #[.int .i64 k,.bool (decide (k<l.length)&&decide (enmL l k=x))]))/\Below w.heap.size w w':=by
 have HC:=lhi (Aff hS hn x hlt)
 clear hS hlt
 go_enter Tryz.func93,Tryz.ntmps93
 go_wp2_with (go_at_call 143;refine HC.out.mono ?_;rintro e w1 ⟨⟨k,hk,h1,h2,rfl⟩,hb1⟩)
 go_ret2
 exact⟨⟨k,hk,h1,h2,rfl⟩,hb1⟩
end Go.Proofs.YtkebjgebkneijaaGreat
