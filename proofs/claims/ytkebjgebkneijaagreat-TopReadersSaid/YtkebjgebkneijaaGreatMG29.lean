/- Texts of one's own that a claim's last text rests on: NoP14 NoQ2 NoQ3 NoQ4 Dr9 Dy3. -/
import Derived.Test.YtkebjgebkneijaaGreatMG28
import Derived.Test.YtkebjgebkneijaaGreatMG26
import Derived.Test.YtkebjgebkneijaaGreatMG27
import Derived.Test.YtkebjgebkneijaaGreatMG25
import Derived.Test.YtkebjgebkneijaaGreatMG6
set_option linter.unusedVariables false
set_option linter.unusedSimpArgs false
namespace Go.Proofs.YtkebjgebkneijaaGreat
open Go.RowKit
set_option maxHeartbeats 16000000
set_option maxRecDepth 1000000
inductive Ez (S:St):List Int->Prop where
 | root:Ez S [1]
 | step {y d:Int} {l:List Int}:Ez S (d::l)->Edge S d y->y∉d::l->Ez S (y::d::l)
theorem Ez.suffix{S:St}: ∀{l1 l2:List Int},Ez S (l1++l2)->l2≠[]->Ez S l2
 | [],l2,h,_=>h
 | a::l1,l2,h,h2=>by
  cases l1 with
  | nil=>
   cases h with
   | root=>exact absurd rfl h2
   | step h1 _ _=>exact h1
  | cons b l1=>
   have h:Ez S (a::(b::(l1++l2))):=h
   cases h with
   | step h1 _ _=>exact Ez.suffix (l1:=b::l1) h1 h2
theorem Ez.nodup{S:St}{l:List Int}(h:Ez S l):l.Nodup:=by
 induction h with
 | root=>simp
 | step h1 _ h3 ih=>exact List.nodup_cons.2 ⟨h3,ih⟩
theorem Tc{S:St}{x:Int}(h:Fm S x): ∃l,Ez S (x::l):=by
 induction h with
 | root=>exact⟨[],.root⟩
 | @step d y _ he ih=>
  obtain⟨l,hl⟩:=ih
  by_cases q:y∈d::l
  ·obtain⟨a,b,e⟩:=List.append_of_mem q
   rw[e]at hl
   exact⟨b,hl.suffix (by simp)⟩
  ·exact⟨d::l,hl.step he q⟩
theorem Acu{f:Ino->Nat}: ∀{l:List Ino} {x y:Ino},x∈l->y∈l->x≠y->f x+f y<= (l.map f).sum
 | [],_,_,h,_,_=>by cases h
 | a::l,x,y,hx,hy,hn=>by
  have one: ∀{z:Ino},z∈l->f z<= (l.map f).sum:=fun {z} hz=>by
   obtain⟨a,b,e⟩:=List.append_of_mem hz
   rw[e,List.map_append,List.sum_append,List.map_cons,List.sum_cons]
   omega
  simp only[List.map_cons,List.sum_cons]
  rcases List.mem_cons.1 hx with q1 | q1
  ·rcases List.mem_cons.1 hy with q2 | q2
   ·exact absurd (q1.trans q2.symm) hn
   ·have:=one q2;rw[q1];omega
  ·rcases List.mem_cons.1 hy with q2 | q2
   ·have:=one q1;rw[q2];omega
   ·have:=Acu (f:=f) q1 q2 hn;omega
theorem Inv.parent{S:St}(h:Inv S){d1 d2:Int}{y:Ino}(hy:y∈S.inodes)(hd:y.dir=true)(hr:y.num≠1)(h1:Edge S d1 y.num)(h2:Edge S d2 y.num):d1=d2:=by
 obtain⟨x1,m1,e1,k1,q1,n1,l1⟩:=h1
 obtain⟨x2,m2,e2,k2,q2,n2,l2⟩:=h2
 by_cases q:x1=x2
 ·subst q;omega
 ·have hc:=h.one y hy hd hr
  rw[Gg]at hc
  have hs:=Acu (f:=fun x=>(Aw x).count y.num) m1 m2 q
  have p1:0< (Aw x1).count y.num:=by
   refine List.count_pos_iff.2 ?_
   unfold Aw;rw[if_pos k1,<-l1];exact List.mem_map.2 ⟨_,n1,rfl⟩
  have p2:0< (Aw x2).count y.num:=by
   refine List.count_pos_iff.2 ?_
   unfold Aw;rw[if_pos k2,<-l2];exact List.mem_map.2 ⟨_,n2,rfl⟩
  have hs:(Aw x1).count y.num+ (Aw x2).count y.num<=_:=hs
  omega
theorem Ez.link{S:St}: ∀{l1 l2:List Int} {y d:Int},Ez S (l1++y::d::l2)->Edge S d y
 | [],l2,y,d,h=>by
  cases h with
  | step _ he _=>exact he
 | a::l1,l2,y,d,h=>by
  have h2:Ez S (y::d::l2):=Ez.suffix (l1:=a::l1) h (by simp)
  cases h2 with
  | step _ he _=>exact he
theorem Ez.last{S:St}: ∀{l:List Int} {y:Int},Ez S (l++[y])->y=1
 | [],y,h=>by cases h;rfl
 | a::l,y,h=>by
  have h2:Ez S [y]:=Ez.suffix (l1:=a::l) h (by simp)
  cases h2;rfl
theorem Inv.chain_new{S:St}(h:Inv S){d:Int}{l:List Int}(hc:Ez S (d::l)){y:Ino}(hy:y∈S.inodes)(hd:y.dir=true)(he:Edge S d y.num):y.num∉d::l:=by
 intro hm
 obtain⟨a,b,e⟩:=List.append_of_mem hm
 have hne1:y.num≠1:=by
  obtain⟨x,hx,e1,e2,q,hq,hq2⟩:=he
  rw[<-hq2]
  exact(h.goal x hx q hq).1
 cases b with
 | nil=>
  rw[e]at hc
  exact hne1 hc.last
 | cons p b=>
  have hpe:Edge S p y.num:=by rw[e]at hc;exact hc.link
  have:p=d:=h.parent hy hd hne1 hpe he
  subst this
  have hnd:=hc.nodup
  rw[e]at hnd
  cases a with
  | nil=>
   have e:p::l=y.num::p::b:=e
   injection e with e1 e2
   rw[e1]at hnd
   simp at hnd
  | cons a0 a=>
   have e:p::l=a0::(a++y.num::p::b):=e
   injection e with e1 e2
   subst e1
   have:=(List.nodup_cons.1 hnd).1
   simp at this
theorem From.head{S:St}{n t:Int}(h:From S n t):t=n∨ ∃y,Edge S n y/\From S y t:=by
 induction h with
 | refl=>exact .inl rfl
 | @step d y _ he ih=>
  rcases ih with rfl | ⟨z,h1,h2⟩
  ·exact .inr ⟨_,he,.refl⟩
  ·exact .inr ⟨z,h1,h2.step he⟩
theorem Aa6{S:St}(hI:Inv S){k:Nat}(hk:k<S.inodes.length)(L:List (ByteArray×Int)):setE S (S.num k) L=S.setI k {S.ino k with ents:=L}:=by
 show St.mk (setE S (S.num k) L).inodes S.opens S.made=St.mk _ _ _
 rw[Xx hI hk]
theorem Aek{S S':St}(hI:Inv S){c:Ad}{r r':ResV}(h:Ul S c r= .ok (S',r')):Inv S'/\S'.made.length=S.made.length:=by
 unfold Ul at h
 split at h
 ·cases h
 ·rename_i a ha
  split at h
  ·cases h
  ·rename_i hd
   split at h
   ·cases h
   ·rename_i p nm hp
    split at h
    ·cases h
    ·rename_i hE
     split at h
     ·cases h
     ·rename_i hf
      obtain⟨hpl,hpd⟩:=Cy hI hp
      have hal:=Tm hI ha
      injection h with h
      injection h with h1 h2
      subst h1
      rw[<-Aa6 hI hpl]
      have hm:=Inv.ino_mem hpl
      exact⟨hI.link (p:=(nm,S.num a)) hm rfl hpd (Ko hp) (Hd hE) (Mn (by simpa using hf) (hI.nam _ hm)) ⟨_,Inv.ino_mem hal,rfl,by simpa[St.dir]using hd⟩,rfl⟩
theorem Mp{es:List (ByteArray×Int)}{s:ByteArray}{j:Nat}(hu:es.Pairwise (fun a b=>nlt a.1 b.1=true))(hE:entF es s=some j):es.eraseIdx j=Et (es.getD j (ByteArray.empty,0)).1 es:=by
 have hj:=Dp hE
 refine Fk es j hj (by rw[An hj];simp) fun i hi hne=>?_
 have hij:=List.pairwise_iff_getElem.1 hu
 rw[An hj]
 have:es[i].1≠es[j].1:=fun e=>by
  rcases Nat.lt_or_ge i j with h | h
  ·have:=hij i j hi hj h
   rw[e,Ct]at this
   cases this
  ·have:=hij j i hj hi (by omega)
   rw[e,Ct]at this
   cases this
 simpa using this
theorem Aad{S:St}(hI:Inv S){p j:Nat}{s:ByteArray}(hp:p<S.inodes.length)(hd:S.dir p=true)(hE:entF (S.ino p).ents s=some j){q:Nat}(hq:q<S.inodes.length)(hn:S.num q=enuL (S.ino p).ents j)(h0:(S.ino q).ents=[]):InvB (cutE S p j) (S.num q):=by
 have hm:=Inv.ino_mem hp
 have h:=hI.drop (p:=(S.ino p).ents.getD j (ByteArray.empty,0)) hm rfl hd (Bm (Dp hE)) (Inv.ino_mem hq) hn h0
 rw[<-Mp (hI.up _ hm) hE]at h
 have e:cutE S p j=setE S (S.num p) ((S.ino p).ents.eraseIdx j):=(Aa6 hI hp _).symm
 rw[e,hn]
 exact h
theorem Yd{S S':St}(hI:Inv S){c:Ad}{r r':ResV}(h:Lf S c r= .ok (S',r')):Inv S'/\S'.made.length=S.made.length:=by
 unfold Lf at h
 split at h
 ·cases h
 ·rename_i p nm hp
  split at h
  ·cases h
  ·rename_i j hE
   obtain⟨hpl,hpd⟩:=Cy hI hp
   obtain⟨q,hq,hqp,hqn⟩:=Fq hI hpl (Dp hE)
   rw[hqp,Int.toNat_natCast]at h
   have hinj: ∀i k,i< (cutE S p j).inodes.length->k< (cutE S p j).inodes.length->(cutE S p j).num i=(cutE S p j).num k->i=k:=fun i k hi hk e=>by
    rw[Gf]at hi hk
    rw[Ed hpl,Ed hpl]at e
    exact hI.num_inj hi hk e
   have hq1:q< (cutE S p j).inodes.length:=by rw[Gf];exact hq
   split at h
   ·split at h
    ·cases h
    ·rename_i hd
     have hd:S.dir q=false:=by simpa using hd
     injection h with h
     injection h with h1 h2
     subst h1
     have hb:=Aad hI hpl hpd hE hq hqn (hI.isFile _ (Inv.ino_mem hq) hd)
     rw[Rb hinj hq1 (by rw[Ny hpl];exact hd),Ed hpl]
     exact⟨hb.sweep,by unfold Jk;split <;> rfl⟩
   ·split at h
    ·cases h
    ·rename_i hd
     have hd:S.dir q=true:=by simpa using hd
     split at h
     ·cases h
     ·rename_i h0
      injection h with h
      injection h with h1 h2
      subst h1
      have hqne:p≠q:=fun e=>by
       subst e
       have hm:=Inv.ino_mem hpl
       obtain⟨l,hc⟩:=Tc (hI.reach _ hm hpd)
       have he:Edge S (S.num p) (S.num p):=⟨_,hm,rfl,hpd,_,Bm (Dp hE),hqn.symm⟩
       exact hI.chain_new hc hm hpd he Amb
      have h0':(S.ino q).ents=[]:=by
       have e:(cutE S p j).ino q=S.ino q:=by unfold cutE;rw[Ga hpl,if_neg hqne]
       rw[e]at h0
       exact List.length_eq_zero_iff.1 (by omega)
      have hb:=Aad hI hpl hpd hE hq hqn h0'
      have hnd:=hb.nd ((cutE S p j).ino q) (Inv.ino_mem hq1) (Ed hpl q) (by have:=Ny (j:=j) hpl q;rw[hd]at this;exact this)
      have hs:=hb.sweep
      have e:Jk (cutE S p j) (S.num q)={cutE S p j with inodes:=(cutE S p j).inodes.eraseIdx q}:=by
       unfold Jk
       rw[if_neg fun x=>by
        rcases x with x | ⟨o,ho,e⟩
        ·exact hnd.1 x
        ·exact hnd.2 o ho e]
       have:=Fk (p:=fun x:Ino=>!(x.num==S.num q)) (cutE S p j).inodes q hq1 (by rw[<-Fu hq1];have:=Ed (j:=j) hpl q;unfold St.num at this⊢;rw[this];simp) (fun i hi hne=>by
        rw[<-Fu hi]
        have: ¬ ((cutE S p j).ino i).num=S.num q:=fun e=>hne (hinj i q hi hq1 (by rw[Ed hpl q];exact e))
        simpa using this)
       rw[this]
      rw[e]at hs
      exact⟨hs,rfl⟩
theorem Qu{S:St}{s:ByteArray}: ∀(l:List ByteArray) (a:Nat),(Ao S (l++[s]) a).2=0->(Ao S l a).2=0/\Ao S (l++[s]) a=Ao S [s] (Ao S l a).1.toNat
 | [],_,_=>⟨rfl,rfl⟩
 | x::l,a,h=>by
  have h:(Ao S (x::(l++[s])) a).2=0:=h
  show _/\Ao S (x::(l++[s])) a=_
  by_cases hd:S.dir a=true
  ·cases e:entF (S.ino a).ents x with
   | some k=>
    have e1: ∀l',Ao S (x::l') a=Ao S l' (Bh S (S.enu a k)).toNat:=fun l'=>by rw[Ao,if_pos hd,e]
    rw[e1]at h⊢
    rw[e1]
    exact Qu l _ h
   | none=>rw[Ao,if_pos hd,e]at h;exact absurd h (by simp)
  ·rw[Ao,if_neg hd]at h;exact absurd h (by simp)
theorem Mz{S:St}(hI:Inv S){x:Int}: ∀(n:Nat) (l:List ByteArray),l.length=n->(Ao S l 0).2=0->S.dir (Ao S l 0).1.toNat=true->(∀m,m<=n->S.num (Ao S (l.take m) 0).1.toNat≠x)-> ¬ From S x (S.num (Ao S l 0).1.toNat)
 | 0,l,hl,_,_,hx,hF=>by
  obtain rfl:=List.length_eq_zero_iff.1 hl
  have h1:S.num 0=1:=by
   obtain⟨y,hy,h1,-⟩:=hI.root
   show(S.inodes.getD 0 _).num=1
   rw[Ame,hy];exact h1
  have hx:=hx 0 (Ama _)
  have hx:S.num 0≠x:=hx
  have hF:From S x (S.num 0):=hF
  rw[h1]at hx hF
  cases hF with
  | refl=>exact hx rfl
  | step _ he=>
   obtain⟨z,hz,-,-,e,he,h2⟩:=he
   exact(hI.goal z hz e he).1 h2
 | n+1,l,hl,h0,hd,hx,hF=>by
  rcases List.eq_nil_or_concat l with rfl | ⟨l',s,rfl⟩
  ·cases hl
  ·rw[List.concat_eq_append]at*
   have hln:l'.length=n:=by simpa using hl
   obtain⟨h1,h2⟩:=Qu l' 0 h0
   obtain⟨p,hp,hpe⟩:=Fy hI.ord l' 0 hI.pos h1
   have hxn:=hx (n+1) (Ama _)
   rw[show n+1=(l'++[s]).length from hl.symm,List.take_length]at hxn
   have hxl: ∀m,m<=n->S.num (Ao S (l'.take m) 0).1.toNat≠x:=fun m hm=>by
    have:=hx m (by omega)
    rwa [List.take_append_of_le_length (by omega)]at this
   rw[h2,hpe,Int.toNat_natCast]at h0 hd hF hxn
   by_cases hpd:S.dir p=true
   ·cases e:entF (S.ino p).ents s with
    | none=>rw[Ao,if_pos hpd,e]at h0;exact absurd h0 (by simp)
    | some k=>
     obtain⟨g,hg,hgp,hgn⟩:=Fq hI hp (Dp e)
     have e1:(Ao S [s] p).1.toNat=g:=by
      rw[Ao,if_pos hpd,e]
      show(Bh S (enuL (S.ino p).ents k)).toNat=g
      rw[hgp];rfl
     rw[e1]at hd hF hxn
     have hE:Edge S (S.num p) (S.num g):=⟨_,Inv.ino_mem hp,rfl,hpd,_,Bm (Dp e),hgn.symm⟩
     have hg1:S.num g≠1:=by rw[hgn];exact(hI.goal _ (Inv.ino_mem hp) _ (Bm (Dp e))).1
     have ih:=Mz hI n l' hln h1 (by rw[hpe,Int.toNat_natCast];exact hpd) hxl
     rw[hpe,Int.toNat_natCast]at ih
     generalize hy:S.num g=y at hF hxn
     cases hF with
     | refl=>exact hxn rfl
     | @step d _ hf he=>
      have:d=S.num p:=hI.parent (y:=S.ino g) (Inv.ino_mem hg) hd hg1 (by show Edge S d (S.num g);rw[hy];exact he) hE
      rw[this]at hf
      exact ih hf
   ·rw[Ao,if_neg hpd]at h0;exact absurd h0 (by simp)
theorem Yc{S S':St}(hI:Inv S){c:Ad}{r r':ResV}(h:Le S c r= .ok (S',r')):Inv S'/\S'.made.length=S.made.length:=by
 unfold Le at h
 split at h
 ·cases h
 ·rename_i p s hp
  split at h
  ·cases h
  ·rename_i j hE
   split at h
   ·cases h
   ·rename_i q t hq
    split at h
    ·cases h
    ·rename_i hth
     split at h
     ·cases h
     ·rename_i hE2
      by_cases hf:Gn (S.ino q).ents t (if S.num p=S.num q then s else⟨#[]⟩)=true
      ·rw[if_pos hf]at h;cases h
      ·rw[if_neg hf]at h
       injection h with h
       injection h with h1 h2
       subst h1
       obtain⟨hpl,hpd⟩:=Cy hI hp
       obtain⟨hql,hqd⟩:=Cy hI hq
       obtain⟨g,hgl,hgp,hgn⟩:=Fq hI hpl (Dp hE)
       have hm:=Inv.ino_mem hpl
       have hen:((S.ino p).ents.getD j (ByteArray.empty,0)).1=s:=(Ajo hE).2
       have hC:cutE S p j=setE S (S.num p) (Et ((S.ino p).ents.getD j (ByteArray.empty,0)).1 (S.ino p).ents):=by
        rw[<-Mp (hI.up _ hm) hE]
        exact(Aa6 hI hpl _).symm
       have hq1:q< (cutE S p j).inodes.length:=by rw[Gf];exact hql
       have hx1:=Inv.ino_mem hq1
       have hsub:((cutE S p j).ino q).ents.Sublist (S.ino q).ents:=by
        unfold cutE
        rw[Ga hpl]
        split
        ·rename_i e;subst e;exact List.eraseIdx_sublist ..
        ·exact List.Sublist.refl _
       have hsl:(((cutE S p j).ino q).ents.filter fun e=>Aa e.1==Aa t).length<4:=by
        have hf:Gn (S.ino q).ents t (if S.num p=S.num q then s else⟨#[]⟩)=false:=by simpa using hf
        by_cases e:p=q
        ·subst e
         rw[if_pos rfl]at hf
         unfold Gn cntF at hf
         rw[List.take_length]at hf
         have hf:=of_decide_eq_false hf
         have e2:((cutE S p j).ino p).ents=Et s (S.ino p).ents:=by
          unfold cutE
          rw[Ga hpl,if_pos rfl,<-hen]
          exact Mp (hI.up _ hm) hE
         rw[e2]
         unfold Et
         rw[List.filter_filter]
         have e3:((S.ino p).ents.filter fun e=>Aa e.1==Aa t&&!decide (e.1=s))=(S.ino p).ents.filter fun e=>!decide (e.1=s)&& (Aa e.1==Aa t):=List.filter_congr fun e _=>by rw[Bool.and_comm]
         rw[e3]
         omega
        ·rw[if_neg fun x=>e (hI.num_inj hpl hql x)]at hf
         exact Nat.lt_of_le_of_lt (hsub.filter _).length_le (Mn hf (hI.nam _ (Inv.ino_mem hql)))
       have hno: ¬ From S ((S.ino p).ents.getD j (ByteArray.empty,0)).2 (S.num q):=by
        have hgn:S.num g=((S.ino p).ents.getD j (ByteArray.empty,0)).2:=hgn
        rw[<-hgn]
        rw[hgp,Int.toNat_natCast]at hth
        intro hF
        cases hd:S.dir g with
        | false=>
         have:=hI.from_file (y:=S.ino g) (Inv.ino_mem hgl) hd hF
         have:=hI.num_inj hql hgl this
         subst this
         rw[hd]at hqd;cases hqd
        | true=>
         rw[hd,Bool.true_and,<-show S.num g=enuL (S.ino p).ents j from hgn]at hth
         unfold Acq at hth
         unfold Bo at hq
         split at hq
         ·cases hq
         ·rename_i ns hns
          rw[hns]at hth
          split at hq
          ·cases hq
          ·rename_i nm hlast
           have hne:ns≠[]:=fun e=>by rw[e]at hlast;cases hlast
           have hnl:0<ns.length:=List.length_pos_iff.2 hne
           split at hq
           ·rename_i h0
            split at hq
            ·rename_i hd0
             injection hq with hq
             injection hq with hq _
             rw[<-hq]at hF
             refine Mz hI ns.dropLast.length _ rfl h0 hd0 (fun m hm e=>hth ?_) hF
             unfold Fz
             rw[List.any_eq_true]
             rw[List.length_dropLast]at hm
             refine⟨m,List.mem_range.2 (by omega),?_⟩
             rw[List.dropLast_eq_take,List.take_take,Nat.min_eq_left hm]at e
             rw[e];simp
            ·cases hq
           ·cases hq
       have hr:=hI.rename (d:=S.num p) (p:=(S.ino p).ents.getD j (ByteArray.empty,0)) (x1:=(cutE S p j).ino q) (t:=S.num q) hm rfl hpd (Bm (Dp hE)) (by rw[<-hC];exact hx1) (Ed hpl q) ((Ny (j:=j) hpl q).trans hqd) (Ko hq) (fun e he=>Hd hE2 e (hsub.subset he)) hsl hno
       have hz:=Xy (S:=cutE S p j) (fun i k hi hk e=>by
        rw[Gf]at hi hk
        rw[Ed hpl,Ed hpl]at e
        exact hI.num_inj hi hk e) hq1 (insE (t,((S.ino p).ents.getD j (ByteArray.empty,0)).2) ((cutE S p j).ino q).ents)
       rw[Ed hpl]at hz
       rw[<-hC]at hr
       have e:setE (cutE S p j) (S.num q) (insE (t,((S.ino p).ents.getD j (ByteArray.empty,0)).2) ((cutE S p j).ino q).ents)=(cutE S p j).setI q {(cutE S p j).ino q with ents:=insE (t,enuL (S.ino p).ents j) ((cutE S p j).ino q).ents}:=by
        show St.mk (setE (cutE S p j) (S.num q) _).inodes _ _=St.mk _ _ _
        rw[hz];rfl
       rw[e]at hr
       exact⟨hr,rfl⟩
section
variable{W:World}{base ob db:Nat}{c:Ad}{r:ResV}{iv ov mv:Value}{Iv:List InV}{S:St}
theorem Doer.mrow(h:Doer W base ob db c r iv ov mv Iv S)(hn:0<S.made.length): ∃g cap,mv= .slice (some ⟨g,0,none⟩) S.made.length cap/\base<=g/\ ∀j,j<S.made.length->W.cell? ⟨g,j,none⟩=some (.int .i64 (S.mad j)):=by
 have hm:=h.st.mad
 rcases hm.2 with⟨-,q⟩ | ⟨g,cap,cur,rfl,hb,-⟩
 ·omega
 ·refine⟨g,cap,rfl,hb,fun j hj=>?_⟩
  rw[Yi hm (by omega)]
  have h2:=Hr (k:=1) (enc:=encM) (by decide) Jf S.made j
  rw[Nat.div_one,Nat.mod_one]at h2
  rw[h2,Amh hj]
  show some (Value.int .i64 S.made[j])=some (Value.int .i64 (S.made.getD j 0))
  rw[Fv hj]
theorem Doer.mcell{mg mcap n:Nat}(h:Doer W base ob db c r iv ov (.slice (some ⟨mg,0,none⟩) n mcap) Iv S)(hn:n=S.made.length){j:Nat}(hj:j<S.made.length):W.cell? ⟨mg,j,none⟩=some (.int .i64 (S.mad j))/\W.frozen? ⟨mg,j,none⟩=false/\base<=mg:=by
 obtain⟨g,cap,e,hb,hc⟩:=h.mrow (by omega)
 injection e with e1 e2 e3
 injection e1 with e1
 injection e1 with e1
 subst e1
 obtain⟨-,cs,hB⟩:=Ag h.st.mad rfl
 exact⟨hc j hj,Blk.frozen hB _,hb⟩
theorem Doer.putM{mg mcap n:Nat}(h:Doer W base ob db c r iv ov (.slice (some ⟨mg,0,none⟩) n mcap) Iv S)(hn:n=S.made.length){j:Nat}(hj:j<S.made.length)(v:Int):Doer (W.setCell ⟨mg,j,none⟩ (.int .i64 v)) base ob db c r iv ov (.slice (some ⟨mg,0,none⟩) n mcap) Iv {S with made:=S.made.set j v}:=by
 obtain⟨-,cs,hB⟩:=Ag h.st.mad rfl
 exact⟨h.ob_,h.db_,h.o.far (p:=⟨mg,j,none⟩) (Blk.ne_ h.o hB (by decide)) _,h.d.far (p:=⟨mg,j,none⟩) (Blk.ne_ h.d hB (by decide)) _,h.st.putM hn hj v⟩
theorem Af8(S:St)(k:Nat)(L:List (ByteArray×Int))(i:Nat):(S.setI k {S.ino k with ents:=L}).num i=S.num i:=by
 unfold St.num St.ino St.setI
 simp only[Ame,List.getElem?_set]
 by_cases e:k=i
 ·subst e
  by_cases h:k<S.inodes.length
  ·rw[if_pos rfl,if_pos h]
   simp[St.ino,Amh h]
  ·rw[if_pos rfl,if_neg h]
   simp[List.getElem?_eq_none (show S.inodes.length<=k by omega)]
 ·rw[if_neg e]
theorem Ae9(h:Doer W base ob db c r iv ov mv Iv S)(hI:Inv S)(hp:c.path.size<=4611686018427387904){cn:Nat}(hc:c.core=cn)(hcn:cn<S.made.length){k:Nat}{nm:ByteArray}(hs:Bo S c.path= .ok (k,nm))(hE:entF (S.ino k).ents nm=none):
  Calls Tryz.prog 77 #[.pointer (some ⟨db,0,none⟩)] W fun e w'=>Gr base ob db c W e w' (if(Gn (S.ino k).ents nm ⟨#[]⟩||decide (32<=S.mad cn))=true then .error 5 else
   .ok (Pm S cn (S.num k) (insE (nm,2+ (cn:Int)+8*S.mad cn) (S.ino k).ents) ⟨2+ (cn:Int)+8*S.mad cn,c.kind==1,[],nm0⟩,r)):=by
 obtain⟨g,icap,ics,rfl,-,-,-⟩:=h.row hI.pos
 obtain⟨mg,mcap,rfl,hmb,hmc⟩:=h.mrow (by omega)
 have HPR:=lhi (Dy h hI hp)
 rw[hs]at HPR
 obtain⟨hk,hdir⟩:=Cy hI hs
 have hl:=h.st.len'
 have hkI:k<Iv.length:=by omega
 have hino:=h.st.at_ hkI
 have hek:=h.st.ent k hkI
 have c2:=h.st.cell hl.symm hkI (show 2<4 by omega)
 have HBS:=lhi h.bs
 have H:=lhi h
 have d6:W.cell? ⟨db,6,none⟩=some (.string c.path):=h.d.cell 6
 obtain⟨q,hq⟩:=xx (Iv[k])
 rw[hq]at hino hek c2
 obtain⟨p1,ev⟩:=q
 replace hino:p1=S.ino k:=hino
 subst hino
 obtain⟨es,hes⟩:=xx ((S.ino k).ents)
 replace hek:W.ownsRow base 132 2 ev es.length (es.flatMap Ai):=by rw[<-hes];exact hek
 have hen:=(hI.ord).ents k hk
 have HNE:=lhi (Hd hE)
 rw[hes]at hE hen HNE⊢
 have HEN:=lhi (fun(V:World) (hb:Below W.heap.size W V)=>Je (Cc (by decide) Bn (Bc hek hb) (Ee _)).at' hen.1 nm hen.2 hE)
 have HEK:=lhi hek
 have HEO:=lhi hen
 have HES:=lhi hes
 have HI:=lhi hI
 have hm:=hmc cn hcn
 obtain⟨m,hmm⟩:=xx (S.mad cn)
 have HMM:=lhi hmm
 have hcc:(cn:Int)<S.made.length:=by omega
 rw[hmm]at hm⊢
 obtain⟨EA,ecap,rfl,-⟩:=Aj hek
 replace c2:W.cell? ⟨g,k*4+2,none⟩=some (.slice EA es.length ecap):=c2
 have HFU:=lhi (fun(V:World) (hb:Below W.heap.size W V)=>Mo (W:=V) (g:=g) (o:=k*4) ((hb.cell (Amd _ _ c2)).trans c2) (Cc (by decide) Bn (Bc hek hb) (Ee _)).at' hen.1 nm ⟨#[]⟩)
 obtain⟨RES,hres⟩: ∃R:Except Int (St×ResV),(if(Gn es nm ⟨#[]⟩||decide (32<=m))=true then .error 5 else .ok (Pm S cn (S.num k) (insE (nm,2+ (cn:Int)+8*m) es) ⟨2+ (cn:Int)+8*m,c.kind==1,[],nm0⟩,r))=R:=⟨_,rfl⟩
 have HRES:=lhi hres
 rw[hres]
 have hbs:=h.bs
 clear h hI hp hs hek hes hq hen hE hkI hl hmm hmc hres
 go_enter Tryz.func77,Tryz.ntmps77
 go_upto_region 2 with(first
  | (go_at_call 115;refine HPR.out.mono ?_;rintro e w1 ⟨he,hb1⟩;have he:e= .returned (.tuple #[.pointer (some ⟨g,k*4,none⟩),.string nm]):=he;subst he;have HB1:=lhi hb1;have y2:w1.cell? ⟨g,k*4+2,none⟩=some (.slice EA es.length ecap):=(hb1.cell (Amd _ _ c2)).trans c2;clear hb1 HPR)
  | (go_at_call 93;refine(HEN.out _ HB1.out).mono ?_;rintro e w2 ⟨⟨j,rfl⟩,hb2⟩;have HB2:=lhi (HB1.out.trans (hb2.mono HB1.out.size));clear hb2 y2))
 go_upto_region 3 with(go_at_call 116;refine(Ar _ _).mono ?_;rintro e w' ⟨rfl,rfl⟩)
 have H2:=lhi (H.out.below HB2.out)
 have d0:w2.cell? ⟨db,0,none⟩=some (.pointer (some ⟨ob,0,none⟩)):=H2.out.d.cell 0
 have d2:w2.cell? ⟨db,2,none⟩=some (.int .i64 cn):=by rw[H2.out.d.cell 2,<-hc];rfl
 have o2:w2.cell? ⟨ob,2,none⟩=some (.slice (some ⟨mg,0,none⟩) S.made.length mcap):=H2.out.o.cell 2
 have m0:w2.cell? ⟨mg,cn,none⟩=some (.int .i64 m):=(HB2.out.cell (Amd _ _ hm)).trans hm
 go_region
 have HB3:=lhi (HB2.out.trans ((Ae w2).mono HB2.out.size))
 have H3:=lhi H2.out.drew
 obtain⟨w3,hw3⟩:=yy w2.drew
 rw[<-hw3]at HB3 H3⊢
 have hmr:0<=m/\m<=32:=by
  have:=HI.out.mb _ (Bm (d:=0) hcn)
  rw[show S.made.getD cn 0=m from HMM.out]at this
  exact this
 clear hw3 d0 d2 o2 m0 H2 HB2 HB1
 cases hF:Gn es nm ⟨#[]⟩with
 | true=>
  obtain rfl:RES= .error 5:=by rw[<-HRES.out,hF];rfl
  rw[hF]at HFU
  go_wp2_with (first
   | (go_at_call 117;refine(HFU.out _ HB3.out).mono ?_;rintro e w4 ⟨rfl,hb4⟩)
   | (go_at_call 116;refine(Al _ _).mono ?_;rintro e w' ⟨rfl,rfl⟩))
  exact⟨rfl,rfl,(HB3.out.mono hbs).trans (hb4.mono (Aml hbs HB3.out.size))⟩
 | false=>
  rw[hF]at HFU
  by_cases h32:32<=m
  ·obtain rfl:RES= .error 5:=by rw[<-HRES.out,hF,decide_eq_true h32];rfl
   go_wp2_with (first
    | (go_at_call 117;refine(HFU.out _ HB3.out).mono ?_;rintro e w4 ⟨rfl,hb4⟩)
    | (go_at_call 116;refine(Al _ _).mono ?_;rintro e w' ⟨rfl,rfl⟩))
   exact⟨rfl,rfl,(HB3.out.mono hbs).trans (hb4.mono (Aml hbs HB3.out.size))⟩
  ·obtain⟨num,hnum⟩: ∃x,x=2+ (cn:Int)+8*m:=⟨_,rfl⟩
   obtain⟨SR,hSR⟩: ∃R,R=Pm S cn (S.num k) (insE (nm,num) es) ⟨num,c.kind==1,[],nm0⟩:=⟨_,rfl⟩
   obtain rfl:RES= .ok (SR,r):=by rw[<-HRES.out,hF,decide_eq_false h32,hSR,hnum];rfl
   have HSR:=lhi hSR
   have h8:=HI.out.m8
   have HNU:=lhi (Agp (cn:Int) m ⟨by omega,by omega⟩ ⟨by omega,by omega⟩)
   rw[<-hnum]at HNU
   have HNM:=lhi (show 0<=num/\num<=1000000 by omega)
   have hd32:decide ((32:Int)<=m)=false:=decide_eq_false h32
   have HNV:=lhi hnum
   clear HRES hSR hnum
   go_upto_region 5 with(first
    | (go_at_call 117;refine(HFU.out _ HB3.out).mono ?_;rintro e w4 ⟨rfl,hb4⟩;have HB4:=lhi (HB3.out.trans (hb4.mono HB3.out.size));have H4:=lhi (H3.out.below hb4);clear hb4)
    | (go_at_call 116;refine(Ar _ _).mono ?_;rintro e w' ⟨rfl,rfl⟩))
   have d2:w4.cell? ⟨db,2,none⟩=some (.int .i64 cn):=by rw[H4.out.d.cell 2,<-hc];rfl
   have HPU:=lhi (Oo (num:=num) H4.out hk (s:=nm) (by rw[HES.out];exact HEO.out.2) (by rw[HES.out];exact HEO.out.1) (by rw[HES.out];exact HNE.out))
   rw[HES.out]at HPU
   go_upto_region 7 with(first
    | (go_at_call 118;refine(HNU.out _).mono ?_;rintro e w' ⟨rfl,rfl⟩)
    | (go_at_call 119;refine HPU.out.mono ?_;rintro e w5 ⟨rfl,hb5,Iv5,hd5⟩;have HB5:=lhi hb5;have H5:=lhi hd5;clear hb5 hd5))
   obtain⟨m0,f0,hmg⟩:=H5.out.mcell rfl hcn
   rw[show(S.setI k {S.ino k with ents:=insE (nm,num) es}).mad cn=m from HMM.out]at m0
   have d0:w5.cell? ⟨db,0,none⟩=some (.pointer (some ⟨ob,0,none⟩)):=H5.out.d.cell 0
   have d2':w5.cell? ⟨db,2,none⟩=some (.int .i64 cn):=by rw[H5.out.d.cell 2,<-hc];rfl
   have o2:w5.cell? ⟨ob,2,none⟩=some (.slice (some ⟨mg,0,none⟩) S.made.length mcap):=H5.out.o.cell 2
   have hw1:IntKind.i64.wrap (m+1)=m+1:=by rw[IntKind.wrap_i64];omega
   clear d2
   go_region
   obtain⟨S6,hS6⟩: ∃S6,S6={S.setI k {S.ino k with ents:=insE (nm,num) es}with made:=S.made.set cn (m+1)}:=⟨_,rfl⟩
   have HS6:=lhi hS6
   have H6:=lhi (show Doer (w5.setCell ⟨mg,cn,none⟩ (.int .i64 (m+1))).drew base ob db c r (.slice (some ⟨g,0,none⟩) S.inodes.length icap) ov (.slice (some ⟨mg,0,none⟩) S.made.length mcap) Iv5 S6 by rw[hS6];exact(H5.out.putM rfl hcn (m+1)).drew)
   have HB6:=lhi (show Below base W (w5.setCell ⟨mg,cn,none⟩ (.int .i64 (m+1))).drew from by
    have h4:Below base W w4:=HB4.out.mono hbs
    have h5:=(h4.trans HB5.out).setCell (p:=⟨mg,cn,none⟩) hmg (.int .i64 (m+1))
    exact h5.trans ((Ae _).mono (Aml hbs h5.size)))
   obtain⟨w6,hw6⟩:=yy ((w5.setCell ⟨mg,cn,none⟩ (.int .i64 (m+1))).drew)
   rw[<-hw6]at H6 HB6⊢
   have hn6:S6.inodes.length=S.inodes.length:=by rw[hS6];simp[St.setI]
   have hnm6: ∀i,S6.num i=S.num i:=fun i=>by rw[hS6];exact Af8 S k _ i
   obtain⟨n,hnn⟩:=xx S.inodes.length
   have HNN:=lhi hnn
   have hni:=HI.out.small.ni
   rw[hnn]at H6 hn6
   have HBC:=lhi (Afg (w:=w6) (by rw[<-hn6]at H6;exact H6.out.stm) (by omega) num HNM.out (fun i hi=>by
    rw[hnm6]
    have:=HI.out.num_bound (Inv.ino_mem (show i<S.inodes.length by omega))
    exact⟨by have:=this.1;show 0<= (S.ino i).num;omega,by have:=this.2;show(S.ino i).num<=_;omega⟩) (fun i j hij hj=>by
    rw[hnm6,hnm6]
    exact HI.out.num_lt (by omega) hij))
   rw[hn6]at HBC
   have d0:w6.cell? ⟨db,0,none⟩=some (.pointer (some ⟨ob,0,none⟩)):=H6.out.d.cell 0
   have o0:w6.cell? ⟨ob,0,none⟩=some (.slice (some ⟨g,0,none⟩) n icap):=H6.out.o.cell 0
   clear hw6 hS6 hnn m0 f0 d2' o2 hw1 HPU HNU hni
   go_upto_region 9 with(go_at_call 120;refine HBC.out.mono ?_;rintro e w7 ⟨⟨at_,hat,h1,h2,rfl⟩,hb7⟩;have HA1:=lhi h1;have HA2:=lhi h2;have HB7:=lhi (HB6.out.trans (hb7.mono (Aml hbs HB6.out.size)));have H7:=lhi (H6.out.below hb7);clear h1 h2 hb7 HBC d0 o0)
   have HBI:=lhi (show Below w7.heap.size w7 (w7.alloc (.cells #[.int .i64 num,.bool (c.kind==1),.slice none 0 0,.string ⟨#[]⟩] 93)).drew from by
    have q:=(Amf w7.heap.size w7).alloc (Ama _) (.cells #[.int .i64 num,.bool (c.kind==1),.slice none 0 0,.string ⟨#[]⟩] 93)
    exact q.trans ((Ae _).mono q.size))
   have H8:=lhi (H7.out.below HBI.out)
   have HXB:=lhi (show Blk (w7.alloc (.cells #[.int .i64 num,.bool (c.kind==1),.slice none 0 0,.string ⟨#[]⟩] 93)).drew w7.heap.size 93 #[.int .i64 num,.bool (c.kind==1),.slice none 0 0,.string ⟨#[]⟩]from Blk.new w7 _ _)
   have HBE:=lhi (HB7.out.trans (HBI.out.mono (Aml hbs HB7.out.size)))
   have hlI:Iv5.length=n:=by rw[H8.out.st.len',hn6]
   have hown8:=H8.out.st.ino
   rw[hlI]at hown8
   have HIN:=lhi (show Calls Tryz.prog 122 #[.slice (some ⟨g,0,none⟩) n icap,.int .i64 at_,.slice (some ⟨w7.heap.size,0,none⟩) 1 1] _ _ from by
    have q:=Zi (i:=at_) (x:=((⟨num,c.kind==1,[],nm0⟩:Ino),Value.slice none 0 0)) (xb:=w7.heap.size) H8.out.st.ino (by omega) HXB.out (fun q=>by have:=(H7.out.st.ino.lt _ q).2;omega) (fun y hy=>by
     rcases List.mem_cons.1 hy with rfl | hy
     ·intro u hu
      simp only[encI,List.mem_cons,List.not_mem_nil,or_false]at hu
      rcases hu with rfl | rfl | rfl | rfl <;> rfl
     ·exact H8.out.st.one y hy) (by have:=HI.out.small.ni;have:=HNN.out;omega) H8.out.bs
    exact q)
   have HNO:=lhi (Ah hown8 H8.out.o (by decide))
   have HND:=lhi (Ah hown8 H8.out.d (by decide))
   have d0:w7.drew.cell? ⟨db,0,none⟩=some (.pointer (some ⟨ob,0,none⟩)):=H7.out.d.cell 0
   have o0:w7.drew.cell? ⟨ob,0,none⟩=some (.slice (some ⟨g,0,none⟩) n icap):=H7.out.o.cell 0
   have d1:w7.drew.cell? ⟨db,1,none⟩=some (.int .i64 c.kind):=H7.out.d.cell 1
   clear hown8
   refine Af (L:=24) (S:=fun w'=>w'.cell? ⟨db,0,none⟩=some (.pointer (some ⟨ob,0,none⟩))/\w'.cell? ⟨ob,0,none⟩=some (.slice (some ⟨g,0,none⟩) n icap)/\w'.cell? ⟨db,1,none⟩=some (.int .i64 c.kind)) (by kernel_rfl) (⟨d0,o0,d1⟩) (fun hHeld=>?_)
   refine tF 0 ?_
   refine tF 1 ?_
   refine tF 2 ?_
   refine tF 3 ?_
   refine tF 4 ?_
   refine tF 5 ?_
   refine tF 6 ?_
   refine tF 7 ?_
   refine tF 8 ?_
   refine tF 9 ?_
   refine tF 10 ?_
   refine tF 11 ?_
   refine tF 12 ?_
   refine tF 13 ?_
   refine tF 14 ?_
   refine tF 15 ?_
   refine tF 16 ?_
   refine tF 17 ?_
   refine tF 18 ?_
   refine tF 19 ?_
   refine Ap (i:=20) (by kernel_rfl) rfl (fun K hK=>?_)
   go_simp
   obtain⟨w8,hw8⟩:=yy ((w7.alloc (.cells #[.int .i64 num,.bool (c.kind==1),.slice none 0 0,.string ⟨#[]⟩] 93)).drew)
   rw[<-hw8]at HIN H8 HXB HBE HBI⊢
   clear hw8
   show K _ _
   refine hK.out _ _ (fun _=>by obtain⟨a1,a2,a3⟩:=hHeld;exact⟨H8.out.d.cell 0,H8.out.o.cell 0,H8.out.d.cell 1⟩) (fun hHeld=>?_)
   replace hHeld:=hHeld (by decide)
   clear hK K
   refine Ap (i:=21) (by kernel_rfl) rfl (fun K hK=>?_)
   go_simp
   refine HIN.out.mono ?_
   rintro e w9 ⟨v',rfl,hown,hgr,hbl⟩
   obtain⟨NA,ncap,rfl,-⟩:=Aj hown
   have HOW:=lhi hown
   have HGR:=lhi hgr
   have H9O:=lhi (Am H8.out.o HGR.out HNO.out)
   have H9D:=lhi (Am H8.out.d HGR.out HND.out)
   clear hown hgr hbl HIN
   show K _ _
   refine hK.out _ _ (fun _=>⟨H9D.out.cell 0,H9O.out.cell 0,H9D.out.cell 1⟩) (fun hHeld=>?_)
   replace hHeld:=hHeld (by decide)
   clear hK K
   refine tF 22 ?_
   refine tF 23 ?_
   have z0:=hHeld.2.1
   have f0:w9.frozen? ⟨ob,0,none⟩=false:=H9O.out.frozen _
   refine Ap (i:=24) (by kernel_rfl) rfl (fun K hK=>?_)
   go_simp
   show K _ _
   refine hK.out _ _ (fun h=>absurd rfl h) (fun _=>?_)
   clear hK K
   refine Cn (by kernel_rfl) ?_ _
   go_end0
   have hst:=H8.out.st.putI (w1:=w9) HGR.out (a:=at_) (by omega) (x:=⟨num,c.kind==1,[],nm0⟩) rfl HOW.out
   have hob:=H8.out.ob_
   have hgb:base<=g:=(H7.out.st.ino.lt g rfl).1
   have hSQ:SR={S6 with inodes:=S6.inodes.take at_++⟨num,c.kind==1,[],nm0⟩::S6.inodes.drop at_}:=by
    have e1:(setE S (S.num k) (insE (nm,num) es)).inodes=S6.inodes:=by rw[Xx HI.out hk,HS6.out];rfl
    have hget: ∀i (hi:i<S6.inodes.length),S6.inodes[i].num=S.num i:=fun i hi=>by rw[<-Nj hi];exact hnm6 i
    have e2:=Sj (lt:=ltN) (p:=(⟨num,c.kind==1,[],nm0⟩:Ino)) (l:=S6.inodes) (k:=at_) (by omega) (fun i hi hik=>by
     unfold ltN
     simp only[hget i hi]
     have:=HA1.out i hik
     rw[hnm6]at this
     exact decide_eq_false (by omega)) (fun i hi hik=>by
     unfold ltN
     simp only[hget i hi]
     have h1:=HA2.out i hik (by omega)
     rw[hnm6]at h1
     have h2:=HI.out.fresh hcn _ (Inv.ino_mem (show i<S.inodes.length by have:=HNN.out;omega))
     rw[HMM.out,<-HNV.out]at h2
     have h2:S.num i≠num:=h2
     exact decide_eq_true (by omega))
    rw[HSR.out]
    unfold Pm
    rw[e1,<-e2,HMM.out,HS6.out]
    rfl
   rw[hSQ]
   rw[hlI]at hst
   have hbw:Below base W (w9.setCell ⟨ob,0,none⟩ (.slice NA (n+1) ncap)):=(HBE.out.trans (Bg HGR.out H8.out.bs (fun b hb=>by
    have e:g=b:=by injection hb
    omega))).setCell (p:=⟨ob,0,none⟩) hob _
   exact⟨rfl,hbw,.slice NA (n+1) ncap,_,_,_,H8.out.ob_,H8.out.db_,H9O.out.set_ 0 _,H9D.out.far (p:=⟨ob,0,none⟩) (Blk.ne_ H9D.out H9O.out (by decide)) _,hst.far H9O.out (by decide) (by decide) (by decide) (by decide) 0 _⟩
theorem Wm(h:Doer W base ob db c r iv ov mv Iv S)(hI:Inv S)(hp:c.path.size<=4611686018427387904)(hc:0<=c.core/\c.core<S.made.length):
  Calls Tryz.prog 77 #[.pointer (some ⟨db,0,none⟩)] W fun e w'=>Gr base ob db c W e w' ((Jz S c.kind c.core c.path).map fun S'=>(S',r)):=by
 unfold Jz
 cases hs:Bo S c.path with
 | error k=>exact(Aaf h hI hp hs).mono fun e w' hq=>hq
 | ok q=>
  obtain⟨k,nm⟩:=q
  cases hE:entF (S.ino k).ents nm with
  | some j=>
   simp only[hE,Option.isSome_some,if_true]
   exact(Aae h hI hp hs hE).mono fun e w' hq=>hq
  | none=>
   have e:(c.core.toNat:Int)=c.core:=by omega
   have q:=Ae9 h hI hp (cn:=c.core.toNat) e.symm (by omega) hs hE
   simp only[hE,Option.isSome_none,Bool.false_eq_true,if_false]
   rw[e]at q
   split
   ·rename_i hx
    rw[if_pos hx]at q
    exact q
   ·rename_i hx
    rw[if_neg hx]at q
    exact q
end
def Lb(c:Ad):Prop:=c.path.size<=4611686018427387904/\c.path2.size<=4611686018427387904/\c.data.size<=4611686018427387904
def toX:Except Int (St×ResV)->OutX
 | .error k=>.error k
 | .ok (S',r')=>.ok (S',fun _ r=>r=r')
def Ra(S:St):Except Int (Int×Bool×List ByteArray)->OutX
 | .error k=>.error k
 | .ok (n,d,ns)=>.ok (S,fun w r=>∃na nc,r=resT n d na ns.length nc/\NmB w (.slice na ns.length nc) ns)
def runS(S:St)(c:Ad):OutX:=
 if c.kind=0∨c.kind=1 then toX ((Jz S c.kind c.core c.path).map fun S'=>(S',Aq))else if c.kind=2 then toX (Ni S c Aq)else if c.kind=3 then toX (Xw S c Aq)
 else if c.kind=8 then toX (Ul S c Aq)else if c.kind=9∨c.kind=10 then toX (Lf S c Aq)else if c.kind=11 then toX (Le S c Aq)
 else if c.kind=12∨c.kind=13∨c.kind=14 then Ra S (Ub S c)else if c.kind=15 then toX (Acs S c Aq)else if c.kind=16 then .ok (S,fun _ r=>r=Aq)else toX (Kx S c Aq)
def doX(S:St)(c:Ad):OutX:=if mayB S c=true then runS S c else .error 9
section
variable{W:World}{base ob db:Nat}{c:Ad}{r:ResV}{iv ov mv:Value}{Iv:List InV}{S:St}
theorem RunQ.of{e:Ending}{w':World}{RES:Except Int (St×ResV)}(h:Gr base ob db c W e w' RES):RunQ base ob db c W e w' (toX RES):=by
 rcases RES with k | ⟨S',r'⟩
 ·exact h
 ·obtain⟨h1,h2,_,_,_,_,h3⟩:=h
  exact⟨h1,h2,_,_,_,_,_,rfl,h3⟩
theorem RunQ.told{e:Ending}{w':World}{T:Except Int (Int×Bool×List ByteArray)}(h:Aki base ob db c iv ov mv Iv S W e w' T):RunQ base ob db c W e w' (Ra S T):=by
 rcases T with k | ⟨n,d,ns⟩
 ·exact h
 ·obtain⟨h1,h2,na,nc,h3,h4⟩:=h
  refine⟨h1,h2,_,_,_,_,_,⟨na,nc,rfl,?_⟩,h3⟩
  have e: ∀l:List ByteArray,l.map Value.string=l.flatMap fun x=>[.string x]:=fun l=>by induction l with
   | nil=>rfl
   | cons a l ih=>simp only[List.map_cons,List.flatMap_cons,ih,List.singleton_append]
  rw[e]at h4
  have hC:CL (fun x:ByteArray=>[Value.string x]) ns (nmC ns) 1:=fun i j hi hj=>by
   obtain rfl:j=0:=by omega
   unfold nmC
   rw[An hi];rfl
  exact(Cc (k:=1) (by decide) (fun _=>rfl) h4 hC).base_le (Nat.zero_le _)
theorem Jq{X:OutX}{f:FuncId}(h:Doer W base ob db c r iv ov mv Iv S)(hk:(c.kind=0∨c.kind=1)/\f=77∨c.kind=2/\f=78∨(c.kind=4∨c.kind=5∨c.kind=6∨c.kind=7)/\f=82∨c.kind=8/\f=83∨(c.kind=9∨c.kind=10)/\f=84∨c.kind=11/\f=85∨(c.kind=12∨c.kind=13∨c.kind=14)/\f=86)(hC:Calls Tryz.prog f #[.pointer (some ⟨db,0,none⟩)] W fun e w'=>RunQ base ob db c W e w' X):
  Calls Tryz.prog 33 #[.pointer (some ⟨db,0,none⟩)] W fun e w'=>RunQ base ob db c W e w' X:=by
 have d1:W.cell? ⟨db,1,none⟩=some (.int .i64 c.kind):=h.d.cell 1
 have HC:=lhi hC
 clear h hC
 rcases X with k | ⟨S',R⟩ <;> rcases hk with⟨hk | hk,rfl⟩ | ⟨hk,rfl⟩ | ⟨hk | hk | hk | hk,rfl⟩ | ⟨hk,rfl⟩ | ⟨hk | hk,rfl⟩ | ⟨hk,rfl⟩ | ⟨hk | hk | hk,rfl⟩
 all_goals
  rw[hk]at d1
  clear hk
  go_enter Tryz.func33,Tryz.ntmps33
  go_wp2_with ((first | go_at_call 77 | go_at_call 78 | go_at_call 82 | go_at_call 83 | go_at_call 84 | go_at_call 85 | go_at_call 86);refine HC.out.mono ?_;rintro e w1 ⟨rfl,hd⟩;have HD:=lhi hd;clear hd)
  first
   | exact⟨rfl,rfl,HD.out⟩
   | (go_end0;exact⟨rfl,HD.out⟩)
theorem Agb(h:Doer W base ob db c Aq iv ov mv Iv S)(hk:c.kind=16):
  Calls Tryz.prog 33 #[.pointer (some ⟨db,0,none⟩)] W fun e w'=>RunQ base ob db c W e w' (.ok (S,fun _ r=>r=Aq)):=by
 have d1:W.cell? ⟨db,1,none⟩=some (.int .i64 16):=by rw[<-hk];exact h.d.cell 1
 have H:=lhi h
 clear h hk
 go_enter Tryz.func33,Tryz.ntmps33
 go_wp2_with (fail)
 go_end0
 exact⟨rfl,Amf _ _,_,_,_,_,_,rfl,H.out⟩
theorem Nl(h:mayB S c=true):0<=c.kind/\c.kind<=16/\0<=c.core/\c.core< (S.made.length:Int):=by simpa[mayB]using h
theorem Aix(h:Doer W base ob db c Aq iv ov mv Iv S)(hI:Inv S)(hm:mayB S c=true)(hc:Lb c):
  Calls Tryz.prog 33 #[.pointer (some ⟨db,0,none⟩)] W fun e w'=>RunQ base ob db c W e w' (runS S c):=by
 obtain⟨m1,m2,m3,m4⟩:=Nl hm
 obtain⟨p1,p2,p3⟩:=hc
 unfold runS
 by_cases k0:c.kind=0∨c.kind=1
 ·rw[if_pos k0]
  exact Jq h (.inl ⟨k0,rfl⟩) ((Wm h hI p1 ⟨m3,m4⟩).mono fun _ _ q=>.of q)
 rw[if_neg k0]
 by_cases k2:c.kind=2
 ·rw[if_pos k2]
  exact Jq h (.inr (.inl ⟨k2,rfl⟩)) ((Aaa h hI p1 ⟨m3,m4⟩).mono fun _ _ q=>.of q)
 rw[if_neg k2]
 by_cases k3:c.kind=3
 ·rw[if_pos k3]
  exact(Ad0 h hI k3).mono fun _ _ q=>.of q
 rw[if_neg k3]
 by_cases k8:c.kind=8
 ·rw[if_pos k8]
  exact Jq h (.inr (.inr (.inr (.inl ⟨k8,rfl⟩)))) ((Abs h hI p1 p2).mono fun _ _ q=>.of q)
 rw[if_neg k8]
 by_cases k9:c.kind=9∨c.kind=10
 ·rw[if_pos k9]
  exact Jq h (.inr (.inr (.inr (.inr (.inl ⟨k9,rfl⟩))))) ((Vs h hI p1 k9).mono fun _ _ q=>.of q)
 rw[if_neg k9]
 by_cases k11:c.kind=11
 ·rw[if_pos k11]
  exact Jq h (.inr (.inr (.inr (.inr (.inr (.inl ⟨k11,rfl⟩)))))) ((Vr h hI p1 p2).mono fun _ _ q=>.of q)
 rw[if_neg k11]
 by_cases k12:c.kind=12∨c.kind=13∨c.kind=14
 ·rw[if_pos k12]
  exact Jq h (.inr (.inr (.inr (.inr (.inr (.inr ⟨k12,rfl⟩)))))) ((Aa3 h hI p1 k12).mono fun _ _ q=>.told q)
 rw[if_neg k12]
 by_cases k15:c.kind=15
 ·rw[if_pos k15]
  exact(Aga h hI k15).mono fun _ _ q=>.of q
 rw[if_neg k15]
 by_cases k16:c.kind=16
 ·rw[if_pos k16]
  exact Agb h k16
 rw[if_neg k16]
 exact Jq h (.inr (.inr (.inl ⟨by omega,rfl⟩))) ((Aap h hI p3).mono fun _ _ q=>.of q)
end
theorem Ae0{S S':St}{c:Ad}{R:World->ResV->Prop}(h:doX S c= .ok (S',R)){w w':World}{r:ResV}(k:KI w w')(hr:R w r):R w' r:=by
 have h1: ∀{X:Except Int (St×ResV)},toX X= .ok (S',R)->R w' r:=fun {X} e=>by
  rcases X with _ | ⟨_,_⟩
  ·cases e
  ·injection e with e
   injection e with _ e
   subst e
   exact hr
 have h2: ∀{X},Ra S X= .ok (S',R)->R w' r:=fun {X} e=>by
  rcases X with _ | ⟨_,_,_⟩
  ·cases e
  ·injection e with e
   injection e with _ e
   subst e
   obtain⟨na,nc,e,hn⟩:=hr
   exact⟨na,nc,e,hn.heap fun q cs _ hq=>k q _ cs (.inr rfl) hq⟩
 unfold doX runS at h
 repeat' split at h
 all_goals first
  | exact h1 h
  | exact h2 h
  | (injection h with h;injection h with _ h;subst h;exact hr)
  | cases h
theorem Ajp{S:St}(hI:Inv S)(c:Ad):Inv (outS S (doX S c))/\ (outS S (doX S c)).made.length=S.made.length:=by
 have h1: ∀{X:Except Int (St×ResV)},(∀S' r',X= .ok (S',r')->Inv S'/\S'.made.length=S.made.length)->Inv (outS S (toX X))/\ (outS S (toX X)).made.length=S.made.length:=fun {X} q=>by
  rcases X with _ | ⟨_,_⟩
  ·exact⟨hI,rfl⟩
  ·exact q _ _ rfl
 have h2: ∀{X},Inv (outS S (Ra S X))/\ (outS S (Ra S X)).made.length=S.made.length:=fun {X}=>by rcases X with _ | ⟨_,_,_⟩ <;> exact⟨hI,rfl⟩
 unfold doX
 split
 ·rename_i hm
  obtain⟨m1,m2,m3,m4⟩:=Nl hm
  unfold runS
  repeat' split
  ·refine h1 fun S' r' e=>?_
   cases hc:Jz S c.kind c.core c.path with
   | error k=>rw[hc]at e;cases e
   | ok S1=>
    rw[hc]at e
    injection e with e
    injection e with e _
    subst e
    refine⟨Aag hI ⟨m3,m4⟩ hc,?_⟩
    unfold Jz at hc
    repeat' split at hc
    all_goals first
     | (injection hc with hc;subst hc;show(S.made.set _ _).length=_;exact List.length_set ..)
     | cases hc
  ·exact h1 fun S' r' e=>Aed hI ⟨m3,m4⟩ e
  ·exact h1 fun S' r' e=>Adx hI e
  ·exact h1 fun S' r' e=>Aek hI e
  ·exact h1 fun S' r' e=>Yd hI e
  ·exact h1 fun S' r' e=>Yc hI e
  ·exact h2
  ·refine h1 fun S' r' e=>?_
   unfold Acs at e
   split at e
   ·cases e
   ·injection e with e;injection e with e _;subst e;exact⟨hI,rfl⟩
  ·exact⟨hI,rfl⟩
  ·exact h1 fun S' r' e=>Acf hI e
 ·exact⟨hI,rfl⟩
theorem Aih{w:World}{iv ov mv:Value}{ev:Nat->Value}{S:St}{c:Ad}(hS:StV w 0 iv ov mv ev S)(hI:Inv S)(hc:Lb c):
  Calls Tryz.prog 12 #[.agg #[iv,ov,mv],.agg c.cs] w fun e w'=>DoQ S w e w' (doX S c):=by
 cases hm:mayB S c with
 | false=>unfold doX;rw[if_neg (by rw[hm];decide)];exact Al0 hS hI hm
 | true=>
  have e:doX S c=runS S c:=by unfold doX;rw[if_pos hm]
  exact Alm hS hI hm (fun W base ob db iv' ov' mv' Iv h=>e▸Aix h hI hm hc) fun S' R h w w' r k hr=>Ae0 h k hr
end Go.Proofs.YtkebjgebkneijaaGreat
