/- Texts of one's own that a claim's last text rests on: CkState NoP1 NoP2 Ml1 Ml2 Ml3 Ml4 ArDef ArNote. -/
import Derived.Test.YtkebjgebkneijaaGreatMG4
import Derived.Test.YtkebjgebkneijaaGreatMG5
import Derived.Lib.Bytealg
import Derived.Laws.Externs
import Derived.Test.YtkebjgebkneijaaGreatProg
import Derived.Test.YtkebjgebkneijaaGreatMG1
set_option linter.unusedVariables false
set_option linter.unusedSimpArgs false
namespace Go.Proofs.YtkebjgebkneijaaGreat
section
open Go.RowKit Go.Shelf Go.Lib Go.Sort
set_option maxHeartbeats 1000000
theorem flatF_get: ∀(D:List Fnd) (t:Nat),(D.flatMap encF)[t]? =(D[t / 3]?).bind fun e=>(encF e)[t % 3]?
 | [],t=>by simp
 | e::D,t=>by
  rw[List.flatMap_cons]
  by_cases h:t<3
  ·have:t=0∨t=1∨t=2:=by omega
   rcases this with rfl | rfl | rfl <;> simp[encF]
  ·have e1:t / 3=(t - 3) / 3+1:=by omega
   have e2:t % 3=(t - 3) % 3:=by omega
   rw[List.getElem?_append_right (by simp[encF];omega),e1,List.getElem?_cons_succ,e2,<-flatF_get D (t - 3)]
   simp[encF]
theorem flatKF_eq(D:List Fnd):flatK encF 3 D.toArray=(D.flatMap encF).toArray:=by
 apply Array.ext
 ·rw[size_flatK,List.size_toArray,List.size_toArray,encF_len]
 ·intro t h1 h2
  have h3:t<D.length*3:=by rw[size_flatK]at h1;simpa using h1
  have ha:=get_flatK encF 3 D.toArray t (by simpa using h3)
  rw[getElem!_pos (flatK encF 3 D.toArray) t h1]at ha
  rw[ha]
  have hb:=flatF_get D t
  have hd:t / 3<D.length:=by omega
  rw[List.getElem?_eq_getElem (by rw[encF_len];exact h3),List.getElem?_eq_getElem hd]at hb
  have hm:t % 3< (encF D[t / 3]).length:=by simp[encF];omega
  simp only[Option.bind_some]at hb
  rw[List.getElem?_eq_getElem hm]at hb
  have hb:=Option.some.inj hb
  simp only[List.getElem_toArray]
  rw[hb]
  have hx:D.toArray[t / 3]! =D[t / 3]:=by simp[hd]
  rw[hx]
  exact getElem!_pos (encF D[t / 3]) (t % 3) hm
theorem holdsF_of{w:World}{base g cap:Nat}{D:List Fnd}(h:w.ownsRow base 119 3 (.slice (some ⟨g,0,none⟩) D.length cap) D.length (D.flatMap encF)):HoldsK encF 3 w g 0 D.toArray:=by
 unfold HoldsK
 rw[flatKF_eq]
 intro j hj
 have hj':j< (D.flatMap encF).length:=by simpa using hj
 have hget:(D.flatMap encF)[j]? =some ((D.flatMap encF).toArray[j]!):=by
  rw[getElem!_pos (D.flatMap encF).toArray j hj,List.getElem_toArray,List.getElem?_eq_getElem hj']
 have hc:=h.cells (g:=g) rfl j _ hget
 have e:(⟨g,0,none⟩:Addr).add j=⟨g,0+j,none⟩:=by unfold Addr.add;split <;> simp_all
 rw[e]at hc
 refine⟨hc,?_⟩
 rcases h.2 with⟨hn,_⟩ | ⟨g',cap',cur,hv,_,hh,_⟩
 ·cases hn
 ·have:g=g':=by simpa[Value.ownBlock]using congrArg Value.ownBlock hv
  subst this
  exact(Blk.frozen (show Blk w g _ cur from hh) _)
theorem sortedF_heap{w:World}{g n:Nat}{D':List Fnd}{os:Array Obj}(k:Nat)(hk:k<w.heap.size):
  (sortWorldK encF 3 w g 0 n D'.toArray os).heap[k]? =if k=g then(w.heap[k]?).map (onCells (putCells id 0 (flatK encF 3 D'.toArray)))else w.heap[k]?:=by
 unfold sortWorldK grow putRowK putRow mapBlock Sort.ahead
 show((w.heap.modify g (onCells (putCells id 0 (flatK encF 3 D'.toArray))))++os)[k]? =_
 rw[Array.getElem?_append_left (by simpa using hk),Array.getElem?_modify]
 by_cases e:g=k
 ·rw[if_pos e,if_pos e.symm]
 ·rw[if_neg e,if_neg (fun h=>e h.symm)]
theorem sortedF_own{w:World}{base g cap n:Nat}{D D':List Fnd}{os:Array Obj}(h:w.ownsRow base 119 3 (.slice (some ⟨g,0,none⟩) D.length cap) D.length (D.flatMap encF))(hl:D'.length=D.length):
  (sortWorldK encF 3 w g 0 n D'.toArray os).ownsRow base 119 3 (.slice (some ⟨g,0,none⟩) D'.length cap) D'.length (D'.flatMap encF):=by
 refine⟨encF_len D',.inr ?_⟩
 rcases h.2 with⟨hn,_⟩ | ⟨g',cap',cur,hv,hb,hh,h1,h2,h3,h4⟩
 ·cases hn
 ·have e1:g=g':=by simpa[Value.ownBlock]using congrArg Value.ownBlock hv
  subst e1
  have e2:cap=cap':=by
   injection hv
  subst e2
  have hg:g<w.heap.size:=Blk.lt (show Blk w g _ cur from hh)
  refine⟨g,cap,putCells id 0 (flatK encF 3 D'.toArray) cur,rfl,hb,?_,by omega,h2,?_,?_⟩
  ·rw[sortedF_heap g hg,if_pos rfl,hh]
   rfl
  ·simp[putCells,h3]
  ·rw[flatKF_eq]
   have hle:D'.length*3<=cap*3:=Nat.mul_le_mul_right _ (by omega)
   apply List.ext_getElem
   ·simp only[List.length_take,Array.length_toList,Array.size_mapIdx,encF_len,h3,putCells,List.size_toArray]
    omega
   ·intro j q1 q2
    rw[encF_len]at q2
    have hp:(0<=j/\j<0+ (D'.flatMap encF).toArray.size):=by
     refine⟨Nat.zero_le _,?_⟩
     rw[List.size_toArray,encF_len]
     omega
    simp only[List.getElem_take,Array.getElem_toList,putCells,Array.getElem_mapIdx]
    rw[if_pos hp]
    have hq:j - 0< (D'.flatMap encF).toArray.size:=by rw[List.size_toArray,encF_len];omega
    rw[getElem!_pos (D'.flatMap encF).toArray (j - 0) hq]
    simp
def rawF(S:St):List Fnd:=numbersF S++bodiesF S++treeF S++openF S
theorem ownF_row{w:World}{base:Nat}{v:Value}{D:List Fnd}(h:w.ownsRow base 119 3 v D.length (D.flatMap encF)):RowAt w v D.length 3 (fndC D):=by
 rcases h.2 with⟨rfl,h0⟩ | ⟨g,cap,cur,rfl,hb,hh,h1,_⟩
 ·rw[h0];exact RowAt.nil_ _ _ _
 ·refine⟨_,_,rfl,h1,fun _=>⟨g,0,rfl,fun i j hi hj=>?_⟩⟩
  have hc:=h.cells (g:=g) rfl (i*3+j) (fndC D i j) (by
   rw[flatF_get,show(i*3+j) / 3=i by omega,show(i*3+j) % 3=j by omega,List.getElem?_eq_getElem hi]
   have hf:fAt D i=D[i]:=by simp[fAt,List.getD,hi]
   have:j=0∨j=1∨j=2:=by omega
   rcases this with rfl | rfl | rfl <;> simp[encF,fndC,hf])
  rw[Addr.add_lit]at hc
  exact hc
def RiseF(D:List Fnd):Prop:=D.Pairwise ltF
theorem rise_of_sorted{D':List Fnd}(hn:D'.Nodup)(h:SortedIn (ltOf cmpF) 0 D'.length D'.toArray):RiseF D':=by
 unfold RiseF
 rw[List.pairwise_iff_getElem]
 intro i j hi hj hij
 have h2:=h i j (Nat.zero_le _) hij hj
 rw[getElem!_pos D'.toArray i (by simpa using hi),getElem!_pos D'.toArray j (by simpa using hj)]at h2
 simp only[List.getElem_toArray]at h2
 rcases ltF_tri D'[i] D'[j]with q | q | q
 ·exact q
 ·exact absurd q (List.pairwise_iff_getElem.1 hn i j hi hj hij)
 ·have:=(ltOf_cmpF _ _).2 q
  rw[this]at h2
  cases h2
theorem rise_unique: ∀{D E:List Fnd},RiseF D->RiseF E->D.Perm E->D=E
 | [],E,_,_,hp=>(List.nil_perm.1 hp).symm
 | d::D,[],_,_,hp=>by simpa using hp.length_eq
 | d::D,e::E,hd,he,hp=>by
  have h1:=List.pairwise_cons.1 hd
  have h2:=List.pairwise_cons.1 he
  have hde:d=e:=by
   have m1:d∈e::E:=hp.subset (List.mem_cons_self)
   have m2:e∈d::D:=hp.symm.subset (List.mem_cons_self)
   rcases List.mem_cons.1 m1 with q | q
   ·exact q
   ·rcases List.mem_cons.1 m2 with r | r
    ·exact r.symm
    ·exact absurd (ltF_trans (h1.1 e r) (h2.1 d q)) (ltF_irrefl d)
  subst hde
  rw[rise_unique h1.2 h2.2 (List.perm_cons d |>.1 hp)]
theorem raw_len(S:St)(hs:S.small):(rawF S).length<=10000000:=by
 unfold rawF numbersF bodiesF treeF openF
 simp only[List.length_append]
 have h1:=one_len 1 1 nm0 (rootB S)
 have h2:=flat_len (numAt_len S) S.inodes.length
 have h3:=one_len 8 (-1) nm0 (manyB S)
 have h4:=flat_len (f:=fun(i:Nat)=>one 8 (i:Int) nm0 (madB S i)) (c:=1) (fun _=>one_len _ _ _ _) S.made.length
 have h5:=flat_len (bodyAt_len S hs) S.inodes.length
 have h6:=flat_len (treeAt_len S) S.inodes.length
 have h7:=flat_len (f:=openAt S) (c:=1) (fun _=>one_len _ _ _ _) S.opens.length
 have:=hs.ni
 have:=hs.no
 have:=hs.nm
 omega
theorem ck_sort{w0 w:World}{c sb:Nat}{v:Value}{D:List Fnd}(hbel:Below w0.heap.size w0 w)(hc:Blk w c 116 #[.pointer (some ⟨sb,0,none⟩),v])(hown:w.ownsRow w0.heap.size 119 3 v D.length (D.flatMap encF))(hlen:D.length<=10000000):
  Calls Tryz.prog 55 #[v,.func (.func 56) #[] #[]] w fun e w'=>e= .returned (.tuple #[])/\ ∃D':List Fnd,D'.Perm D/\SortedIn (ltOf cmpF) 0 D'.length D'.toArray/\Below w0.heap.size w0 w'/\Blk w' c 116 #[.pointer (some ⟨sb,0,none⟩),v]/\w'.ownsRow w0.heap.size 119 3 v D'.length (D'.flatMap encF):=by
 rcases hown.2 with⟨rfl,h0⟩ | ⟨g,cap,cur,rfl,hb,hh,_⟩
 ·refine(AnyF.slices_SortFunc_none Tryz.sortFnd none 0 _ w).mono ?_
  rintro e w' ⟨rfl,rfl⟩
  exact⟨rfl,D,.refl _,(by rw[h0];intro i j _ _ hj;omega),hbel,hc,hown⟩
 ·have hg:g<w.heap.size:=Blk.lt (show Blk w g _ cur from hh)
  have hgc:c≠g:=Blk.ne_ hc (show Blk w g 119 cur from hh) (by decide)
  have hH:=holdsF_of hown
  refine(sort_calls g 0 cap D.toArray w hH hg (by rw[List.size_toArray];omega)).mono ?_
  rintro e w' ⟨rfl,D',n',os,hp,hs,rfl⟩
  obtain⟨D',rfl⟩: ∃l:List Fnd,D'=l.toArray:=⟨D'.toList,rfl⟩
  have hsz:D'.length=D.length:=by simpa using hp.1
  have hperm:D'.Perm D:=by
   have:=hp.2.2
   have e1:D'.toArray.extract 0 D.toArray.size=D'.toArray:=by rw[<-hp.1];exact Array.extract_size
   have e2:D.toArray.extract 0 D.toArray.size=D.toArray:=Array.extract_size
   rw[e1,e2]at this
   simpa using this
  refine⟨rfl,D',hperm,(by have:=hs;rw[List.size_toArray,<-hsz]at this;exact this),?_,?_,?_⟩
  ·refine hbel.trans ⟨rfl,rfl,rfl,?_,fun k hk=>?_⟩
   ·show w.heap.size<= ((w.heap.modify g _)++os).size
    simp
   ·rw[sortedF_heap k (by have:=hbel.size;omega),if_neg (by omega)]
  ·unfold Blk
   rw[sortedF_heap c hc.lt,if_neg hgc]
   exact hc
  ·have:=sortedF_own (n:=n') (os:=os) hown hsz
   rw[hsz]at this⊢
   exact this
set_option maxRecDepth 1000000 in
theorem State_calls{w:World}{iv ov mv:Value}{ev:Nat->Value}{S:St}(hS:StM w iv ov mv ev S)(hs:S.small){E:List Fnd}(hE:RiseF E)(hp:E.Perm (rawF S)):
  Calls Tryz.prog 24 #[.agg #[iv,ov,mv]] w fun e w'=>∃v,e= .returned v/\Below w.heap.size w w'/\w'.ownsRow w.heap.size 119 3 v E.length (E.flatMap encF):=by
 obtain⟨A,cap,rfl⟩:=hS.ino.form
 obtain⟨OA,ocap,rfl⟩:=hS.opn.form
 obtain⟨MA,mcap,rfl⟩:=hS.mad.form
 have HS:=lhi hS
 have HSm:=lhi hs
 have HL:=lhi (raw_len S hs)
 have HE:=lhi hE
 have HP:=lhi hp
 have HR:=lhi (show rawF S=numbersF S++bodiesF S++treeF S++openF S from rfl)
 clear hS hs hE hp
 generalize S.inodes.length=n at*
 generalize S.opens.length=no at*
 generalize S.made.length=nm at*
 have HC:Ck w ((w.alloc (.cells #[.slice A n cap,.slice OA no ocap,.slice MA nm mcap] 30)).alloc (.cells #[.pointer (some ⟨w.heap.size,0,none⟩),.slice none 0 0] 116)) (w.heap.size+1) w.heap.size (.slice A n cap) (.slice OA no ocap) (.slice MA nm mcap) []:=
  ⟨((Below.refl _ _).alloc (Nat.le_refl _) _).alloc (by simp) _,Nat.le_refl _,(Blk.new _ _ _).alloc _,by omega,_,Blk.newAt _ _ _ (by simp),World.ownsRow_nil _ _ _ _⟩
 have HC:=lhi HC
 rename_i HC0
 clear HC0
 go_enter Tryz.func24,Tryz.ntmps24
 go_wp2_with (fail)
 refine(numbers_calls HC.out HS.out HSm.out (by simp)).mono ?_
 rintro e w1 ⟨rfl,h1⟩
 have H1:=lhi h1
 have HL1:=lhi (show([]++numbersF S).length<=10000000 by have:=HL.out;rw[HR.out]at this;simp only[List.length_append,List.nil_append]at this⊢;omega)
 clear h1 HC
 go_wp2_with (fail)
 refine(bodies_calls H1.out.1 HS.out HSm.out (by have:=HL1.out;omega)).mono ?_
 rintro e w2 ⟨rfl,h2⟩
 have H2:=lhi h2
 have HL2:=lhi (show([]++numbersF S++bodiesF S).length<=10000000 by have:=HL.out;rw[HR.out]at this;simp only[List.length_append,List.nil_append]at this⊢;omega)
 clear h2 H1
 go_wp2_with (fail)
 refine(tree_calls H2.out.1 HS.out HSm.out (by have:=HL2.out;omega)).mono ?_
 rintro e w3 ⟨rfl,h3⟩
 have H3:=lhi h3
 have HL3:=lhi (show([]++numbersF S++bodiesF S++treeF S).length<=10000000 by have:=HL.out;rw[HR.out]at this;simp only[List.length_append,List.nil_append]at this⊢;omega)
 clear h3 H2
 go_wp2_with (fail)
 refine(open_calls H3.out.1 HS.out HSm.out (by have:=HL3.out;omega)).mono ?_
 rintro e w4 ⟨rfl,h4⟩
 have hD:[]++numbersF S++bodiesF S++treeF S++openF S=rawF S:=by rw[HR.out,List.nil_append]
 rw[hD]at h4
 obtain⟨v,hv1,hv2⟩:=h4.1.row
 have c1:w4.cell? ⟨w.heap.size+1,1,none⟩=some v:=hv1.cell 1
 have HSO:=lhi (ck_sort h4.1.bel hv1 hv2 HL.out)
 clear h4 H3 hD hv1 hv2
 go_wp2_with (fail)
 refine HSO.out.mono ?_
 rintro e w5 ⟨rfl,D',hperm,hsort,hbel,hck,hown⟩
 clear c1
 have c1:w5.cell? ⟨w.heap.size+1,1,none⟩=some v:=hck.cell 1
 have hnd:D'.Nodup:=(hperm.trans HP.out.symm).nodup_iff.2 (List.Pairwise.imp (S:=fun a b:Fnd=>a≠b) (fun {a b} (h:ltF a b) (e:a=b)=>ltF_irrefl a (e▸h)) HE.out)
 have hDE:D'=E:=rise_unique (rise_of_sorted hnd hsort) HE.out (hperm.trans HP.out.symm)
 subst hDE
 have HO:=lhi hown
 have HB:=lhi hbel
 have HCO:=lhi (compact_calls (ownF_row hown) (by have:=hperm.length_eq;have:=HL.out;omega) (fun i hi=>by
  have h:=List.pairwise_iff_getElem.1 HE.out i (i+1) (by omega) hi (by omega)
  have e1:fAt D' (i+1)=D'[i+1]:=by simp[fAt,List.getD,hi]
  have e2:fAt D' i=D'[i]:=by simp[fAt,List.getD,show i<D'.length by omega]
  rw[e1,e2]
  intro e
  rw[<-e]at h
  exact ltF_irrefl _ h))
 clear hperm hsort hbel hck hown hnd
 go_wp2_with (fail)
 refine HCO.out.mono ?_
 rintro e w6 ⟨rfl,d,rfl⟩
 go_wp2_with (fail)
 go_ret
 exact⟨v,rfl,⟨HB.out.os,HB.out.tape,HB.out.output,HB.out.size,HB.out.block⟩,HO.out⟩
theorem getD_case{A:Type}(P:A->Prop)(l:List A)(d:A)(h: ∀x∈l,P x)(hd:P d)(i:Nat):P (l.getD i d):=by
 rw[List.getD]
 rcases hi:l[i]? with _ | x
 ·exact hd
 ·exact h x (List.mem_of_getElem? hi)
end
section
set_option maxHeartbeats 1000000
theorem mem_add1{F:List Int}{x y:Int}:y∈add1 F x↔y∈F∨y=x:=by
 unfold add1
 by_cases h:F.contains x=true
 ·rw[if_pos h]
  have h2:x∈F:=by simpa using h
  exact⟨Or.inl,fun q=>q.elim id fun e=>e▸h2⟩
 ·rw[if_neg h];simp
theorem mem_addAll{y:Int}: ∀{es F:List Int},y∈addAll F es↔y∈F∨y∈es
 | [],F=>by simp[addAll]
 | e::es,F=>by
  have h:=mem_addAll (y:=y) (es:=es) (F:=add1 F e)
  show y∈addAll (add1 F e) es↔_
  rw[h,mem_add1,List.mem_cons,or_assoc]
theorem add1_pre(F:List Int)(x:Int):F<+:add1 F x:=by
 unfold add1
 split
 ·exact List.prefix_rfl
 ·exact List.prefix_append _ _
theorem addAll_pre: ∀(es F:List Int),F<+:addAll F es
 | [],_=>List.prefix_rfl
 | e::es,F=>(add1_pre F e).trans (addAll_pre es (add1 F e))
theorem addAll_meas{U:List Int}: ∀(es F:List Int),(∀x∈es,x∈U)->(addAll F es).length+out U (addAll F es)<=F.length+out U F
 | [],_,_=>Nat.le_refl _
 | e::es,F,h=>by
  have h1:=addAll_meas es (add1 F e) fun x hx=>h x (List.mem_cons_of_mem _ hx)
  have h2:(add1 F e).length+out U (add1 F e)<=F.length+out U F:=by
   unfold add1
   by_cases hc:F.contains e=true
   ·rw[if_pos hc];exact Nat.le_refl _
   ·rw[if_neg hc];exact add1_out (h e (List.mem_cons_self ..)) (by simpa using hc)
  exact Nat.le_trans h1 h2
theorem firstIx_some{S:St}{x:Int}{i:Nat}(h:firstIx S x=some i):i<S.inodes.length/\S.num i=x:=by
 unfold firstIx at h
 have h1:=List.find?_some h
 have h2:=List.mem_of_find?_eq_some h
 exact⟨by simpa using h2,by simpa using h1⟩
theorem kids_univ{S:St}{x y:Int}(h:y∈kids S x):y∈univ S:=by
 unfold kids at h
 cases hf:firstIx S x with
 | none=>rw[hf]at h;cases h
 | some i=>
  rw[hf]at h
  have hi:=(firstIx_some hf).1
  simp only at h
  split at h
  ·unfold univ
   rw[List.mem_flatMap]
   exact⟨i,by simpa using hi,h⟩
  ·cases h
def ClosedTo(S:St)(F:List Int)(p:Nat):Prop:=∀j x,j<p->F[j]? =some x-> ∀y∈kids S x,y∈F
theorem bfs_closed(S:St): ∀(f:Nat) (F:List Int) (p:Nat),p<=F.length->F.length+out (univ S) F<p+f->ClosedTo S F p->
  (∀x∈F,x∈bfs S f F p)/\ ∀x∈bfs S f F p,∀y∈kids S x,y∈bfs S f F p
 | 0,F,p,hp,hm,_=>absurd hm (by omega)
 | f+1,F,p,hp,hm,hc=>by
  unfold bfs
  cases hx:F[p]? with
  | none=>
   have hl:F.length<=p:=by simpa using hx
   show(∀x∈F,x∈F)/\ ∀x∈F,∀y∈kids S x,y∈F
   refine⟨fun x h=>h,fun x h y hy=>?_⟩
   obtain⟨j,hj,e⟩:=List.getElem_of_mem h
   exact hc j x (by omega) (by rw[List.getElem?_eq_getElem hj,e]) y hy
  | some x=>
   have hl:p<F.length:=by
    rcases Nat.lt_or_ge p F.length with q | q
    ·exact q
    ·rw[List.getElem?_eq_none q]at hx;cases hx
   have hpre:=addAll_pre (kids S x) F
   have hlen:=hpre.length_le
   have hms:=addAll_meas (U:=univ S) (kids S x) F fun y hy=>kids_univ hy
   have ih:=bfs_closed S f (addAll F (kids S x)) (p+1) (by omega) (by omega) (fun j z hj hz y hy=>by
    have hjl:j<F.length:=by omega
    have hz2:F[j]? =some z:=by
     obtain⟨T,hT⟩:=hpre
     rw[<-hT,List.getElem?_append_left hjl]at hz
     exact hz
    rw[mem_addAll]
    by_cases e:j=p
    ·subst e
     rw[hx]at hz2
     obtain rfl:=Option.some.inj hz2
     exact .inr hy
    ·exact .inl (hc j z (by omega) hz2 y hy))
   exact⟨fun y hy=>ih.1 y (mem_addAll.2 (.inl hy)),ih.2⟩
theorem found_closed(S:St):(1:Int)∈foundF S/\ ∀x∈foundF S,∀y∈kids S x,y∈foundF S:=by
 have h:=bfs_closed S ((univ S).length+2) [1] 0 (by simp) (by
  have:out (univ S) [1]<= (univ S).length:=List.length_filter_le _ _
  simp only[List.length_singleton]
  omega) (fun j x hj=>absurd hj (by omega))
 exact⟨h.1 1 (by simp),h.2⟩
end
section
set_option maxHeartbeats 1000000
def Edge(S:St)(d y:Int):Prop:=∃x∈S.inodes,x.num=d/\x.dir=true/\ ∃e∈x.ents,e.2=y
inductive Reach (S:St):Int->Prop where
 | root:Reach S 1
 | step {d y:Int}:Reach S d->Edge S d y->Reach S y
def linksOf(x:Ino):List Int:=if x.dir then x.ents.map (·.2)else []
def links(S:St):List Int:=S.inodes.flatMap linksOf
def Given(made:List Int)(x:Int):Prop:=2<=x/\ (x - 2) % 8<made.length/\ (x - 2) / 8<made.getD ((x - 2) % 8).toNat 0
structure Inv (S:St):Prop where
 m1:1<=S.made.length
 m8:S.made.length<=8
 mb: ∀m∈S.made,0<=m/\m<=32
 root: ∃x,S.inodes[0]? =some x/\x.num=1/\x.dir=true
 rise:S.inodes.Pairwise (fun x y=>x.num<y.num)
 given: ∀x∈S.inodes,x.num≠1->Given S.made x.num
 isDir: ∀x∈S.inodes,x.dir=true->x.data.size=0
 isFile: ∀x∈S.inodes,x.dir=false->x.ents=[]
 dat: ∀x∈S.inodes,x.data.size<=256
 nam: ∀x∈S.inodes,∀e∈x.ents,ncheck e.1=0
 goal: ∀x∈S.inodes,∀e∈x.ents,e.2≠1/\ ∃y∈S.inodes,y.num=e.2
 up: ∀x∈S.inodes,x.ents.Pairwise (fun a b=>nlt a.1 b.1=true)
 slots: ∀x∈S.inodes,∀q,(x.ents.filter fun e=>nbucket e.1==q).length<=4
 one: ∀x∈S.inodes,x.dir=true->x.num≠1->(links S).count x.num=1
 reach: ∀x∈S.inodes,x.dir=true->Reach S x.num
 file: ∀x∈S.inodes,x.dir=false->x.num∈links S∨ ∃o∈S.opens,o.2.2=x.num
 ok: ∀o∈S.opens,0<=o.1/\o.1<S.made.length/\0<=o.2.1/\o.2.1<4/\ ∃y∈S.inodes,y.num=o.2.2/\y.dir=false
 osort:S.opens.Pairwise (fun a b=>a.1<b.1∨a.1=b.1/\a.2.1<b.2.1)
theorem getD_mem{A:Type}{l:List A}{i:Nat}{d:A}(h:i<l.length):l.getD i d∈l:=by
 rw[List.getD_eq_getElem?_getD,List.getElem?_eq_getElem h]
 exact List.getElem_mem h
theorem getD_get{A:Type}{l:List A}{i:Nat}{d:A}(h:i<l.length):l.getD i d=l[i]:=by
 rw[List.getD_eq_getElem?_getD,List.getElem?_eq_getElem h];rfl
namespace Inv
variable{S:St}
theorem pos(h:Inv S):0<S.inodes.length:=by
 obtain⟨x,hx,_⟩:=h.root
 rcases Nat.lt_or_ge 0 S.inodes.length with q | q
 ·exact q
 ·rw[List.getElem?_eq_none q]at hx;cases hx
theorem ino_mem{i:Nat}(hi:i<S.inodes.length):S.ino i∈S.inodes:=getD_mem hi
theorem num_lt(h:Inv S){i j:Nat}(hj:j<S.inodes.length)(hij:i<j):S.num i<S.num j:=by
 have h1:=List.pairwise_iff_getElem.1 h.rise i j (by omega) hj hij
 unfold St.num St.ino
 rw[getD_get (by omega:i<_),getD_get hj]
 exact h1
theorem num0(h:Inv S):S.num 0=1/\S.dir 0=true:=by
 obtain⟨x,hx,h1,h2⟩:=h.root
 unfold St.num St.dir St.ino
 rw[List.getD_eq_getElem?_getD,hx]
 exact⟨h1,h2⟩
theorem num_inj(h:Inv S){i j:Nat}(hi:i<S.inodes.length)(hj:j<S.inodes.length)(e:S.num i=S.num j):i=j:=by
 rcases Nat.lt_trichotomy i j with q | q | q
 ·have:=h.num_lt hj q;omega
 ·exact q
 ·have:=h.num_lt hi q;omega
theorem ino_inj(h:Inv S){x y:Ino}(hx:x∈S.inodes)(hy:y∈S.inodes)(e:x.num=y.num):x=y:=by
 obtain⟨i,hi,rfl⟩:=List.getElem_of_mem hx
 obtain⟨j,hj,rfl⟩:=List.getElem_of_mem hy
 have:i=j:=h.num_inj hi hj (by unfold St.num St.ino;rw[getD_get hi,getD_get hj];exact e)
 subst this;rfl
theorem firstIx_at(h:Inv S){i:Nat}(hi:i<S.inodes.length):firstIx S (S.num i)=some i:=by
 cases hf:firstIx S (S.num i)with
 | none=>
  unfold firstIx at hf
  rw[List.find?_eq_none]at hf
  exact absurd (hf i (by simpa using hi)) (by simp)
 | some j=>
  have hj:=firstIx_some hf
  rw[h.num_inj hj.1 hi hj.2]
theorem firstIx_mem(h:Inv S){y:Ino}(hy:y∈S.inodes): ∃i,i<S.inodes.length/\S.ino i=y/\firstIx S y.num=some i:=by
 obtain⟨i,hi,e⟩:=List.getElem_of_mem hy
 have h1:S.ino i=y:=by unfold St.ino;rw[getD_get hi,e]
 exact⟨i,hi,h1,by have:=h.firstIx_at hi;unfold St.num at this;rwa [h1]at this⟩
theorem num_bound(h:Inv S){x:Ino}(hx:x∈S.inodes):1<=x.num/\x.num<=257:=by
 by_cases e:x.num=1
 ·omega
 ·obtain⟨h1,h2,h3⟩:=h.given x hx e
  have h4:S.made.getD ((x.num - 2) % 8).toNat 0<=32:=(h.mb _ (getD_mem (by omega))).2
  have h8:=h.m8
  omega
end Inv
theorem rise_len: ∀{l:List Ino} {a b:Int},l.Pairwise (fun x y=>x.num<y.num)->(∀x∈l,a<=x.num/\x.num<=b)->a<=b+1->(l.length:Int)<=b+1 - a
 | [],a,b,_,_,hab=>by simp;omega
 | x::l,a,b,hp,hb,hab=>by
  obtain⟨h1,h2⟩:=List.pairwise_cons.1 hp
  have hx:=hb x (List.mem_cons_self ..)
  have ih:=rise_len (a:=x.num+1) (b:=b) h2 (fun y hy=>⟨by have:=h1 y hy;omega,(hb y (List.mem_cons_of_mem _ hy)).2⟩) (by omega)
  simp only[List.length_cons]
  omega
theorem bucket_len{A:Type}(f:A->Nat)(c:Nat): ∀(n:Nat) (l:List A),(∀x∈l,f x<n)->(∀q,(l.filter fun x=>f x==q).length<=c)->l.length<=n*c
 | 0,l,h,_=>by
  cases l with
  | nil=>simp
  | cons x l=>exact absurd (h x (List.mem_cons_self ..)) (by omega)
 | n+1,l,h,hq=>by
  have h1:=bucket_len f c n (l.filter fun x=>!(f x==n)) (fun x hx=>by
   rw[List.mem_filter]at hx
   have h2:=h x hx.1
   have h3:f x≠n:=by simpa using hx.2
   omega) (fun q=>by
   refine Nat.le_trans ?_ (hq q)
   rw[List.filter_filter,show(fun a=>(f a==q)&&!(f a==n))=fun a=>!(f a==n)&& (f a==q)from funext fun a=>Bool.and_comm _ _,<-List.filter_filter]
   exact List.length_filter_le _ _)
  have h2:=hq n
  have h3: ∀l:List A,l.length=(l.filter fun x=>f x==n).length+ (l.filter fun x=>!(f x==n)).length:=by
   intro l
   induction l with
   | nil=>rfl
   | cons x l ih=>
    rw[List.filter_cons,List.filter_cons]
    cases f x==n <;> simp <;> omega
  have h3:=h3 l
  rw[Nat.succ_mul]
  omega
theorem pair_len: ∀{l:List (Int×Int×Int)} {a:Int},l.Pairwise (fun x y=>x.1<y.1∨x.1=y.1/\x.2.1<y.2.1)->(∀o∈l,0<=o.2.1/\o.2.1<4/\a<=o.1*4+o.2.1/\o.1<8)->a<=32->(l.length:Int)<=32 - a
 | [],a,_,_,ha=>by simp;omega
 | x::l,a,hp,hb,ha=>by
  obtain⟨h1,h2⟩:=List.pairwise_cons.1 hp
  have hx:=hb x (List.mem_cons_self ..)
  have ih:=pair_len (l:=l) (a:=x.1*4+x.2.1+1) h2 (fun o ho=>by
   have h3:=h1 o ho
   have h4:=hb o (List.mem_cons_of_mem _ ho)
   refine⟨h4.1,h4.2.1,?_,h4.2.2.2⟩
   rcases h3 with q | ⟨q,q2⟩ <;> omega) (by omega)
  simp only[List.length_cons]
  omega
namespace Inv
variable{S:St}
theorem ni(h:Inv S):S.inodes.length<=257:=by
 have:=rise_len (a:=1) (b:=257) h.rise (fun x hx=>h.num_bound hx) (by omega)
 omega
theorem no(h:Inv S):S.opens.length<=32:=by
 have:=pair_len (a:=0) (l:=S.opens) h.osort (fun o ho=>by
  have h1:=h.ok o ho
  have h2:=h.m8
  refine⟨h1.2.2.1,h1.2.2.2.1,by omega,by omega⟩) (by omega)
 omega
theorem en(h:Inv S){x:Ino}(hx:x∈S.inodes):x.ents.length<=32:=
 bucket_len (fun e:ByteArray×Int=>nbucket e.1) 4 8 x.ents (fun _ _=>nbucket_lt _) (h.slots x hx)
theorem small(h:Inv S):S.small:=by
 have h1:=h.ni
 have h2:=h.no
 have h3:=h.m8
 refine⟨by omega,by omega,by omega,fun i=>?_,fun i=>?_,fun i k=>?_,fun i=>?_⟩
 ·exact getD_case (fun x:Ino=>x.ents.length<=1000) S.inodes noIno (fun x hx=>by have:=h.en hx;omega) (by decide) i
 ·exact getD_case (fun x:Ino=> -1000000<=x.num/\x.num<=1000000) S.inodes noIno (fun x hx=>by have:=h.num_bound hx;omega) (by decide) i
 ·exact getD_case (fun x:Ino=> -1000000<= (x.ents.getD k (ByteArray.empty,0)).2/\ (x.ents.getD k (ByteArray.empty,0)).2<=1000000) S.inodes noIno (fun x hx=>getD_case (fun e:ByteArray×Int=> -1000000<=e.2/\e.2<=1000000) x.ents _ (fun e he=>by
   obtain⟨-,y,hy,e2⟩:=h.goal x hx e he
   have:=h.num_bound hy
   omega) (by decide) k) (getD_case (fun e:ByteArray×Int=> -1000000<=e.2/\e.2<=1000000) [] _ (fun e he=>absurd he (by simp)) (by decide) k) i
 ·exact getD_case (fun m:Int=> -1000000<=m/\m<=1000000) S.made 0 (fun m hm=>by have:=h.mb m hm;omega) (by decide) i
end Inv
end
section
open Go.RowKit
set_option maxHeartbeats 1000000
def cmpN(a b:Int):Int:=if a<b then -1 else if b<a then 1 else 0
set_option maxRecDepth 1000000 in
theorem findc_calls(a b:Int)(d:Bool)(A:Option Addr)(n cap:Nat)(s:ByteArray)(w:World):
  Calls Tryz.prog 146 #[.agg #[.int .i64 a,.bool d,.slice A n cap,.string s],.int .i64 b] w fun e w'=>e= .returned (.int .i64 (cmpN a b))/\Below w.heap.size w w':=by
 have hb:=Below.heap_alloc w (.cells #[.int .i64 a,.bool d,.slice A n cap,.string s] 93)
 have hB:=(Below.refl w.heap.size w).alloc (Nat.le_refl _) (.cells #[.int .i64 a,.bool d,.slice A n cap,.string s] 93)
 unfold cmpN
 by_cases h1:a<b
 ·rw[if_pos h1]
  go_enter Tryz.func146,Tryz.ntmps146
  go_wp2
  go_ret
  exact⟨rfl,hB⟩
 ·rw[if_neg h1]
  by_cases h2:b<a
  ·rw[if_pos h2]
   go_enter Tryz.func146,Tryz.ntmps146
   go_wp2
   go_ret
   exact⟨rfl,hB⟩
  ·rw[if_neg h2]
   go_enter Tryz.func146,Tryz.ntmps146
   go_wp2
   go_ret
   exact⟨rfl,hB⟩
set_option maxRecDepth 1000000 in
theorem bsI_calls{w:World}{iv ov mv:Value}{ev:Nat->Value}{S:St}(hS:StM w iv ov mv ev S)(hn:S.inodes.length<=1000)(x:Int)(hlt: ∀i j,i<j->j<S.inodes.length->S.num i<S.num j):
  Calls Tryz.prog 120 #[iv,.int .i64 x,.func (.func 146) #[] #[]] w fun e w'=>(∃k:Nat,k<=S.inodes.length/\ (∀i,i<k->S.num i<x)/\ (∀i,k<=i->i<S.inodes.length->x<=S.num i)/\e= .returned (.tuple #[.int .i64 k,.bool (decide (k<S.inodes.length)&& (S.num k==x))]))/\Below w.heap.size w w':=by
 have HS:=lhi hS
 have HI:=lhi hS.ino
 obtain⟨A,cap,rfl,hcap,-⟩:=hS.ino
 obtain⟨n,hnn⟩: ∃n,S.inodes.length=n:=⟨_,rfl⟩
 rw[hnn]at hn hlt HI
 rw[hnn]
 have HNN:=lhi hnn
 have HLT:=lhi hlt
 clear hS hnn hlt hcap
 go_enter Tryz.func120,Tryz.ntmps120
 go_wp2_with (fail)
 go_loopw [9,10] (fun i j wr=>∃a b:Nat,i= .int .i64 a/\j= .int .i64 b/\a<=b/\b<=n/\ (∀i,i<a->S.num i<x)/\ (∀i,b<=i->i<n->x<=S.num i)/\Below w.heap.size w wr) (fun i j _=>(intOf j).toNat - (intOf i).toNat)
 case atStart=>exact⟨0,n,rfl,rfl,by omega,Nat.le_refl _,fun i hi=>absurd hi (by omega),fun i h1 h2=>absurd h1 (by omega),Below.refl _ _⟩
 case round=>
  obtain⟨a,b,rfl,rfl,hab,hbn,hlo,hhi,hB⟩:=hrel
  have HLO:=lhi hlo
  have HHI:=lhi hhi
  have HB:=lhi hB
  clear hlo hhi hB
  by_cases hp:a<b
  ·have hp1:(a:Int)<b:=by omega
   obtain⟨h,hh⟩: ∃h:Nat,((a:Int)+b) / 2=h:=⟨(a+b) / 2,by omega⟩
   have hha:a<=h/\h<b:=by omega
   have hhn:h<n:=by omega
   have hl1:decide ((h:Int)<n)=true:=by simp;omega
   obtain⟨-,-,g,off,rfl,hcell⟩:=(HI.out.keep HB.out).at_ hhn
   have q0:wr.cell? ⟨g,off+h*4,none⟩=some (.int .i64 (S.num h)):=hcell 0 (by omega)
   have q1:wr.cell? ⟨g,off+h*4+1,none⟩=some (.bool (S.dir h)):=hcell 1 (by omega)
   have q2:wr.cell? ⟨g,off+h*4+2,none⟩=some (ev h):=hcell 2 (by omega)
   have q3:wr.cell? ⟨g,off+h*4+3,none⟩=some (.string (S.dat h)):=hcell 3 (by omega)
   obtain⟨EA,ecap,hev,-⟩:=HS.out.ent h (by rw[HNN.out];exact hhn)
   rw[hev]at q2
   have HC:=lhi (findc_calls (S.num h) x (S.dir h) EA (S.ne h) ecap (S.dat h) wr)
   have e1:decide (cmpN (S.num h) x<0)=decide (S.num h<x):=by
    unfold cmpN
    split
    ·simp[*]
    ·split <;> simp[*]
   obtain⟨cv,hcv⟩: ∃c,cmpN (S.num h) x=c:=⟨_,rfl⟩
   rw[hcv]at HC e1
   clear hcell hev hcv
   by_cases hx:S.num h<x
   ·have e2:cv<0:=by simpa[hx]using e1
    clear e1
    go_wp2_with (go_at_call 146;refine HC.out.mono ?_;rintro e w1 ⟨rfl,hb1⟩)
    go_roundw
    case rel=>exact⟨h+1,b,by simp,rfl,by omega,hbn,fun i hi=>by
     by_cases e:i=h
     ·subst e;exact hx
     ·have:=HLT.out i h (by omega) hhn;omega,HHI.out,HB.out.trans (hb1.mono HB.out.size)⟩
    case measure=>
     simp only[intOf]
     omega
   ·have e2: ¬ cv<0:=by simpa[hx]using e1
    clear e1
    go_wp2_with (go_at_call 146;refine HC.out.mono ?_;rintro e w1 ⟨rfl,hb1⟩)
    go_roundw
    case rel=>exact⟨a,h,rfl,rfl,by omega,by omega,HLO.out,fun i h1 h2=>by
     by_cases e:i=h
     ·subst e;omega
     ·have:=HLT.out h i (by omega) h2;omega,HB.out.trans (hb1.mono HB.out.size)⟩
    case measure=>
     simp only[intOf]
     omega
  ·have e:a=b:=by omega
   subst e
   by_cases hq:a<n
   ·have hq1:(a:Int)<n:=by omega
    obtain⟨-,-,g,off,rfl,hcell⟩:=(HI.out.keep HB.out).at_ hq
    have q0:wr.cell? ⟨g,off+a*4,none⟩=some (.int .i64 (S.num a)):=hcell 0 (by omega)
    have q1:wr.cell? ⟨g,off+a*4+1,none⟩=some (.bool (S.dir a)):=hcell 1 (by omega)
    have q2:wr.cell? ⟨g,off+a*4+2,none⟩=some (ev a):=hcell 2 (by omega)
    have q3:wr.cell? ⟨g,off+a*4+3,none⟩=some (.string (S.dat a)):=hcell 3 (by omega)
    obtain⟨EA,ecap,hev,-⟩:=HS.out.ent a (by rw[HNN.out];exact hq)
    rw[hev]at q2
    have HC:=lhi (findc_calls (S.num a) x (S.dir a) EA (S.ne a) ecap (S.dat a) wr)
    have HE:=lhi (show(cmpN (S.num a) x==0)=(S.num a==x)by
     unfold cmpN
     by_cases h1:S.num a<x
     ·have:S.num a≠x:=by omega
      simp[h1,this]
     ·by_cases h2:x<S.num a
      ·have:S.num a≠x:=by omega
       simp[h1,h2,this]
      ·have:S.num a=x:=by omega
       simp[this])
    obtain⟨cv,hcv⟩: ∃c,cmpN (S.num a) x=c:=⟨_,rfl⟩
    rw[hcv]at HC HE
    clear hcell hev hcv
    go_wp2_with (go_at_call 146;refine HC.out.mono ?_;rintro e w1 ⟨rfl,hb1⟩)
    go_ret2
    exact⟨⟨a,by omega,HLO.out,HHI.out,by simp[hq,<-HE.out]⟩,HB.out.trans (hb1.mono HB.out.size)⟩
   ·have hq1: ¬ (a:Int)<n:=by omega
    go_wp2_with (fail)
    go_ret2
    exact⟨⟨a,by omega,HLO.out,HHI.out,by simp[hq]⟩,HB.out⟩
end
section
open Go.RowKit
set_option maxHeartbeats 1000000
def placeF(S:St)(x:Int):Int:=match(List.range S.inodes.length).find? (fun i=>S.num i==x)with
 | some k=>k
 | none=> -1
theorem placeF_at{S:St}{x:Int}{k:Nat}(hk:k<S.inodes.length)(h:S.num k=x)(hlt: ∀i,i<k->S.num i≠x):placeF S x=k:=by
 have:(List.range S.inodes.length).find? (fun i=>S.num i==x)=some k:=by
  rw[List.find?_eq_some_iff_getElem]
  refine⟨by simpa using h,k,by simpa using hk,by simp,fun j hj=>?_⟩
  simpa using hlt j hj
 unfold placeF
 rw[this]
theorem placeF_no{S:St}{x:Int}(h: ∀i,i<S.inodes.length->S.num i≠x):placeF S x= -1:=by
 have:(List.range S.inodes.length).find? (fun i=>S.num i==x)=none:=by
  rw[List.find?_eq_none]
  intro i hi
  simpa using h i (by simpa using hi)
 unfold placeF
 rw[this]
set_option maxRecDepth 1000000 in
theorem find_in{w:World}{sp:Nat}{iv ov mv:Value}{ev:Nat->Value}{S:St}(hS:StM w iv ov mv ev S)(hn:S.inodes.length<=1000)(x:Int)(hlt: ∀i j,i<j->j<S.inodes.length->S.num i<S.num j)(h0:w.cell? ⟨sp,0,none⟩=some iv):
  Calls Tryz.prog 94 #[.pointer (some ⟨sp,0,none⟩),.int .i64 x] w fun e w'=>e= .returned (.int .i64 (placeF S x))/\Below w.heap.size w w':=by
 have HC:=lhi (bsI_calls hS hn x hlt)
 have HP1:=lhi (fun(k:Nat) h1 h2 h3=>placeF_at (S:=S) (x:=x) (k:=k) h1 h2 h3)
 have HP2:=lhi (fun h=>placeF_no (S:=S) (x:=x) h)
 obtain⟨A,cap,rfl,-⟩:=hS.ino
 have HLT:=lhi hlt
 clear hS hlt
 go_enter Tryz.func94,Tryz.ntmps94
 go_wp2_with (go_at_call 120;refine HC.out.mono ?_;rintro e w1 ⟨⟨k,hk,h1,h2,rfl⟩,hb1⟩;obtain⟨b,hb⟩: ∃b,(decide (k<S.inodes.length)&& (S.num k==x))=b:=⟨_,rfl⟩;rw[hb])
 ·rename_i hnb
  obtain rfl:b=false:=by simpa using hnb
  go_ret
  refine⟨?_,hb1⟩
  show Ending.returned (.int .i64 (-1))=_
  rw[HP2.out fun i hi e=>?_]
  by_cases hik:i<k
  ·have:=h1 i hik;omega
  ·have hkn:k<S.inodes.length:=by omega
   have h3:=h2 k (Nat.le_refl _) hkn
   have h4:S.num k=x:=by
    by_cases e2:k=i
    ·rw[e2];exact e
    ·have:=HLT.out k i (by omega) hi;omega
   simp[hkn,h4]at hb
 ·rename_i hnb
  obtain rfl:b=true:=by simpa using hnb
  go_wp2_with (fail)
  go_ret
  simp only[Bool.and_eq_true,decide_eq_true_eq,beq_iff_eq]at hb
  refine⟨?_,hb1⟩
  show Ending.returned (.int .i64 (k:Int))=_
  rw[HP1.out k hb.1 hb.2 fun i hi e=>by have:=h1 i hi;omega]
end
section
open Go.RowKit
set_option maxHeartbeats 1000000
def scmp(a b:ByteArray):Int:=Lib.compareBytes a.data.toList b.data.toList
theorem cmpstr(a b:ByteArray)(w:World):(callFunc 236 #[.string a,.string b]).run Tryz.prog w= .ok (.value (.int .i64 (scmp a b))) w:=by
 rw[run_callFunc_extern Tryz.func236 (by kernel_rfl) (by kernel_rfl) (by kernel_rfl) (e:=Extern.BytealgCompare.compare) (by kernel_rfl),Lib.run_compareString]
 rfl
theorem bcmp_calls(a b:ByteArray)(w:World):Calls Tryz.prog 185 #[.string a,.string b] w fun e w'=>e= .returned (.int .i64 (scmp a b))/\w'=w:=by
 have h:=cmpstr a b
 go_enter Tryz.func185,Tryz.ntmps185
 go_wp2
 go_ret
 exact⟨rfl,rfl⟩
theorem scmp_calls(a b:ByteArray)(w:World):Calls Tryz.prog 145 #[.string a,.string b] w fun e w'=>e= .returned (.int .i64 (scmp a b))/\w'=w:=by
 go_enter Tryz.func145,Tryz.ntmps145
 go_wp2_with (go_at_call 185;refine(bcmp_calls _ _ _).mono ?_;rintro e w' ⟨rfl,rfl⟩)
 go_ret
 exact⟨rfl,rfl⟩
set_option maxRecDepth 1000000 in
theorem entryc_calls(a b:ByteArray)(n:Int)(w:World):Calls Tryz.prog 144 #[.agg #[.string a,.int .i64 n],.string b] w fun e w'=>e= .returned (.int .i64 (scmp a b))/\Below w.heap.size w w':=by
 have hB:=(Below.refl w.heap.size w).alloc (Nat.le_refl _) (.cells #[.string a,.int .i64 n] 132)
 have HB:=lhi hB
 clear hB
 go_enter Tryz.func144,Tryz.ntmps144
 go_wp2_with (go_at_call 145;refine(scmp_calls _ _ _).mono ?_;rintro e w' ⟨rfl,h⟩;have h:=h.symm;subst h)
 go_ret
 exact⟨rfl,HB.out⟩
theorem cb_lt: ∀(x y:List UInt8),Lib.compareBytes x y<0↔Op.bytesLess x y=true
 | [],[]=>by simp[Lib.compareBytes,Op.bytesLess]
 | [],_::_=>by simp[Lib.compareBytes,Op.bytesLess]
 | _::_,[]=>by simp[Lib.compareBytes,Op.bytesLess]
 | a::x,b::y=>by
  unfold Lib.compareBytes Op.bytesLess
  by_cases h1:a<b
  ·simp[h1]
  ·by_cases h2:b<a
   ·have h3:a≠b:=fun e=>by subst e;exact h1 h2
    simp[h1,h2,h3]
   ·have h3:a=b:=by
     apply UInt8.toNat.inj
     rw[UInt8.lt_iff_toNat_lt]at h1 h2
     omega
    subst h3
    simp[h1,cb_lt x y]
theorem cb_zero: ∀(x y:List UInt8),Lib.compareBytes x y=0↔x=y
 | [],[]=>by simp[Lib.compareBytes]
 | [],_::_=>by simp[Lib.compareBytes]
 | _::_,[]=>by simp[Lib.compareBytes]
 | a::x,b::y=>by
  unfold Lib.compareBytes
  by_cases h1:a<b
  ·have h3:a≠b:=fun e=>by subst e;rw[UInt8.lt_iff_toNat_lt]at h1;omega
   simp[h1,h3]
  ·by_cases h2:b<a
   ·have h3:a≠b:=fun e=>by subst e;exact h1 h2
    simp[h1,h2,h3]
   ·have h3:a=b:=by
     apply UInt8.toNat.inj
     rw[UInt8.lt_iff_toNat_lt]at h1 h2
     omega
    subst h3
    simp[h1,cb_zero x y]
theorem scmp_lt(a b:ByteArray):scmp a b<0↔nlt a b=true:=by
 unfold scmp nlt
 rw[cb_lt,ByteArray.toList_eq,ByteArray.toList_eq]
theorem scmp_zero(a b:ByteArray):scmp a b=0↔a=b:=by
 unfold scmp
 rw[cb_zero]
 constructor
 ·intro h
  exact ByteArray.ext (Array.toList_inj.1 h)
 ·rintro rfl;rfl
end
section
open Go.RowKit
set_option maxHeartbeats 1000000
def entL(l:List (ByteArray×Int)):Nat->Nat->Value:=fun k j=>match j with
 | 0=>.string (l.getD k (ByteArray.empty,0)).1
 | _=>.int .i64 (l.getD k (ByteArray.empty,0)).2
def enmL(l:List (ByteArray×Int))(k:Nat):ByteArray:=(l.getD k (ByteArray.empty,0)).1
def enuL(l:List (ByteArray×Int))(k:Nat):Int:=(l.getD k (ByteArray.empty,0)).2
def RiseL(l:List (ByteArray×Int)):Prop:=∀i j,i<j->j<l.length->nlt (enmL l i) (enmL l j)=true
set_option maxRecDepth 1000000 in
theorem bsE_calls{w:World}{iv:Value}{l:List (ByteArray×Int)}(hS:RowAt w iv l.length 2 (entL l))(hn:l.length<=1000)(x:ByteArray)(hlt:RiseL l):
  Calls Tryz.prog 143 #[iv,.string x,.func (.func 144) #[] #[]] w fun e w'=>(∃k:Nat,k<=l.length/\ (∀i,i<k->nlt (enmL l i) x=true)/\ (∀i,k<=i->i<l.length->nlt (enmL l i) x=false)/\e= .returned (.tuple #[.int .i64 k,.bool (decide (k<l.length)&&decide (enmL l k=x))]))/\Below w.heap.size w w':=by
 unfold RiseL at hlt
 have HI:=lhi hS
 obtain⟨A,cap,rfl,hcap,-⟩:=hS
 obtain⟨n,hnn⟩: ∃n,l.length=n:=⟨_,rfl⟩
 rw[hnn]at hn hlt HI
 rw[hnn]
 have HNN:=lhi hnn
 have HLT:=lhi hlt
 clear hnn hlt hcap
 go_enter Tryz.func143,Tryz.ntmps143
 go_wp2_with (fail)
 go_loopw [9,10] (fun i j wr=>∃a b:Nat,i= .int .i64 a/\j= .int .i64 b/\a<=b/\b<=n/\ (∀i,i<a->nlt (enmL l i) x=true)/\ (∀i,b<=i->i<n->nlt (enmL l i) x=false)/\Below w.heap.size w wr) (fun i j _=>(intOf j).toNat - (intOf i).toNat)
 case atStart=>exact⟨0,n,rfl,rfl,by omega,Nat.le_refl _,fun i hi=>absurd hi (by omega),fun i h1 h2=>absurd h1 (by omega),Below.refl _ _⟩
 case round=>
  obtain⟨a,b,rfl,rfl,hab,hbn,hlo,hhi,hB⟩:=hrel
  have HLO:=lhi hlo
  have HHI:=lhi hhi
  have HB:=lhi hB
  clear hlo hhi hB
  by_cases hp:a<b
  ·have hp1:(a:Int)<b:=by omega
   obtain⟨h,hh⟩: ∃h:Nat,((a:Int)+b) / 2=h:=⟨(a+b) / 2,by omega⟩
   have hha:a<=h/\h<b:=by omega
   have hhn:h<n:=by omega
   have hl1:decide ((h:Int)<n)=true:=by simp;omega
   obtain⟨-,-,g,off,rfl,hcell⟩:=(HI.out.keep HB.out).at_ hhn
   have q0:wr.cell? ⟨g,off+h*2,none⟩=some (.string (enmL l h)):=hcell 0 (by omega)
   have q1:wr.cell? ⟨g,off+h*2+1,none⟩=some (.int .i64 (enuL l h)):=hcell 1 (by omega)
   have HC:=lhi (entryc_calls (enmL l h) x (enuL l h) wr)
   have e1:scmp (enmL l h) x<0↔nlt (enmL l h) x=true:=scmp_lt _ _
   obtain⟨cv,hcv⟩: ∃c,scmp (enmL l h) x=c:=⟨_,rfl⟩
   rw[hcv]at HC e1
   clear hcell hcv
   by_cases hx:nlt (enmL l h) x=true
   ·have e2:cv<0:=e1.2 hx
    clear e1
    go_wp2_with (go_at_call 144;refine HC.out.mono ?_;rintro e w1 ⟨rfl,hb1⟩)
    go_roundw
    case rel=>exact⟨h+1,b,by simp,rfl,by omega,hbn,fun i hi=>by
     by_cases e:i=h
     ·subst e;exact hx
     ·exact nlt_trans (HLT.out i h (by omega) hhn) hx,HHI.out,HB.out.trans (hb1.mono HB.out.size)⟩
    case measure=>
     simp only[intOf]
     omega
   ·have e2: ¬ cv<0:=fun h=>hx (e1.1 h)
    clear e1
    go_wp2_with (go_at_call 144;refine HC.out.mono ?_;rintro e w1 ⟨rfl,hb1⟩)
    go_roundw
    case rel=>exact⟨a,h,rfl,rfl,by omega,by omega,HLO.out,fun i h1 h2=>by
     by_cases e:i=h
     ·subst e;simpa using hx
     ·cases h3:nlt (enmL l i) x
      ·rfl
      ·exact absurd (nlt_trans (HLT.out h i (by omega) h2) h3) hx,HB.out.trans (hb1.mono HB.out.size)⟩
    case measure=>
     simp only[intOf]
     omega
  ·have e:a=b:=by omega
   subst e
   by_cases hq:a<n
   ·have hq1:(a:Int)<n:=by omega
    obtain⟨-,-,g,off,rfl,hcell⟩:=(HI.out.keep HB.out).at_ hq
    have q0:wr.cell? ⟨g,off+a*2,none⟩=some (.string (enmL l a)):=hcell 0 (by omega)
    have q1:wr.cell? ⟨g,off+a*2+1,none⟩=some (.int .i64 (enuL l a)):=hcell 1 (by omega)
    have HC:=lhi (entryc_calls (enmL l a) x (enuL l a) wr)
    have HE:=lhi (show(scmp (enmL l a) x==0)=decide (enmL l a=x)by
     rw[Bool.eq_iff_iff,beq_iff_eq,decide_eq_true_eq];exact scmp_zero _ _)
    obtain⟨cv,hcv⟩: ∃c,scmp (enmL l a) x=c:=⟨_,rfl⟩
    rw[hcv]at HC HE
    clear hcell hcv
    go_wp2_with (go_at_call 144;refine HC.out.mono ?_;rintro e w1 ⟨rfl,hb1⟩)
    go_ret2
    exact⟨⟨a,by omega,HLO.out,HHI.out,by simp[hq,<-HE.out]⟩,HB.out.trans (hb1.mono HB.out.size)⟩
   ·have hq1: ¬ (a:Int)<n:=by omega
    go_wp2_with (fail)
    go_ret2
    exact⟨⟨a,by omega,HLO.out,HHI.out,by simp[hq]⟩,HB.out⟩
set_option maxRecDepth 1000000 in
theorem entry_calls{w:World}{iv:Value}{l:List (ByteArray×Int)}(hS:RowAt w iv l.length 2 (entL l))(hn:l.length<=1000)(x:ByteArray)(hlt:RiseL l):
  Calls Tryz.prog 93 #[iv,.string x] w fun e w'=>(∃k:Nat,k<=l.length/\ (∀i,i<k->nlt (enmL l i) x=true)/\ (∀i,k<=i->i<l.length->nlt (enmL l i) x=false)/\e= .returned (.tuple #[.int .i64 k,.bool (decide (k<l.length)&&decide (enmL l k=x))]))/\Below w.heap.size w w':=by
 have HC:=lhi (bsE_calls hS hn x hlt)
 clear hS hlt
 go_enter Tryz.func93,Tryz.ntmps93
 go_wp2_with (go_at_call 143;refine HC.out.mono ?_;rintro e w1 ⟨⟨k,hk,h1,h2,rfl⟩,hb1⟩)
 go_ret2
 exact⟨⟨k,hk,h1,h2,rfl⟩,hb1⟩
end
section
open Go.RowKit
abbrev Acc:=Int×Bool
def encAcc(x:Acc):Value:=.iface (if x.2 then 153 else 155) (.int .i64 x.1)
structure ArIn (L:Nat->Prop) (w:World) (a bw bt:Nat) (vs:List Value) (ws:List Int) (ts:List (List Acc)):Prop where
 bd:Bd L w
 la: ¬ L a
 lw: ¬ L bw
 lt: ¬ L bt
 ba:Blk w a 152 #[.slice (some ⟨bw,0,none⟩) ws.length ws.length,.slice (some ⟨bt,0,none⟩) ts.length ts.length]
 bws:Blk w bw 3 (ws.map (Value.int .i64)).toArray
 bts:Blk w bt 150 vs.toArray
 vl:vs.length=ts.length
 row: ∀c,c<ts.length->w.ownsRow 0 20 1 (vs.getD c undef) (ts.getD c []).length ((ts.getD c []).map encAcc)
 lrow: ∀c,c<ts.length-> ∀b,(vs.getD c undef).ownBlock=some b-> ¬ L b
 apart: ∀c c',c<ts.length->c'<ts.length->c≠c'-> ∀b,(vs.getD c undef).ownBlock=some b->(vs.getD c' undef).ownBlock≠some b
 wsl:ws.length<=65536
 tsl:ts.length<=8
def ArAt(L:Nat->Prop)(w:World)(a:Nat)(ws:List Int)(ts:List (List Acc)):Prop:=∃bw bt vs,ArIn L w a bw bt vs ws ts
section
variable{L L':Nat->Prop}{w w':World}{a bw bt:Nat}{vs:List Value}{ws:List Int}{ts:List (List Acc)}
theorem ArIn.move(h:ArIn L w a bw bt vs ws ts)(hb:Bd L' w')(hl: ∀b,L' b->b<w.heap.size->L b)
  (hk: ∀b,b<w.heap.size-> ¬ L b->w'.heap[b]? =w.heap[b]?):ArIn L' w' a bw bt vs ws ts:=by
 have nl: ∀b,b<w.heap.size-> ¬ L b-> ¬ L' b:=fun b hlt hn hc=>hn (hl b hc hlt)
 refine⟨hb,nl _ h.ba.lt h.la,nl _ h.bws.lt h.lw,nl _ h.bts.lt h.lt,Blk.of_heap (hk _ h.ba.lt h.la) h.ba,Blk.of_heap (hk _ h.bws.lt h.lw) h.bws,Blk.of_heap (hk _ h.bts.lt h.lt) h.bts,h.vl,?_,?_,h.apart,h.wsl,h.tsl⟩
 ·intro c hc
  have r:=h.row c hc
  refine⟨r.1,?_⟩
  rcases r.2 with r2 | ⟨g,cap,cur,hv,hg,hh,rest⟩
  ·exact .inl r2
  ·refine .inr ⟨g,cap,cur,hv,hg,?_,rest⟩
   rw[hk g (lt_of_block hh) (h.lrow c hc g (by rw[hv];rfl))]
   exact hh
 ·intro c hc b hb'
  have:=(h.row c hc).lt b hb'
  exact nl b this.2 (h.lrow c hc b hb')
theorem ArAt.move(h:ArAt L w a ws ts)(hb:Bd L' w')(hl: ∀b,L' b->b<w.heap.size->L b)
  (hk: ∀b,b<w.heap.size-> ¬ L b->w'.heap[b]? =w.heap[b]?):ArAt L' w' a ws ts:=by
 obtain⟨bw,bt,vs,h⟩:=h
 exact⟨bw,bt,vs,h.move hb hl hk⟩
theorem ArAt.bd(h:ArAt L w a ws ts):Bd L w:=by obtain⟨bw,bt,vs,h⟩:=h;exact h.bd
theorem ArAt.lt(h:ArAt L w a ws ts):a<w.heap.size:=by obtain⟨bw,bt,vs,h⟩:=h;exact h.ba.lt
theorem ArAt.sub(h:ArAt L w a ws ts)(hs: ∀b,L' b->L b):ArAt L' w a ws ts:=h.move (h.bd.sub hs) (fun b hb _=>hs b hb) (fun _ _ _=>rfl)
theorem ArAt.alloc(h:ArAt L w a ws ts)(o:Obj):ArAt L (w.alloc o) a ws ts:=
 h.move (h.bd.alloc o) (fun _ hb _=>hb) (fun _ hb _=>Below.heap_alloc _ _ _ hb)
theorem ArAt.allocIns(h:ArAt L w a ws ts)(o:Obj):ArAt (ins L w.heap.size) (w.alloc o) a ws ts:=
 h.move ((h.bd.alloc o).ins (n:=w.heap.size) (by simp)) (fun b hb hlt=>by
  rcases hb with hb | hb
  ·exact hb
  ·omega) (fun _ hb _=>Below.heap_alloc _ _ _ hb)
theorem ArAt.setCell(h:ArAt L w a ws ts){p:Addr}(hp:L p.block)(u:Value):ArAt L (w.setCell p u) a ws ts:=
 h.move (h.bd.setCell p u) (fun _ hb _=>hb) (fun _ _ hn=>Below.heap_setCell _ _ _ _ (fun e=>hn (e▸hp)))
theorem ArAt.drew(h:ArAt L w a ws ts):ArAt L w.drew a ws ts:=h.move h.bd (fun _ hb _=>hb) (fun _ _ _=>rfl)
theorem ArAt.drewN(h:ArAt L w a ws ts)(n:Nat):ArAt L (w.drewN n) a ws ts:=h.move h.bd (fun _ hb _=>hb) (fun _ _ _=>rfl)
theorem ArAt.wsl(h:ArAt L w a ws ts):ws.length<=65536:=by obtain⟨bw,bt,vs,h⟩:=h;exact h.wsl
theorem ArAt.tsl(h:ArAt L w a ws ts):ts.length<=8:=by obtain⟨bw,bt,vs,h⟩:=h;exact h.tsl
end
def rd(ws:List Int)(i:Int):Int:=ws.getD i.toNat 0
def wr(ws:List Int)(i v:Int):List Int:=ws.set i.toNat v
def tr(ts:List (List Acc))(c:Int):List Acc:=ts.getD c.toNat []
def noted(ts:List (List Acc))(c:Int)(x:Acc):List (List Acc):=ts.set c.toNat (tr ts c++[x])
@[simp,go_sem] theorem wr_length (ws:List Int) (i v:Int):(wr ws i v).length=ws.length:=by simp[wr]
@[simp,go_sem] theorem noted_length (ts:List (List Acc)) (c:Int) (x:Acc):(noted ts c x).length=ts.length:=by simp[noted]
def Short(m:Nat)(ts:List (List Acc)):Prop:=∀t∈ts,t.length<=m
theorem Short.at_{m:Nat}{c:Int}{ts:List (List Acc)}(h:Short m ts):(tr ts c).length<=m:=by
 unfold tr
 rw[List.getD_eq_getElem?_getD]
 rcases hx:ts[c.toNat]? with _ | t
 ·simp
 ·exact h t (List.mem_of_getElem? hx)
theorem Short.noted{m:Nat}{c:Int}{ts:List (List Acc)}(h:Short m ts)(x:Acc):Short (m+1) (noted ts c x):=by
 intro t ht
 rcases List.mem_or_eq_of_mem_set ht with ht | rfl
 ·have:=h t ht;omega
 ·have:=h.at_ (c:=c)
  rw[List.length_append,List.length_singleton];omega
theorem Short.mono{m m':Nat}{ts:List (List Acc)}(h:Short m ts)(hm:m<=m'):Short m' ts:=fun t ht=>Nat.le_trans (h t ht) hm
end
section
open Go.RowKit
set_option maxHeartbeats 400000
theorem info_any:(Tryz.prog.info? 20).map (fun i=>(i.zero,i.size,i.bytes))=some (some .nilIface,1,16):=by kernel_rfl
section
variable{L:Nat->Prop}{w:World}{a bw bt:Nat}{vs:List Value}{ws:List Int}{ts:List (List Acc)}
theorem ArIn.c0(h:ArIn L w a bw bt vs ws ts):w.cell? ⟨a,0,none⟩=some (.slice (some ⟨bw,0,none⟩) ws.length ws.length):=by rw[h.ba.cell];rfl
theorem ArIn.c1(h:ArIn L w a bw bt vs ws ts):w.cell? ⟨a,1,none⟩=some (.slice (some ⟨bt,0,none⟩) ts.length ts.length):=by rw[h.ba.cell];rfl
theorem ArIn.cw(h:ArIn L w a bw bt vs ws ts){i:Nat}(hi:i<ws.length):w.cell? ⟨bw,i,none⟩=some (.int .i64 (ws.getD i 0)):=by
 rw[h.bws.cell];simp[hi,List.getD]
theorem ArIn.ct(h:ArIn L w a bw bt vs ws ts){c:Nat}(hc:c<ts.length):w.cell? ⟨bt,c,none⟩=some (vs.getD c undef):=by
 rw[h.bts.cell];simp[h.vl,hc,List.getD]
theorem core_ok(h:ArAt L w a ws ts)(c:Int)(h0:0<=c)(h1:c<ts.length):
  Calls Tryz.prog 72 #[.pointer (some ⟨a,0,none⟩),.int .i64 c] w fun e w'=>e= .returned (.int .i64 0)/\w=w':=by
 obtain⟨bw,bt,vs,h⟩:=h
 have c1:=h.c1
 have hl:=h.tsl
 clear h
 go_enter Tryz.func72,Tryz.ntmps72
 go_wp2
 go_ret
 exact⟨rfl,rfl⟩
theorem place_ok(h:ArAt L w a ws ts)(c i:Int)(h0:0<=c)(h1:c<ts.length)(h2:0<=i)(h3:i<ws.length):
  Calls Tryz.prog 202 #[.pointer (some ⟨a,0,none⟩),.int .i64 c,.int .i64 i] w fun e w'=>e= .returned (.int .i64 0)/\w=w':=by
 have hc:=core_ok h c h0 h1
 have hc':=lhi hc
 clear hc
 obtain⟨bw,bt,vs,h⟩:=h
 have c0:=h.c0
 have hl:=h.wsl
 clear h
 go_enter Tryz.func202,Tryz.ntmps202
 go_wp2_with (go_at_call 72;refine hc'.out.mono ?_;rintro e w' ⟨rfl,rfl⟩)
 go_ret
 exact⟨rfl,rfl⟩
end
end
end Go.Proofs.YtkebjgebkneijaaGreat
