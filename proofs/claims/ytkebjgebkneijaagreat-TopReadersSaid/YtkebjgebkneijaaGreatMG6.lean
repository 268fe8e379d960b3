/- Texts of one's own that a claim's last text rests on: Mf12 HeldE Qin Qin2 HeldF HeldG Mf13. -/
import Derived.Test.YtkebjgebkneijaaGreatMG5
import Derived.Test.YtkebjgebkneijaaGreatMG1
import Derived.Deep.RegionHeld3
import Derived.BigQuiet
import Derived.IntWalk
import Derived.Lib.Hide
import Derived.Deep.MidRow
set_option linter.unusedVariables false
set_option linter.unusedSimpArgs false
namespace Go.Proofs.YtkebjgebkneijaaGreat
open Go.RowKit
set_option maxHeartbeats 16000000
set_option maxRecDepth 1000000
def Mem.setW(M:Mem)(c i:Int)(t:Co):Mem:=((M.give c t).put i (M.next c)).note c (i,true)
theorem Mem.ok.setW{M:Mem}{m:Nat}(h:M.ok m)(c i:Int)(t:Co):(M.setW c i t).ok (m+2):=((h.give c t).put i _).note c _
section
variable{L:Nat->Prop}{w:World}{s:Nat}{M:Mem}{m:Nat}
theorem Vl(h:Ab L w s M)(hok:M.ok m)(hm:m<=1000000000){c i v:Int}(hc:0<=c/\c<M.ts.length)(hi:0<=i/\i<9549){a:Nat}(ha:w.cell? ⟨s,0,none⟩=some (.pointer (some ⟨a,0,none⟩))):
  Calls Tryz.prog 163 #[.pointer (some ⟨a,0,none⟩),.int .i64 c,.int .i64 i,.int .i64 v] w fun e w'=>(e= .returned (.int .i64 0)/\w'.cell? ⟨s,0,none⟩=w.cell? ⟨s,0,none⟩)/\Ab L w' s ((M.put i v).note c (i,true))/\Kp L w w':=by
 obtain⟨a',L1,h0,har,hback⟩:=h.lend
 have e:a'=a:=by
  rw[h0]at ha
  injection ha with ha
  injection ha with ha
  injection ha with ha
  injection ha
 subst e
 refine(Afz har (Room.of hok.sh (by omega)) hc (i:=i) (by rw[hok.wl];exact hi) rfl rfl).mono ?_
 rintro e w' ⟨rfl,hA,hK⟩
 obtain⟨h1,h2,h3,h4⟩:=hback w' _ _ (by simp) hA hK
 exact⟨⟨rfl,h4.trans h0.symm⟩,h1,h2,h3⟩
theorem Ady(h:Ab L w s M)(hok:M.ok m)(hm:m<=900000000){c i:Int}(hc:0<=c/\c<M.ts.length)(hi:0<=i/\i<9549){sp:Nat}(hL:L sp)(s0:w.cell? ⟨sp,0,none⟩=some (.pointer (some ⟨s,0,none⟩)))(s1:w.cell? ⟨sp,1,none⟩=some (.int .i64 c))
  {ty:TypeId} {x:Value} {t:Co} (ht:Dx L w (.iface ty x) t):
  Calls Tryz.prog 195 #[.pointer (some ⟨sp,0,none⟩),.int .i64 i,.iface ty x] w fun e w'=>e= .returned (.tuple #[])/\Ab L w' s (M.setW c i t)/\Kp L w w':=by
 obtain⟨a,L1,h0,-,-⟩:=h.lend
 have HG:=lhi (Up h.drew hok (by omega) hc (ht.ki (KI.refl _)))
 have HS:=lhi (fun(w':World) (hM:Ab L w' s (M.give c t)) (ha:w'.cell? ⟨s,0,none⟩=some (.pointer (some ⟨a,0,none⟩)))=>Vl hM (hok.give c t) (by omega) hc hi (v:=M.next c) ha)
 have HPD:=lhi (show w.drew.cell? ⟨sp,0,none⟩=some (.pointer (some ⟨s,0,none⟩))/\w.drew.cell? ⟨sp,1,none⟩=some (.int .i64 c)/\w.drew.cell? ⟨s,0,none⟩=some (.pointer (some ⟨a,0,none⟩))from⟨s0,s1,h0⟩)
 have HL:=lhi hL
 clear h hok hi ht hL
 obtain⟨nx,hnx⟩: ∃y,M.next c=y:=⟨_,rfl⟩
 have HX:=lhi (show M.setW c i t=((M.give c t).put i nx).note c (i,true)by rw[<-hnx];rfl)
 rw[hnx]at HG HS
 clear hnx
 go_enter Tryz.func195,Tryz.ntmps195
 go_region_held3 (fun w'=>w'.cell? ⟨sp,0,none⟩=some (.pointer (some ⟨s,0,none⟩))/\w'.cell? ⟨sp,1,none⟩=some (.int .i64 c)/\w'.cell? ⟨s,0,none⟩=some (.pointer (some ⟨a,0,none⟩)))
  (with_reducible first | exact HPD.out | exact⟨z0,z1,z2⟩ | exact⟨z3,z4,z5⟩)
  ((first
   | (go_at_call 66;refine HG.out.mono ?_;rintro e w1 ⟨⟨rfl,hc0⟩,hM,hK⟩;have HM:=lhi hM;have HK:=lhi hK;have z0:=hK.cellOf (p:=⟨sp,0,none⟩) HL.out HPD.out.1;have z1:=hK.cellOf (p:=⟨sp,1,none⟩) HL.out HPD.out.2.1;have z2:=hc0.trans HPD.out.2.2;clear hM hK hc0)
   | (go_at_call 163;refine(HS.out _ HM.out z2).mono ?_;rintro e w2 ⟨⟨rfl,hc0⟩,hM2,hK2⟩;have HM2:=lhi hM2;have HK2:=lhi hK2;have z3:=hK2.cellOf (p:=⟨sp,0,none⟩) HL.out z0;have z4:=hK2.cellOf (p:=⟨sp,1,none⟩) HL.out z1;have z5:=hc0.trans z2;clear hM2 hK2 hc0)))
 all_goals
  go_wp2_with (fail)
  go_end0
  exact⟨rfl,by rw[HX.out];exact HM2.out,(HK.out.trans HK2.out).undrew'⟩
end
section
variable{P:Program}{ops:Array Oper}{Q:Exit->Act->World->Prop}{md:Region.Mode}{S:World->Prop}
def Ef(P:Program)(md:Region.Mode)(ops:Array Oper)(Q:Exit->Act->World->Prop)(S:World->Prop)(L:Nat):Nat->Array Bool->Act->World->Prop
 | 0,listed,a,w=>Region.ready md ops listed=[]/\Q .normal a w
 | fuel+1,listed,a,w=>
  (Region.ready md ops listed=[]->Q .normal a w)/\
  ∀i∈Region.ready md ops listed,wpOp P ops Q i (fun a' w'=>(i≠L->S w')/\Ef P md ops Q S L fuel (listed.setIfInBounds i true) a' w') a w
theorem Qq{L:Nat}: ∀(fuel:Nat) (listed:Array Bool) (a:Act) (w:World),Ef P md ops Q S L fuel listed a w->wpAny P md ops Q fuel listed a w
 | 0,_,_,_,h=>h
 | fuel+1,_,_,_,h=>⟨h.1,fun i hi=>wpOp_mono (fun a' w' h'=>Qq fuel _ a' w' h'.2) (h.2 i hi)⟩
theorem Cn{L:Nat}{listed:Array Bool}{a:Act}{w:World}(hr:Region.ready md ops listed=[])(h:Q .normal a w):
  ∀fuel,Ef P md ops Q S L fuel listed a w
 | 0=>⟨hr,h⟩
 | _+1=>⟨fun _=>h,by rw[hr];simp⟩
theorem Ap{L i:Nat}{o:Oper}{fuel:Nat}{listed:Array Bool}{a:Act}{w:World}(hr:Region.ready md ops listed=[i])(ho:ops[i]? =some o)
  (h: ∀K':Act->World->Prop,Shut (∀a w,(i≠L->S w)->((i≠L->S w)->Ef P md ops Q S L fuel (listed.setIfInBounds i true) a w)->K' a w)->if Region.wanted o (yielded ops a.tmps)=true then Oper.wp P o a w K' Q else K' (a.put o.dst undef) w):
  Ef P md ops Q S L (fuel+1) listed a w:=by
 refine⟨fun h0=>(by rw[hr]at h0;cases h0),fun j hj=>?_⟩
 rw[hr]at hj
 obtain rfl:=List.mem_singleton.1 hj
 exact wpOp_step ho (fun K' hK=>h K' (fun a w hS hW=>hK a w ⟨hS,hW hS⟩))
theorem Af{id L:Nat}{a:Act}{w:World}(hm:P.follows .mixedOrders=true)(hS:S w.drew)
  (h:S w.drew->Ef P .any ops Q S L ops.size (Array.replicate ops.size false) a w.drew):(Code.region id ops true).wp P Q a w:=
 wp_region_any hm (Qq _ _ _ _ (h hS))
end
structure WIn (C:World->Prop) where
 v:World
 h:C v
theorem Be{P:Program}{id:Nat}{Q:Exit->Act->World->Prop}{a:Act}{w:World}{l:List Oper}{C:World->Prop}(hm:P.follows .mixedOrders=true)(hB:Region.lexB .any l.toArray=true)(hC:C w.drew)
  (h:wpQuiet P l.toArray (fun w'=>∃x:WIn C,w'=x.v) (fun a'=>∀w',(∃x:WIn C,w'=x.v)->Q .normal a' w') l a):(Code.region id l.toArray true).wp P Q a w:=
 wp_region_quiet (C:=fun w'=>∃x:WIn C,w'=x.v) hm hB ⟨⟨w.drew,hC⟩,rfl⟩ (by simpa using h)
theorem Calls.win{P:Program}{f:FuncId}{args:Array Value}{C:World->Prop}{W:World}{v:Value}(h:Calls P f args W fun e w'=>e= .returned v/\C w'):Calls P f args W fun e w''=>e= .returned v/\ ∃x:WIn C,w''=x.v:=
 h.mono fun _ w' ⟨he,hc⟩=>⟨he,⟨w',hc⟩,rfl⟩
def Bel(w:World):World->Prop:=fun W=>Below w.heap.size w W
instance (w:World):Nonempty (WIn (Bel w)):=⟨⟨w,Amf _ _⟩⟩
theorem Bel.drew(w:World):Bel w w.drew:=⟨rfl,rfl,rfl,Ama _,fun _ _=>rfl⟩
theorem WIn.cell{w:World}(x:WIn (Bel w)){p:Addr}{v:Value}(h:w.cell? p=some v):x.v.cell? p=some v:=(x.h.cell (Amd _ _ h)).trans h
theorem Calls.bel{P:Program}{f:FuncId}{args:Array Value}{w:World}(x:WIn (Bel w)){v:Value}(h:Calls P f args x.v fun e w'=>e= .returned v/\Below x.v.heap.size x.v w'):Calls P f args x.v fun e w''=>e= .returned v/\ ∃y:WIn (Bel w),w''=y.v:=
 Calls.win (h.mono fun _ w' ⟨he,hc⟩=>⟨he,x.h.trans (hc.mono x.h.size)⟩)
section
variable{P:Program}{ops:Array Oper}{md:Region.Mode}{C:World->Prop}{Q:Exit->Act->World->Prop}
def Ach(md:Region.Mode)(ops:Array Oper)(k j:Nat):Bool:=match ops[k]? with
 | some o=>o.after.toList.any fun e=>Region.binds md e&&e.on==j
 | none=>false
def Sf(md:Region.Mode)(ops:Array Oper)(L:Nat):Bool:=(List.range ops.size).all fun j=>j==L|| (List.range ops.size).any fun k=>decide (j<k)&&Ach md ops k j
def Aas(md:Region.Mode)(ops:Array Oper):Bool:=(List.range ops.size).all fun i=>match ops[i]? with
 | some o=>o.after.toList.all fun e=>!Region.binds md e||decide (e.on<i)
 | none=>true
def Down(md:Region.Mode)(ops:Array Oper)(listed:Array Bool):Prop:=∀k o,ops[k]? =some o->listed.getD k false=true-> ∀e∈o.after,Region.binds md e=true->listed.getD e.on false=true
theorem Aau{k j:Nat}(h:Ach md ops k j=true): ∃o,ops[k]? =some o/\ ∃e∈o.after,Region.binds md e=true/\e.on=j:=by
 unfold Ach at h
 cases ho:ops[k]? with
 | none=>rw[ho]at h;cases h
 | some o=>
  rw[ho]at h
  simp only[List.any_eq_true,Bool.and_eq_true,beq_iff_eq]at h
  obtain⟨e,he,hb,heq⟩:=h
  exact⟨o,rfl,e,Array.mem_toList_iff.1 he,hb,heq⟩
theorem Mv{L:Nat}{listed:Array Bool}(hs:listed.size=ops.size)(hl:Sf md ops L=true)(hd:Down md ops listed)(hL:L∈Region.ready md ops listed): ∀(d j:Nat),ops.size - j<=d->j<ops.size->j≠L->listed.getD j false=true
 | 0,j,h1,h2,_=>by omega
 | d+1,j,h1,h2,h3=>by
  have hl2:=hl
  unfold Sf at hl2
  rw[List.all_eq_true]at hl2
  have h4:=hl2 j (List.mem_range.2 h2)
  rw[Bool.or_eq_true]at h4
  rcases h4 with h4 | h4
  ·exact absurd (by simpa using h4) h3
  ·rw[List.any_eq_true]at h4
   obtain⟨k,hk,h5⟩:=h4
   have hk:=List.mem_range.1 hk
   rw[Bool.and_eq_true,decide_eq_true_eq]at h5
   obtain⟨o,ho,e,he,hb,rfl⟩:=Aau h5.2
   by_cases hkL:k=L
   ·subst hkL
    obtain⟨-,o',ho',hall⟩:=mem_ready.1 hL
    rw[ho]at ho'
    cases ho'
    exact hall e he hb
   ·exact hd k o ho (Mv hs hl hd hL d k (by omega) hk hkL) e he hb
theorem Ri{listed:Array Bool}(hs:listed.size=ops.size)(hb:Aas md ops=true): ∀(n i:Nat),i<=n->i<ops.size->listed.getD i true=false->Region.ready md ops listed≠[]
 | n,i,hn,hi,hu=>by
  intro he
  have hni:i∉Region.ready md ops listed:=by rw[he];simp
  rw[mem_ready]at hni
  have ho:ops[i]? =some ops[i]:=Array.getElem?_eq_getElem hi
  have: ∃e∈ops[i].after,Region.binds md e=true/\listed.getD e.on false≠true:=by
   by_cases q: ∃e∈ops[i].after,Region.binds md e=true/\listed.getD e.on false≠true
   ·exact q
   ·refine absurd ⟨hu,_,ho,fun e he hb=>?_⟩ hni
    by_cases q2:listed.getD e.on false=true
    ·exact q2
    ·exact absurd ⟨e,he,hb,q2⟩ q
  obtain⟨e,hm,hbi,hne⟩:=this
  unfold Aas at hb
  rw[List.all_eq_true]at hb
  have h1:=hb i (List.mem_range.2 hi)
  rw[ho]at h1
  have h1:(ops[i].after.toList.all fun e=>!Region.binds md e||decide (e.on<i))=true:=h1
  rw[List.all_eq_true]at h1
  have h2:=h1 e (Array.mem_toList_iff.2 hm)
  rw[hbi]at h2
  have hlt:e.on<i:=by simpa using h2
  have h3:listed.getD e.on true=false:=by
   have hsz:e.on<listed.size:=by omega
   simp[hsz]at hne⊢
   exact hne
  cases n with
  | zero=>omega
  | succ n=>exact Ri hs (by unfold Aas;rw[List.all_eq_true];exact hb) n e.on (by omega) (by omega) h3 he
theorem Aa2{listed:Array Bool}{a:Act}{w:World}(hr:Region.ready md ops listed=[])(h:Q .normal a w): ∀fuel,wpAny P md ops Q fuel listed a w
 | 0=>⟨hr,h⟩
 | _+1=>⟨fun _=>h,by rw[hr];simp⟩
theorem Qp{L:Nat}(hL:L<ops.size)(hl:Sf md ops L=true)(hb:Aas md ops=true): ∀(fuel:Nat) (listed:Array Bool) (a:Act) (w:World),C w->listed.size=ops.size->listed.getD L true=false->Down md ops listed->
  wpAnyQ P md ops C (fun a=>∀w,C w->wpOp P ops Q L (fun a' w'=>Q .normal a' w') a w) fuel (listed.setIfInBounds L true) a->wpAny P md ops Q (fuel+1) listed a w
 | fuel,listed,a,w,hC,hs,hu,hd,h=>by
  refine⟨fun h0=>absurd h0 (Ri hs hb L L (Ama _) hL hu),fun i hi=>?_⟩
  by_cases e:i=L
  ·subst e
   have hall:=Mv hs hl hd hi
   have hnil:Region.ready md ops (listed.setIfInBounds i true)=[]:=by
    rw[List.eq_nil_iff_forall_not_mem]
    intro j hj
    obtain⟨hun,o,ho,-⟩:=mem_ready.1 hj
    have hjl:j<ops.size:=(Array.getElem?_eq_some_iff.1 ho).1
    by_cases q:j=i
    ·subst q
     simp[hs,hjl]at hun
    ·rw[getD_set_ne true (Ne.symm q)]at hun
     have:=hall (ops.size - j) j (Ama _) hjl q
     simp[hs,hjl]at hun this
     rw[hun]at this;cases this
   have hq:wpOp P ops Q i (fun a' w'=>Q .normal a' w') a w:=by
    cases fuel with
    | zero=>exact h.2 w hC
    | succ f=>exact h.1 hnil w hC
   exact wpOp_mono (fun a' w' hq=>Aa2 hnil hq fuel) hq
  ·have hi2:=ready_mono hi e
   cases fuel with
   | zero=>
    have:=h.1
    rw[this]at hi2;cases hi2
   | succ f=>
    refine wpOp_of_qOp hC (fun a' w' hC' hq=>?_) (h.2 i hi2)
    rw[Array.setIfInBounds_comm _ _ (Ne.symm e)]at hq
    refine Qp hL hl hb f (listed.setIfInBounds i true) a' w' hC' (by simpa using hs) (by rw[getD_set_ne true e];exact hu) (fun k o ho hk e' he' hb'=>?_) hq
    by_cases q:k=i
    ·subst q
     obtain⟨-,o',ho',hall⟩:=mem_ready.1 hi
     rw[ho]at ho'
     cases ho'
     exact getD_set_true (hall e' he' hb')
    ·rw[getD_set_ne false (Ne.symm q)]at hk
     exact getD_set_true (hd k o ho hk e' he' hb')
theorem Ad1(n k:Nat):(Array.replicate n false).getD k false=false:=by
 rw[Array.getD_eq_getD_getElem?,Array.getElem?_replicate]
 split <;> rfl
theorem Pd{Q:Act->Prop}(hs:Region.noSelect ops=true): ∀(l:List Oper) (k:Nat) (listed:Array Bool) (a:Act),(∀j,j<l.length->l[j]? =ops[k+j]?)->
  Region.lexFrom md ops l.length k listed=true->wpQuiet P ops C Q l a->wpAnyQ P md ops C Q l.length listed a
 | [],_,_,_,_,hB,h=>⟨by simpa[Region.lexFrom]using hB,h⟩
 | o::l,k,listed,a,hl,hB,h=>by
  have h0:ops[k]? =some o:=by simpa using(hl 0 (by simp)).symm
  simp only[List.length_cons,Region.lexFrom,Bool.and_eq_true]at hB
  obtain⟨⟨hr,hf⟩,hB'⟩:=hB
  have hst:qOp P ops C k (wpQuiet P ops C Q l) a:=by unfold qOp;simp only[h0];exact h
  obtain⟨v,hy,hK⟩:=yieldsIn_of_qOp h0 hst
  exact wpAnyQ_first h0 (Region.noSelect_spec hs) l.length listed a (Region.free_spec h0 hf) (by simpa using hr) hy
   (Pd hs l (k+1) _ _ (fun j hj=>by have:=hl (j+1) (by simp;omega);simpa[Nat.add_assoc,Nat.add_comm 1 j]using this) hB' hK)
def Then(P:Program)(ops:Array Oper)(Q:Exit->Act->World->Prop)(L:Nat)(a:Act)(w:World):Prop:=wpOp P ops Q L (fun a' w'=>Q .normal a' w') a w
theorem Qe{L:Nat}{o:Oper}{a:Act}{w:World}(ho:ops[L]? =some o)(h: ∀K:Act->World->Prop,Hid (∀a w,Q .normal a w->K a w)->if Region.wanted o (yielded ops a.tmps)=true then Oper.wp P o a w K Q else K (a.put o.dst undef) w):Then P ops Q L a w:=by
 unfold Then wpOp
 rw[ho]
 have:=h _ (lhi fun _ _ h=>h)
 show if _ then _ else _
 split
 ·rename_i hw;rw[if_pos hw]at this;exact .inl this
 ·rename_i hw;rw[if_neg hw]at this;exact this
theorem Fa{id:Nat}{a:Act}{w:World}{l:List Oper}(C:World->Prop)(hm:P.follows .mixedOrders=true)(hn:Region.noSelect l.toArray=true)(hB:Region.lexFrom .any l.toArray l.dropLast.length 0 ((Array.replicate l.toArray.size false).setIfInBounds l.dropLast.length true)=true)
  (hl:Sf .any l.toArray l.dropLast.length=true) (hb:Aas .any l.toArray=true) (hne:l.dropLast.length<l.length) (hC:C w.drew)
  (h:wpQuiet P l.toArray (fun w'=>∃x:WIn C,w'=x.v) (fun a'=>∀w',(∃x:WIn C,w'=x.v)->Then P l.toArray Q l.dropLast.length a' w') l.dropLast a):(Code.region id l.toArray true).wp P Q a w:=by
 have hsz:l.toArray.size=l.dropLast.length+1:=by simp at hne⊢;omega
 refine wp_region_any hm ?_
 rw[hsz]at hB⊢
 refine Qp (C:=fun w'=>∃x:WIn C,w'=x.v) (L:=l.dropLast.length) (by omega) hl hb _ _ a _ ⟨⟨w.drew,hC⟩,rfl⟩ (by simp[hsz]) (by simp) (fun k o ho hk=>?_) ?_
 ·exfalso
  rw[Ad1]at hk
  cases hk
 ·refine Pd hn l.dropLast 0 _ a (fun j hj=>?_) hB h
  rw[Nat.zero_add,List.getElem?_dropLast,if_pos (by simpa using hj)]
  simp
end
section
variable{P:Program}{ops:Array Oper}{Q:Exit->Act->World->Prop}{md:Region.Mode}{S:World->Prop}
def Ade(md:Region.Mode)(ops:Array Oper)(listed:Array Bool):Bool:=(listed.size==ops.size)&& (List.range ops.size).all fun k=>!listed.getD k false||match ops[k]? with
 | some o=>o.after.toList.all fun e=>!Region.binds md e||listed.getD e.on false
 | none=>true
theorem Ab2{listed:Array Bool}(h:Ade md ops listed=true):listed.size=ops.size/\Down md ops listed:=by
 unfold Ade at h
 rw[Bool.and_eq_true,List.all_eq_true]at h
 refine⟨by simpa using h.1,fun k o ho hk e he hb=>?_⟩
 have h1:=h.2 k (List.mem_range.2 (Array.getElem?_eq_some_iff.1 ho).1)
 rw[hk,ho]at h1
 have h1:(o.after.toList.all fun e=>!Region.binds md e||listed.getD e.on false)=true:=by simpa using h1
 rw[List.all_eq_true]at h1
 have h2:=h1 e (Array.mem_toList_iff.2 he)
 rw[hb]at h2
 simpa using h2
theorem Down.set{listed:Array Bool}{j:Nat}(hd:Down md ops listed)(hj:j∈Region.ready md ops listed):Down md ops (listed.setIfInBounds j true):=fun k o ho hk e' he' hb'=>by
 by_cases q:k=j
 ·subst q
  obtain⟨-,o',ho',hall⟩:=mem_ready.1 hj
  rw[ho]at ho'
  cases ho'
  exact getD_set_true (hall e' he' hb')
 ·rw[getD_set_ne false (Ne.symm q)]at hk
  exact getD_set_true (hd k o ho hk e' he' hb')
theorem Tq{L i:Nat}{oi:Oper}{v:Value}(hi:ops[i]? =some oi)(hsel: ∀(j:Nat) (o:Oper) cs b,ops[j]? =some o->o.op≠.select cs b)
  (hQ: ∀c a w,Q (.panic c) (a.put oi.dst v) w->Q (.panic c) a w) (hl:Sf md ops L=true) (hLi:i≠L):
  ∀(fuel:Nat) (listed:Array Bool) (a:Act) (w:World),listed.size=ops.size->Down md ops listed->
   (∀j oj,ops[j]? =some oj->j≠i->listed.getD j true=false->(∀e∈oj.after,Region.binds md e=true->e.on≠i)->oi.apart ops oj=true)->
   i∈Region.ready md ops listed->YieldsIf P ops S oi v a->S w->
   Ef P md ops Q S L fuel (listed.setIfInBounds i true) (a.put oi.dst v) w->Ef P md ops Q S L (fuel+1) listed a w:=by
 intro fuel
 induction fuel with
 | zero=>
  intro listed a w _ _ _ hr hy hS H
  refine⟨fun h=>(by rw[h]at hr;cases hr),fun j hj=>?_⟩
  by_cases hji:j=i
  ·subst hji;exact hy.wpOp hi hS ⟨fun _=>hS,H⟩
  ·have:=ready_mono hj hji
   rw[H.1]at this
   cases this
 | succ fuel ih=>
  intro listed a w hsz hdn hfree hr hy hS H
  refine⟨fun h=>(by rw[h]at hr;cases hr),fun j hj=>?_⟩
  by_cases hji:j=i
  ·subst hji;exact hy.wpOp hi hS ⟨fun _=>hS,H⟩
  ·have h1:=H.2 j (ready_mono hj hji)
   obtain⟨hjun,oj,hoj,hall⟩:=mem_ready.1 hj
   have hnot: ∀e∈oj.after,Region.binds md e=true->e.on≠i:=fun e he hb heq=>by
    have h1:=hall e he hb
    have h0:=(mem_ready.1 hr).1
    rw[heq]at h1
    rcases Nat.lt_or_ge i listed.size with h' | h'
    ·simp[h']at h0 h1;rw[h0]at h1;cases h1
    ·simp[Array.getElem?_eq_none h']at h1
   have hjL:j≠L:=by
    rintro rfl
    have h2:=Mv hsz hl hdn hj (ops.size - i) i (Ama _) (Array.getElem?_eq_some_iff.1 hi).1 hLi
    have h0:=(mem_ready.1 hr).1
    rcases Nat.lt_or_ge i listed.size with h' | h'
    ·simp[h']at h0 h2;rw[h0]at h2;cases h2
    ·simp[Array.getElem?_eq_none h']at h2
   have h2:=wpOp_putIf hoj (hfree j oj hoj hji hjun hnot) (fun cs b=>hsel i oi cs b hi) (fun cs b=>hsel j oj cs b hoj) hQ hy h1
   have hfree': ∀k ok,ops[k]? =some ok->k≠i->(listed.setIfInBounds j true).getD k true=false->
     (∀e∈ok.after,Region.binds md e=true->e.on≠i)->oi.apart ops ok=true:=fun k ok hk hki hun hno=>by
    refine hfree k ok hk hki ?_ hno
    by_cases hjk:j=k
    ·subst hjk;exact hjun
    ·rw[getD_set_ne true hjk]at hun;exact hun
   refine wpOp_mono (fun a' w' h3=>⟨fun _=>h3.2.1 hjL,ih (listed.setIfInBounds j true) a' w' (by simpa using hsz) (hdn.set hj) hfree' (ready_mono hr (Ne.symm hji)) h3.1 (h3.2.1 hjL) ?_⟩) h2
   rw[Array.setIfInBounds_comm _ _ hji]
   exact h3.2.2
theorem Xi{L i:Nat}{oi:Oper}{v:Value}{fuel:Nat}{listed:Array Bool}{a:Act}{w:World}(hi:ops[i]? =some oi)
  (hc:(Region.noSelect ops&& (Region.free md ops listed i&& ((Region.ready md ops listed).contains i&& (Sf md ops L&& (Ade md ops listed&& (i != L))))))=true)
  (hQ: ∀c a w,Q (.panic c) (a.put oi.dst v) w->Q (.panic c) a w) (hy:YieldsIf P ops S oi v a) (hS:S w)
  (h:Ef P md ops Q S L fuel (listed.setIfInBounds i true) (a.put oi.dst v) w):Ef P md ops Q S L (fuel+1) listed a w:=by
 simp only[Bool.and_eq_true]at hc
 obtain⟨hs,hf,hr,hl,hd,hn⟩:=hc
 obtain⟨hsz,hdn⟩:=Ab2 hd
 exact Tq hi (Region.noSelect_spec hs) hQ hl (by simpa using hn) fuel listed a w hsz hdn (Region.free_spec hi hf) (by simpa using hr) hy hS h
end
section
variable{P:Program}{ops:Array Oper}{Q:Exit->Act->World->Prop}{md:Region.Mode}{S:World->Prop}{L fuel:Nat}{listed:Array Bool}{a a':Act}{w:World}{v:Value}
theorem tF(i:Nat){d:Option Nat}{o:Op}{t:TypeId}{p:String}{af:Array Edge}{g:Option (Nat×Bool)}(k:Ef P md ops Q S L fuel (listed.setIfInBounds i true) a' w)(hi:ops[i]? =some ⟨d,o,t,p,af,g⟩:=by rfl)
  (hc:(Region.noSelect ops&& (Region.free md ops listed i&& ((Region.ready md ops listed).contains i&& (Sf md ops L&& (Ade md ops listed&& (i != L))))))=true:=by kernel_rfl)
  (hQ: ∀c a w,Q (.panic c) (a.put d v) w->Q (.panic c) a w:=by exact fun _ _ _ h=>h) (hS:S w:=by assumption)
  (hy:YieldsIf P ops S ⟨d,o,t,p,af,g⟩ v a:=by first | (refine Or.inl ⟨by kernel_rfl,fun w hSw=>?_⟩;go_simp;rfl) | exact Or.inr ⟨by kernel_rfl,rfl⟩)
  (ha:a.put d v=a':=by simp only[Act.put,lTA,lC0,lCS];rfl):Ef P md ops Q S L (fuel+1) listed a w:=by
 subst ha
 exact Xi hi hc hQ hy hS k
theorem tH(i:Nat){d:Option Nat}{o:Op}{t:TypeId}{p:String}{af:Array Edge}{g:Option (Nat×Bool)}(k:wpAnyH P md ops Q S fuel (listed.setIfInBounds i true) a' w)(hi:ops[i]? =some ⟨d,o,t,p,af,g⟩:=by rfl)
  (hc:(Region.noSelect ops&& (Region.free md ops listed i&& (Region.ready md ops listed).contains i))=true:=by kernel_rfl)
  (hQ: ∀c a w,Q (.panic c) (a.put d v) w->Q (.panic c) a w:=by exact fun _ _ _ h=>h) (hS:S w:=by assumption)
  (hy:YieldsIf P ops S ⟨d,o,t,p,af,g⟩ v a:=by first | (refine Or.inl ⟨by kernel_rfl,fun w hSw=>?_⟩;go_simp;rfl) | exact Or.inr ⟨by kernel_rfl,rfl⟩)
  (ha:a.put d v=a':=by simp only[Act.put,lTA,lC0,lCS];rfl):wpAnyH P md ops Q S (fuel+1) listed a w:=by
 subst ha
 simp only[Bool.and_eq_true]at hc
 exact wpAnyH_take hi hc.1 hc.2.1 hc.2.2 hQ hy hS k
theorem t1(i:Nat){d:Option Nat}{o:Op}{t:TypeId}{p:String}{af:Array Edge}{g:Option (Nat×Bool)}
  (h: ∀K':Act->World->Prop,Shut (∀a w,(i≠L->S w)->((i≠L->S w)->Ef P md ops Q S L fuel (listed.setIfInBounds i true) a w)->K' a w)->if Region.wanted ⟨d,o,t,p,af,g⟩ (yielded ops a.tmps)=true then Oper.wp P ⟨d,o,t,p,af,g⟩ a w K' Q else K' (a.put d undef) w)
  (hr:Region.ready md ops listed=[i]:=by kernel_rfl) (ho:ops[i]? =some ⟨d,o,t,p,af,g⟩:=by rfl):Ef P md ops Q S L (fuel+1) listed a w:=Ap hr ho h
theorem tK{i:Nat}{K:Act->World->Prop}(hK:Shut (∀a w,(i≠L->S w)->((i≠L->S w)->Ef P md ops Q S L fuel listed a w)->K a w))(hS:S w)(h:S w->Ef P md ops Q S L fuel listed a w)(hne:i≠L:=by decide):K a w:=
 hK.out a w (fun _=>hS) fun h'=>h (h' hne)
theorem tL{i:Nat}{K:Act->World->Prop}(hK:Shut (∀a w,(i≠L->S w)->((i≠L->S w)->Ef P md ops Q S L fuel listed a w)->K a w))(h:Q .normal a w)(he:i=L:=by rfl) (hr:Region.ready md ops listed=[]:=by kernel_rfl):K a w:=
 hK.out a w (fun h'=>absurd he h') fun _=>Cn hr h _
end
theorem rdy{P:Program}{md:Region.Mode}{ops:Array Oper}{Q:Exit->Act->World->Prop}{S:World->Prop}{fuel:Nat}{listed:Array Bool}{a:Act}{w:World}(rs:List Nat)(h:AllReadyH P md ops Q S fuel listed a w rs)(hr:Region.ready md ops listed=rs:=by kernel_rfl) (hne:rs≠[]:=by simp):wpAnyH P md ops Q S (fuel+1) listed a w:=wpAnyH_ready hr hne h
theorem Ac2{w:World}{A:Option Addr}{cap:Nat}{ns:List ByteArray}{nm:ByteArray}(h:NmB w (.slice A (ns.length+1) cap) (ns++[nm])): ∃g off cs,A=some ⟨g,off,none⟩/\ns.length+1<=cap/\Blk w g 9 cs/\NmB w (.slice (some ⟨g,off,none⟩) ns.length cap) ns/\w.cell? ⟨g,off+ns.length,none⟩=some (.string nm):=by
 have hl:(ns++[nm]).length=ns.length+1:=by simp
 obtain⟨A',cap',e,h2,h3⟩:=h
 injection e with e1 e2 e3
 subst e1 e3
 obtain⟨g,off,cs,rfl,h4,h5,h6⟩:=h3 (by omega)
 refine⟨g,off,cs,rfl,by omega,h5,⟨_,_,rfl,by omega,fun _=>⟨g,off,cs,rfl,h4,h5,fun i j hi hj=>?_⟩⟩,?_⟩
 ·rw[h6 i j (by omega) hj]
  unfold nmC
  simp only[Ame]
  rw[List.getElem?_append_left hi]
 ·have h7:=h6 ns.length 0 (by omega) (by omega)
  rw[Nat.mul_one,Nat.add_zero]at h7
  rw[h5.cell,h7]
  unfold nmC
  simp[Ame]
structure Mem.same (M M':Mem):Prop where
 ws:M'.ws=M.ws
 nm:M'.nm=M.nm
 ts:M'.ts.length=M.ts.length
theorem Mem.same.refl(M:Mem):M.same M:=⟨rfl,rfl,rfl⟩
theorem Mem.same.trans{M M' M'':Mem}(h:M.same M')(k:M'.same M''):M.same M'':=⟨k.ws.trans h.ws,k.nm.trans h.nm,k.ts.trans h.ts⟩
theorem Mem.same.see(M:Mem)(c i:Int):M.same (M.see c i):=by
 unfold Mem.see Mem.note
 split
 ·exact⟨rfl,rfl,rfl⟩
 ·exact⟨rfl,rfl,by simp⟩
theorem Mem.same.thing{M M':Mem}(h:M.same M')(n:Int):M'.thing n=M.thing n:=by unfold Mem.thing;rw[h.nm]
theorem Mem.same.at_{M M':Mem}(h:M.same M')(i:Int):M'.at_ i=M.at_ i:=by unfold Mem.at_;rw[h.thing,h.ws]
theorem Mem.same.bkt{M M':Mem}(h:M.same M')(n b:Int):M'.bkt n b=M.bkt n b:=by unfold Mem.bkt;rw[h.at_]
theorem Mem.same.bas{M M':Mem}(h:M.same M')(n:Int):M'.bas n=M.bas n:=by unfold Mem.bas;rw[h.at_]
theorem Mem.same.fine{M M':Mem}(h:M.same M')(i:Int):M'.fine i↔M.fine i:=by unfold Mem.fine;rw[h.thing,h.ws]
theorem Mem.same.fit{M M':Mem}(h:M.same M')(hf:M.fit):M'.fit:=by
 refine⟨fun num b h1 h2=>?_,fun num b h1 h2=>?_⟩
 ·obtain⟨⟨q1,q2⟩,q3⟩:=hf.bk num b h1 h2
  exact⟨⟨(h.fine _).2 q1,fun t ht=>q2 t (by rw[<-h.at_];exact ht)⟩,by rw[h.ws];exact q3⟩
 ·rw[h.bkt];exact hf.it num b h1 h2
theorem Mg(c:Int): ∀(ns:List ByteArray) (M:Mem) (it:Item),M.same (Ch c ns M it).2
 | [],M,it=>Mem.same.refl M
 | n::ns,M,it=>by
  rw[Ch]
  split
  ·exact Mem.same.refl M
  ·split
   ·exact Mem.same.see _ _ _
   ·exact(Mem.same.see _ _ _).trans (Mg c ns _ _)
theorem Qw(c:Int): ∀(ns:List ByteArray) (M:Mem) (it:Item) (m:Nat),M.ok m->(Ch c ns M it).2.ok (m+ns.length)
 | [],M,it,m,h=>h
 | n::ns,M,it,m,h=>by
  rw[Ch]
  split
  ·exact h.mono (by simp)
  ·split
   ·exact(h.see _ _).mono (by simp only[List.length_cons];omega)
   ·have:=Qw c ns (M.see c (wd it.num (Aa n:Nat))) (by assumption) (m+1) (h.see _ _)
    rw[List.length_cons,show m+ (ns.length+1)=m+1+ns.length by omega]
    exact this
theorem Lc(c:Int): ∀(ns:List ByteArray) (M:Mem) (it it':Item),M.fit->(1<=it.num/\it.num<=257)->(Ch c ns M it).1= .at_ it'->1<=it'.num/\it'.num<=257
 | [],M,it,it',_,h,e=>by
  have:it=it':=by injection e
  exact this▸h
 | n::ns,M,it,it',hf,h,e=>by
  rw[Ch]at e
  split at e
  ·cases e
  ·split at e
   ·cases e
   ·rename_i i hi
    refine Lc c ns _ i it' (hf.see _ _) ?_ e
    exact(hf.it it.num (Aa n:Nat) h (by have:=Cz n;omega)).2 _ (List.mem_of_find?_eq_some hi)
theorem Vk{W:World}{g n:Nat}{t:TypeId}{cs:Array Value}(h:Blk W g t cs)(hn:n<=cs.size):W.there g 0 n:=fun j hj=>by
 rw[Nat.zero_add,h.cell]
 refine⟨?_,h.frozen j⟩
 rw[Array.getElem?_eq_getElem (by omega)];rfl
def Ux(cs:Array Value):Nat->List Value->Array Value
 | _,[]=>cs
 | i,u::us=>Ux (cs.setIfInBounds i u) (i+1) us
theorem KI.setsC{g:Nat}{t:TypeId}: ∀(us:List Value) (i:Nat) {W:World} {cs:Array Value},Blk W g t cs-> ¬ Dg t->KI W (W.setCells g i us)
 | [],_,_,_,_,_=>KI.refl _
 | u::us,i,_,_,h,ht=>(KI.set h ht i u).trans (KI.setsC us (i+1) (h.set_ i u) ht)
namespace Wk
theorem setAll{L:Nat->Prop}{w:World}{s:Nat}{M:Mem}{Bs:List LB}{Rs:List RB}(hl:Bd L w){g:Nat}{t:TypeId}: ∀(us:List Value) (i:Nat) (cs:Array Value) (W:World),Wk L w s M (⟨g,t,cs⟩::Bs) Rs W->Wk L w s M (⟨g,t,Ux cs i us⟩::Bs) Rs (W.setCells g i us)
 | [],_,_,_,h=>h
 | u::us,i,cs,W,h=>setAll hl us (i+1) _ _ (h.set0 hl i u)
theorem walk_wk{L:Nat->Prop}{w W:World}{s:Nat}{M:Mem}{Bs:List LB}{Rs:List RB}{m:Nat}(h:Wk L w s M Bs Rs W)(hok:M.ok m)(hm:m<=900000000){c:Int}(hc:0<=c/\c<M.ts.length)(hf:M.fit){sp:Nat}(hL:L sp)
  (s0:w.cell? ⟨sp,0,none⟩=some (.pointer (some ⟨s,0,none⟩))) (s1:w.cell? ⟨sp,1,none⟩=some (.int .i64 c)) {v:Value} {ns:List ByteArray} (hv:NmB W v ns) (hn:ns.length<=100) {it:Item} {M1:Mem} (hw:Ch c ns M Av=(.at_ it,M1)):
  Calls Tryz.prog 200 #[.pointer (some ⟨sp,0,none⟩),v] W fun e w'=>(∃tn tc ta,e= .returned (.agg #[.string it.name,.int .i64 it.num,.bool it.dir,.slice ta tn tc]))/\Wk L w s M1 Bs Rs w':=
 h.callL fun K hKL _ hK=>by
  refine(Qs hK hok hm hc hf (hKL _ hL) (h.old hL s0) (h.old hL s1) hv hn).mono ?_
  rintro e w' ⟨h1,h2⟩
  rw[hw]at h1 h2
  exact⟨h1,h2⟩
end Wk
theorem Ad7{L:Nat->Prop}{w:World}{s:Nat}{M M1:Mem}{m:Nat}(h:Ab L w s M)(hok:M.ok m)(hm:m<=800000000){c:Int}(hc:0<=c/\c<M.ts.length)(hf:M.fit)
  {sp:Nat} (hL:L sp) (s0:w.cell? ⟨sp,0,none⟩=some (.pointer (some ⟨s,0,none⟩))) (s1:w.cell? ⟨sp,1,none⟩=some (.int .i64 c)) {path:ByteArray} (hs:path.size<=4611686018427387904)
  {ns:List ByteArray} {nm:ByteArray} (hp:Au path= .ok (ns++[nm])) (hn:ns.length<=100) {it:Item} (hw:Ch c ns M Av=(.at_ it,M1)) (hd:it.dir=true):
  Calls Tryz.prog 197 #[.pointer (some ⟨sp,0,none⟩),.string path] w fun e w'=>(∃tn tc ta bv,e= .returned (.agg (Aj8 it (.slice ta tn tc) nm (wd it.num (Aa nm:Nat)) bv))/\ItB w' bv (M.bkt it.num (Aa nm:Nat)))/\Ab L w' s (M1.see c (wd it.num (Aa nm:Nat)))/\Kp L w w':=by
 have hsame:=Mg c ns M Av
 have hok1:=Qw c ns M Av m hok
 have hnum:=Lc c ns M Av it hf ⟨by decide,by decide⟩ (by rw[hw])
 rw[hw]at hsame hok1
 have HOK1:=lhi (show M1.ok (m+ns.length)from hok1)
 have HF1:=lhi (hsame.fit hf)
 have HTS:=lhi (show Who M1 c from .inr ⟨hc.1,by rw[hsame.ts];exact hc.2⟩)
 have HSB:=lhi (hsame.bkt it.num (Aa nm:Nat))
 have HNB:=lhi (show(0:Int)<= (Aa nm:Nat)/\ ((Aa nm:Nat):Int)<8 by have:=Cz nm;omega)
 have HNU:=lhi hnum
 have HBD:=lhi h.bd
 have HL:=lhi hL
 obtain⟨p4,hp4⟩: ∃p,p=w.heap.size:=⟨_,rfl⟩
 have HW0:=lhi ((Wk.start h).allocAt h.bd #[.string ⟨#[]⟩,.int .i64 0,.bool false,.slice none 0 0,.string ⟨#[]⟩,.int .i64 0,.slice none 0 0] 278 hp4)
 have HNA:=lhi (fun W=>Yq hs W hp)
 have HWA:=lhi (fun(W:World) (v:Value) (Bs:List LB) (hW:Wk L w s M Bs [] W) (hv:NmB W v ns)=>hW.walk_wk hok (by omega) hc hf hL s0 s1 hv hn hw)
 have HS:=lhi (show∀(M':Mem) (Bs:List LB) (W:World),Wk L w s M' Bs [] W->W.cell? ⟨sp,0,none⟩=some (.pointer (some ⟨s,0,none⟩))/\W.cell? ⟨sp,1,none⟩=some (.int .i64 c)from fun M' Bs W hW=>⟨hW.old hL s0,hW.old hL s1⟩)
 have hml:m+ns.length<=1000000000:=by omega
 have HML:=lhi hml
 have HPL:=lhi (show∀v,NmB w v (ns++[nm])->True from fun _ _=>trivial)
 clear h hok hc hf hs hp hw hsame hok1 hnum hL hml HPL
 obtain⟨inm,inu,idr⟩:=it
 obtain rfl:idr=true:=hd
 go_enter Tryz.func197,Tryz.ntmps197
 go_wp2_with (fail)
 rw[<-hp4]
 clear hp4
 generalize w.alloc (.cells #[.string ⟨#[]⟩,.int .i64 0,.bool false,.slice none 0 0,.string ⟨#[]⟩,.int .i64 0,.slice none 0 0] 278)=w1 at*
 refine(HNA.out _).mono ?_
 rintro e w2 ⟨⟨v,rfl,hv,hvq⟩,hb⟩
 obtain⟨A,cap,rfl,-,-⟩:=RowT.at' hv
 have hvl:(ns++[nm]).length=ns.length+1:=by simp
 rw[hvl]at hv hvq⊢
 obtain⟨g,off,cs,rfl,hcap,hblk,hinit,hlast⟩:=Ac2 hv
 have HINIT:=lhi hinit
 have HW2:=lhi (HW0.out.adopt HBD.out hb hblk (hvq g ⟨_,_,_,rfl⟩))
 have HCS:=lhi (show cs[off+ns.length]? =some (.string nm)by rw[<-hblk.cell];exact hlast)
 clear hv hvq hb hinit hblk hlast hvl HNA HW0
 obtain⟨k,hk⟩:=xx ns.length
 rw[hk]at HINIT HCS hcap hn HOK1 HML⊢
 have e0:(((k+1:Nat):Int)==0)=false:=by rw[beq_eq_false_iff_ne];omega
 go_wp2_with (go_at_call 199;refine(Ec _ _).mono ?_;rintro e w' ⟨rfl,rfl⟩)
 refine(HWA.out _ _ _ HW2.out HINIT.out).mono ?_
 rintro e w3 ⟨⟨tn,tc,ta,rfl⟩,hW3⟩
 obtain⟨p7,hp7⟩: ∃p,p=w3.heap.size:=⟨_,rfl⟩
 have HW4:=lhi ((hW3.allocAt HBD.out #[.string inm,.int .i64 inu,.bool true,.slice ta tn tc] 276 hp7).permB (Bs':=[⟨p4,278,#[.string ⟨#[]⟩,.int .i64 0,.bool false,.slice none 0 0,.string ⟨#[]⟩,.int .i64 0,.slice none 0 0]⟩,⟨p7,276,#[.string inm,.int .i64 inu,.bool true,.slice ta tn tc]⟩,⟨g,9,cs⟩]) (by
  refine(List.Perm.cons _ (List.Perm.swap ..)).trans (List.Perm.swap ..)))
 have b1:(w3.alloc (.cells #[.string inm,.int .i64 inu,.bool true,.slice ta tn tc] 276)).cell? ⟨g,off+k,none⟩=some (.string nm):=((HW4.out.bk (.tail _ (.tail _ (.head _)))).cell _).trans HCS.out
 clear hW3 HW2 HWA HINIT
 go_upto_region 7 with(first
  | (go_at_call 199;refine(Ec _ _).mono ?_;rintro e w' ⟨rfl,rfl⟩)
  | (go_at_call 62;refine(Cj nm _).mono ?_;rintro e w4 ⟨rfl,hb4⟩;have HW5:=lhi (HW4.out.below hb4 HBD.out);clear hb4))
 rw[<-hp7]
 clear hp7 b1
 have HS2:=lhi (show∀(M':Mem) (W:World) (x:LB),Wk L w s M' [x,⟨p7,276,#[.string inm,.int .i64 inu,.bool true,.slice ta tn tc]⟩,⟨g,9,cs⟩] [] W->(W.cell? ⟨p7,0,none⟩=some (.string inm)/\W.cell? ⟨p7,1,none⟩=some (.int .i64 inu)/\W.cell? ⟨p7,2,none⟩=some (.bool true)/\W.cell? ⟨p7,3,none⟩=some (.slice ta tn tc)/\W.cell? ⟨g,off+k,none⟩=some (.string nm)/\W.cell? ⟨sp,0,none⟩=some (.pointer (some ⟨s,0,none⟩))/\W.cell? ⟨sp,1,none⟩=some (.int .i64 c))from fun M' W x hW=>by
  have h1:=hW.bk (.tail _ (.head _))
  have h2:=hW.bk (.tail _ (.tail _ (.head _)))
  obtain⟨h3,h4⟩:=HS.out _ _ _ hW
  exact⟨h1.cell 0,h1.cell 1,h1.cell 2,h1.cell 3,(h2.cell _).trans HCS.out,h3,h4⟩)
 have H0:=lhi HW5.out.drew
 have HWD:=lhi (fun W=>Cs inu (Aa nm:Nat) (by have h:1<=inu/\inu<=257:=HNU.out;omega) (by have:=HNB.out;omega) W)
 clear HS
 have hk0:(0:Int)<= (k:Int):=by omega
 have hk1:(k:Int)< ((k+1:Nat):Int):=by omega
 have hk2:(k:Int)< (k:Int)+1:=by omega
 have hk3:k<k+1:=by omega
 refine wp_region_held_drew (S:=fun w'=>(w'.cell? ⟨p7,0,none⟩=some (.string inm)/\w'.cell? ⟨p7,1,none⟩=some (.int .i64 inu)/\w'.cell? ⟨p7,2,none⟩=some (.bool true)/\w'.cell? ⟨p7,3,none⟩=some (.slice ta tn tc)/\w'.cell? ⟨g,off+k,none⟩=some (.string nm)/\w'.cell? ⟨sp,0,none⟩=some (.pointer (some ⟨s,0,none⟩))/\w'.cell? ⟨sp,1,none⟩=some (.int .i64 c))) (by kernel_rfl) (HS2.out _ _ _ H0.out) (fun hHeld=>?_)
 refine tH 0 ?_
 refine tH 1 ?_
 refine tH 2 ?_
 refine tH 3 ?_
 refine tH 4 ?_
 refine tH 5 ?_
 refine tH 6 ?_
 refine tH 7 ?_
 refine tH 8 ?_
 refine tH 10 ?_
 refine tH 11 ?_
 refine tH 12 ?_
 refine tH 13 ?_
 refine tH 14 ?_
 refine tH 15 ?_
 refine tH 16 ?_
 refine tH 17 ?_
 refine wpAnyH_ready (rs:=[9]) (by kernel_rfl) (by simp) ?_
 refine AllReadyH.cons rfl (fun K hK=>?_) AllReadyH.nil
 go_simp
 refine(HWD.out _).mono ?_
 rintro e w' ⟨rfl,rfl⟩
 show K _ _
 refine hK.out _ _ (hHeld) (fun hHeld=>?_)
 clear hK K
 refine wpAnyH_ready (rs:=[18]) (by kernel_rfl) (by simp) ?_
 refine AllReadyH.cons rfl (fun K hK=>?_) AllReadyH.nil
 go_simp
 refine(Wk.bucket_wk H0.out HOK1.out HML.out HTS.out HNU.out HNB.out HF1.out).mono ?_
 rintro e w5 ⟨⟨bv,rfl,hbv⟩,hq⟩
 have HQ:=lhi hq
 have HBV:=lhi hbv
 obtain⟨BA,bcap,rfl,-,-⟩:=RowT.at' hbv
 clear hq hbv
 obtain⟨bn,hbn⟩: ∃n,(M1.bkt inu (Aa nm:Nat)).length=n:=⟨_,rfl⟩
 have HBN:=lhi hbn
 rw[hbn]at HBV
 rw[hbn]
 clear hbn
 show K _ _
 refine hK.out _ _ (HS2.out _ _ _ HQ.out) (fun hHeld=>?_)
 clear hK K
 refine tH 19 ?_
 refine wpAnyH_ready (rs:=[20]) (by kernel_rfl) (by simp) ?_
 refine AllReadyH.cons rfl (fun K hK=>?_) AllReadyH.nil
 rw[if_pos (by kernel_rfl)]
 refine wp_store_mid 278 (.tmp 4) (.tmp 52) rfl p4 0 #[.string inm,.int .i64 inu,.bool true,.slice ta tn tc,.string nm,.int .i64 (wd inu (Aa nm:Nat)),.slice BA bn bcap] rfl rfl (Vk (HQ.out.bk (.head _)) (Ama 7)) (by kernel_rfl) (by simp[Value.oneCell']) ?_
 have HQF:=lhi (show Wk L w s (M1.see c (wd inu (Aa nm:Nat))) [⟨p4,278,Ux #[.string ⟨#[]⟩,.int .i64 0,.bool false,.slice none 0 0,.string ⟨#[]⟩,.int .i64 0,.slice none 0 0] 0 [.string inm,.int .i64 inu,.bool true,.slice ta tn tc,.string nm,.int .i64 (wd inu (Aa nm:Nat)),.slice BA bn bcap]⟩,⟨p7,276,#[.string inm,.int .i64 inu,.bool true,.slice ta tn tc]⟩,⟨g,9,cs⟩] [] (w5.setCells p4 0 [.string inm,.int .i64 inu,.bool true,.slice ta tn tc,.string nm,.int .i64 (wd inu (Aa nm:Nat)),.slice BA bn bcap])from Wk.setAll HBD.out [.string inm,.int .i64 inu,.bool true,.slice ta tn tc,.string nm,.int .i64 (wd inu (Aa nm:Nat)),.slice BA bn bcap] 0 _ _ HQ.out)
 show K _ _
 refine hK.out _ _ (HS2.out _ _ _ HQF.out) (fun hHeld=>?_)
 clear hK K
 refine wpAnyH_done (by kernel_rfl) ?_ _
 go_wp2_with (fail)
 have hki:=KI.setsC (t:=278) [.string inm,.int .i64 inu,.bool true,.slice ta tn tc,.string nm,.int .i64 (wd inu (Aa nm:Nat)),.slice BA bn bcap] 0 (HQ.out.bk (.head _)) (by unfold Dg;decide)
 have hb:=HQF.out.bk (.head _)
 have c0:=hb.cell 0
 have c1:=hb.cell 1
 have c2:=hb.cell 2
 have c3:=hb.cell 3
 have c4:=hb.cell 4
 have c5:=hb.cell 5
 have c6:=hb.cell 6
 simp[Ux]at c0 c1 c2 c3 c4 c5 c6
 have hbv:=HSB.out▸HBV.out.ki hki
 refine bodyPost_ret (v:=.agg #[.string inm,.int .i64 inu,.bool true,.slice ta tn tc,.string nm,.int .i64 (wd inu (Aa nm:Nat)),.slice BA bn bcap]) (by simp[results,Tryz.results197,go_sem,c0,c1,c2,c3,c4,c5,c6]) rfl ⟨⟨tn,tc,ta,_,rfl,hbv⟩,HQF.out.mem,HQF.out.kp⟩
end Go.Proofs.YtkebjgebkneijaaGreat
