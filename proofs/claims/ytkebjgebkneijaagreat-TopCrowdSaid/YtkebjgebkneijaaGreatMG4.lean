/- Texts of one's own that a claim's last text rests on: CkCmp CkSort CkCpt. -/
import Derived.Test.YtkebjgebkneijaaGreatMG3
import Derived.Test.YtkebjgebkneijaaGreatMShelf
import Derived.Shelf.SlSortCmp.NoneTotal
set_option linter.unusedVariables false
set_option linter.unusedSimpArgs false
namespace Go.Proofs.YtkebjgebkneijaaGreat
section
open Go.RowKit Go.Shelf Go.Lib Go.Sort
set_option maxHeartbeats 1000000
attribute [local go_sem↓] Go.wp_at_zero Go.wp_at_succ
theorem bl_irrefl: ∀x:List UInt8,Op.bytesLess x x=false
 | []=>rfl
 | a::x=>by
  unfold Op.bytesLess
  have h:decide (a<a)=false:=by simp
  rw[h,bl_irrefl x]
  simp
theorem bl_cons(a b:UInt8)(x y:List UInt8):Op.bytesLess (a::x) (b::y)=true↔a<b∨(a=b/\Op.bytesLess x y=true):=by
 conv=>lhs;unfold Op.bytesLess
 simp
theorem bl_trans: ∀x y z:List UInt8,Op.bytesLess x y=true->Op.bytesLess y z=true->Op.bytesLess x z=true
 | [],[],_,h,_=>by cases h
 | [],_::_,[],_,h=>by cases h
 | [],_::_,_::_,_,_=>rfl
 | _::_,[],_,h,_=>by cases h
 | _::_,_::_,[],_,h=>by cases h
 | a::x,b::y,c::z,h1,h2=>by
  rw[bl_cons]at*
  rcases h1 with h1 | ⟨rfl,h1⟩
  ·rcases h2 with h2 | ⟨rfl,h2⟩
   ·exact .inl (UInt8.lt_trans h1 h2)
   ·exact .inl h1
  ·rcases h2 with h2 | ⟨rfl,h2⟩
   ·exact .inl h2
   ·exact .inr ⟨rfl,bl_trans x y z h1 h2⟩
theorem bl_tri: ∀x y:List UInt8,Op.bytesLess x y=true∨x=y∨Op.bytesLess y x=true
 | [],[]=>.inr (.inl rfl)
 | [],_::_=>.inl rfl
 | _::_,[]=>.inr (.inr rfl)
 | a::x,b::y=>by
  rw[bl_cons,bl_cons]
  rcases Nat.lt_trichotomy a.toNat b.toNat with h | h | h
  ·exact .inl (.inl (UInt8.lt_iff_toNat_lt.2 h))
  ·have:a=b:=UInt8.toNat_inj.1 h
   subst this
   rcases bl_tri x y with h | rfl | h
   ·exact .inl (.inr ⟨rfl,h⟩)
   ·exact .inr (.inl rfl)
   ·exact .inr (.inr (.inr ⟨rfl,h⟩))
  ·exact .inr (.inr (.inl (UInt8.lt_iff_toNat_lt.2 h)))
def nlt(s t:ByteArray):Bool:=Op.bytesLess s.toList t.toList
theorem toList_inj{s t:ByteArray}(h:s.toList=t.toList):s=t:=by
 rw[ByteArray.toList_eq,ByteArray.toList_eq]at h
 exact ByteArray.ext (Array.ext' h)
theorem nlt_irrefl(s:ByteArray):nlt s s=false:=bl_irrefl _
theorem nlt_trans{s t u:ByteArray}(h1:nlt s t=true)(h2:nlt t u=true):nlt s u=true:=bl_trans _ _ _ h1 h2
theorem nlt_tri(s t:ByteArray):nlt s t=true∨s=t∨nlt t s=true:=by
 rcases bl_tri s.toList t.toList with h | h | h
 ·exact .inl h
 ·exact .inr (.inl (toList_inj h))
 ·exact .inr (.inr h)
def cmpS(s t:ByteArray):Int:=if nlt s t=true then -1 else if(s.toList==t.toList)=true then 0 else 1
def cmpI(a b:Int):Int:=if a<b then -1 else if b<a then 1 else 0
def or3(x y z:Int):Int:=if x≠0 then x else if y≠0 then y else z
def cmpF(a b:Fnd):Int:=or3 (cmpI a.kind b.kind) (cmpI a.num b.num) (cmpS a.name b.name)
def ltF(a b:Fnd):Prop:=a.kind<b.kind∨a.kind=b.kind/\ (a.num<b.num∨a.num=b.num/\nlt a.name b.name=true)
theorem cmpS_neg(s t:ByteArray):cmpS s t<0↔nlt s t=true:=by
 unfold cmpS
 by_cases h:nlt s t=true
 ·simp[h]
 ·rw[if_neg h]
  constructor
  ·intro h2;split at h2 <;> omega
  ·intro h2;exact absurd h2 h
theorem cmpF_neg(a b:Fnd):cmpF a b<0↔ltF a b:=by
 unfold cmpF or3 cmpI ltF
 have hs:=cmpS_neg a.name b.name
 rcases Int.lt_trichotomy a.kind b.kind with h | h | h
 ·rw[if_pos h];simp[h]
 ·have h1: ¬ a.kind<b.kind:=by omega
  have h2: ¬ b.kind<a.kind:=by omega
  rw[if_neg h1,if_neg h2]
  simp only[ne_eq,not_true_eq_false,if_false]
  rcases Int.lt_trichotomy a.num b.num with g | g | g
  ·rw[if_pos g];simp[g,h]
  ·have g1: ¬ a.num<b.num:=by omega
   have g2: ¬ b.num<a.num:=by omega
   rw[if_neg g1,if_neg g2]
   simp only[not_true_eq_false,if_false]
   rw[hs]
   simp[h,g]
  ·have g1: ¬ a.num<b.num:=by omega
   rw[if_neg g1,if_pos g]
   simp
   omega
 ·have h1: ¬ a.kind<b.kind:=by omega
  rw[if_neg h1,if_pos h]
  simp
  omega
theorem ltF_irrefl(a:Fnd): ¬ ltF a a:=by
 rintro(h | ⟨_,h | ⟨_,h⟩⟩)
 ·omega
 ·omega
 ·rw[nlt_irrefl]at h;cases h
theorem ltF_trans{a b c:Fnd}(h1:ltF a b)(h2:ltF b c):ltF a c:=by
 rcases h1 with h1 | ⟨e1,h1 | ⟨f1,h1⟩⟩ <;> rcases h2 with h2 | ⟨e2,h2 | ⟨f2,h2⟩⟩
 ·exact .inl (by omega)
 ·exact .inl (by omega)
 ·exact .inl (by omega)
 ·exact .inl (by omega)
 ·exact .inr ⟨by omega,.inl (by omega)⟩
 ·exact .inr ⟨by omega,.inl (by omega)⟩
 ·exact .inl (by omega)
 ·exact .inr ⟨by omega,.inl (by omega)⟩
 ·exact .inr ⟨by omega,.inr ⟨by omega,nlt_trans h1 h2⟩⟩
theorem ltF_tri(a b:Fnd):ltF a b∨a=b∨ltF b a:=by
 rcases Int.lt_trichotomy a.kind b.kind with h | h | h
 ·exact .inl (.inl h)
 ·rcases Int.lt_trichotomy a.num b.num with g | g | g
  ·exact .inl (.inr ⟨h,.inl g⟩)
  ·rcases nlt_tri a.name b.name with k | k | k
   ·exact .inl (.inr ⟨h,.inr ⟨g,k⟩⟩)
   ·refine .inr (.inl ?_)
    cases a;cases b
    simp only at h g k
    subst h g k
    rfl
   ·exact .inr (.inr (.inr ⟨h.symm,.inr ⟨g.symm,k⟩⟩))
  ·exact .inr (.inr (.inr ⟨h.symm,.inl g⟩))
 ·exact .inr (.inr (.inl h))
theorem ltOf_cmpF(x y:Fnd):ltOf cmpF x y=true↔ltF x y:=by
 show decide (cmpF x y<0)=true↔_
 rw[decide_eq_true_iff,cmpF_neg]
theorem swo_fnd:SWO (ltOf cmpF) where
 irrefl x:=by
  rw[Bool.eq_false_iff]
  exact fun h=>ltF_irrefl x ((ltOf_cmpF x x).1 h)
 trans x y z h1 h2:=(ltOf_cmpF x z).2 (ltF_trans ((ltOf_cmpF x y).1 h1) ((ltOf_cmpF y z).1 h2))
 ntrans x y z h1 h2:=by
  rw[Bool.eq_false_iff]at*
  intro h
  have h3:=(ltOf_cmpF x z).1 h
  rcases ltF_tri x y with q | q | q
  ·exact h1 ((ltOf_cmpF x y).2 q)
  ·subst q;exact h2 h
  ·exact h2 ((ltOf_cmpF y z).2 (ltF_trans q h3))
set_option maxRecDepth 1000000 in
theorem nanS_calls(s:ByteArray)(w:World):
  Calls Tryz.prog 111 #[.string s] w fun e w'=>e= .returned (.bool false)/\w=w':=by
 go_enter Tryz.func111,Tryz.ntmps111
 go_wp2_with (fail)
 go_ret
 exact⟨rfl,rfl⟩
set_option maxRecDepth 1000000 in
theorem nanI_calls(s:Int)(w:World):
  Calls Tryz.prog 110 #[.int .i64 s] w fun e w'=>e= .returned (.bool false)/\w=w':=by
 go_enter Tryz.func110,Tryz.ntmps110
 go_wp2_with (fail)
 go_ret
 exact⟨rfl,rfl⟩
set_option maxRecDepth 1000000 in
theorem compareS_calls(s t:ByteArray)(w:World):
  Calls Tryz.prog 59 #[.string s,.string t] w fun e w'=>e= .returned (.int .i64 (cmpS s t))/\w=w':=by
 by_cases h:nlt s t=true
 ·have HF:=lhi (show cmpS s t= -1 by unfold cmpS;rw[if_pos h])
  have h':Op.bytesLess s.toList t.toList=true:=h
  go_enter Tryz.func59,Tryz.ntmps59
  go_wp2_with (go_at_call 111;refine(nanS_calls _ _).mono ?_;rintro e w' ⟨rfl,rfl⟩)
  go_ret
  exact⟨by rw[HF.out];rfl,rfl⟩
 ·have h':Op.bytesLess s.toList t.toList=false:=Bool.eq_false_iff.2 h
  by_cases h2:(s.toList==t.toList)=true
  ·have HF:=lhi (show cmpS s t=0 by unfold cmpS;rw[if_neg h,if_pos h2])
   go_enter Tryz.func59,Tryz.ntmps59
   go_wp2_with (go_at_call 111;refine(nanS_calls _ _).mono ?_;rintro e w' ⟨rfl,rfl⟩)
   go_ret
   exact⟨by rw[HF.out];rfl,rfl⟩
  ·have h2':=Bool.eq_false_iff.2 h2
   have HF:=lhi (show cmpS s t=1 by unfold cmpS;rw[if_neg h,if_neg h2])
   go_enter Tryz.func59,Tryz.ntmps59
   go_wp2_with (go_at_call 111;refine(nanS_calls _ _).mono ?_;rintro e w' ⟨rfl,rfl⟩)
   go_ret
   exact⟨by rw[HF.out];rfl,rfl⟩
set_option maxRecDepth 1000000 in
theorem compareI_calls(s t:Int)(w:World):
  Calls Tryz.prog 58 #[.int .i64 s,.int .i64 t] w fun e w'=>e= .returned (.int .i64 (cmpI s t))/\w=w':=by
 by_cases h:s<t
 ·have HF:=lhi (show cmpI s t= -1 by unfold cmpI;rw[if_pos h])
  go_enter Tryz.func58,Tryz.ntmps58
  go_wp2_with (go_at_call 110;refine(nanI_calls _ _).mono ?_;rintro e w' ⟨rfl,rfl⟩)
  go_ret
  exact⟨by rw[HF.out];rfl,rfl⟩
 ·by_cases h2:t<s
  ·have HF:=lhi (show cmpI s t=1 by unfold cmpI;rw[if_neg h,if_pos h2])
   go_enter Tryz.func58,Tryz.ntmps58
   go_wp2_with (go_at_call 110;refine(nanI_calls _ _).mono ?_;rintro e w' ⟨rfl,rfl⟩)
   go_ret
   exact⟨by rw[HF.out];rfl,rfl⟩
  ·have HF:=lhi (show cmpI s t=0 by unfold cmpI;rw[if_neg h,if_neg h2])
   go_enter Tryz.func58,Tryz.ntmps58
   go_wp2_with (go_at_call 110;refine(nanI_calls _ _).mono ?_;rintro e w' ⟨rfl,rfl⟩)
   go_ret
   exact⟨by rw[HF.out];rfl,rfl⟩
set_option maxRecDepth 1000000 in
theorem or_calls{w:World}{g:Nat}{x y z:Int}(hb:Blk w g 3 #[.int .i64 x,.int .i64 y,.int .i64 z]):
  Calls Tryz.prog 57 #[.slice (some ⟨g,0,none⟩) 3 3] w fun e w'=>e= .returned (.int .i64 (or3 x y z))/\w=w':=by
 have c0:w.cell? ⟨g,0,none⟩=some (.int .i64 x):=hb.cell 0
 have c1:w.cell? ⟨g,1,none⟩=some (.int .i64 y):=hb.cell 1
 have c2:w.cell? ⟨g,2,none⟩=some (.int .i64 z):=hb.cell 2
 clear hb
 go_enter Tryz.func57,Tryz.ntmps57
 go_wp2_with (fail)
 go_loop [8] (fun i=>(i= .int .i64 0)∨(i= .int .i64 1/\x=0)∨(i= .int .i64 2/\x=0/\y=0)∨(i= .int .i64 3/\x=0/\y=0/\z=0)) (fun i=>3 - (intOf i).toNat)
 case atStart=>exact .inl rfl
 case round=>
  rcases hrel with rfl | ⟨rfl,hx⟩ | ⟨rfl,hx,hy⟩ | ⟨rfl,hx,hy,hz⟩
  ·by_cases e:x=0
   ·have e1:(x != 0)=false:=by simp[e]
    have HE:=lhi e
    clear e
    go_wp2_with (fail)
    go_round
    case rel=>exact .inr (.inl ⟨rfl,HE.out⟩)
    case measure=>simp[intOf]
   ·have e1:(x != 0)=true:=by simp[e]
    go_wp2_with (fail)
    go_ret
    exact⟨by unfold or3;rw[if_pos e];rfl,rfl⟩
  ·have HX:=lhi hx
   clear hx
   by_cases e:y=0
   ·have e1:(y != 0)=false:=by simp[e]
    have HE:=lhi e
    clear e
    go_wp2_with (fail)
    go_round
    case rel=>exact .inr (.inr (.inl ⟨rfl,HX.out,HE.out⟩))
    case measure=>simp[intOf]
   ·have e1:(y != 0)=true:=by simp[e]
    go_wp2_with (fail)
    go_ret
    exact⟨by unfold or3;rw[HX.out,if_neg (by simp),if_pos e];rfl,rfl⟩
  ·have HX:=lhi hx
   have HY:=lhi hy
   clear hx hy
   by_cases e:z=0
   ·have e1:(z != 0)=false:=by simp[e]
    have HE:=lhi e
    clear e
    go_wp2_with (fail)
    go_round
    case rel=>exact .inr (.inr (.inr ⟨rfl,HX.out,HY.out,HE.out⟩))
    case measure=>simp[intOf]
   ·have e1:(z != 0)=true:=by simp[e]
    go_wp2_with (fail)
    go_ret
    exact⟨by unfold or3;rw[HX.out,HY.out,if_neg (by simp),if_neg (by simp)];rfl,rfl⟩
  ·have HX:=lhi hx
   have HY:=lhi hy
   have HZ:=lhi hz
   clear hx hy hz
   go_wp2_with (fail)
   go_ret
   exact⟨by unfold or3;rw[HX.out,HY.out,HZ.out,if_neg (by simp),if_neg (by simp)];rfl,rfl⟩
end
section
open Go.RowKit Go.Shelf Go.Lib Go.Sort
set_option maxHeartbeats 1000000
attribute [local go_sem↓] Go.wp_at_zero Go.wp_at_succ
instance:Inhabited Fnd:=⟨⟨0,0,nm0⟩⟩
theorem cells3{w:World}{q:Nat}{t:TypeId}{x y z:Value}(h:Blk w q t #[x,y,z]):w.cell? ⟨q,0,none⟩=some x/\w.cell? ⟨q,1,none⟩=some y/\w.cell? ⟨q,2,none⟩=some z:=⟨h.cell 0,h.cell 1,h.cell 2⟩
set_option maxRecDepth 1000000 in
theorem cmpF_calls(a b:Fnd)(W:World):
  Calls Tryz.prog 56 #[.agg #[.int .i64 a.kind,.int .i64 a.num,.string a.name],.agg #[.int .i64 b.kind,.int .i64 b.num,.string b.name]] W fun e w'=>e= .returned (.int .i64 (cmpF a b))/\ ∃q os',w'=grow (W.drewN q) os':=by
 obtain⟨ak,an,sa⟩:=a
 obtain⟨bk,bn,sb⟩:=b
 have HF:=lhi (show cmpF ⟨ak,an,sa⟩ ⟨bk,bn,sb⟩=or3 (cmpI ak bk) (cmpI an bn) (cmpS sa sb)from rfl)
 have HB1:=lhi ((Blk.new W 119 #[.int .i64 ak,.int .i64 an,.string sa]).alloc (Obj.cells #[.int .i64 bk,.int .i64 bn,.string sb] 119))
 have HB2:=lhi (Blk.newAt (W.alloc (Obj.cells #[.int .i64 ak,.int .i64 an,.string sa] 119)) 119 #[.int .i64 bk,.int .i64 bn,.string sb] (n:=W.heap.size+1) (by simp))
 have HK:=lhi (fun W=>compareI_calls ak bk W)
 have HN:=lhi (fun W=>compareI_calls an bn W)
 have HS:=lhi (fun W=>compareS_calls sa sb W)
 show Calls Tryz.prog 56 #[.agg #[.int .i64 ak,.int .i64 an,.string sa],.agg #[.int .i64 bk,.int .i64 bn,.string sb]] W _
 go_enter Tryz.func56,Tryz.ntmps56
 go_wp2_with (fail)
 obtain⟨wz,hwz⟩: ∃wz,wz=(W.alloc (Obj.cells #[.int .i64 ak,.int .i64 an,.string sa] 119)).alloc (Obj.cells #[.int .i64 bk,.int .i64 bn,.string sb] 119):=⟨_,rfl⟩
 rw[<-hwz]at HB1 HB2⊢
 have HWZ:=lhi hwz
 clear hwz
 generalize W.heap.size=p at*
 generalize cmpI ak bk=c1 at*
 generalize cmpI an bn=c2 at*
 generalize cmpS sa sb=c3 at*
 go_region_held3 (fun w'=>(w'.cell? ⟨p,0,none⟩=some (.int .i64 ak)/\w'.cell? ⟨p,1,none⟩=some (.int .i64 an)/\w'.cell? ⟨p,2,none⟩=some (.string sa))/\ (w'.cell? ⟨p+1,0,none⟩=some (.int .i64 bk)/\w'.cell? ⟨p+1,1,none⟩=some (.int .i64 bn)/\w'.cell? ⟨p+1,2,none⟩=some (.string sb)))
  (first | exact⟨cells3 HB1.out,cells3 HB2.out⟩ | exact⟨cells3 (w:=wz.drew) HB1.out,cells3 (w:=wz.drew) HB2.out⟩ | exact⟨cells3 (w:=(wz.alloc (Obj.cells #[.int .i64 c1,.int .i64 c2,.int .i64 c3] 3)).drew) (Blk.alloc (w:=wz) HB1.out _),cells3 (w:=(wz.alloc (Obj.cells #[.int .i64 c1,.int .i64 c2,.int .i64 c3] 3)).drew) (Blk.alloc (w:=wz) HB2.out _)⟩)
  ((first
   | (go_at_call 59;refine(HS.out _).mono ?_;rintro e w' ⟨rfl,rfl⟩)
   | (go_at_call 57;refine(or_calls (w:=(wz.alloc (Obj.cells #[.int .i64 c1,.int .i64 c2,.int .i64 c3] 3)).drew) (show Blk (wz.alloc (Obj.cells #[.int .i64 c1,.int .i64 c2,.int .i64 c3] 3)) _ _ _ from Blk.new _ _ _)).mono ?_;rintro e w' ⟨rfl,rfl⟩)
   | ((with_reducible refine(HK.out _).mono ?_);rintro e w' ⟨rfl,rfl⟩)
   | ((with_reducible refine(HN.out _).mono ?_);rintro e w' ⟨rfl,rfl⟩)))
 go_wp2_with (fail)
 go_ret
 exact⟨by rw[HF.out];rfl,1,_,by rw[HWZ.out,alloc_eq_grow,alloc_eq_grow,alloc_eq_grow,grow_grow,grow_grow];rfl⟩
theorem cmpLaysF(blk off size:Nat)(w:World):CmpLays Tryz.prog 56 #[] encF 3 cmpF blk off size w:=
 fun _ _ _ _ x y=>cmpF_calls x y _
theorem sort_calls(blk off cap:Nat)(D:Array Fnd)(w:World)(hH:HoldsK encF 3 w blk off D)(hblk:blk<w.heap.size)(hsz:D.size<4611686018427387904):
  Calls Tryz.prog 55 #[.slice (some ⟨blk,off,none⟩) D.size cap,.func (.func 56) #[] #[]] w fun e w'=>e= .returned (.tuple #[])/\ ∃D' n os,PermIn 0 D.size D D'/\SortedIn (ltOf cmpF) 0 D.size D'/\w'=sortWorldK encF 3 w blk off n D' os:=by
 have eg: ∀args w,(callFunc 56 args).run Tryz.prog w= .ok (.enter 56 args) w:=enters_of Tryz.func56 (by kernel_rfl) rfl
 exact AnyQ.slices_SortFunc Tryz.sortFnd 3 Tryz.isAgg119 Tryz.sizeOf119 encF (fun _=>rfl) (fun x v hv=>by simp[encF]at hv;rcases hv with rfl | rfl | rfl <;> rfl) cmpF swo_fnd 56 #[] blk off cap D w eg (cmpLaysF blk off D.size w) hH hblk hsz
end
section
open Go.RowKit
set_option maxHeartbeats 1000000
attribute [local go_sem↓] Go.wp_at_zero Go.wp_at_succ
def fAt(D:List Fnd)(i:Nat):Fnd:=D.getD i default
def fndC(D:List Fnd):Nat->Nat->Value:=fun i j=>match j with
 | 0=>.int .i64 (fAt D i).kind
 | 1=>.int .i64 (fAt D i).num
 | _=>.string (fAt D i).name
theorem fnd_ne{a b:Fnd}(h:a≠b):a.kind≠b.kind∨(a.kind=b.kind/\a.num≠b.num)∨(a.kind=b.kind/\a.num=b.num/\a.name.toList≠b.name.toList):=by
 by_cases h1:a.kind=b.kind
 ·by_cases h2:a.num=b.num
  ·refine .inr (.inr ⟨h1,h2,fun h3=>h ?_⟩)
   have:=toList_inj h3
   cases a;cases b
   simp only at h1 h2 this
   subst h1 h2 this
   rfl
  ·exact .inr (.inl ⟨h1,h2⟩)
 ·exact .inl h1
set_option maxRecDepth 1000000 in
theorem compact_calls{w:World}{v:Value}{D:List Fnd}(h:RowAt w v D.length 3 (fndC D))(hD:D.length<=1000000000)(hne: ∀i,i+1<D.length->fAt D (i+1)≠fAt D i):
  Calls Tryz.prog 60 #[v] w fun e w'=>e= .returned v/\ ∃d,w'=w.drewN d:=by
 obtain⟨A,cap,rfl⟩:=h.form
 have HR:=lhi h
 have HN:=lhi hne
 clear h hne
 generalize D.length=n at*
 by_cases h2:n<2
 ·have h2':(n:Int)<2:=by omega
  go_enter Tryz.func60,Tryz.ntmps60
  go_wp2_with (fail)
  go_ret
  exact⟨rfl,0,rfl⟩
 ·have h2': ¬ (n:Int)<2:=by omega
  go_enter Tryz.func60,Tryz.ntmps60
  go_wp2_with (fail)
  go_loopw [3] (fun i wr=>∃k d:Nat,i= .int .i64 (k+1:Nat)/\k+1<=n/\wr=w.drewN d) (fun i _=>n - (intOf i).toNat)
  case atStart=>exact⟨0,0,rfl,by omega,rfl⟩
  case round=>
   obtain⟨k,d,rfl,hk,rfl⟩:=hrel
   by_cases hp:k+1<n
   ·obtain⟨-,hcap,g,off,rfl,hcell⟩:=HR.out.at_ hp
    obtain⟨-,-,g',off',e,hcell'⟩:=HR.out.at_ (i:=k) (by omega)
    injection e with e
    injection e with e1 e2
    subst e1 e2
    have hx:=HN.out k hp
    have q0:w.cell? ⟨g,off+ (k+1)*3,none⟩=some (.int .i64 (fAt D (k+1)).kind):=hcell 0 (by omega)
    have q1:w.cell? ⟨g,off+ (k+1)*3+1,none⟩=some (.int .i64 (fAt D (k+1)).num):=hcell 1 (by omega)
    have q2:w.cell? ⟨g,off+ (k+1)*3+2,none⟩=some (.string (fAt D (k+1)).name):=hcell 2 (by omega)
    have p0:w.cell? ⟨g,off+k*3,none⟩=some (.int .i64 (fAt D k).kind):=hcell' 0 (by omega)
    have p1:w.cell? ⟨g,off+k*3+1,none⟩=some (.int .i64 (fAt D k).num):=hcell' 1 (by omega)
    have p2:w.cell? ⟨g,off+k*3+2,none⟩=some (.string (fAt D k).name):=hcell' 2 (by omega)
    have hx:=fnd_ne hx
    clear hcell hcell'
    generalize fAt D (k+1)=a at*
    generalize fAt D k=b at*
    obtain⟨ak,an,sa⟩:=a
    obtain⟨bk,bn,sb⟩:=b
    simp only at hx q0 q1 q2 p0 p1 p2
    have hk1:((k+1:Nat):Int)<n:=by omega
    rcases hx with hx | ⟨rfl,hx⟩ | ⟨rfl,rfl,hx⟩
    all_goals (
     go_wp2_with (fail)
     go_quiet (fail)
     go_wp2_with (fail)
     go_roundw
     case rel=>exact⟨k+1,d+nq,by go_num,by omega,rfl⟩
     case measure=>
      simp only[intOf]
      omega)
   ·have e:k+1=n:=by omega
    subst e
    go_wp2_with (fail)
    go_ret
    exact⟨rfl,d,rfl⟩
end
end Go.Proofs.YtkebjgebkneijaaGreat
