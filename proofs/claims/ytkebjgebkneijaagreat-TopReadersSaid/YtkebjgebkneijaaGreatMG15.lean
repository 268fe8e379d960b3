/- Texts of one's own that a claim's last text rests on: Srt Ml7 MpS MpD. -/
import Derived.Test.YtkebjgebkneijaaGreatMG14
import Derived.Test.YtkebjgebkneijaaGreatMShelf3
import Derived.Shelf.SlSortCmp.NoneTotal
import Derived.Test.YtkebjgebkneijaaGreatMG11
import Derived.Test.YtkebjgebkneijaaGreatMG4
import Derived.StillTailTactics
set_option linter.unusedVariables false
set_option linter.unusedSimpArgs false
namespace Go.Proofs.YtkebjgebkneijaaGreat
open Go.RowKit
set_option maxHeartbeats 16000000
set_option maxRecDepth 1000000
section
open Go.RowKit Go.Shelf Go.Lib Go.Sort
theorem Ak8{w:World}{base g cap:Nat}{t:TypeId}{D:List ByteArray}(h:w.ownsRow base t 1 (.slice (some ⟨g,0,none⟩) D.length cap) D.length (D.map .string)):Holds Value.string w g 0 D.toArray:=by
 intro j hj
 have hj':j<D.length:=by simpa using hj
 have hc:=h.cellAt j (by omega)
 rw[List.getElem?_map,Amh hj']at hc
 refine⟨by rw[Nat.zero_add,hc];simp[hj'],?_⟩
 rcases h.2 with⟨hn,_⟩ | ⟨g',cap',cur,hv,_,hh,_⟩
 ·cases hn
 ·have:g=g':=by simpa[Value.ownBlock]using congrArg Value.ownBlock hv
  subst this
  exact(Blk.frozen (show Blk w g _ cur from hh) _)
theorem Na{w:World}{g n:Nat}{D':Array ByteArray}{os:Array Obj}(i:Nat)(hi:i<w.heap.size):(sortWorld Value.string w g 0 n D' os).heap[i]? =if i=g then(w.heap[i]?).map (onCells (putCells Value.string 0 D'))else w.heap[i]?:=by
 unfold sortWorld grow putRow mapBlock Sort.ahead
 show((w.heap.modify g (onCells (putCells Value.string 0 D')))++os)[i]? =_
 rw[Array.getElem?_append_left (by simpa using hi),Array.getElem?_modify]
 by_cases e:g=i
 ·rw[if_pos e,if_pos e.symm]
 ·rw[if_neg e,if_neg (fun h=>e h.symm)]
theorem Xv{w:World}{base g cap n:Nat}{t:TypeId}{D D':List ByteArray}{os:Array Obj}(h:w.ownsRow base t 1 (.slice (some ⟨g,0,none⟩) D.length cap) D.length (D.map .string))(hD:D'.length=D.length):
  (sortWorld Value.string w g 0 n D'.toArray os).ownsRow base t 1 (.slice (some ⟨g,0,none⟩) D'.length cap) D'.length (D'.map .string):=by
 refine⟨by simp,.inr ?_⟩
 rcases h.2 with⟨hn,_⟩ | ⟨g',cap',cur,hv,hb,hh,h1,h2,h3,h4⟩
 ·cases hn
 ·have e1:g=g':=by simpa[Value.ownBlock]using congrArg Value.ownBlock hv
  subst e1
  have e2:cap=cap':=by
   injection hv
  subst e2
  have hg:g<w.heap.size:=Blk.lt (show Blk w g _ cur from hh)
  refine⟨g,cap,putCells Value.string 0 D'.toArray cur,rfl,hb,?_,by omega,h2,?_,?_⟩
  ·rw[Na g hg,if_pos rfl,hh]
   rfl
  ·simp[putCells,h3]
  ·apply List.ext_getElem
   ·simp only[List.length_take,Array.length_toList,Array.size_mapIdx,h3,putCells,List.length_map]
    omega
   ·intro j q1 q2
    have q3:j<D'.length:=by simpa using q2
    simp only[List.getElem_take,Array.getElem_toList,putCells,Array.getElem_mapIdx,List.getElem_map]
    rw[if_pos (by simp;omega)]
    simp[q3]
theorem Lg(x y:ByteArray):ltOf cmpS x y=nlt x y:=by
 show decide (cmpS x y<0)=_
 unfold cmpS
 by_cases h:nlt x y=true
 ·rw[if_pos h,h];rfl
 ·rw[if_neg h,Bool.eq_false_iff.2 h]
  split <;> rfl
theorem Aiq:SWO (ltOf cmpS) where
 irrefl x:=by rw[Lg];simp[Ct]
 trans x y z h1 h2:=by rw[Lg]at*;exact Ep h1 h2
 ntrans x y z h1 h2:=by
  rw[Lg]at*
  cases h:nlt x z
  ·rfl
  ·rcases Qh x y with q | q | q
   ·rw[q]at h1;cases h1
   ·rw[q]at h;rw[h]at h2;cases h2
   ·have:=Ep q h;rw[this]at h2;cases h2
theorem Wr(x y:ByteArray)(W:World):Calls Tryz.prog 213 #[.string x,.string y] W fun e w'=>e= .returned (.int .i64 (cmpS x y))/\ ∃q os',w'=grow (W.drewN q) os':=by
 have hcon:=fun W=>Kv x y W
 generalize cmpS x y=r at hcon⊢
 go_enter Tryz.func213,Tryz.ntmps213
 go_wp2_with (go_at_call 59;refine(hcon _).mono ?_;rintro e w' ⟨rfl,rfl⟩)
 go_ret
 exact⟨rfl,0,#[],by cases W;simp[grow,World.drewN]⟩
theorem Adt{w:World}{base:Nat}{A:Option Addr}{cap:Nat}{D:List ByteArray}(hown:w.ownsRow base 9 1 (.slice A D.length cap) D.length (D.map .string))(hlen:D.length<=10000000):
  Calls Tryz.prog 212 #[.slice A D.length cap,.func (.func 213) #[] #[]] w fun e w'=>e= .returned (.tuple #[])/\ ∃D':List ByteArray,D.Perm D'/\D'.Pairwise (fun a b=>nlt b a=false)/\w.grownBy w' (Value.slice A D.length cap).ownBlock/\w'.ownsRow base 9 1 (.slice A D'.length cap) D'.length (D'.map .string):=by
 rcases hown.2 with⟨hv,h0⟩ | ⟨g,cap',cur,hv,hb,hh,_⟩
 ·have hD:D=[]:=List.length_eq_zero_iff.1 h0
  subst hD
  obtain⟨rfl,-,rfl⟩:A=none/\True/\cap=0:=by injection hv with a b c;exact⟨a,trivial,c⟩
  refine(AnyF.slices_SortFunc_none {Tryz.sortStr with} none 0 _ w).mono ?_
  rintro e w' ⟨rfl,rfl⟩
  exact⟨rfl,[],.refl _,List.Pairwise.nil,⟨rfl,rfl,rfl,Ama _,fun _ _ _=>rfl⟩,hown⟩
 ·obtain rfl:A=some ⟨g,0,none⟩:=by injection hv
  have hg:g<w.heap.size:=Blk.lt (show Blk w g _ cur from hh)
  have eg: ∀args w,(callFunc 213 args).run Tryz.prog w= .ok (.enter 213 args) w:=enters_of Tryz.func213 (by kernel_rfl) rfl
  have:=Any.slices_SortFunc Tryz.sortStr Value.string (fun _=>rfl) cmpS Aiq 213 #[] g 0 cap D.toArray w eg (fun _ _ _ _ x y=>Wr x y _) (Ak8 hown) hg (by rw[List.size_toArray];omega)
  refine this.mono ?_
  rintro e w' ⟨rfl,D',n',os,hp,hs,rfl⟩
  obtain⟨D',rfl⟩: ∃l:List ByteArray,D'=l.toArray:=⟨D'.toList,rfl⟩
  have hsz:D'.length=D.length:=by simpa using hp.1
  have hperm:D'.Perm D:=by
   have:=hp.2.2
   have e1:D'.toArray.extract 0 D.toArray.size=D'.toArray:=by rw[<-hp.1];exact Array.extract_size
   have e2:D.toArray.extract 0 D.toArray.size=D.toArray:=Array.extract_size
   rw[e1,e2]at this
   simpa using this
  refine⟨rfl,D',hperm.symm,?_,⟨rfl,rfl,rfl,?_,fun i hi hn=>?_⟩,Xv hown hsz⟩
  ·rw[List.pairwise_iff_getElem]
   intro i j hi hj hij
   have h2:=hs i j (Nat.zero_le _) hij (by rw[List.size_toArray,<-hsz];exact hj)
   rw[getElem!_pos D'.toArray i (by simpa using hi),getElem!_pos D'.toArray j (by simpa using hj)]at h2
   simp only[List.getElem_toArray]at h2
   rw[Lg]at h2
   exact h2
  ·show w.heap.size<= ((w.heap.modify g _)++os).size
   simp
  ·rw[Na i hi,if_neg (fun e=>hn (by rw[e];rfl))]
end
def Qi(c:Int):Value:=.iface 84 (.agg #[.int .i64 c])
abbrev Cg (c:Int):Ending:=.panicked [{v:=Qi c,recovered:=false}]
theorem Ar(c:Int)(w:World):Calls Tryz.prog 116 #[.bool false,.int .i64 c] w fun e w'=>e= .returned (.tuple #[])/\w=w':=by
 go_enter Tryz.func116,Tryz.ntmps116
 go_wp2
 go_end0
 exact⟨rfl,rfl⟩
theorem Al(c:Int)(w:World):Calls Tryz.prog 116 #[.bool true,.int .i64 c] w fun e w'=>e=Cg c/\w=w':=by
 go_enter Tryz.func116,Tryz.ntmps116
 go_wp2
 exact⟨rfl,rfl,rfl⟩
theorem Ot{s:ByteArray}(hs:s.size<=4611686018427387904)(w:World){l:List ByteArray}(h:Au s= .ok l):Calls Tryz.prog 171 #[.string s] w fun e w'=>(∃v,e= .returned v/\NmB w' v l/\ ∀q,Es v q->w.heap.size<=q)/\Below w.heap.size w w':=by
 have HP:=lhi (Gj s hs w)
 rw[h]at HP
 clear hs
 go_enter Tryz.func171,Tryz.ntmps171
 go_wp2_with (first
  | (go_at_call 43;refine HP.out.mono ?_;rintro e w1 ⟨⟨v,rfl,hv,hvq⟩,hb⟩;have HVQ:=lhi hvq;clear hvq;have HV:=lhi hv;have HB:=lhi hb;clear hv hb)
  | (go_at_call 44;refine(Ht 0 _).mono ?_;rintro e w' ⟨rfl,rfl⟩)
  | (go_at_call 116;refine(Ar _ _).mono ?_;rintro e w' ⟨rfl,rfl⟩))
 go_ret
 exact⟨⟨_,rfl,HV.out,HVQ.out⟩,HB.out⟩
theorem Ro{s:ByteArray}(hs:s.size<=4611686018427387904)(w:World){k:Int}(h:Au s= .err k)(hk:k≠0):Calls Tryz.prog 171 #[.string s] w fun e w'=>e=Cg (Jh k)/\Below w.heap.size w w':=by
 have HP:=lhi (Gj s hs w)
 rw[h]at HP
 have hk1:(k != 0)=true:=by rw[bne_iff_ne];exact hk
 have HC:=lhi (Ht k)
 clear hs hk
 go_enter Tryz.func171,Tryz.ntmps171
 go_wp2_with (first
  | (go_at_call 43;refine HP.out.mono ?_;rintro e w1 ⟨hv,hb⟩;have hv:e= .returned (.tuple #[.slice none 0 0,.int .i64 k]):=hv;subst hv;have HB:=lhi hb;clear hb)
  | (go_at_call 44;refine(HC.out _).mono ?_;rintro e w' ⟨rfl,rfl⟩)
  | (go_at_call 116;refine(Al _ _).mono ?_;rintro e w' ⟨rfl,rfl⟩))
 exact⟨rfl,rfl,HB.out⟩
section
open Go.RowKit Go.Shelf Go.Lib Go.Sort
abbrev En:=ByteArray×Int
instance:Inhabited En:=⟨(ByteArray.empty,0)⟩
theorem Lh(x y:En):ltOf (fun x y:En=>cmpS x.1 y.1) x y=nlt x.1 y.1:=by
 show decide (cmpS x.1 y.1<0)=_
 unfold cmpS
 by_cases h:nlt x.1 y.1=true
 ·rw[if_pos h,h];rfl
 ·rw[if_neg h,Bool.eq_false_iff.2 h]
  split <;> rfl
theorem Akt:SWO (ltOf fun x y:En=>cmpS x.1 y.1) where
 irrefl x:=by rw[Lh];simp[Ct]
 trans x y z h1 h2:=by rw[Lh]at*;exact Ep h1 h2
 ntrans x y z h1 h2:=by
  rw[Lh]at*
  cases h:nlt x.1 z.1
  ·rfl
  ·rcases Qh x.1 y.1 with q | q | q
   ·rw[q]at h1;cases h1
   ·rw[q]at h;rw[h]at h2;cases h2
   ·have:=Ep q h;rw[this]at h2;cases h2
def Ai(e:En):List Value:=[.string e.1,.int .i64 e.2]
theorem Aak(x y:En)(W:World):
  Calls Tryz.prog 138 #[.agg #[.string x.1,.int .i64 x.2],.agg #[.string y.1,.int .i64 y.2]] W fun e w'=>e= .returned (.int .i64 (cmpS x.1 y.1))/\ ∃q os',w'=grow (W.drewN q) os':=by
 have hcon:=fun W=>Kv x.1 y.1 W
 generalize cmpS x.1 y.1=r at hcon⊢
 go_enter Tryz.func138,Tryz.ntmps138
 go_wp2_with (go_at_call 59;refine(hcon _).mono ?_;rintro e w' ⟨rfl,rfl⟩)
 go_ret
 exact⟨rfl,0,_,by rw[alloc_eq_grow,alloc_eq_grow,grow_grow];rfl⟩
theorem Afc(blk off size:Nat)(w:World):CmpLays Tryz.prog 138 #[] Ai 2 (fun x y=>cmpS x.1 y.1) blk off size w:=
 fun _ _ _ _ x y=>Aak x y _
theorem Vo(blk off cap:Nat)(D:Array En)(w:World)(hH:HoldsK Ai 2 w blk off D)(hblk:blk<w.heap.size)(hsz:D.size<4611686018427387904):
  Calls Tryz.prog 137 #[.slice (some ⟨blk,off,none⟩) D.size cap,.func (.func 138) #[] #[]] w fun e w'=>e= .returned (.tuple #[])/\ ∃D' n os,PermIn 0 D.size D D'/\SortedIn (ltOf fun x y:En=>cmpS x.1 y.1) 0 D.size D'/\w'=sortWorldK Ai 2 w blk off n D' os:=by
 have eg: ∀args w,(callFunc 138 args).run Tryz.prog w= .ok (.enter 138 args) w:=enters_of Tryz.func138 (by kernel_rfl) rfl
 exact AnyQ.slices_SortFunc Tryz.sortEnt 2 Tryz.isAgg132 Tryz.sizeOf132 Ai (fun _=>rfl) (fun x v hv=>by simp[Ai]at hv;rcases hv with rfl | rfl <;> rfl) (fun x y=>cmpS x.1 y.1) Akt 138 #[] blk off cap D w eg (Afc blk off D.size w) hH hblk hsz
theorem So: ∀(D:List En) (t:Nat),(D.flatMap Ai)[t]? =(D[t / 2]?).bind fun e=>(Ai e)[t % 2]?
 | [],t=>by simp
 | e::D,t=>by
  rw[List.flatMap_cons]
  by_cases h:t<2
  ·have:t=0∨t=1:=by omega
   rcases this with rfl | rfl <;> simp[Ai]
  ·have e1:t / 2=(t - 2) / 2+1:=by omega
   have e2:t % 2=(t - 2) % 2:=by omega
   rw[List.getElem?_append_right (by simp[Ai];omega),e1,List.getElem?_cons_succ,e2,<-So D (t - 2)]
   simp[Ai]
theorem Ex(D:List En):(D.flatMap Ai).length=D.length*2:=by
 induction D with
 | nil=>rfl
 | cons e D ih=>rw[List.flatMap_cons,Ami,ih];simp[Ai];omega
theorem Sn(D:List En):flatK Ai 2 D.toArray=(D.flatMap Ai).toArray:=by
 apply Array.ext
 ·rw[size_flatK,List.size_toArray,List.size_toArray,Ex]
 ·intro t h1 h2
  have h3:t<D.length*2:=by rw[size_flatK]at h1;simpa using h1
  have ha:=get_flatK Ai 2 D.toArray t (by simpa using h3)
  rw[getElem!_pos (flatK Ai 2 D.toArray) t h1]at ha
  rw[ha]
  have hb:=So D t
  have hd:t / 2<D.length:=by omega
  rw[Amh (by rw[Ex];exact h3),Amh hd]at hb
  have hm:t % 2< (Ai D[t / 2]).length:=by simp[Ai];omega
  simp only[Option.bind_some]at hb
  rw[Amh hm]at hb
  have hb:=Amg hb
  simp only[List.getElem_toArray]
  rw[hb]
  have hx:D.toArray[t / 2]! =D[t / 2]:=by simp[hd]
  rw[hx]
  exact getElem!_pos (Ai D[t / 2]) (t % 2) hm
theorem Abw{w:World}{base g cap:Nat}{D:List En}(h:w.ownsRow base 132 2 (.slice (some ⟨g,0,none⟩) D.length cap) D.length (D.flatMap Ai)):HoldsK Ai 2 w g 0 D.toArray:=by
 unfold HoldsK
 rw[Sn]
 intro j hj
 have hj':j< (D.flatMap Ai).length:=by simpa using hj
 have hget:(D.flatMap Ai)[j]? =some ((D.flatMap Ai).toArray[j]!):=by
  rw[getElem!_pos (D.flatMap Ai).toArray j hj,List.getElem_toArray,Amh hj']
 have hc:=h.cells (g:=g) rfl j _ hget
 have e:(⟨g,0,none⟩:Addr).add j=⟨g,0+j,none⟩:=by unfold Addr.add;split <;> simp_all
 rw[e]at hc
 refine⟨hc,?_⟩
 rcases h.2 with⟨hn,_⟩ | ⟨g',cap',cur,hv,_,hh,_⟩
 ·cases hn
 ·have:g=g':=by simpa[Value.ownBlock]using congrArg Value.ownBlock hv
  subst this
  exact(Blk.frozen (show Blk w g _ cur from hh) _)
theorem Lr{w:World}{g n:Nat}{D':List En}{os:Array Obj}(_:g<w.heap.size)(k:Nat)(hk:k<w.heap.size):
  (sortWorldK Ai 2 w g 0 n D'.toArray os).heap[k]? =if k=g then(w.heap[k]?).map (onCells (putCells id 0 (flatK Ai 2 D'.toArray)))else w.heap[k]?:=by
 unfold sortWorldK grow putRowK putRow mapBlock Sort.ahead
 show((w.heap.modify g (onCells (putCells id 0 (flatK Ai 2 D'.toArray))))++os)[k]? =_
 rw[Array.getElem?_append_left (by simpa using hk),Array.getElem?_modify]
 by_cases e:g=k
 ·rw[if_pos e,if_pos e.symm]
 ·rw[if_neg e,if_neg (fun h=>e h.symm)]
theorem Vn{w:World}{base g cap n:Nat}{D D':List En}{os:Array Obj}(h:w.ownsRow base 132 2 (.slice (some ⟨g,0,none⟩) D.length cap) D.length (D.flatMap Ai))(hl:D'.length=D.length):
  (sortWorldK Ai 2 w g 0 n D'.toArray os).ownsRow base 132 2 (.slice (some ⟨g,0,none⟩) D'.length cap) D'.length (D'.flatMap Ai):=by
 refine⟨Ex D',.inr ?_⟩
 rcases h.2 with⟨hn,_⟩ | ⟨g',cap',cur,hv,hb,hh,h1,h2,h3,h4⟩
 ·cases hn
 ·have e1:g=g':=by simpa[Value.ownBlock]using congrArg Value.ownBlock hv
  subst e1
  have e2:cap=cap':=by
   injection hv
  subst e2
  have hg:g<w.heap.size:=Blk.lt (show Blk w g _ cur from hh)
  refine⟨g,cap,putCells id 0 (flatK Ai 2 D'.toArray) cur,rfl,hb,?_,by omega,h2,?_,?_⟩
  ·rw[Lr hg g hg,if_pos rfl,hh]
   rfl
  ·simp[putCells,h3]
  ·rw[Sn]
   have hle:D'.length*2<=cap*2:=Nat.mul_le_mul_right _ (by omega)
   apply List.ext_getElem
   ·simp only[List.length_take,Array.length_toList,Array.size_mapIdx,Ex,h3,putCells,List.size_toArray]
    omega
   ·intro j q1 q2
    rw[Ex]at q2
    have hp:(0<=j/\j<0+ (D'.flatMap Ai).toArray.size):=by
     refine⟨Nat.zero_le _,?_⟩
     rw[List.size_toArray,Ex]
     omega
    simp only[List.getElem_take,Array.getElem_toList,putCells,Array.getElem_mapIdx]
    rw[if_pos hp]
    have hq:j - 0< (D'.flatMap Ai).toArray.size:=by rw[List.size_toArray,Ex];omega
    rw[getElem!_pos (D'.flatMap Ai).toArray (j - 0) hq]
    simp
theorem Bn(e:En):(Ai e).length=2:=rfl
theorem Lm(e:En): ∀u∈Ai e,u.oneCell'=true:=by intro u hu;simp[Ai]at hu;rcases hu with rfl | rfl <;> rfl
theorem Ee(L:List En):CL Ai L (entL L) 2:=by
 intro i j hi hj
 have e:L.getD i (ByteArray.empty,0)=L[i]:=by simp[List.getD,hi]
 have:j=0∨j=1:=by omega
 rcases this with rfl | rfl
 ·rw[show entL L i 0= .string (L.getD i (ByteArray.empty,0)).1 from rfl,e];rfl
 ·rw[show entL L i 1= .int .i64 (L.getD i (ByteArray.empty,0)).2 from rfl,e];rfl
theorem Aa5{D':List En}(h:SortedIn (ltOf fun x y:En=>cmpS x.1 y.1) 0 D'.length D'.toArray):Kb D':=by
 unfold Kb
 rw[List.pairwise_iff_getElem]
 intro i j hi hj hij
 have h2:=h i j (Nat.zero_le _) hij hj
 rw[getElem!_pos D'.toArray i (by simpa using hi),getElem!_pos D'.toArray j (by simpa using hj)]at h2
 simp only[List.getElem_toArray]at h2
 rw[Lh]at h2
 exact h2
theorem Aex{w:World}{base:Nat}{v:Value}{D:List En}(hown:w.ownsRow base 132 2 v D.length (D.flatMap Ai))(hlen:D.length<=10000000):
  Calls Tryz.prog 137 #[v,.func (.func 138) #[] #[]] w fun e w'=>e= .returned (.tuple #[])/\ ∃D':List En,D'.Perm D/\Kb D'/\w.grownBy w' v.ownBlock/\w'.ownsRow base 132 2 v D.length (D'.flatMap Ai):=by
 rcases hown.2 with⟨rfl,h0⟩ | ⟨g,cap,cur,rfl,hb,hh,_⟩
 ·refine(AnyF.slices_SortFunc_none Tryz.sortEnt none 0 _ w).mono ?_
  rintro e w' ⟨rfl,rfl⟩
  refine⟨rfl,D,.refl _,?_,⟨rfl,rfl,rfl,Ama _,fun _ _ _=>rfl⟩,hown⟩
  have:D=[]:=List.length_eq_zero_iff.1 h0
  rw[this]
  exact List.Pairwise.nil
 ·have hg:g<w.heap.size:=Blk.lt (show Blk w g _ cur from hh)
  have hH:=Abw hown
  refine(Vo g 0 cap D.toArray w hH hg (by rw[List.size_toArray];omega)).mono ?_
  rintro e w' ⟨rfl,D',n',os,hp,hs,rfl⟩
  obtain⟨D',rfl⟩: ∃l:List En,D'=l.toArray:=⟨D'.toList,rfl⟩
  have hsz:D'.length=D.length:=by simpa using hp.1
  have hperm:D'.Perm D:=by
   have:=hp.2.2
   have e1:D'.toArray.extract 0 D.toArray.size=D'.toArray:=by rw[<-hp.1];exact Array.extract_size
   have e2:D.toArray.extract 0 D.toArray.size=D.toArray:=Array.extract_size
   rw[e1,e2]at this
   simpa using this
  refine⟨rfl,D',hperm,Aa5 (by have:=hs;rw[List.size_toArray,<-hsz]at this;exact this),⟨rfl,rfl,rfl,?_,fun k hk hn=>?_⟩,?_⟩
  ·show w.heap.size<= ((w.heap.modify g _)++os).size
   simp
  ·rw[Lr hg k hk,if_neg (fun e=>hn (by rw[e];rfl))]
  ·have:=Vn (n:=n') (os:=os) hown hsz
   rw[hsz]at this
   exact this
end
section
variable{ops:Array Oper}{o:Oper}{a:Act}{Q:Exit->Act->World->Prop}
theorem Adu(w:World){K:Act->World->Prop}{E:Prop}(hgd:o.guard=none)(T E_:TypeId)(hT:Tryz.prog.underlying T=some (.map 3 E_))(m x v:Operand)(hop:o.op=Op.mapUpdate T m x v)(b n:Nat)(f:Int->Option Value)(hm:a.eval m= .map (some b))(h:MapV w b n f)(hn:n<1000000000)
  (i:Int) (hi: -1000000<=i/\i<=1000000) (hx:a.eval x= .int .i64 i) (y:Value) (hv:a.eval v=y)
  (hK: ∀w',MapV w' b (n+1) (fun j=>if j=i then some y else f j)->w.grownBy w' (some b)->K (a.put o.dst undef) w'):
  if Region.wanted o (yielded ops a.tmps)=true then Oper.wp Tryz.prog o a w K Q else E:=by
 have hw:Region.wanted o (yielded ops a.tmps)=true:=by simp[Region.wanted,hgd]
 rw[if_pos hw]
 obtain⟨D,ho,hf⟩:=h
 obtain⟨w',hrun,r1,r2⟩:=ho.update (val:=y) lawI hT (by unfold maxLen;omega) (keyI hi) (show anyE y=some (.held y,[])from rfl)
 unfold Oper.wp
 simp[execOp,hop,hm,hx,hv,hrun,Result.andThen]
 exact hK w' ⟨_,r1,hf.put ho.isMap i y⟩ r2
end
section
variable{A:Type}{enc:A->List Value}{k:Nat}{ops:Array Oper}{rest:List Oper}{o:Oper}{a:Act}{Q:Exit->Act->World->Prop}
theorem Cm(w:World)(hg:o.guard=none)(s x:Operand)(t e:TypeId)(hop:o.op=Op.call {callee:=Callee.builtin Builtin.append,args:=#[s,x],argTypes:=#[t,t]})
  (i:TypeInfo) (z:Value) (bytes:Nat) (ht:Tryz.prog.underlying t=some (.slice e)) (hi:Tryz.prog.info? e=some i) (hz:i.zero=some z) (hsize:i.size=k) (hby:i.bytes=bytes) (hzs:z.cells.size=k) (hk:0<k)
  (base:Nat) (v:Value) (L:List A) (hs:a.eval s=v) (hown:w.ownsRow base e k v L.length (L.flatMap enc)) (xv:Value) (hx:a.eval x=xv) (M:List A) {C:Nat->Nat->Value} (hM:Ak w xv M.length k C) (hC:CL enc M C k)
  (hl: ∀x,(enc x).length=k) (h1: ∀x∈M,∀u∈enc x,u.oneCell'=true) (h63:L.length+M.length<=100000) (hbytes:bytes<=1000) (hbase:base<=w.heap.size)
  (hK: ∀A' n' cap' w',n'=(L++M).length->w'.ownsRow base e k (.slice A' n' cap') (L++M).length ((L++M).flatMap enc)->w.grownBy w' v.ownBlock->((Value.slice A' n' cap').ownBlock=v.ownBlock∨(Value.slice A' n' cap').ownBlock=some w.heap.size)->wpList Tryz.prog ops Q rest (a.put o.dst (.slice A' n' cap')) w'):wpList Tryz.prog ops Q (o::rest) a w:=by
 refine wpList_plain hg fun K' hK'=>?_
 obtain⟨A1,cap1,rfl,hc1,hA1⟩:=hM
 have hbb:(L.length+M.length)*bytes<=140737488355328:=Aml (Nat.mul_le_mul h63 hbytes) (by decide)
 have hrun: ∃v' w',(Builtin.append_ #[t,t] o.type #[v,.slice A1 M.length cap1]).run Tryz.prog w= .ok v' w'/\w'.ownsRow base e k v' (L++M).length ((L++M).flatMap enc)/\w.grownBy w' v.ownBlock/\ (v'.ownBlock=v.ownBlock∨v'.ownBlock=some w.heap.size):=by
  rcases Nat.eq_zero_or_pos M.length with h0 | h0
  ·have hM0:M=[]:=List.length_eq_zero_iff.1 h0
   subst hM0
   rw[List.append_nil]
   cases A1 with
   | none=>
    have hb: ∃b n' c',v= .slice b n' c'/\n'<=c':=by
     rcases hown.2 with⟨rfl,_⟩ | ⟨g,cap,cur,rfl,_,_,h6,_⟩
     ·exact⟨_,_,_,rfl,Ama _⟩
     ·exact⟨_,_,_,rfl,h6⟩
    obtain⟨b,n',c',rfl,hle⟩:=hb
    exact⟨_,_,run_append_nothing (P:=Tryz.prog) w t t o.type e i ht hi b n' c' hle _ (Src.ofNil w ht cap1),hown,⟨rfl,rfl,rfl,Ama _,fun _ _ _=>rfl⟩,.inl rfl⟩
   | some ad=>
    obtain⟨v',w',r1,r2,r3,-,r5⟩:=run_append_own_at (P:=Tryz.prog) w base t o.type e i z k bytes ht hi hz hsize hby hzs hk v L.length _ hown ad 0 cap1 [] (by simp) (fun j u hu=>by simp at hu) (fun u hu=>by simp at hu) (by simp only[maxLen];omega) (by simpa using hbb) hbase
    rw[List.append_nil,Nat.add_zero]at r2
    exact⟨v',w',r1,r2,r3,r5⟩
  ·obtain⟨g,off,rfl,hcell⟩:=hA1 h0
   obtain⟨v',w',r1,r2,r3,-,r5⟩:=run_append_own_at (P:=Tryz.prog) w base t o.type e i z k bytes ht hi hz hsize hby hzs hk v L.length _ hown ⟨g,off,none⟩ M.length cap1 (M.flatMap enc) (Cb hl M) (fun j u hu=>by
    have hj:j<M.length*k:=by rw[<-Cb hl M];exact(List.getElem?_eq_some_iff.1 hu).1
    have e1:j=j / k*k+j % k:=by rw[Nat.mul_comm];exact(Nat.div_add_mod j k).symm
    have hq:j / k<M.length:=Nat.div_lt_of_lt_mul (by rw[Nat.mul_comm];exact hj)
    have h2:=hC.get hk hl hq (Nat.mod_lt j hk)
    rw[<-e1,hu]at h2
    rw[Addr.add_lit]
    have h3:=hcell (j / k) (j % k) hq (Nat.mod_lt j hk)
    rw[<-e1]at h3
    rw[h3,<-h2]) (fun u hu=>by
    obtain⟨x,hm,hx⟩:=List.mem_flatMap.1 hu
    exact h1 x hm u hx) (by simp only[maxLen];omega) hbb hbase
   rw[<-List.flatMap_append,<-Ami]at r2
   exact⟨v',w',r1,r2,r3,r5⟩
 obtain⟨v',w',hrun,r2,r3,r4⟩:=hrun
 unfold Oper.wp
 simp[execOp,hop,resolve,invoke,builtin,hx,hs,hrun,Result.andThen]
 have hf: ∃A' cap',v'= .slice A' (L++M).length cap':=by
  rcases r2.2 with⟨rfl,h0⟩ | ⟨g,cap,cur,rfl,_⟩
  ·exact⟨none,0,by rw[h0]⟩
  ·exact⟨_,_,rfl⟩
 obtain⟨A',cap',rfl⟩:=hf
 exact hK' _ _ (hK A' _ cap' w' rfl r2 r3 r4)
end
theorem Zq:(Tryz.prog.info? 132).map (fun i=>(i.zero,i.size,i.bytes))=some (some (.agg #[.string ⟨#[]⟩,.int .i64 0]),2,24):=by kernel_rfl
theorem Aj{w:World}{base:Nat}{e:TypeId}{size k:Nat}{v:Value}{xs:List Value}(h:w.ownsRow base e size v k xs): ∃A cap,v= .slice A k cap/\k<=cap:=by
 rcases h.2 with⟨rfl,h0⟩ | ⟨g,cap,cur,rfl,_,_,h6,_⟩
 ·exact⟨none,0,by rw[h0],by omega⟩
 ·exact⟨_,_,rfl,h6⟩
theorem Gt.foldl_snoc(rec_:Int->Gt->Gt)(l:List Item)(i:Item)(g:Gt):(l++[i]).foldl (gIt rec_) g=gIt rec_ (l.foldl (gIt rec_) g) i:=by rw[List.foldl_append];rfl
theorem Aeu(M:Mem)(f:Nat)(l l':List Item)(g:Gt):(l.foldl (gIt (gDir M f)) g).n<= ((l++l').foldl (gIt (gDir M f)) g).n:=by
 rw[List.foldl_append]
 exact Wh (Ada M f) l' _
theorem Um(M:Mem)(num:Int): ∀b,b<=8-> ∃l,itsM M num=Dt M num b++l:=by
 intro b hb
 unfold itsM Dt
 obtain⟨c,hc⟩: ∃c,8=b+c:=⟨8 - b,by omega⟩
 rw[hc,List.range_add,List.flatMap_append]
 exact⟨_,rfl⟩
theorem Oz{M:Mem}(hf:M.fit){num:Int}(hn:1<=num/\num<=257): ∀b,b<=8->(Dt M num b).length<=b*1000
 | 0,_=>by simp[Dt]
 | b+1,hb=>by
  have:=Oz hf hn b (by omega)
  have:=(hf.it num b hn ⟨by omega,by omega⟩).1
  rw[Jw,Ami];omega
structure Dw (L V:Nat->Prop) (w:World) (s fb ab xb:Nat) (M:Mem) (num:Int) (ev:Value) (D:List En) (g:Gt) (W:World):Prop where
 ex: ∃K:Nat->Prop,(∀b,L b->K b)/\K xb/\ (∀q,ev.ownBlock=some q->K q)/\Ab K W s M
 k:Kd L fb ab w W
 gv: ∃V':Nat->Prop,(∀b,V b->V' b)/\ (∀q,ev.ownBlock=some q->V' q)/\ (∀q,V' q->q<W.heap.size)/\GV V' W fb ab M g
 x:Blk W xb 93 #[.int .i64 num,.bool true,ev,.string ⟨#[]⟩]
 nx:w.heap.size<=xb
 row:W.ownsRow w.heap.size 132 2 ev D.length (D.flatMap Ai)
namespace Dw
variable{L V:Nat->Prop}{w W W':World}{s fb ab xb:Nat}{M:Mem}{num:Int}{ev:Value}{D:List En}{g:Gt}
theorem m(h:Dw L V w s fb ab xb M num ev D g W):Ab L W s M:=by obtain⟨K,h1,-,-,h2⟩:=h.ex;exact h2.sub h1
theorem g0(h:Dw L V w s fb ab xb M num ev D g W):GV V W fb ab M g:=by obtain⟨K,h1,-,-,h2⟩:=h.gv;exact h2.sub h1
theorem below(h:Dw L V w s fb ab xb M num ev D g W)(hb:Below W.heap.size W W'):Dw L V w s fb ab xb M num ev D g W':=by
 obtain⟨K,h1,h2,h3,h4⟩:=h.ex
 obtain⟨V',v1,v2,v3,v4⟩:=h.gv
 exact⟨⟨K,h1,h2,h3,h4.below hb⟩,h.k.trans (Kd.below h.m.bd hb),⟨V',v1,v2,fun q hq=>Amk (v3 q hq) hb.size,v4.below hb⟩,Blk.of_heap (hb.block _ h.x.lt) h.x,h.nx,Bc h.row hb⟩
theorem alloc(h:Dw L V w s fb ab xb M num ev D g W)(o:Obj):Dw L V w s fb ab xb M num ev D g (W.alloc o):=h.below ((Amf _ _).alloc (Ama _) o)
theorem drew(h:Dw L V w s fb ab xb M num ev D g W):Dw L V w s fb ab xb M num ev D g W.drew:=h.below (Ae W)
theorem call(h:Dw L V w s fb ab xb M num ev D g W){P:FuncId}{args:Array Value}{R:Ending->World->Prop}
  (hc: ∀K,Ab K W s M->Calls Tryz.prog P args W fun e w'=>R e w'/\Ab K w' s M/\Kp K W w'):
  Calls Tryz.prog P args W fun e w'=>R e w'/\Dw L V w s fb ab xb M num ev D g w':=by
 obtain⟨K,h1,h2,h3,h4⟩:=h.ex
 obtain⟨V',v1,v2,v3,v4⟩:=h.gv
 refine(Vf h4 hc).mono ?_
 rintro e w' ⟨hr,hm,hk⟩
 exact⟨hr,⟨K,h1,h2,h3,hm⟩,h.k.trans (Kd.ofKw (hk.sub h1)),⟨V',v1,v2,fun q hq=>Amk (v3 q hq) hk.size,v4.kw hk⟩,hk.blk h.x Bf,h.nx,hk.row h.row Eo⟩
theorem gather(h:Dw L V w s fb ab xb M num ev D g W){P:FuncId}{args:Array Value}{g':Gt}{R:Ending->Prop}
  (hc: ∀K V':Nat->Prop,(∀b,L b->K b)->Ab K W s M->GV V' W fb ab M g->(∀q,V' q->q<W.heap.size)->Calls Tryz.prog P args W fun e w'=>R e/\Ab K w' s M/\GV V' w' fb ab M g'/\Kd K fb ab W w'):
  Calls Tryz.prog P args W fun e w'=>R e/\Dw L V w s fb ab xb M num ev D g' w'/\KI W w':=by
 obtain⟨K,h1,h2,h3,h4⟩:=h.ex
 obtain⟨V',v1,v2,v3,v4⟩:=h.gv
 refine(hc K V' h1 h4 v4 v3).mono ?_
 rintro e w' ⟨hr,hm,hg,hk⟩
 exact⟨hr,⟨⟨K,h1,h2,h3,hm⟩,h.k.trans ⟨hk.os,hk.tape,hk.output,hk.size,fun b hb=>hk.l b (h1 b hb),hk.o,hk.i⟩,⟨V',v1,v2,fun q hq=>Amk (v3 q hq) hk.size,hg⟩,hk.blk v4.objF v4.objA h.x Bf,h.nx,hk.row v4.objF v4.objA h.row Eo⟩,hk.i⟩
theorem app(h:Dw L V w s fb ab xb M num ev D g W){v':Value}{n':Nat}{D':List En}(hl:Bd L w)(hn:n'=D'.length)(ho:W'.ownsRow w.heap.size 132 2 v' n' (D'.flatMap Ai))(hg:W.grownBy W' ev.ownBlock)
  (hr:v'.ownBlock=ev.ownBlock∨v'.ownBlock=some W.heap.size):Dw L V w s fb ab xb M num v' D' g (W'.setCell ⟨xb,2,none⟩ v'):=by
 subst hn
 obtain⟨K,h1,h2,h3,h4⟩:=h.ex
 obtain⟨V',v1,v2,v3,v4⟩:=h.gv
 have hrow: ∀q,ev.ownBlock=some q-> ∃t cs,Blk W q t cs:=fun q hq=>by
  obtain⟨-,cs',hb⟩:=Ag h.row hq
  exact⟨_,_,hb⟩
 have hty: ∀{b:Nat} {t:TypeId} {cs:Array Value},Blk W b t cs->t≠132->Blk W' b t cs:=fun {b t cs} hb ht=>Blk.of_heap (hg.block b hb.lt (fun e=>by
  obtain⟨-,cs',hq⟩:=Ag h.row e.symm
  exact Blk.ne_ hb hq ht rfl)) hb
 have hx':=hty h.x (by decide)
 have hin:w.heap.size<=W.heap.size:=h.k.size
 have hnew: ∀b,v'.ownBlock=some b->b<W.heap.size->ev.ownBlock=some b:=fun b hb hlt=>by
  rcases hr with hr | hr
  ·rw[<-hr];exact hb
  ·rw[hr]at hb
   have:=Amg hb
   omega
 have hK:Bd (fun b=>K b∨v'.ownBlock=some b) W':=fun b hb=>by
  rcases hb with hb | hb
  ·exact Amk (h4.bd b hb) hg.size
  ·exact(ho.lt b hb).2
 have hm':Ab (fun b=>K b∨v'.ownBlock=some b) W' s M:=by
  refine h4.move hK hg.size (fun b hb hlt=>?_) (fun b hlt hn=>hg.block b hlt (fun e=>hn (h3 b e.symm)))
  rcases hb with hb | hb
  ·exact hb
  ·exact h3 b (hnew b hb hlt)
 have hxn:v'.ownBlock≠some xb:=fun e=>by
  obtain⟨-,cs',hq⟩:=Ag ho e
  exact Blk.ne_ hx' hq (by decide) rfl
 have hgv: ∃V'':Nat->Prop,(∀b,V b->V'' b)/\ (∀q,v'.ownBlock=some q->V'' q)/\ (∀q,V'' q->q<W'.heap.size)/\GV V'' W' fb ab M g:=by
  cases hq:v'.ownBlock with
  | none=>exact⟨V',v1,fun q h=>(by cases h),fun q h=>Amk (v3 q h) hg.size,v4.grown hg fun q e=>⟨v2 q e,hrow q e⟩⟩
  | some q=>
   refine⟨ins V' q,fun b hb=>.inl (v1 b hb),fun p hp=>.inr (Amg hp).symm,fun p hp=>?_,(v4.addV (q:=q) ?_).grown hg fun p e=>⟨.inl (v2 p e),hrow p e⟩⟩
   ·rcases hp with hp | hp
    ·exact Amk (v3 p hp) hg.size
    ·rw[hp];exact(ho.lt q hq).2
   ·by_cases e:q<W.heap.size
    ·exact .inr (v2 q (hnew q hq e))
    ·exact .inl (by omega)
 obtain⟨V'',u1,u2,u3,u4⟩:=hgv
 have hk1:Kd L fb ab w W':=⟨hg.os.trans h.k.os,hg.tape.trans h.k.tape,hg.output.trans h.k.output,Aml h.k.size hg.size,fun b hb q1 q2=>(hg.block b (by have:=hl b hb;omega) (fun e=>by have:=(h.row.lt b e.symm).1;have:=hl b hb;omega)).trans (h.k.l b hb q1 q2),fun b hb hn q1 q2=>(hg.block b (by omega) (fun e=>by have:=(h.row.lt b e.symm).1;omega)).trans (h.k.o b hb hn q1 q2),h.k.i.trans fun b t cs ht hb=>hty hb (by rcases ht with rfl | rfl <;> decide)⟩
 have hxl:=h.nx
 refine⟨⟨_,fun b hb=>.inl (h1 b hb),.inl h2,fun q hq=>.inr hq,hm'.set hx' (.inl h2) 2 v'⟩,?_,⟨V'',u1,u2,fun q hq=>by simpa[World.setCell]using u3 q hq,u4.setE hx' (by decide) 2 v'⟩,hx'.set_ 2 v',h.nx,ownsRow_setCell_other ho (a:=⟨xb,2,none⟩) hxn v'⟩
 exact⟨hk1.os,hk1.tape,hk1.output,by simpa[World.setCell]using hk1.size,fun b hb q1 q2=>(Below.heap_setCell _ _ _ _ (show b≠xb by have:=hl b hb;omega)).trans (hk1.l b hb q1 q2),fun b hb hn q1 q2=>(Below.heap_setCell _ _ _ _ (show b≠xb by omega)).trans (hk1.o b hb hn q1 q2),hk1.i.setNew hxl 2 v'⟩
theorem app_ki(h:Dw L V w s fb ab xb M num ev D g W){v':Value}(hg:W.grownBy W' ev.ownBlock):KI W (W'.setCell ⟨xb,2,none⟩ v'):=by
 have hty: ∀{b:Nat} {t:TypeId} {cs:Array Value},Blk W b t cs->t≠132->Blk W' b t cs:=fun {b t cs} hb ht=>Blk.of_heap (hg.block b hb.lt (fun e=>by
  obtain⟨-,cs',hq⟩:=Ag h.row e.symm
  exact Blk.ne_ hb hq ht rfl)) hb
 intro b t cs ht hb
 exact(hty hb (by rcases ht with rfl | rfl <;> decide)).far (p:=⟨xb,2,none⟩) (Blk.ne_ (hty hb (by rcases ht with rfl | rfl <;> decide)) (hty h.x (by decide)) (by rcases ht with rfl | rfl <;> decide)) _
theorem sorted(h:Dw L V w s fb ab xb M num ev D g W){D':List En}(hl:Bd L w)(hn:D'.length=D.length)(ho:W'.ownsRow w.heap.size 132 2 ev D.length (D'.flatMap Ai))(hg:W.grownBy W' ev.ownBlock):Dw L V w s fb ab xb M num ev D' g W':=by
 obtain⟨K,h1,h2,h3,h4⟩:=h.ex
 obtain⟨V',v1,v2,v3,v4⟩:=h.gv
 have hrow: ∀q,ev.ownBlock=some q-> ∃t cs,Blk W q t cs:=fun q hq=>by
  obtain⟨-,cs',hb⟩:=Ag h.row hq
  exact⟨_,_,hb⟩
 have hty: ∀{b:Nat} {t:TypeId} {cs:Array Value},Blk W b t cs->t≠132->Blk W' b t cs:=fun {b t cs} hb ht=>Blk.of_heap (hg.block b hb.lt (fun e=>by
  obtain⟨-,cs',hq⟩:=Ag h.row e.symm
  exact Blk.ne_ hb hq ht rfl)) hb
 have hin:w.heap.size<=W.heap.size:=h.k.size
 exact⟨⟨K,h1,h2,h3,h4.move (fun b hb=>Amk (h4.bd b hb) hg.size) hg.size (fun _ hb _=>hb) fun b hlt hn=>hg.block b hlt (fun e=>hn (h3 b e.symm))⟩,
  ⟨hg.os.trans h.k.os,hg.tape.trans h.k.tape,hg.output.trans h.k.output,Aml h.k.size hg.size,fun b hb q1 q2=>(hg.block b (by have:=hl b hb;omega) (fun e=>by have:=(h.row.lt b e.symm).1;have:=hl b hb;omega)).trans (h.k.l b hb q1 q2),fun b hb hn q1 q2=>(hg.block b (by omega) (fun e=>by have:=(h.row.lt b e.symm).1;omega)).trans (h.k.o b hb hn q1 q2),h.k.i.trans fun b t cs ht hb=>hty hb (by rcases ht with rfl | rfl <;> decide)⟩,
  ⟨V',v1,v2,fun q hq=>Amk (v3 q hq) hg.size,v4.grown hg fun q e=>⟨v2 q e,hrow q e⟩⟩,hty h.x (by decide),h.nx,hn▸ho⟩
theorem file(h:Dw L V w s fb ab xb M num ev D g W){n:Int}(hm:MapV W' fb (g.n+1) (fun j=>if j=n then some (.bool true)else Ih g j))(hg:W.grownBy W' (some fb))(hLf:L fb):
  Dw L V w s fb ab xb M num ev D ⟨n::g.fs,g.ds⟩ W':=by
 obtain⟨K,h1,h2,h3,h4⟩:=h.ex
 obtain⟨V',v1,v2,v3,v4⟩:=h.gv
 have kk:Kd K fb ab W W':=Kd.grownF h4.bd v4.objF hg
 exact⟨⟨K,h1,h2,h3,h4.grown (h1 _ hLf) hg⟩,h.k.trans ⟨kk.os,kk.tape,kk.output,kk.size,fun b hb=>kk.l b (h1 b hb),kk.o,kk.i⟩,⟨V',v1,v2,fun q hq=>Amk (v3 q hq) hg.size,v4.file h4.bd hm hg⟩,kk.blk v4.objF v4.objA h.x Bf,h.nx,kk.row v4.objF v4.objA h.row Eo⟩
end Dw
theorem GV.dir2{L V:Nat->Prop}{w w':World}{fb ab:Nat}{M:Mem}{g:Gt}(hbd:Bd L w)(h:GV V w fb ab M g){num:Int}{y:Value}{fa:Int->Option Value}(h2: ∀i,(fa i).isSome=decide (i∈g.ds)/\ ∀v,fa i=some v->DirV V w M i v)
  (hm:MapV w' ab (g.n+1) (fun j=>if j=num then some y else fa j)) (hy:DirV V w M num y) (hg:w.grownBy w' (some ab)):GV V w' fb ab M ⟨g.fs,num::g.ds⟩:=by
 have kb:Kd L fb ab w w':=Kd.grownA hbd h.objA hg
 have e:Gt.n ⟨g.fs,num::g.ds⟩=g.n+1:=by unfold Gt.n;simp;omega
 refine⟨by rw[e];exact(h.f.kept hg fun q=>h.ne (Amg q)).mono (by omega),h.ne,_,by rw[e];exact hm,fun i=>?_⟩
 by_cases q:i=num
 ·subst q
  simp only[if_pos rfl]
  refine⟨by simp,fun v hv=>?_⟩
  injection hv with hv
  exact hv▸hy.kd kb h.objF h.objA
 ·simp only[if_neg q]
  refine⟨by rw[(h2 i).1];simp[q],fun v hv=>((h2 i).2 v hv).kd kb h.objF h.objA⟩
theorem Acr{l:List Item}{k:Nat}(hk:k<l.length):l.take (k+1)=l.take k++[l.getD k Ba]:=by
 rw[List.take_add_one,Amh hk,Ame,Amh hk]
 rfl
theorem Hw: ¬ ((172:TypeId)=78∨(172:TypeId)=150∨(172:TypeId)=20∨(172:TypeId)=152∨(172:TypeId)=3∨(172:TypeId)=136):=by decide
def DirC(M:Mem)(f:Nat):Prop:=∀(L V:Nat->Prop) (w:World) (s fb ab gb:Nat) (num:Int) (g:Gt),Deep M f num->Ab L w s M->L fb->L ab->GV V w fb ab M g->(∀q,V q->q<w.heap.size)->
  Blk w gb 172 #[.pointer (some ⟨s,0,none⟩),.int .i64 (-1),.map (some fb),.map (some ab)]->(gDir M f num g).n<=1000000->
  Calls Tryz.prog 88 #[.pointer (some ⟨gb,0,none⟩),.int .i64 num] w fun e w'=>e= .returned (.tuple #[])/\Ab L w' s M/\GV V w' fb ab M (gDir M f num g)/\Kd L fb ab w w'
theorem Ae3(M:Mem):DirC M 0:=fun _ _ _ _ _ _ _ _ _ hD=>hD.elim
theorem Ae4{M:Mem}{m:Nat}(hok:M.ok m)(hm:m<=900000000)(hf:M.fit)(f:Nat)(IH:DirC M f):DirC M (f+1):=by
  intro L V w s fb ab gb num g hD hM hLf hLa hG hV hgb hn
  obtain⟨hnum,hsub⟩:=hD
  have HL:=lhi hM.bd
  have HD0:=lhi (show Dw L V w s fb ab w.heap.size M num (.slice none 0 0) ((Dt M num 0).map Gp) ((Dt M num 0).foldl (gIt (gDir M f)) g) (w.alloc (.cells #[.int .i64 num,.bool true,.slice none 0 0,.string ⟨#[]⟩] 93))from
   ⟨⟨ins L w.heap.size,fun b hb=>ins.old hb,ins.new _ _,fun q hq=>(by cases hq),hM.allocIns _⟩,Kd.below hM.bd ((Amf _ _).alloc (Ama _) _),⟨V,fun _ h=>h,fun q hq=>(by cases hq),fun q hq=>Amk (hV q hq) (by simp),hG.alloc _⟩,Blk.new _ _ _,Ama _,World.ownsRow_nil _ _ _ _⟩)
  have HOK:=lhi hok
  have HF:=lhi hf
  have HGB:=lhi hgb
  have HS:=lhi hsub
  have HOF:=lhi hG.objF
  have HOA:=lhi hG.objA
  have HN:=lhi hn
  have HLF:=lhi hLf
  have HLA:=lhi hLa
  have HVV:=lhi hV
  clear hM hLf hLa hG hV hgb hn hsub hok hf
  go_enter Tryz.func88,Tryz.ntmps88
  go_wp2_with (fail)
  obtain⟨w1,hw1⟩:=yy (w.alloc (.cells #[.int .i64 num,.bool true,.slice none 0 0,.string ⟨#[]⟩] 93))
  obtain⟨xb,hxb⟩:=yy w.heap.size
  rw[<-hw1,<-hxb]at HD0
  rw[<-hw1,<-hxb]
  clear hw1
  have HXB:=lhi hxb
  clear hxb
  go_loopw [10] (fun i wr=>∃(b:Nat) (ev:Value),i= .int .i64 b/\b<=8/\Dw L V w s fb ab xb M num ev ((Dt M num b).map Gp) ((Dt M num b).foldl (gIt (gDir M f)) g) wr) (fun i _=>8 - (intOf i).toNat)
  case atStart=>exact⟨0,_,rfl,by omega,HD0.out⟩
  case round=>
   obtain⟨b,ev,rfl,hb,hdw⟩:=hrel
   have HDW:=lhi hdw
   by_cases hp:b<8
   ·have hp1:(b:Int)<8:=by omega
    have HGW:=lhi (hdw.k.blk HOF.out HOA.out HGB.out Hw)
    have g0:wr.cell? ⟨gb,0,none⟩=some (.pointer (some ⟨s,0,none⟩)):=HGW.out.cell 0
    have g1:wr.cell? ⟨gb,1,none⟩=some (.int .i64 (-1)):=HGW.out.cell 1
    have HBK:=lhi (hdw.call fun K hK=>Ij hK HOK.out (by omega) (.inl rfl) hnum (b:=(b:Int)) ⟨by omega,by omega⟩ (HF.out.bk num b hnum ⟨by omega,by omega⟩).1 (HF.out.bk num b hnum ⟨by omega,by omega⟩).2 |>.mono (by rintro e w' ⟨h1,h2,h3⟩;rw[Mem.see_neg]at h2;exact⟨h1,h2,h3⟩))
    clear hdw
    have HII:=lhi (HF.out.it num b hnum ⟨by omega,by omega⟩)
    go_wp2_with (go_at_call 136;refine HBK.out.mono ?_;rintro e w4 ⟨⟨v,rfl,hit⟩,hdw⟩;obtain⟨HIT⟩:=(⟨lhi hit⟩:Nonempty _);have HDW4:=lhi hdw;clear hit hdw;obtain⟨A,cap,rfl,hcap,-⟩:=RowT.at' HIT.out)
    clear g0 g1 HGW HDW
    have HKI4:=lhi (KI.refl w4)
    have HTK:=lhi (show Dw L V w s fb ab xb M num ev ((Dt M num b++(M.bkt num (b:Int)).take 0).map Gp) ((Dt M num b++(M.bkt num (b:Int)).take 0).foldl (gIt (gDir M f)) g) w4 by rw[List.take_zero,List.append_nil];exact HDW4.out)
    obtain⟨l,hl⟩:=xx (M.bkt num (b:Int))
    have HLE:=lhi hl
    rw[hl]at HIT HTK HII hcap⊢
    clear hl HBK HDW4
    obtain⟨n,hn⟩:=xx l.length
    have HNN:=lhi hn
    rw[hn]
    rw[hn]at HIT hcap
    clear hn
    have hn1:n<=1000:=by have:=HII.out.1;rw[HNN.out]at this;exact this
    go_loopw [21] (fun i wr=>∃(k:Nat) (ev:Value),i= .int .i64 k/\k<=n/\Dw L V w s fb ab xb M num ev ((Dt M num b++l.take k).map Gp) ((Dt M num b++l.take k).foldl (gIt (gDir M f)) g) wr/\KI w4 wr) (fun i _=>n - (intOf i).toNat)
    case atStart=>exact⟨0,_,rfl,by omega,HTK.out,HKI4.out⟩
    case round=>
     obtain⟨k,ev,rfl,hk,hdw,hki⟩:=hrel
     by_cases hpk:k<n
     ·
      have hp2:(k:Int)<n:=by omega
      have hkl:k<l.length:=by rw[HNN.out];exact hpk
      obtain⟨-,-,ig,ioff,rfl,icell⟩:=(RowT.at' (HIT.out.ki hki)).at_ hkl
      have c0:wr.cell? ⟨ig,ioff+k*3,none⟩=some (.string (l.getD k Ba).name):=icell 0 (by omega)
      have c1:wr.cell? ⟨ig,ioff+k*3+1,none⟩=some (.int .i64 (l.getD k Ba).num):=icell 1 (by omega)
      have c2:wr.cell? ⟨ig,ioff+k*3+2,none⟩=some (.bool (l.getD k Ba).dir):=icell 2 (by omega)
      have hin:1<= (l.getD k Ba).num/\ (l.getD k Ba).num<=257:=HII.out.2 _ (by rw[Ame,Amh hkl];exact List.getElem_mem hkl)
      have hmem:l.getD k Ba∈itsM M num:=by
       obtain⟨l',e⟩:=Um M num (b+1) (by omega)
       rw[e,Jw,HLE.out]
       exact List.mem_append_left _ (List.mem_append_right _ (by rw[Ame,Amh hkl];exact List.getElem_mem hkl))
      have HSB:=lhi (HS.out _ hmem)
      have HST:=lhi (show Dt M num b++l.take (k+1)=(Dt M num b++l.take k)++[l.getD k Ba]by rw[Acr hkl,List.append_assoc])
      have HLL:=lhi (show(Dt M num b++l.take k).length<=9000 by
       have:=Oz HF.out hnum b (by omega)
       rw[Ami,List.length_take];omega)
      have HGN:=lhi (show(gIt (gDir M f) ((Dt M num b++l.take k).foldl (gIt (gDir M f)) g) (l.getD k Ba)).n<=1000000 by
       obtain⟨l',e⟩:=Um M num (b+1) (by omega)
       have h1:=HN.out
       unfold gDir Gt.n at h1
       have h2:=Aeu M f (Dt M num b++l.take (k+1)) (l.drop (k+1)++l') g
       rw[List.append_assoc,<-List.append_assoc (l.take (k+1)),List.take_append_drop,<-HLE.out,<-List.append_assoc,<-Jw,<-e,HLE.out,Acr hkl,<-List.append_assoc,Gt.foldl_snoc]at h2
       unfold Gt.n at h2⊢
       simp at h1
       omega)
      clear icell hmem
      obtain⟨it,hit⟩:=xx (l.getD k Ba)
      rw[hit]at c0 c1 c2 hin HSB HST HGN
      clear hit
      obtain⟨LD,hLD⟩:=xx (Dt M num b++l.take k)
      rw[hLD]at hdw HST HLL HGN
      clear hLD
      obtain⟨G,hG⟩:=xx (LD.foldl (gIt (gDir M f)) g)
      have HGE:=lhi hG
      rw[hG]at hdw HGN
      clear hG
      have HKI:=lhi hki
      obtain⟨D,hD⟩:=xx (LD.map Gp)
      have HDE:=lhi hD
      have hll:D.length+1<=100000:=by have:=HLL.out;rw[<-hD,List.length_map];omega
      rw[hD]at hdw
      clear hD
      obtain⟨eA,ecap,rfl,hecap⟩:=Aj hdw.row
      have x2:wr.cell? ⟨xb,2,none⟩=some (.slice eA D.length ecap):=hdw.x.cell 2
      have HD1:=lhi (hdw.alloc (.cells #[.string it.name,.int .i64 it.num,.bool it.dir] 136))
      have HD2:=lhi ((hdw.alloc (.cells #[.string it.name,.int .i64 it.num,.bool it.dir] 136)).alloc (.cells #[.string it.name,.int .i64 it.num] 132))
      clear hdw hki
      obtain⟨i0,hi0,hz⟩:=Option.map_eq_some_iff.1 Zq
      have hz0:i0.zero=some (.agg #[.string ⟨#[]⟩,.int .i64 0]):=congrArg (fun p=>p.1) hz
      have hz1:i0.size=2:=congrArg (fun p=>p.2.1) hz
      have hz2:i0.bytes=24:=congrArg (fun p=>p.2.2) hz
      clear hz
      have hbs:w.heap.size<= ((wr.alloc (.cells #[.string it.name,.int .i64 it.num,.bool it.dir] 136)).alloc (.cells #[.string it.name,.int .i64 it.num] 132)).heap.size:=HD2.out.k.size
      have x3:(wr.alloc (.cells #[.string it.name,.int .i64 it.num,.bool it.dir] 136)).cell? ⟨xb,2,none⟩=some (.slice eA D.length ecap):=HD1.out.x.cell 2
      have HNR:=lhi (show Ak ((wr.alloc (.cells #[.string it.name,.int .i64 it.num,.bool it.dir] 136)).alloc (.cells #[.string it.name,.int .i64 it.num] 132)) (.slice (some ⟨wr.heap.size+1,0,none⟩) 1 1) 1 2 (entL [Gp it])from by
       have hB:=(Blk.new (wr.alloc (.cells #[.string it.name,.int .i64 it.num,.bool it.dir] 136)) 132 #[.string it.name,.int .i64 it.num])
       have e:(wr.alloc (.cells #[.string it.name,.int .i64 it.num,.bool it.dir] 136)).heap.size=wr.heap.size+1:=by simp
       rw[e]at hB
       exact⟨_,_,rfl,Ama _,fun _=>⟨_,0,rfl,fun i j hi hj=>by
        obtain rfl:i=0:=by omega
        rcases(by omega:j=0∨j=1)with rfl | rfl
        ·exact hB.cell 0
        ·exact hB.cell 1⟩⟩)
      go_upto_region 8 with(at_builtin;refine Cm _ rfl (.tmp 26) (.tmp 32) 91 132 rfl i0 _ 24 Tryz.underlying91 hi0 hz0 hz1 hz2 rfl (by decide) w.heap.size (.slice eA D.length ecap) D rfl HD2.out.row (.slice (some ⟨wr.heap.size+1,0,none⟩) 1 1) rfl [Gp it] (C:=entL [Gp it]) HNR.out (Ee _) Bn (fun x _=>Lm x) hll (by decide) hbs ?_;intro A' n' cap' w5 hn' ho hgr hor;obtain rfl:n'=D.length+1:=(hn'.trans Ami);have HD5:=lhi (HD2.out.app HL.out (by simp) ho hgr hor);have HK5:=lhi (HD2.out.app_ki (v':=.slice A' (D.length+1) cap') hgr);have HI5:=lhi (show Blk (w5.setCell ⟨xb,2,none⟩ (.slice A' (D.length+1) cap')) wr.heap.size 136 #[.string it.name,.int .i64 it.num,.bool it.dir]from HK5.out _ _ _ (.inl rfl) ((Blk.new wr 136 #[.string it.name,.int .i64 it.num,.bool it.dir]).alloc _));have HX5:=lhi (Blk.of_heap (hgr.block xb HD2.out.x.lt (fun e=>by obtain⟨-,cs',hq⟩:=Ag HD2.out.row e.symm;exact Blk.ne_ HD2.out.x hq (by decide) rfl)) HD2.out.x);have f2:w5.frozen? ⟨xb,2,none⟩=false:=HX5.out.frozen _;have x5:w5.cell? ⟨xb,2,none⟩=some (.slice eA D.length ecap):=HX5.out.cell 2;have y2:(w5.setCell ⟨xb,2,none⟩ (.slice A' (D.length+1) cap')).cell? ⟨wr.heap.size,2,none⟩=some (.bool it.dir):=HI5.out.cell 2;have y1:(w5.setCell ⟨xb,2,none⟩ (.slice A' (D.length+1) cap')).cell? ⟨wr.heap.size,1,none⟩=some (.int .i64 it.num):=HI5.out.cell 1;clear hn' ho hgr hor)
      have HD6:=lhi HD5.out
      have HK6:=lhi (((HKI.out.alloc _).alloc _).trans HK5.out)
      have HI6:=lhi HI5.out
      have HDQ:=lhi (show(LD++[it]).map Gp=D++[Gp it]by rw[List.map_append,HDE.out];rfl)
      have HGQ:=lhi (show(LD++[it]).foldl (gIt (gDir M f)) g=gIt (gDir M f) G it by rw[Gt.foldl_snoc,HGE.out])
      clear HD1 HD2 HD5 HK5 HI5 HKI HNR c0 c1 c2 x2 x3 f2 x5 HX5 hecap
      generalize w5.setCell ⟨xb,2,none⟩ (.slice A' (D.length+1) cap')=w6 at*
      generalize wr.heap.size=ib at*
      obtain⟨dv,hdv⟩:=xx it.dir
      rw[hdv]at y2 HI6⊢
      have HDV:=lhi hdv
      clear hdv
      cases dv
      ·have HGI:=lhi (show gIt (gDir M f) G it=⟨it.num::G.fs,G.ds⟩by unfold gIt;rw[HDV.out];rfl)
       have HGB6:=lhi (HD6.out.k.blk HOF.out HOA.out HGB.out Hw)
       have g1:w6.cell? ⟨gb,1,none⟩=some (.int .i64 (-1)):=HGB6.out.cell 1
       have g2:w6.cell? ⟨gb,2,none⟩=some (.map (some fb)):=HGB6.out.cell 2
       have hgn:G.n<1000000000:=by
        have:=HGN.out
        rw[HGI.out]at this
        unfold Gt.n at this⊢
        simp at this;omega
       have HMF:=lhi (show MapV w6.drew fb G.n (Ih G)from HD6.out.g0.f)
       go_upto_region 10 with(fail)
       go_still_tail 6,(by kernel_rfl)
       change wpList _ _ _ _ _ w6.drew
       go_wp2_with (at_mapUpdate;refine Hu _ rfl 127 4 Tryz.underlying127 (.tmp 44) (.tmp 46) (.const (.bool true)) (.inl rfl) fb G.n _ rfl HMF.out hgn it.num (by omega) rfl (.bool true) rfl ?_;intro w7 hM7 hG7)
       have HD7:=lhi (HD6.out.drew.file hM7 hG7 HLF.out)
       have HK7:=lhi (show KI w6 w7 from(KI.refl w6).drew.trans (KI.grown HD6.out.g0.objF hG7))
       clear hM7 hG7
       go_roundw
       case rel=>exact⟨k+1,_,by go_num,by omega,by rw[HST.out,HDQ.out,HGQ.out,HGI.out];exact HD7.out,HK6.out.trans HK7.out⟩
       case measure=>
        simp only[intOf]
        omega
      ·have HGI:=lhi (show gIt (gDir M f) G it=gDir M f it.num G by unfold gIt;rw[HDV.out];rfl)
       have HGB6:=lhi (HD6.out.k.blk HOF.out HOA.out HGB.out Hw)
       have HC:=lhi (HD6.out.gather (g':=gDir M f it.num G) (R:=fun e=>e= .returned (.tuple #[])) fun K V' hLK hm hgv hV=>IH K V' w6 s fb ab gb it.num G (HSB.out HDV.out) hm (hLK _ HLF.out) (hLK _ HLA.out) hgv hV HGB6.out (by rw[<-HGI.out];exact HGN.out))
       go_wp2_with (go_at_call 88;refine HC.out.mono ?_;rintro e w7 ⟨rfl,hdw,hki⟩;have HD7:=lhi hdw;have HK7:=lhi hki;clear hdw hki)
       go_roundw
       case rel=>exact⟨k+1,_,by go_num,by omega,by rw[HST.out,HDQ.out,HGQ.out,HGI.out];exact HD7.out,HK6.out.trans HK7.out⟩
       case measure=>
        simp only[intOf]
        omega
     ·have e:k=n:=by omega
      subst e
      have HDN:=lhi (show Dw L V w s fb ab xb M num ev ((Dt M num (b+1)).map Gp) ((Dt M num (b+1)).foldl (gIt (gDir M f)) g) wr by
       rw[Jw,HLE.out]
       rw[List.take_of_length_le (by rw[HNN.out];exact Ama _)]at hdw
       exact hdw)
      clear hdw HIT HTK HII HLE
      go_wp2_with (fail)
      go_roundw
      case rel=>exact⟨b+1,_,by go_num,by omega,HDN.out⟩
      case measure=>
       simp only[intOf]
       omega
   ·have e:b=8:=by omega
    subst e
    have HDW:=lhi hdw
    obtain⟨eA,ecap,rfl,hecap⟩:=Aj hdw.row
    clear hdw
    obtain⟨D,hD⟩:=xx ((Dt M num 8).map Gp)
    obtain⟨G,hG⟩:=xx ((Dt M num 8).foldl (gIt (gDir M f)) g)
    have HDL:=lhi (show D.length<=10000000 by rw[<-hD,List.length_map];have:=Oz HF.out hnum 8 (by omega);omega)
    have HDE:=lhi hD
    have HGE:=lhi hG
    rw[hD,hG]at HDW
    clear hD hG
    have HST:=lhi (Aex HDW.out.row HDL.out)
    have x2:wr.cell? ⟨xb,2,none⟩=some (.slice eA D.length ecap):=HDW.out.x.cell 2
    go_upto_region 14 with(go_at_call 137;refine HST.out.mono ?_;rintro e w5 ⟨rfl,D',hp,hsr,hg,ho⟩;have HP:=lhi hp;have HSR:=lhi hsr;have HD5:=lhi (HDW.out.sorted HL.out hp.length_eq ho hg).drew;clear hp hsr hg ho)
    have HGB5:=lhi (HD5.out.k.blk HOF.out HOA.out HGB.out Hw)
    have HL5:=lhi (HP.out.length_eq)
    have HX5:=lhi HD5.out.x
    have y0:w5.cell? ⟨xb,0,none⟩=some (.int .i64 num):=HX5.out.cell 0
    have y1:w5.cell? ⟨xb,1,none⟩=some (.bool true):=HX5.out.cell 1
    have y2:w5.cell? ⟨xb,2,none⟩=some (.slice eA D.length ecap):=HX5.out.cell 2
    have y3:w5.cell? ⟨xb,3,none⟩=some (.string ⟨#[]⟩):=HX5.out.cell 3
    have g3:w5.cell? ⟨gb,3,none⟩=some (.map (some ab)):=HGB5.out.cell 3
    obtain⟨fa,hfa,hfb⟩:=HD5.out.g0.a
    have HFA:=lhi hfa
    have hgn:G.n<1000000000:=by
     have h1:=HN.out
     unfold gDir Gt.n at h1
     unfold itsM at h1
     rw[HGE.out]at h1
     unfold Gt.n
     simp at h1
     omega
    clear hfa
    go_still_tail 6,(by kernel_rfl)
    change wpList _ _ _ _ _ w5.drew
    go_wp2_with (at_mapUpdate;refine Hu _ rfl 170 93 Tryz.underlying170 (.tmp 55) (.tmp 56) (.tmp 57) (.inl rfl) ab G.n _ rfl HFA.out hgn num (by omega) rfl (.agg #[.int .i64 num,.bool true,.slice eA D.length ecap,.string ⟨#[]⟩]) rfl ?_;intro w6 hM6 hG6)
    go_end0
    have hd:=HD5.out
    refine⟨rfl,hd.m.grown HLA.out hG6,?_,hd.k.trans (Kd.grownA hd.m.bd hd.g0.objA hG6)⟩
    have hrow:=hd.row
    rw[<-HL5.out]at hrow
    have hrt:=Cc (by decide) Bn hrow (Ee D')
    rw[<-HL5.out]at hM6
    have e:gDir M (f+1) num g=⟨G.fs,num::G.ds⟩:=by
     unfold gDir itsM
     rw[HGE.out]
    rw[e]
    refine hd.g0.dir2 hd.m.bd hfb hM6 ⟨_,D',rfl,hrt.base_le (Nat.zero_le _),fun q hq=>?_,?_,HSR.out⟩ hG6
    ·obtain⟨o,n',c,e⟩:=hq
     injection e with e1 e2 e3
     subst e1
     have:=hrow.lt q rfl
     exact⟨this.2,fun hv=>by have:=HVV.out q hv;omega⟩
    ·unfold itsM
     rw[HDE.out]
     exact HP.out
theorem dirC{M:Mem}{m:Nat}(hok:M.ok m)(hm:m<=900000000)(hf:M.fit): ∀f,DirC M f
 | 0=>Ae3 M
 | f+1=>Ae4 hok hm hf f (dirC hok hm hf f)
end Go.Proofs.YtkebjgebkneijaaGreat
