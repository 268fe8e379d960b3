/- Texts of one's own that a claim's last text rests on: Trcz2 Trcz3 SmT Rw. -/
import Derived.Test.YtkebjgebkneijaaGreatMG34
import Derived.Test.YtkebjgebkneijaaGreatMShelf2
import Derived.Sort.OwnSortedInts
import Derived.Handy
import Derived.Test.YtkebjgebkneijaaGreatMG4
import Derived.Test.YtkebjgebkneijaaGreatMG30
import Derived.Test.YtkebjgebkneijaaGreatMG32
import Derived.Test.YtkebjgebkneijaaGreatMG1
set_option linter.unusedVariables false
set_option linter.unusedSimpArgs false
namespace Go.Proofs.YtkebjgebkneijaaGreat
open Go.RowKit
set_option maxHeartbeats 16000000
set_option maxRecDepth 1000000
section
open Go.Sort (grow putRow Holds)
def plcs(t:List Acc)(b:Bool)(k:Nat):List Int:=((t.take k).filter fun x=>x.2||!b).map (·.1)
theorem Vv(t:List Acc)(b:Bool)(k:Nat):(plcs t b k).length<=k:=by
 unfold plcs
 rw[List.length_map]
 exact Aml (List.length_filter_le _ _) (List.length_take_le _ _)
theorem Agi{t:List Acc}{b:Bool}{k:Nat}(hk:k<t.length)(h:(t[k].2||!b)=true):plcs t b (k+1)=plcs t b k++[t[k].1]:=by
 unfold plcs
 rw[Hg hk,List.filter_append,List.map_append]
 simp[h]
theorem Ai0{t:List Acc}{b:Bool}{k:Nat}(hk:k<t.length)(h:(t[k].2||!b)=false):plcs t b (k+1)=plcs t b k:=by
 unfold plcs
 rw[Hg hk,List.filter_append,List.map_append]
 simp[h]
def leI:Int->Int->Bool:=fun x y=>decide (x<=y)
theorem Ael(zs:List Int):(zs.mergeSort leI).Pairwise (· <= ·):=by
 have h:=List.pairwise_mergeSort (le:=leI) (fun a b c h1 h2=>by simp[leI]at*;omega) (fun a b=>by simp[leI];omega) zs
 exact h.imp fun h=>by simpa[leI]using h
theorem Oy(d:Array Int)(j:Nat):Lib.keeps d j=true↔j=0∨d[j]!≠d[j - 1]!:=by
 rcases Nat.eq_zero_or_pos j with h | h
 ·subst h
  exact⟨fun _=>.inl rfl,fun _=>Lib.keeps_lt_one d 0 (by omega)⟩
 ·constructor
  ·intro hk
   right
   intro e
   rw[Lib.keeps_neg h e]at hk
   cases hk
  ·rintro(e | e)
   ·omega
   ·exact Lib.keeps_pos e
theorem Ka{zs:List Int}{j:Nat}(h:j<zs.length):zs.toArray[j]! =zs[j]:=by
 rw[getElem!_pos zs.toArray j (by simpa using h)]
 simp
theorem Yr{zs:List Int}{y:Int}:y∈Lib.compact zs↔y∈zs:=by
 unfold Lib.compact Lib.compactUpTo
 rw[List.mem_map]
 constructor
 ·rintro⟨j,hj,rfl⟩
  have hj':=(List.mem_filter.1 hj).1
  rw[List.mem_range]at hj'
  rw[Ka hj']
  exact List.getElem_mem _
 ·intro hy
  obtain⟨j,hj,rfl⟩:=List.getElem_of_mem hy
  induction j with
  | zero=>exact⟨0,List.mem_filter.2 ⟨List.mem_range.2 hj,(Oy _ _).2 (.inl rfl)⟩,Ka hj⟩
  | succ j ih=>
   by_cases hk:Lib.keeps zs.toArray (j+1)=true
   ·exact⟨j+1,List.mem_filter.2 ⟨List.mem_range.2 hj,hk⟩,Ka hj⟩
   ·have e:zs.toArray[j+1]! =zs.toArray[j]!:=by
     rcases Classical.em (zs.toArray[j+1]! =zs.toArray[j]!)with h | h
     ·exact h
     ·exact absurd ((Oy _ _).2 (.inr h)) hk
    rw[Ka hj,Ka (by omega)]at e
    rw[e]
    exact ih (by omega) (List.getElem_mem _)
theorem Dn.compact{zs:List Int}(h:zs.Pairwise (· <= ·)):Dn (Lib.compact zs):=by
 unfold Lib.compact Lib.compactUpTo Dn
 rw[List.pairwise_map]
 refine List.Pairwise.imp_of_mem ?_ (List.Pairwise.filter _ List.pairwise_lt_range)
 intro i j hi hj hij
 obtain⟨_,hk⟩:=List.mem_filter.1 hj
 have hj':=List.mem_range.1 (List.mem_filter.1 hj).1
 have hm: ∀(p q:Nat) (hpq:p<=q) (hq:q<zs.length),zs[p]'(by omega)<=zs[q]:=fun p q hpq hq=>by
  by_cases e:p=q
  ·subst e;exact Int.le_refl _
  ·exact List.pairwise_iff_getElem.1 h p q (by omega) hq (by omega)
 rcases(Oy _ _).1 hk with e | e
 ·omega
 ·rw[Ka hj',Ka (j:=j - 1) (by omega)]at e
  rw[Ka hj',Ka (j:=i) (by omega)]
  have h1:=hm i (j - 1) (by omega) (by omega)
  have h2:=hm (j - 1) j (by omega) hj'
  omega
theorem Agj(t:List Acc)(b:Bool):WSt t b (Lib.compact ((plcs t b t.length).mergeSort leI)):=by
 have hl:(Lib.compact ((plcs t b t.length).mergeSort leI)).length<=t.length:=by
  have h1:(Lib.compact ((plcs t b t.length).mergeSort leI)).length<= ((plcs t b t.length).mergeSort leI).length:=by
   unfold Lib.compact Lib.compactUpTo
   rw[List.length_map]
   exact Aml (List.length_filter_le _ _) (by simp)
  rw[List.length_mergeSort]at h1
  have h2:=Vv t b t.length
  omega
 refine⟨hl,Dn.compact (Ael _),fun y=>?_⟩
 rw[Yr,List.mem_mergeSort]
 unfold plcs
 rw[List.take_length,List.mem_map]
 constructor
 ·rintro⟨x,hx,rfl⟩
  obtain⟨h1,h2⟩:=List.mem_filter.1 hx
  refine⟨x,h1,fun hb=>?_,rfl⟩
  subst hb
  simpa using h2
 ·rintro⟨x,h1,h2,rfl⟩
  refine⟨x,List.mem_filter.2 ⟨h1,?_⟩,rfl⟩
  cases b
  ·simp
  ·simp[h2 rfl]
theorem Abb{w:World}{base g n k cap:Nat}{e:TypeId}{xs:List Value}(h:w.ownsRow base e 1 (.slice (some ⟨g,0,none⟩) n cap) n xs)(hk:k<=n):w.ownsRow base e 1 (.slice (some ⟨g,0,none⟩) k cap) k (xs.take k):=by
 obtain⟨h1,h2⟩:=h
 rcases h2 with⟨h2,_⟩ | ⟨g',cap',cur,hv,hb,hh,hn,hm,hs,ht⟩
 ·cases h2
 ·cases hv
  refine⟨by rw[List.length_take];omega,.inr ⟨g,cap,cur,rfl,hb,hh,by omega,hm,hs,?_⟩⟩
  rw[<-ht,List.take_take]
  congr 1
  omega
theorem Ai2{w:World}{base:Nat}{e:TypeId}{size n g:Nat}{v:Value}{xs:List Value}(h:w.ownsRow base e size v n xs)(hg:v.ownBlock=some g):base<=g:=by
 rcases h.2 with⟨rfl,_⟩ | ⟨g',cap,cur,rfl,hb,_,_⟩
 ·simp[Value.ownBlock]at hg
 ·have:g'=g:=by simpa[Value.ownBlock]using hg
  omega
theorem Below.toSort{w wr:World}(h:Below w.heap.size w wr){g:Nat}(hg:w.heap.size<=g)(d:Array Int)(n:Nat)(os:Array Obj):Below w.heap.size w (grow (putRow (Value.int .i64) (Go.Sort.ahead wr n) g 0 d) os):=
 h.grown (grownBy_sortedI d) h.size fun g' e=>by cases e;exact hg
theorem Ng(t:List Acc)(v:Value)(b:Bool)(w:World)(h:Sl w 2 v t.length (Bq t))(hl:t.length<=8796093022208):
  Calls Tryz.prog 87 #[v,.bool b] w fun e w'=>∃u us,e= .returned u/\WSt t b us/\Cq w' w.heap.size u us/\Below w.heap.size w w':=by
 obtain⟨_,A,cap,rfl,hc,h⟩:=h
 obtain⟨i0,hi,hz0,hz1,hz2⟩:=info_parts Aer
 have H:=lhi h
 clear h
 go_enter Tryz.func87,Tryz.ntmps87
 go_wp2
 go_loopw [5,10] (fun v i wr=>∃k:Nat,i= .int .i64 k/\k<=t.length/\Cq wr w.heap.size v (plcs t b k)/\Below w.heap.size w wr) (fun _ i _=>t.length - (intOf i).toNat)
 case atStart=>exact⟨0,rfl,Nat.zero_le _,Cq.nil _ _,Amf _ _⟩
 case round=>
  obtain⟨k,rfl,hk,hown,hB⟩:=hrel
  have HO:=lhi hown
  have HB:=lhi hB
  by_cases hlt:k<t.length
  ·have hk1:(k:Int)< (t.length:Int):=by omega
   have hk0:(0:Int)<= (k:Int):=by omega
   obtain⟨g,off,rfl,hcell⟩:=H.out (by omega)
   obtain⟨ea,eb⟩:=Sv t k hlt
   have p1:=hcell _ _ ea
   have p2:w.cell? ⟨g,off+k*2+1,none⟩=_:=hcell _ _ eb
   have q1:=(hB.cell (Amd w _ p1)).trans p1
   have q2:=(hB.cell (Amd w _ p2)).trans p2
   have HY:=lhi (fun h=>Agi (t:=t) (b:=b) hlt h)
   have HN:=lhi (fun h=>Ai0 (t:=t) (b:=b) hlt h)
   have HL:=lhi (Vv t b k)
   clear hcell ea eb H p1 p2 hB hown
   generalize t[k].1=x at*
   generalize t[k].2=x2 at*
   have hcase:(x2||!b)=true∨(x2=false/\b=true):=by cases x2 <;> cases b <;> simp
   rcases hcase with hy | ⟨rfl,rfl⟩
   ·have HYY:=lhi (HY.out hy)
    clear HY HN
    have hcase:(x2=true)∨(x2=false/\b=false):=by cases x2 <;> cases b <;> simp_all
    clear hy
    rcases hcase with rfl | ⟨rfl,rfl⟩
    all_goals (
     go_wp2_with (first | (at_builtin;refine wpList_append_lies _ rfl (.tmp 20) (.tmp 23) 28 rfl w.heap.size 3 i0 _ 1 8 Tryz.underlying28 hi hz0 hz1 hz2 rfl (by omega) u5 _ _ rfl ((HO.out.alloc _).alloc (Obj.cells #[.int .i64 x] 3)) ⟨wr.heap.size+1,0,none⟩ 1 1 [.int .i64 x] rfl rfl (World.news_of_block (by simpa using heap_alloc_new (wr.alloc _) _)) (by intro u hu;simp at hu;subst hu;rfl) (by decide) (by simp only[maxLen];have:=HL.out;omega) (by have:=HL.out;omega) (by have:=HB.out.size;simp;omega) _ rfl ?_;intro g2 cap2 w5 hown hgrow hat hlt2))
     go_roundw
     case rel=>
      have hs:=HB.out.size
      refine⟨k+1,by go_num,by omega,?_,(((HB.out.alloc hs _).alloc (by simp;omega) _).grown hgrow (by simp;omega) fun g' hg'=>Ai2 HO.out hg')⟩
      rw[HYY.out]
      unfold Cq
      simpa using hown
     case measure=>simp[intOf];omega)
   ·have HNN:=lhi (HN.out rfl)
    go_wp2_with (fail)
    go_roundw
    case rel=>
     refine⟨k+1,by go_num,by omega,?_,HB.out.alloc HB.out.size _⟩
     rw[HNN.out]
     exact HO.out.alloc _
    case measure=>simp[intOf];omega
  ·obtain rfl:k=t.length:=by omega
   have hk1: ¬ (t.length:Int)< (t.length:Int):=by omega
   have HW:=lhi (Agj t b)
   have HL:=lhi (Vv t b t.length)
   clear hown hB H
   generalize plcs t b t.length=zs at*
   have hzl:zs.length<=8796093022208:=by have:=HL.out;omega
   have hown:=HO.out
   rcases hown.2 with⟨rfl,h0⟩ | ⟨g,cap2,cur,rfl,hbase,hb,h1,h2,h3,h4⟩
   ·obtain rfl:zs=[]:=List.eq_nil_of_length_eq_zero h0
    have HW:=lhi (show WSt t b []by have h:=HW.out;rwa [List.mergeSort_nil,show Lib.compact ([]:List Int)=[]from rfl]at h)
    clear hown
    go_wp2_with (fail)
    refine(Tryz.slices_Sort_int_none none 0 wr).mono ?_
    rintro e w' ⟨rfl,rfl⟩
    go_wp2_with (fail)
    refine(Tryz.slices_Compact_int_empty none 0 _).mono ?_
    rintro e w' ⟨rfl,rfl⟩
    go_wp2_with (fail)
    go_ret
    exact⟨_,[],rfl,HW.out,Cq.nil _ _,HB.out⟩
   ·have hgl:g<wr.heap.size:=(Array.getElem?_eq_some_iff.1 hb).1
    have HS:=lhi (Tryz.slices_Sort_int g 0 cap2 zs wr (holds_of_blockI hb (by simpa using h4)) hgl (by omega))
    have HX:=lhi (fun(n:Nat) (os:Array Obj)=>show(grow (putRow (Value.int .i64) (Go.Sort.ahead wr n) g 0 (zs.mergeSort leI).toArray) os).ownsRow w.heap.size 3 1 (.slice (some ⟨g,0,none⟩) zs.length cap2) zs.length ((zs.mergeSort leI).map (Value.int .i64))from ownsRow_sortedI (by simp) hbase hb h1 h2 h3)
    have HBX:=lhi (fun(n:Nat) (os:Array Obj)=>Below.toSort HB.out hbase (zs.mergeSort leI).toArray n os)
    have hlen:(zs.mergeSort leI).length=zs.length:=List.length_mergeSort _
    have HLEN:=lhi hlen
    have hcap:zs.length<=cap2:=h1
    clear hown hb h1 h2 h3 h4 hgl hlen
    go_wp2_with (fail)
    refine HS.out.mono ?_
    rintro e w5 ⟨rfl,n5,os5,hw5⟩
    have hown5:=HX.out n5 os5
    have hB5:=HBX.out n5 os5
    rw[show(fun x y:Int=>decide (x<=y))=leI from rfl]at hw5
    rw[<-hw5]at hown5 hB5
    clear hw5 HX HBX HS
    generalize zs.mergeSort leI=ss at*
    rcases hown5.2 with⟨h5,_⟩ | ⟨g5,cap5,cur5,hv5,hbase5,hb5,h51,h52,h53,h54⟩
    ·cases h5
    ·cases hv5
     have HC:=Tryz.slices_Compact_int g 0 cap2 ss w5 (holds_of_blockI hb5 (by rw[HLEN.out];simpa using h54)) (by rw[HLEN.out];omega) (by rw[HLEN.out];omega)
     rw[HLEN.out]at HC
     have HC:=lhi HC
     have hcl:(Lib.compact ss).length<=ss.length:=by
      unfold Lib.compact Lib.compactUpTo
      rw[List.length_map]
      exact Aml (List.length_filter_le _ _) (by simp)
     rw[HLEN.out]at hcl
     have HX:=lhi (fun(n:Nat)=>show(grow (putRow (Value.int .i64) (Go.Sort.ahead w5 n) g 0 (Lib.compact ss++List.replicate (zs.length - (Lib.compact ss).length) 0).toArray) #[]).ownsRow w.heap.size 3 1 (.slice (some ⟨g,0,none⟩) zs.length cap2) zs.length ((Lib.compact ss++List.replicate (zs.length - (Lib.compact ss).length) 0).map (Value.int .i64))from ownsRow_sortedI (ss:=zs) (by simp;omega) hbase hb5 h51 h52 h53)
     have HBX:=lhi (fun(n:Nat)=>Below.toSort hB5 hbase (Lib.compact ss++List.replicate (zs.length - (Lib.compact ss).length) 0).toArray n #[])
     have HCL:=lhi hcl
     clear hown5 hb5 h51 h52 h53 h54 hB5 hcl
     go_wp2_with (fail)
     refine HC.out.mono ?_
     rintro e w6 ⟨rfl,n6,hw6⟩
     have hown6:=HX.out n6
     have hB6:=HBX.out n6
     rw[show∀X:World,grow X #[]=X from fun X=>by simp[grow]]at hown6 hB6
     rw[<-hw6]at hown6 hB6
     have hown7:=Abb hown6 HCL.out
     have HO7:=lhi hown7
     have HB6:=lhi hB6
     clear hw6 HX HBX HC hown6 hB6 hown7
     go_wp2_with (fail)
     go_ret
     refine⟨_,Lib.compact ss,rfl,HW.out,?_,HB6.out⟩
     have:=HO7.out
     unfold Cq
     rwa [<-List.map_take,List.take_left]at this
end
def Agl(x y:Acc):Bool:=x.1==y.1&& (x.2||y.2)
def Pk(t s:List Acc):Bool:=t.any fun x=>s.any fun y=>Agl x y
theorem Ox{t s:List Acc}:Pk t s=true↔ ∃x∈t,∃y∈s,x.1=y.1/\ (x.2=true∨y.2=true):=by
 unfold Pk
 rw[List.any_eq_true]
 constructor
 ·rintro⟨x,hx,h⟩
  obtain⟨y,hy,e⟩:=List.any_eq_true.1 h
  unfold Agl at e
  rw[Bool.and_eq_true,Bool.or_eq_true]at e
  exact⟨x,hx,y,hy,by simpa using e.1,e.2⟩
 ·rintro⟨x,hx,y,hy,e1,e2⟩
  refine⟨x,hx,List.any_eq_true.2 ⟨y,hy,?_⟩⟩
  unfold Agl
  rw[Bool.and_eq_true,Bool.or_eq_true]
  exact⟨by simpa using e1,e2⟩
theorem Agy{t s:List Acc}{u v u' v':List Int}(h1:WSt t true u)(h2:WSt s false v)(h3:WSt s true u')(h4:WSt t false v'):(Dm u v||Dm u' v')=Pk t s:=by
 rw[Bool.eq_iff_iff,Bool.or_eq_true,Ox,Er,Er]
 constructor
 ·rintro(⟨a,ha,hb⟩ | ⟨a,ha,hb⟩)
  ·obtain⟨x,hx,hw,rfl⟩:=(h1.mem a).1 ha
   obtain⟨y,hy,_,e⟩:=(h2.mem _).1 hb
   exact⟨x,hx,y,hy,e.symm,.inl (hw rfl)⟩
  ·obtain⟨y,hy,hw,rfl⟩:=(h3.mem a).1 ha
   obtain⟨x,hx,_,e⟩:=(h4.mem _).1 hb
   exact⟨x,hx,y,hy,e,.inr (hw rfl)⟩
 ·rintro⟨x,hx,y,hy,e,hw | hw⟩
  ·exact .inl ⟨x.1,(h1.mem _).2 ⟨x,hx,fun _=>hw,rfl⟩,(h2.mem _).2 ⟨y,hy,(fun h=>by cases h),e.symm⟩⟩
  ·exact .inr ⟨y.1,(h3.mem _).2 ⟨y,hy,fun _=>hw,rfl⟩,(h4.mem _).2 ⟨x,hx,(fun h=>by cases h),e⟩⟩
section
variable{w:World}{v v':Value}{t s:List Acc}
theorem My(h:Sl w 2 v t.length (Bq t))(hl:t.length<=8796093022208):
  Calls Tryz.prog 36 #[v] w fun e w'=>∃u us,e= .returned u/\WSt t false us/\Cq w' w.heap.size u us/\Below w.heap.size w w':=by
 have H:=lhi (Ng t v false w h hl)
 clear h
 go_enter Tryz.func36,Tryz.ntmps36
 go_wp2_with (fail)
 refine H.out.mono ?_
 rintro e w' ⟨u,us,rfl,h1,h2,h3⟩
 have HH:=lhi (show WSt t false us/\Cq w' w.heap.size u us/\Below w.heap.size w w' from⟨h1,h2,h3⟩)
 clear h1 h2 h3 H
 go_wp2_with (fail)
 go_ret
 exact⟨_,us,rfl,HH.out⟩
theorem Lq(h:Sl w 2 v t.length (Bq t))(hl:t.length<=8796093022208):
  Calls Tryz.prog 35 #[v] w fun e w'=>∃u us,e= .returned u/\WSt t true us/\Cq w' w.heap.size u us/\Below w.heap.size w w':=by
 have H:=lhi (Ng t v true w h hl)
 clear h
 go_enter Tryz.func35,Tryz.ntmps35
 go_wp2_with (fail)
 refine H.out.mono ?_
 rintro e w' ⟨u,us,rfl,h1,h2,h3⟩
 have HH:=lhi (show WSt t true us/\Cq w' w.heap.size u us/\Below w.heap.size w w' from⟨h1,h2,h3⟩)
 clear h1 h2 h3 H
 go_wp2_with (fail)
 go_ret
 exact⟨_,us,rfl,HH.out⟩
theorem Cq.cap_le{w:World}{B:Nat}{u:Value}{us:List Int}(h:Cq w B u us): ∀A n c,u= .slice A n c->c<=9223372036854775807:=by
 obtain⟨A',cap,rfl,h1,h2,_⟩:=h.form
 intro A n c e
 cases e
 unfold maxLen at h2
 omega
theorem Px{w:World}{B B':Nat}{u u':Value}{us vs:List Int}(hr:Sl w 1 u us.length (us.map (Value.int .i64)))(hr':Sl w 1 u' vs.length (vs.map (Value.int .i64))){W W':World}(hw:Cq W B u us)(hw':Cq W' B' u' vs)(hu:Dn us)(hv:Dn vs){b:Bool}(hb:Dm us vs=b):
  Calls Tryz.prog 34 #[u,u'] w fun e w'=>e= .returned (.bool b)/\ ∃d,w'=w.drewN d:=by
 subst hb
 exact Wo us vs u u' w hr hr' hu hv hw.cap_le hw'.cap_le
theorem Xn(h:Sl w 2 v t.length (Bq t))(h':Sl w 2 v' s.length (Bq s))(hl:t.length<=8796093022208)(hl':s.length<=8796093022208):
  Calls Tryz.prog 14 #[v,v'] w fun e w'=>e= .returned (.bool (Pk t s))/\Below w.heap.size w w':=by
 have H:=lhi h
 have H':=lhi h'
 clear h h'
 go_enter Tryz.func14,Tryz.ntmps14
 go_wp2_with (fail)
 refine(Lq H.out hl).mono ?_
 rintro e w1 ⟨u1,us1,rfl,g1,r1,b1⟩
 have R1:=lhi r1
 have B1:=lhi b1
 have G1:=lhi g1
 clear g1 r1 b1
 go_wp2_with (fail)
 refine(My (H'.out.below B1.out) hl').mono ?_
 rintro e w2 ⟨u2,us2,rfl,g2,r2,b2⟩
 have R2:=lhi r2
 have B2:=lhi b2
 have G2:=lhi g2
 clear g2 r2 b2
 obtain⟨b,hb⟩:=xx (Dm us1 us2)
 have HB:=lhi hb
 go_wp2_with (fail)
 refine(Px (R1.out.sl.below B2.out) R2.out.sl R1.out R2.out G1.out.up G2.out.up HB.out).mono ?_
 rintro e w3 ⟨rfl,d3,rfl⟩
 have B3:=lhi (Gv (Tk B1.out B2.out) d3)
 clear hb
 cases b
 ·go_wp2_with (fail)
  refine(Lq (H'.out.below B3.out) hl').mono ?_
  rintro e w4 ⟨u4,us4,rfl,g4,r4,b4⟩
  have R4:=lhi r4
  have B4:=lhi (Tk B3.out b4)
  have G4:=lhi g4
  clear g4 r4 b4
  go_wp2_with (fail)
  refine(My (H.out.below B4.out) hl).mono ?_
  rintro e w5 ⟨u5,us5,rfl,g5,r5,b5⟩
  have R5:=lhi r5
  have B5:=lhi b5
  have G5:=lhi g5
  clear g5 r5 b5
  obtain⟨b,hb⟩:=xx (Dm us4 us5)
  have HB2:=lhi hb
  clear hb
  go_wp2_with (fail)
  refine(Px (R4.out.sl.below B5.out) R5.out.sl R4.out R5.out G4.out.up G5.out.up HB2.out).mono ?_
  rintro e w6 ⟨rfl,d6,rfl⟩
  have HF:=lhi (show b=Pk t s by have:=Agy G1.out G2.out G4.out G5.out;rw[HB.out,HB2.out,Bool.false_or]at this;exact this)
  go_wp2_with (fail)
  go_ret
  exact⟨Kl HF.out,Gv (Tk B4.out B5.out) _⟩
 ·have HF:=lhi (show true=Pk t s by
   obtain⟨x,h1,h2⟩:=Er.1 HB.out
   obtain⟨y,hy,hw,rfl⟩:=(G1.out.mem x).1 h1
   obtain⟨z,hz,_,e⟩:=(G2.out.mem _).1 h2
   exact(Ox.2 ⟨y,hy,z,hz,e.symm,.inl (hw rfl)⟩).symm)
  go_wp2_with (fail)
  go_ret
  exact⟨Kl HF.out,B3.out⟩
end
theorem Aa9{w:World}{v v':Value}{ns:List ByteArray}(h:Ak w v ns.length 1 (nmC ns))(h':Ak w v' ns.length 1 (nmC ns))(hl:ns.length<=1000000):
  Calls Tryz.prog 13 #[v,v'] w fun e w'=>e= .returned (.bool true)/\ ∃k,w'=w.drewN k:=by
 obtain⟨A,cap,rfl,hc,h⟩:=h
 obtain⟨A',cap',rfl,hc',h'⟩:=h'
 have H:=lhi h
 have H':=lhi h'
 clear h h'
 go_enter Tryz.func13,Tryz.ntmps13
 go_wp2
 go_loopw [5] (fun i wr=>∃k:Nat,k<=ns.length/\i= .int .i64 k/\ ∃d,wr=w.drewN d) (fun i _=>ns.length - (intOf i).toNat)
 case atStart=>exact⟨0,Nat.zero_le _,rfl,0,rfl⟩
 case round=>
  obtain⟨k,hk,rfl,d,rfl⟩:=hrel
  by_cases hlt:k<ns.length
  ·obtain⟨g,off,rfl,hcell⟩:=H.out (by omega)
   obtain⟨g',off',rfl,hcell'⟩:=H'.out (by omega)
   have q1:w.cell? ⟨g,off+k,none⟩=some (nmC ns k 0):=by simpa using hcell k 0 hlt (by decide)
   have q2:w.cell? ⟨g',off'+k,none⟩=some (nmC ns k 0):=by simpa using hcell' k 0 hlt (by decide)
   unfold nmC at q1 q2
   clear hcell hcell' H H'
   generalize ns.getD k ByteArray.empty=x1 at*
   go_wp2
   go_quiet (fail)
   go_wp2
   go_roundw
   case rel=>exact⟨k+1,by omega,by go_num,_,rfl⟩
   case measure=>simp[intOf];omega
  ·go_wp2
   go_ret
   exact⟨rfl,_,rfl⟩
theorem Kc.keep{w W:World}{A:Option Addr}{n cap:Nat}{D:Nat->Ad}(h:Kc w A n cap D)(hb:Below w.heap.size w W):Kc W A n cap D:=
 ⟨h.1,h.2.1,fun hn=>by
  obtain⟨g,off,e,hc⟩:=h.2.2 hn
  refine⟨g,off,e,fun i j hi hj=>?_⟩
  have h1:=hc i j hi hj
  rw[Array.getElem?_eq_getElem (show j< (D i).cs.size from hj)]at h1⊢
  exact(hb.cell (Amd w _ h1)).trans h1⟩
def StK(w W:World):Prop:=∀(g:Nat) (t:TypeId) (cs:Array Value),t≠24->Blk w g t cs->Blk W g t cs
namespace StK
variable{w W W':World}
theorem start(h:Below w.heap.size w W):StK w W:=fun g t cs _ hb=>Blk.of_heap (h.block g hb.lt) hb
theorem below(h:StK w W)(hb:Below W.heap.size W W'):StK w W':=fun g t cs ht hg=>by
 have:=h g t cs ht hg
 exact Blk.of_heap (hb.block g this.lt) this
theorem set(h:StK w W){p:Nat}{cs:Array Value}(hp:Blk W p 24 cs)(i:Nat)(v:Value):StK w (W.setCell ⟨p,i,none⟩ v):=fun g t cs ht hg=>by
 have:=h g t cs ht hg
 exact this.far (p:=⟨p,i,none⟩) (fun e=>Blk.ne_ this hp ht e) v
theorem kp{L:Nat->Prop}(h:StK w W)(hL: ∀b,b<w.heap.size->L b)(hk:Kp L W W'):StK w W':=fun g t cs ht hg=>Blk.of_heap (hk.k.block g (hL g hg.lt)) (h g t cs ht hg)
end StK
theorem StV.via{w W:World}{iv ov mv:Value}{ev:Nat->Value}{S:St}(h:StV w 0 iv ov mv ev S)(k:StK w W):StV W 0 iv ov mv ev S:=
 ⟨h.ino.heap fun q cs _ hq=>k q _ cs (by decide) hq,fun i hi=>(h.ent i hi).heap fun q cs _ hq=>k q _ cs (by decide) hq,h.opn.heap fun q cs _ hq=>k q _ cs (by decide) hq,h.mad.heap fun q cs _ hq=>k q _ cs (by decide) hq⟩
def Zb(n:Nat):Int:=[4,7,12,13,14].getD n 4
theorem Ai7(n:Nat):Lu (Zb n):=by
 unfold Zb Lu
 rcases(by omega:n=0∨n=1∨n=2∨n=3∨n=4∨5<=n)with rfl | rfl | rfl | rfl | rfl | h
 ·decide
 ·decide
 ·decide
 ·decide
 ·decide
 ·rw[Ame,List.getElem?_eq_none (by simpa using h)]
  decide
theorem Qz(M:Mem){k:Nat}(hk:k<M.ts.length):Go.Proofs.YtkebjgebkneijaaGreat.tr (M.clear k).ts k=[]:=by
 unfold Mem.clear Go.Proofs.YtkebjgebkneijaaGreat.tr
 simp only
 rw[Da _ _ _ _ _ (by simpa using hk),if_pos rfl]
theorem Lo.clear{S:St}{m:Nat}{M:Mem}(h:Lo S m M)(k:Int):Lo S m (M.clear k):=h.same (Mem.same.clear M k) (h.ok.clear k)
theorem Ajb{S:St}(hI:Inv S):Lo S 9000 (Cu S):=⟨Aic hI,Aew hI,(Ac6 hI).ok⟩
theorem Hp{w w':World}{b k n:Nat}{t:TypeId}{v:Value}{xs:List Value}(h:w.ownsRow b t k v n xs)(hk: ∀q,v.ownBlock=some q->w'.heap[q]? =w.heap[q]?):w'.ownsRow b t k v n xs:=by
 refine⟨h.1,?_⟩
 rcases h.2 with q | ⟨g,cap,cur,hv,hg,hh,rest⟩
 ·exact .inl q
 ·refine .inr ⟨g,cap,cur,hv,hg,?_,rest⟩
  rw[hk g (by rw[hv];rfl)]
  exact hh
theorem Aar{L:Nat->Prop}{n:Nat}{w w':World}(h:Kp L w w')(hL: ∀b,b<n->L b):Below n w w':=⟨h.k.os,h.k.tape,h.k.output,h.size,fun b hb=>h.k.block b (hL b hb)⟩
theorem Rj{M M':Mem}{k n:Nat}(h:Seen k n (M.clear k) M')(hk:k<M.ts.length): ∃l:List Int,l.length<=n/\Go.Proofs.YtkebjgebkneijaaGreat.tr M'.ts k=l.map fun i=>(i,false):=by
 obtain⟨l,h1,-,h3⟩:=h.tr ⟨by omega,by rw[(Mem.same.clear M k).ts];omega⟩
 exact⟨l,h1,by rw[h3 k (by omega),if_pos rfl,Qz M hk,List.nil_append]⟩
theorem Abm(l l':List Int):Pk (l.map fun i=>(i,false)) (l'.map fun i=>(i,false))=false:=by
 rw[Bool.eq_false_iff]
 intro h
 obtain⟨x,hx,y,hy,-,h⟩:=Ox.1 h
 obtain⟨i,-,rfl⟩:=List.mem_map.1 hx
 obtain⟨j,-,rfl⟩:=List.mem_map.1 hy
 simp at h
theorem Za{S:St}(hm:S.made.length=2){KK:Int}(hl:Lu KK){k:Nat}(hk:k<2){fd off num:Int}{path path2 data:ByteArray}:mayB S ⟨KK,k,fd,off,num,path,path2,data⟩=true/\0<=KK/\KK<=16:=by
 have:0<=KK/\KK<=16:=by unfold Lu at hl;omega
 exact⟨by unfold mayB;rw[hm];simp;omega,this⟩
theorem Vt(w:World){A:Option Addr}{n cap:Nat}{D:Nat->Ad}(hA:Kc w A n cap D){c:Ad}(hc:Lb c):
  Calls Tryz.prog 3 #[.slice A n cap,.agg c.cs] w fun e w'=>e= .returned (.bool true)/\Below w.heap.size w w':=by
 obtain⟨w0,hw0⟩: ∃x,x=w.alloc (.cells c.cs 24):=⟨_,rfl⟩
 obtain⟨hC0,hB0⟩:=Du hw0
 have HA:=lhi (hA.keep hB0)
 have HCO:=lhi hc
 obtain⟨kind,core,fd,off,num,path,path2,data⟩:=c
 obtain⟨p,hp⟩: ∃x,w.heap.size=x:=⟨_,rfl⟩
 have HP:=lhi hp
 rw[hp]at hC0
 have HC0:=lhi hC0
 have HB0:=lhi hB0
 clear hA hc hC0 hB0
 simp only[Ad.cs]at hw0⊢
 go_enter Tryz.func3,Tryz.ntmps3
 go_upto_region 1 with(fail)
 rw[<-hw0]
 clear hw0 hp
 go_upto_region 3 with(go_at_call 6;refine(Aat _).mono ?_;rintro e w1 ⟨rfl,hb1⟩;have HB1:=lhi hb1;clear hb1)
 have HST:=lhi (Af4 (HA.out.keep HB1.out))
 go_upto_region 4 with(go_at_call 7;refine HST.out.mono ?_;rintro e w2 ⟨⟨iv,ov,mv,ev,S,rfl,hS,hI,hm⟩,hb2⟩;obtain⟨iA,icap,rfl⟩:=hS.ino.at'.form;obtain⟨oA,ocap,rfl⟩:=hS.opn.at'.form;obtain⟨mA,mcap,rfl⟩:=hS.mad.at'.form;have HS2:=lhi hS;have HI:=lhi hI;have HM:=lhi hm;have HB2:=lhi hb2;clear hS hI hm hb2 HST)
 refine letW (fun w3 hw3=>?_)
 obtain⟨hs3,hb3⟩:=Du hw3
 obtain⟨sb,hsb⟩: ∃x,w2.heap.size=x:=⟨_,rfl⟩
 rw[hsb]at hs3⊢
 have hz0:=HB0.out.size
 have hz1:=HB1.out.size
 have hz2:=HB2.out.size
 have HS3:=lhi hs3
 have HV3:=lhi (HS2.out.below hb3)
 have HB3:=lhi (show Below w0.heap.size w0 w3 from HB1.out.trans ((HB2.out.mono hz1).trans (hb3.mono (by omega))))
 have HC3:=lhi (Blk.of_heap (HB3.out.block _ HC0.out.lt) HC0.out)
 have HLD:=lhi (Adm (L:=fun b=>b<w3.heap.size) (w:=w3) (fun _ q=>q) HV3.out.stm HI.out)
 rw[show List.replicate S.made.length Bx=List.replicate 2 Bx by rw[HM.out]]at HLD
 obtain⟨s0,s1,s2⟩:=hs3.d3
 clear hw3 hb3 hsb hs3 HB1 HB2 HS2 hz0 hz1 hz2
 go_upto_region 8 with(first
  | (go_at_call 8;refine HLD.out.mono ?_;rintro e w4 ⟨fb,s,pb,rfl,hf,hb⟩;have HF4:=lhi hf;have HB4:=lhi hb;clear hf hb HLD)
  | (go_at_call 9;refine(Gx _ _).mono ?_;rintro e w' ⟨rfl,rfl⟩))
 clear s0 s1 s2
 refine letW (fun w5 hw5=>?_)
 obtain⟨hk5,hb5⟩:=Du hw5
 obtain⟨kb,hkb⟩: ∃x,w4.heap.size=x:=⟨_,rfl⟩
 have hb45:=HB4.out.trans (hb5.mono HB4.out.size)
 have HF5:=lhi (show FsAt (fun b=>b<w3.heap.size) w5 fb s pb (Cu S) (List.replicate 2 Bx)by rw[hw5];exact HF4.out.alloc _)
 have HSK5:=lhi (StK.start hb45)
 have HB5:=lhi (HB3.out.trans (hb45.mono HB3.out.size))
 have HC5:=lhi (Blk.of_heap (hb45.block _ HC3.out.lt) HC3.out)
 have HZ5:=lhi hb45.size
 have HPL:=lhi HC3.out.lt
 rw[hkb]at hk5⊢
 have HK5:=lhi hk5
 clear hw5 hb5 hkb hk5 hb45 HF4 HB4 HC3
 obtain⟨k,hk⟩: ∃k:Nat,core % 2=k:=⟨(core % 2).toNat,by omega⟩
 have hk2:k<2:=by omega
 obtain⟨x,hx⟩: ∃x:Nat,IntKind.u64.wrap kind=x:=⟨(IntKind.u64.wrap kind).toNat,by
  have:0<=IntKind.u64.wrap kind:=by simp only[IntKind.wrap];exact Int.emod_nonneg _ (by decide)
  omega⟩
 obtain⟨c0,c1,c2,c3,c4,c5,c6,c7⟩:=(show Blk w5 p 24 #[.int .i64 kind,.int .i64 core,.int .i64 fd,.int .i64 off,.int .i64 num,.string path,.string path2,.string data]from HC5.out).d8
 have f1:=HC5.out.frozen 1
 go_upto_region 9 with(fail)
 refine letW (fun w6 hw6=>?_)
 have HF6:=lhi (show FsAt (fun b=>b<w3.heap.size) w6 fb s pb (Cu S) (List.replicate 2 Bx)by rw[hw6];exact HF5.out.own1 HC5.out HPL.out 1 _)
 have HSK6:=lhi (show StK w3 w6 by rw[hw6];exact HSK5.out.set HC5.out 1 _)
 have HC6:=lhi (show Blk w6 p 24 #[.int .i64 kind,.int .i64 k,.int .i64 fd,.int .i64 off,.int .i64 num,.string path,.string path2,.string data]by rw[hw6];exact HC5.out.set_ 1 _)
 have HK6:=lhi (show Blk w6 kb 3 _ by rw[hw6];exact HK5.out.far (p:=⟨p,1,none⟩) (fun e=>Blk.ne_ HK5.out HC5.out (by decide) e) _)
 have HB6:=lhi (show Below w.heap.size w w6 by rw[hw6];exact(HB0.out.trans (HB5.out.mono HB0.out.size)).setCell (p:=⟨p,1,none⟩) (by have:=HP.out;show _<=p;omega) _)
 have HS56:=lhi (show w5.heap.size=w6.heap.size by rw[hw6];simp[World.setCell])
 clear hw6 c0 c1 c2 c3 c4 c5 c6 c7 f1 HF5 HSK5 HC5 HK5 HB5
 obtain⟨n5,hn5⟩: ∃y,x % 5=y:=⟨_,rfl⟩
 have h5:n5<5:=by omega
 have hq:w6.cell? ⟨kb,n5,none⟩=some (.int .i64 (Zb n5)):=by
  rw[HK6.out.cell]
  rcases(by omega:n5=0∨n5=1∨n5=2∨n5=3∨n5=4)with rfl | rfl | rfl | rfl | rfl <;> rfl
 have ht:(x:Int).tmod 5=n5:=by rw[Int.tmod_eq_emod_of_nonneg (by omega)];omega
 have hn5':(n5:Int)<5:=by omega
 have c0:w6.cell? ⟨p,0,none⟩=some (.int .i64 kind):=HC6.out.cell 0
 have f0:=HC6.out.frozen 0
 clear hn5
 go_upto_region 10 with(fail)
 refine letW (fun w7 hw7=>?_)
 have HF7:=lhi (show FsAt (fun b=>b<w3.heap.size) w7 fb s pb (Cu S) (List.replicate 2 Bx)by rw[hw7];exact HF6.out.own1 HC6.out HPL.out 0 _)
 have HSK7:=lhi (show StK w3 w7 by rw[hw7];exact HSK6.out.set HC6.out 0 _)
 have hC7:Blk w7 p 24 #[.int .i64 (Zb n5),.int .i64 k,.int .i64 fd,.int .i64 off,.int .i64 num,.string path,.string path2,.string data]:=by rw[hw7];exact HC6.out.set_ 0 _
 have HC7:=lhi hC7
 have HB7:=lhi (show Below w.heap.size w w7 by rw[hw7];exact HB6.out.setCell (p:=⟨p,0,none⟩) (by have:=HP.out;show _<=p;omega) _)
 have HS7:=lhi (show w3.heap.size<=w7.heap.size by rw[hw7];have:=HZ5.out;have:=HS56.out;simp[World.setCell];omega)
 obtain⟨KK,hKK⟩: ∃y,Zb n5=y:=⟨_,rfl⟩
 have HLK:=lhi (show Lu KK by rw[<-hKK];exact Ai7 n5)
 obtain⟨k',hk'⟩: ∃k':Nat,(1:Int) - k=k':=⟨1 - k,by omega⟩
 rw[hKK]at HC7 hC7⊢
 obtain⟨c0,c1,c2,c3,c4,c5,c6,c7⟩:=hC7.d8
 clear hw7 hq ht hn5' f0 HF6 HSK6 HC6 HK6 HB6 HS56 hKK hC7 hx hk
 go_upto_region 11 with(fail)
 refine letW (fun w8 hw8=>?_)
 obtain⟨hq8,hb8⟩:=Du hw8
 obtain⟨q,hqq⟩: ∃y,w7.heap.size=y:=⟨_,rfl⟩
 have HQL:=lhi (show w3.heap.size<=q by have:=HS7.out;omega)
 have HF8:=lhi (show FsAt (ins (fun b=>b<w3.heap.size) q) w8 fb s pb (Cu S) (List.replicate 2 Bx)by rw[hw8,<-hqq];exact HF7.out.allocIns _)
 have HSK8:=lhi (HSK7.out.below hb8)
 have HC8:=lhi (Blk.of_heap (hb8.block _ HC7.out.lt) HC7.out)
 have HB8:=lhi (HB7.out.trans (hb8.mono HB7.out.size))
 rw[hqq]at hq8⊢
 have HQ8:=lhi hq8
 have c1:w8.cell? ⟨p,1,none⟩=some (.int .i64 k):=HC8.out.cell 1
 have g1:w8.cell? ⟨q,1,none⟩=some (.int .i64 k):=HQ8.out.cell 1
 have f1:=HQ8.out.frozen 1
 clear hw8 hq8 hb8 hqq c0 c2 c3 c4 c5 c6 c7 HF7 HSK7 HC7 HB7
 go_upto_region 12 with(fail)
 refine letW (fun w9 hw9=>?_)
 have HF9:=lhi (show FsAt (ins (fun b=>b<w3.heap.size) q) w9 fb s pb (Cu S) (List.replicate 2 Bx)by rw[hw9];exact HF8.out.own1 HQ8.out (ins.new _ _) 1 _)
 have HSK9:=lhi (show StK w3 w9 by rw[hw9];exact HSK8.out.set HQ8.out 1 _)
 have hC9:Blk w9 p 24 (Ad.cs ⟨KK,k,fd,off,num,path,path2,data⟩):=by rw[hw9];exact HC8.out.far (p:=⟨q,1,none⟩) (fun e=>by have:p=q:=e;have:=HPL.out;have:=HQL.out;omega) _
 have hQ9:Blk w9 q 24 (Ad.cs ⟨KK,k',fd,off,num,path,path2,data⟩):=by rw[hw9];exact HQ8.out.set_ 1 _
 have HB9:=lhi (show Below w.heap.size w w9 by rw[hw9];exact HB8.out.setCell (p:=⟨q,1,none⟩) (by have:=HP.out;have:=HPL.out;have:=HQL.out;show _<=q;omega) _)
 have HC9:=lhi hC9
 have HQ9:=lhi hQ9
 clear hw9 c1 g1 f1 HF8 HSK8 HC8 HQ8 HB8 hC9 hQ9
 have hk2':k'<2/\k'≠k:=by omega
 have HLO:=lhi (Ajb HI.out)
 have hml:(Cu S).ts.length=2:=HLO.out.f.tl.trans HM.out
 obtain⟨hmy,hkd⟩:=Za HM.out HLK.out hk2 (fd:=fd) (off:=off) (num:=num) (path:=path) (path2:=path2) (data:=data)
 have HMY:=lhi hmy
 have HAL:=lhi (Xc HF9.out (m:=200000) (by omega) (k:=k) (by simpa using hk2) (cv:=⟨KK,k,fd,off,num,path,path2,data⟩) rfl hkd (by rw[List.getElem_replicate];rfl) (Aaw HI.out (HLO.out.clear k) (by omega) hmy rfl HLK.out HCO.out.1 (Qz _ (by omega))) (fun W=>⟨Seen.refl _ _ _,.inl ⟨rfl,rfl⟩⟩))
 simp only[Ad.cs]at HAL
 obtain⟨c0,c1,c2,c3,c4,c5,c6,c7⟩:=HC9.out.d8
 clear hmy
 go_upto_region 13 with(go_at_call 10;refine HAL.out.mono ?_;rintro e w10 ⟨r1,ns1,M1,na1,nc1,tc1,G1,⟨hs1,hr1⟩,he,ho1,hf1,hk1,hg1,hn1⟩;simp only[ResV.cs]at he;subst he;have HS1:=lhi hs1;have HR1:=lhi hr1;have HO1:=lhi ho1;have HF1:=lhi hf1;have HK1:=lhi hk1;have HG1:=lhi hg1;have HN1:=lhi hn1;clear hs1 hr1 ho1 hf1 hk1 hg1 hn1 HAL)
 refine letW (fun w11 hw11=>?_)
 obtain⟨hx11,hb11⟩:=Du hw11
 obtain⟨x1,hx1⟩: ∃y,w10.heap.size=y:=⟨_,rfl⟩
 have HF11:=lhi (show FsAt (ins (By (ins (fun b=>b<w3.heap.size) q) G1) x1) w11 _ _ _ _ _ by rw[hw11,<-hx1];exact HF1.out.allocIns _)
 have HSK11:=lhi ((HSK9.out.kp (L:=ins (fun b=>b<w3.heap.size) q) (fun b hb=>ins.old hb) HK1.out).below hb11)
 have HC11:=lhi (Blk.of_heap (hb11.block _ (Amk HC9.out.lt HK1.out.size)) (Blk.of_heap (HK1.out.k.block p (ins.old HPL.out)) HC9.out))
 have HQ11:=lhi (Blk.of_heap (hb11.block _ (Amk HQ9.out.lt HK1.out.size)) (Blk.of_heap (HK1.out.k.block q (ins.new _ _)) HQ9.out))
 have HO11:=lhi (Hp HO1.out fun g hg=>hb11.block g (HO1.out.lt g hg).2)
 have HPW:=lhi (show w.heap.size<w3.heap.size by rw[HP.out];exact HPL.out)
 have HB11:=lhi (HB9.out.trans ((Aar HK1.out fun b hb=>ins.old (show b<w3.heap.size from Nat.lt_trans hb HPW.out)).trans (hb11.mono (Aml HB9.out.size HK1.out.size))))
 have HN9:=lhi HK1.out.size
 rw[hx1]at hx11⊢
 have HX11:=lhi hx11
 clear hw11 hx11 hb11 hx1 c0 c1 c2 c3 c4 c5 c6 c7 HF9 HSK9 HC9 HQ9 HO1 HB9 HF1 HK1
 have hs1:=HS1.out.same
 have hok1:M1.ok 9900:=(HS1.out.ok (HLO.out.clear k).ok).mono (by omega)
 have HOK1:=lhi hok1
 obtain⟨t1,ht1⟩: ∃t,tr M1.ts (k:Nat)=t:=⟨_,rfl⟩
 have HT1:=lhi ht1
 have HTR:=lhi (Ur HF11.out hok1 (by omega) (k:=k) (by simpa using hk2) ht1)
 have c1:w11.cell? ⟨p,1,none⟩=some (.int .i64 k):=HC11.out.cell 1
 clear hs1 hok1 ht1
 go_upto_region 14 with(go_at_call 11;refine HTR.out.mono ?_;rintro e w12 ⟨⟨v1,rfl,ho⟩,hb⟩;have HV1:=lhi ho;have HB12:=lhi hb;clear ho hb HTR)
 clear c1
 obtain⟨L2,hL2⟩: ∃L2:Nat->Prop,L2=upP (ins (By (ins (fun b=>b<w3.heap.size) q) G1) x1) w11.heap.size w12.heap.size:=⟨_,rfl⟩
 have HL3:=lhi (show∀b,b<w3.heap.size->L2 b by rw[hL2];exact fun b hb=>.inl (ins.old (.inl (ins.old hb))))
 have HLq:=lhi (show L2 q by rw[hL2];exact .inl (ins.old (.inl (ins.new _ _))))
 have HLx:=lhi (show L2 x1 by rw[hL2];exact .inl (ins.new _ _))
 have HLG:=lhi (show∀b,G1 b->L2 b by rw[hL2];exact fun b hb=>.inl (ins.old (.inr hb)))
 have HLV:=lhi (show∀b,v1.ownBlock=some b->L2 b by rw[hL2];exact fun b hb=>.inr (HV1.out.lt b hb))
 have HF12:=lhi (show FsAt L2 w12 _ _ _ _ _ by rw[hL2];exact HF11.out.fresh HB12.out)
 have HSK12:=lhi (HSK11.out.below HB12.out)
 have HC12:=lhi (Blk.of_heap (HB12.out.block _ HC11.out.lt) HC11.out)
 have HQ12:=lhi (Blk.of_heap (HB12.out.block _ HQ11.out.lt) HQ11.out)
 have HX12:=lhi (Blk.of_heap (HB12.out.block _ HX11.out.lt) HX11.out)
 have HO12:=lhi (Hp HO11.out fun g hg=>HB12.out.block g (HO11.out.lt g hg).2)
 have HW12:=lhi (HB11.out.trans (HB12.out.mono HB11.out.size))
 clear hL2 HF11 HSK11 HC11 HQ11 HX11 HO11 HB11 HB12
 obtain⟨hmy2,-⟩:=Za HM.out HLK.out hk2'.1 (fd:=fd) (off:=off) (num:=num) (path:=path) (path2:=path2) (data:=data)
 have hml1:M1.ts.length=2:=HS1.out.same.ts.trans (((Mem.same.clear (Cu S) k).ts).trans hml)
 have HLO1:=lhi (((HLO.out.clear k).same HS1.out.same HOK1.out).clear k')
 have HAL:=lhi (Xc HF12.out (m:=200000) (by omega) (k:=k') (by simpa using hk2'.1) (cv:=⟨KK,k',fd,off,num,path,path2,data⟩) rfl hkd (by rw[List.getElem_set_ne (Ne.symm hk2'.2),List.getElem_replicate];rfl) (Aaw HI.out HLO1.out (by omega) hmy2 rfl HLK.out HCO.out.1 (Qz _ (by omega))) (fun W=>⟨Seen.refl _ _ _,.inl ⟨rfl,rfl⟩⟩))
 simp only[Ad.cs]at HAL
 obtain⟨c0,c1,c2,c3,c4,c5,c6,c7⟩:=HQ12.out.d8
 clear hmy2
 go_upto_region 15 with(go_at_call 10;refine HAL.out.mono ?_;rintro e w13 ⟨r2,ns2,M2,na2,nc2,tc2,G2,⟨hs2,-⟩,he,-,hf2,hk2,-,-⟩;simp only[ResV.cs]at he;subst he;have HS2:=lhi hs2;have HF2:=lhi hf2;have HK2:=lhi hk2;clear hs2 hf2 hk2 HAL)
 refine letW (fun w14 hw14=>?_)
 obtain⟨-,hb14⟩:=Du hw14
 have HF14:=lhi (show FsAt L2 w14 _ _ _ _ _ by rw[hw14];exact(HF2.out.sub fun b hb=>.inl hb).alloc _)
 have HB14:=lhi hb14
 clear hw14 hb14 c0 c1 c2 c3 c4 c5 c6 c7 HF12 HF2
 obtain⟨t2,ht2⟩: ∃t,tr M2.ts (k':Nat)=t:=⟨_,rfl⟩
 have HT2:=lhi ht2
 have HTR:=lhi (Ur HF14.out (m:=20000) ((HS2.out.ok HLO1.out.ok).mono (by omega)) (by omega) (k:=k') (by simpa using hk2'.1) ht2)
 have c1:w14.cell? ⟨p,1,none⟩=some (.int .i64 k):=(Blk.of_heap (HB14.out.block _ (Amk HC12.out.lt HK2.out.size)) (Blk.of_heap (HK2.out.k.block p (HL3.out p HPL.out)) HC12.out)).cell 1
 clear ht2
 go_upto_region 16 with(go_at_call 11;refine HTR.out.mono ?_;rintro e w15 ⟨⟨v2,rfl,ho⟩,hb⟩;have HV2:=lhi ho;have HB15:=lhi (HB14.out.trans (hb.mono HB14.out.size));clear ho hb HTR)
 have HH:=lhi (show∀g,L2 g->g<w12.heap.size->w15.heap[g]? =w12.heap[g]? from fun g hg hl=>(HB15.out.block g (Amk hl HK2.out.size)).trans (HK2.out.k.block g hg))
 have HSK15:=lhi ((HSK12.out.kp HL3.out HK2.out).below HB15.out)
 have HC15:=lhi (Blk.of_heap (HH.out p (HL3.out p HPL.out) HC12.out.lt) HC12.out)
 have HX15:=lhi (Blk.of_heap (HH.out x1 HLx.out HX12.out.lt) HX12.out)
 have HO15:=lhi (Hp HO12.out fun g hg=>HH.out g (HLG.out g (HG1.out g hg)) (HO12.out.lt g hg).2)
 have HV15:=lhi (Hp HV1.out fun g hg=>HH.out g (HLV.out g hg) (HV1.out.lt g hg).2)
 have HW15:=lhi (HW12.out.trans ((Aar HK2.out fun b hb=>HL3.out b (Nat.lt_trans hb HPW.out)).trans (HB15.out.mono (Aml HW12.out.size HK2.out.size))))
 have HS15:=lhi (HSK15.out sb _ _ (by decide) HS3.out)
 have HDO:=lhi (Aih (HV3.out.via HSK15.out) HI.out (c:=⟨KK,k,fd,off,num,path,path2,data⟩) HCO.out)
 simp only[Ad.cs]at HDO
 obtain⟨c0,c1,c2,c3,c4,c5,c6,c7⟩:=HC15.out.d8
 obtain⟨s0,s1,s2⟩:=HS15.out.d3
 clear HF14 HB14 HSK12 HC12 HQ12 HX12 HO12 HV1 HW12 HH HK2 HB15
 go_upto_region 17 with(go_at_call 12;refine HDO.out.mono ?_;rintro e w16 ⟨⟨iv,ov,mv,ev2,r,he,hst,hr⟩,hb⟩;simp only[ResV.cs]at he;subst he;obtain⟨iA2,icap2,rfl⟩:=hst.ino.at'.form;obtain⟨oA2,ocap2,rfl⟩:=hst.opn.at'.form;obtain⟨mA2,mcap2,rfl⟩:=hst.mad.at'.form;have HR:=lhi hr;have HB16:=lhi hb;clear hst hr hb HDO)
 refine letW (fun w17 hw17=>?_)
 obtain⟨-,hy17,hb17⟩:=Lp hw17
 obtain⟨yb,hyb⟩: ∃y,w16.heap.size+1=y:=⟨_,rfl⟩
 rw[hyb]at hy17⊢
 have HB17:=lhi (HB16.out.trans (hb17.mono HB16.out.size))
 obtain⟨e1,e2,e3,hnm⟩:=HR1.out _ _ HR.out
 obtain⟨rc1,rf1,rn1,rd1,rs1,ra1,rl1,rk1⟩:=r1
 obtain⟨rc,rf,rn,rd,rs,ra,rl,rk⟩:=r
 dsimp only at e1 e2 e3 hnm hy17
 subst e1 e2 e3
 have hrl:rl=ns1.length:=by
  obtain⟨A',cap',h1,-⟩:=hnm
  injection h1
 subst hrl
 have hx17:=Blk.of_heap (HB17.out.block _ HX15.out.lt) HX15.out
 dsimp only at hx17
 obtain⟨x0,xx1,x2,x3,x4,x5⟩:=hx17.d6
 obtain⟨y0,y1,y2,y3,y4,y5⟩:=hy17.d6
 have HSM:=lhi (Aa9 (w:=w17) ((Cc (enc:=encS) (k:=1) (by decide) (fun _=>rfl) (by rw[Ns];exact Hp HO15.out fun g hg=>HB17.out.block g (HO15.out.lt g hg).2) (Xe ns1)).at') (hnm.at'.keep hb17) (by have:=HN1.out;omega))
 obtain⟨l1,hl1,ht1⟩:=Rj HS1.out (by omega)
 obtain⟨l2,hl2,ht2⟩:=Rj HS2.out (by omega)
 have e1:t1=l1.map fun i=>(i,false):=HT1.out.symm.trans ht1
 have e2:t2=l2.map fun i=>(i,false):=HT2.out.symm.trans ht2
 have HME:=lhi (fun d=>show Calls Tryz.prog 14 #[v1,v2] (w17.drewN d) fun e w'=>e= .returned (.bool false)/\Below (w17.drewN d).heap.size (w17.drewN d) w' by
  have h:=Xn (Sl.ofOwn (Hp (w':=w17.drewN d) HV15.out fun g hg=>HB17.out.block g (HV15.out.lt g hg).2)) (Sl.ofOwn (Hp (w':=w17.drewN d) HV2.out fun g hg=>HB17.out.block g (HV2.out.lt g hg).2)) (by rw[e1,List.length_map];omega) (by rw[e2,List.length_map];omega)
  rw[show Pk t1 t2=false by rw[e1,e2];exact Abm l1 l2]at h
  exact h)
 have HW17:=lhi (HW15.out.trans (HB17.out.mono HW15.out.size))
 clear hw17 hb17 hyb hx17 hy17 hnm e1 e2 ht1 ht2 c0 c1 c2 c3 c4 c5 c6 c7 s0 s1 s2 HS1 HS2 HT1 HT2 HV2 HV15 HO15 HX15 HR HR1
 go_wp2_with (first
  | (go_at_call 13;refine HSM.out.mono ?_;rintro e w18 ⟨rfl,d,rfl⟩)
  | (go_at_call 14;refine(HME.out _).mono ?_;rintro e w19 ⟨rfl,hb19⟩))
 go_ret
 exact⟨rfl,HW17.out.trans (((show Below w17.heap.size w17 (w17.drewN d)from⟨rfl,rfl,rfl,Ama _,fun _ _=>rfl⟩).trans hb19).mono HW17.out.size)⟩
end Go.Proofs.YtkebjgebkneijaaGreat
