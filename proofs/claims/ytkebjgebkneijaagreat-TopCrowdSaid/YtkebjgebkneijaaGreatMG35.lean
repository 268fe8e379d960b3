/- Texts of one's own that a claim's last text rests on: Trcz2 Trcz3. -/
import Derived.Test.YtkebjgebkneijaaGreatMG34
import Derived.Test.YtkebjgebkneijaaGreatMShelf2
import Derived.Sort.OwnSortedInts
import Derived.Handy
set_option linter.unusedVariables false
set_option linter.unusedSimpArgs false
namespace Go.Proofs.YtkebjgebkneijaaGreat
section
open Go.RowKit
open Go.Sort (grow putRow Holds)
set_option maxHeartbeats 1000000
def plcs(t:List Acc)(b:Bool)(k:Nat):List Int:=((t.take k).filter fun x=>x.2||!b).map (·.1)
theorem plcs_le(t:List Acc)(b:Bool)(k:Nat):(plcs t b k).length<=k:=by
 unfold plcs
 rw[List.length_map]
 exact Nat.le_trans (List.length_filter_le _ _) (List.length_take_le _ _)
theorem plcs_yes{t:List Acc}{b:Bool}{k:Nat}(hk:k<t.length)(h:(t[k].2||!b)=true):plcs t b (k+1)=plcs t b k++[t[k].1]:=by
 unfold plcs
 rw[take_snocA hk,List.filter_append,List.map_append]
 simp[h]
theorem plcs_no{t:List Acc}{b:Bool}{k:Nat}(hk:k<t.length)(h:(t[k].2||!b)=false):plcs t b (k+1)=plcs t b k:=by
 unfold plcs
 rw[take_snocA hk,List.filter_append,List.map_append]
 simp[h]
def leI:Int->Int->Bool:=fun x y=>decide (x<=y)
theorem le_sorted(zs:List Int):(zs.mergeSort leI).Pairwise (· <= ·):=by
 have h:=List.pairwise_mergeSort (le:=leI) (fun a b c h1 h2=>by simp[leI]at*;omega) (fun a b=>by simp[leI];omega) zs
 exact h.imp fun h=>by simpa[leI]using h
theorem keeps_iff(d:Array Int)(j:Nat):Lib.keeps d j=true↔j=0∨d[j]!≠d[j - 1]!:=by
 rcases Nat.eq_zero_or_pos j with h | h
 ·subst h
  exact⟨fun _=>.inl rfl,fun _=>Lib.keeps_lt_one d 0 (by omega)⟩
 ·constructor
  ·intro hk
   right
   intro e
   rw[Lib.keeps_neg h e]at hk
   cases hk
  ·rintro(e | e)
   ·omega
   ·exact Lib.keeps_pos e
theorem arr_at{zs:List Int}{j:Nat}(h:j<zs.length):zs.toArray[j]! =zs[j]:=by
 rw[getElem!_pos zs.toArray j (by simpa using h)]
 simp
theorem mem_compact{zs:List Int}{y:Int}:y∈Lib.compact zs↔y∈zs:=by
 unfold Lib.compact Lib.compactUpTo
 rw[List.mem_map]
 constructor
 ·rintro⟨j,hj,rfl⟩
  have hj':=(List.mem_filter.1 hj).1
  rw[List.mem_range]at hj'
  rw[arr_at hj']
  exact List.getElem_mem _
 ·intro hy
  obtain⟨j,hj,rfl⟩:=List.getElem_of_mem hy
  induction j with
  | zero=>exact⟨0,List.mem_filter.2 ⟨List.mem_range.2 hj,(keeps_iff _ _).2 (.inl rfl)⟩,arr_at hj⟩
  | succ j ih=>
   by_cases hk:Lib.keeps zs.toArray (j+1)=true
   ·exact⟨j+1,List.mem_filter.2 ⟨List.mem_range.2 hj,hk⟩,arr_at hj⟩
   ·have e:zs.toArray[j+1]! =zs.toArray[j]!:=by
     rcases Classical.em (zs.toArray[j+1]! =zs.toArray[j]!)with h | h
     ·exact h
     ·exact absurd ((keeps_iff _ _).2 (.inr h)) hk
    rw[arr_at hj,arr_at (by omega)]at e
    rw[e]
    exact ih (by omega) (List.getElem_mem _)
theorem Rises.compact{zs:List Int}(h:zs.Pairwise (· <= ·)):Rises (Lib.compact zs):=by
 unfold Lib.compact Lib.compactUpTo Rises
 rw[List.pairwise_map]
 refine List.Pairwise.imp_of_mem ?_ (List.Pairwise.filter _ List.pairwise_lt_range)
 intro i j hi hj hij
 obtain⟨_,hk⟩:=List.mem_filter.1 hj
 have hj':=List.mem_range.1 (List.mem_filter.1 hj).1
 have hm: ∀(p q:Nat) (hpq:p<=q) (hq:q<zs.length),zs[p]'(by omega)<=zs[q]:=fun p q hpq hq=>by
  by_cases e:p=q
  ·subst e;exact Int.le_refl _
  ·exact List.pairwise_iff_getElem.1 h p q (by omega) hq (by omega)
 rcases(keeps_iff _ _).1 hk with e | e
 ·omega
 ·rw[arr_at hj',arr_at (j:=j - 1) (by omega)]at e
  rw[arr_at hj',arr_at (j:=i) (by omega)]
  have h1:=hm i (j - 1) (by omega) (by omega)
  have h2:=hm (j - 1) j (by omega) hj'
  omega
theorem plcs_WSt(t:List Acc)(b:Bool):WSt t b (Lib.compact ((plcs t b t.length).mergeSort leI)):=by
 have hl:(Lib.compact ((plcs t b t.length).mergeSort leI)).length<=t.length:=by
  have h1:(Lib.compact ((plcs t b t.length).mergeSort leI)).length<= ((plcs t b t.length).mergeSort leI).length:=by
   unfold Lib.compact Lib.compactUpTo
   rw[List.length_map]
   exact Nat.le_trans (List.length_filter_le _ _) (by simp)
  rw[List.length_mergeSort]at h1
  have h2:=plcs_le t b t.length
  omega
 refine⟨hl,Rises.compact (le_sorted _),fun y=>?_⟩
 rw[mem_compact,List.mem_mergeSort]
 unfold plcs
 rw[List.take_length,List.mem_map]
 constructor
 ·rintro⟨x,hx,rfl⟩
  obtain⟨h1,h2⟩:=List.mem_filter.1 hx
  refine⟨x,h1,fun hb=>?_,rfl⟩
  subst hb
  simpa using h2
 ·rintro⟨x,h1,h2,rfl⟩
  refine⟨x,List.mem_filter.2 ⟨h1,?_⟩,rfl⟩
  cases b
  ·simp
  ·simp[h2 rfl]
theorem row_shrink{w:World}{base g n k cap:Nat}{e:TypeId}{xs:List Value}(h:w.ownsRow base e 1 (.slice (some ⟨g,0,none⟩) n cap) n xs)(hk:k<=n):w.ownsRow base e 1 (.slice (some ⟨g,0,none⟩) k cap) k (xs.take k):=by
 obtain⟨h1,h2⟩:=h
 rcases h2 with⟨h2,_⟩ | ⟨g',cap',cur,hv,hb,hh,hn,hm,hs,ht⟩
 ·cases h2
 ·cases hv
  refine⟨by rw[List.length_take];omega,.inr ⟨g,cap,cur,rfl,hb,hh,by omega,hm,hs,?_⟩⟩
  rw[<-ht,List.take_take]
  congr 1
  omega
theorem own_geT{w:World}{base:Nat}{e:TypeId}{size n g:Nat}{v:Value}{xs:List Value}(h:w.ownsRow base e size v n xs)(hg:v.ownBlock=some g):base<=g:=by
 rcases h.2 with⟨rfl,_⟩ | ⟨g',cap,cur,rfl,hb,_,_⟩
 ·simp[Value.ownBlock]at hg
 ·have:g'=g:=by simpa[Value.ownBlock]using hg
  omega
theorem Below.toSort{w wr:World}(h:Below w.heap.size w wr){g:Nat}(hg:w.heap.size<=g)(d:Array Int)(n:Nat)(os:Array Obj):Below w.heap.size w (grow (putRow (Value.int .i64) (Go.Sort.ahead wr n) g 0 d) os):=
 h.grown (grownBy_sortedI d) h.size fun g' e=>by cases e;exact hg
set_option maxRecDepth 100000 in
theorem places_calls(t:List Acc)(v:Value)(b:Bool)(w:World)(h:Sl w 2 v t.length (encAccs t))(hl:t.length<=8796093022208):
  Calls Tryz.prog 87 #[v,.bool b] w fun e w'=>∃u us,e= .returned u/\WSt t b us/\IntRow w' w.heap.size u us/\Below w.heap.size w w':=by
 obtain⟨_,A,cap,rfl,hc,h⟩:=h
 obtain⟨i0,hi,hz0,hz1,hz2⟩:=info_parts info_intW
 have H:=lhi h
 clear h
 go_enter Tryz.func87,Tryz.ntmps87
 go_wp2
 go_loopw [5,10] (fun v i wr=>∃k:Nat,i= .int .i64 k/\k<=t.length/\IntRow wr w.heap.size v (plcs t b k)/\Below w.heap.size w wr) (fun _ i _=>t.length - (intOf i).toNat)
 case atStart=>exact⟨0,rfl,Nat.zero_le _,IntRow.nil _ _,Below.refl _ _⟩
 case round=>
  obtain⟨k,rfl,hk,hown,hB⟩:=hrel
  have HO:=lhi hown
  have HB:=lhi hB
  by_cases hlt:k<t.length
  ·have hk1:(k:Int)< (t.length:Int):=by omega
   have hk0:(0:Int)<= (k:Int):=by omega
   obtain⟨g,off,rfl,hcell⟩:=H.out (by omega)
   obtain⟨ea,eb⟩:=encAccs_at t k hlt
   have p1:=hcell _ _ ea
   have p2:w.cell? ⟨g,off+k*2+1,none⟩=_:=hcell _ _ eb
   have q1:=(hB.cell (World.block_lt_of_cell? w _ p1)).trans p1
   have q2:=(hB.cell (World.block_lt_of_cell? w _ p2)).trans p2
   have HY:=lhi (fun h=>plcs_yes (t:=t) (b:=b) hlt h)
   have HN:=lhi (fun h=>plcs_no (t:=t) (b:=b) hlt h)
   have HL:=lhi (plcs_le t b k)
   clear hcell ea eb H p1 p2 hB hown
   generalize t[k].1=x at*
   generalize t[k].2=x2 at*
   have hcase:(x2||!b)=true∨(x2=false/\b=true):=by cases x2 <;> cases b <;> simp
   rcases hcase with hy | ⟨rfl,rfl⟩
   ·have HYY:=lhi (HY.out hy)
    clear HY HN
    have hcase:(x2=true)∨(x2=false/\b=false):=by cases x2 <;> cases b <;> simp_all
    clear hy
    rcases hcase with rfl | ⟨rfl,rfl⟩
    all_goals (
     go_wp2_with (first | (at_builtin;refine wpList_append_lies _ rfl (.tmp 20) (.tmp 23) 28 rfl w.heap.size 3 i0 _ 1 8 Tryz.underlying28 hi hz0 hz1 hz2 rfl (by omega) u5 _ _ rfl ((HO.out.alloc _).alloc (Obj.cells #[.int .i64 x] 3)) ⟨wr.heap.size+1,0,none⟩ 1 1 [.int .i64 x] rfl rfl (World.news_of_block (by simpa using heap_alloc_new (wr.alloc _) _)) (by intro u hu;simp at hu;subst hu;rfl) (by decide) (by simp only[maxLen];have:=HL.out;omega) (by have:=HL.out;omega) (by have:=HB.out.size;simp;omega) _ rfl ?_;intro g2 cap2 w5 hown hgrow hat hlt2))
     go_roundw
     case rel=>
      have hs:=HB.out.size
      refine⟨k+1,by go_num,by omega,?_,(((HB.out.alloc hs _).alloc (by simp;omega) _).grown hgrow (by simp;omega) fun g' hg'=>own_geT HO.out hg')⟩
      rw[HYY.out]
      unfold IntRow
      simpa using hown
     case measure=>simp[intOf];omega)
   ·have HNN:=lhi (HN.out rfl)
    go_wp2_with (fail)
    go_roundw
    case rel=>
     refine⟨k+1,by go_num,by omega,?_,HB.out.alloc HB.out.size _⟩
     rw[HNN.out]
     exact HO.out.alloc _
    case measure=>simp[intOf];omega
  ·obtain rfl:k=t.length:=by omega
   have hk1: ¬ (t.length:Int)< (t.length:Int):=by omega
   have HW:=lhi (plcs_WSt t b)
   have HL:=lhi (plcs_le t b t.length)
   clear hown hB H
   generalize plcs t b t.length=zs at*
   have hzl:zs.length<=8796093022208:=by have:=HL.out;omega
   have hown:=HO.out
   rcases hown.2 with⟨rfl,h0⟩ | ⟨g,cap2,cur,rfl,hbase,hb,h1,h2,h3,h4⟩
   ·obtain rfl:zs=[]:=List.eq_nil_of_length_eq_zero h0
    have HW:=lhi (show WSt t b []by have h:=HW.out;rwa [List.mergeSort_nil,show Lib.compact ([]:List Int)=[]from rfl]at h)
    clear hown
    go_wp2_with (fail)
    refine(Tryz.slices_Sort_int_none none 0 wr).mono ?_
    rintro e w' ⟨rfl,rfl⟩
    go_wp2_with (fail)
    refine(Tryz.slices_Compact_int_empty none 0 _).mono ?_
    rintro e w' ⟨rfl,rfl⟩
    go_wp2_with (fail)
    go_ret
    exact⟨_,[],rfl,HW.out,IntRow.nil _ _,HB.out⟩
   ·have hgl:g<wr.heap.size:=(Array.getElem?_eq_some_iff.1 hb).1
    have HS:=lhi (Tryz.slices_Sort_int g 0 cap2 zs wr (holds_of_blockI hb (by simpa using h4)) hgl (by omega))
    have HX:=lhi (fun(n:Nat) (os:Array Obj)=>show(grow (putRow (Value.int .i64) (Go.Sort.ahead wr n) g 0 (zs.mergeSort leI).toArray) os).ownsRow w.heap.size 3 1 (.slice (some ⟨g,0,none⟩) zs.length cap2) zs.length ((zs.mergeSort leI).map (Value.int .i64))from ownsRow_sortedI (by simp) hbase hb h1 h2 h3)
    have HBX:=lhi (fun(n:Nat) (os:Array Obj)=>Below.toSort HB.out hbase (zs.mergeSort leI).toArray n os)
    have hlen:(zs.mergeSort leI).length=zs.length:=List.length_mergeSort _
    have HLEN:=lhi hlen
    have hcap:zs.length<=cap2:=h1
    clear hown hb h1 h2 h3 h4 hgl hlen
    go_wp2_with (fail)
    refine HS.out.mono ?_
    rintro e w5 ⟨rfl,n5,os5,hw5⟩
    have hown5:=HX.out n5 os5
    have hB5:=HBX.out n5 os5
    rw[show(fun x y:Int=>decide (x<=y))=leI from rfl]at hw5
    rw[<-hw5]at hown5 hB5
    clear hw5 HX HBX HS
    generalize zs.mergeSort leI=ss at*
    rcases hown5.2 with⟨h5,_⟩ | ⟨g5,cap5,cur5,hv5,hbase5,hb5,h51,h52,h53,h54⟩
    ·cases h5
    ·cases hv5
     have HC:=Tryz.slices_Compact_int g 0 cap2 ss w5 (holds_of_blockI hb5 (by rw[HLEN.out];simpa using h54)) (by rw[HLEN.out];omega) (by rw[HLEN.out];omega)
     rw[HLEN.out]at HC
     have HC:=lhi HC
     have hcl:(Lib.compact ss).length<=ss.length:=by
      unfold Lib.compact Lib.compactUpTo
      rw[List.length_map]
      exact Nat.le_trans (List.length_filter_le _ _) (by simp)
     rw[HLEN.out]at hcl
     have HX:=lhi (fun(n:Nat)=>show(grow (putRow (Value.int .i64) (Go.Sort.ahead w5 n) g 0 (Lib.compact ss++List.replicate (zs.length - (Lib.compact ss).length) 0).toArray) #[]).ownsRow w.heap.size 3 1 (.slice (some ⟨g,0,none⟩) zs.length cap2) zs.length ((Lib.compact ss++List.replicate (zs.length - (Lib.compact ss).length) 0).map (Value.int .i64))from ownsRow_sortedI (ss:=zs) (by simp;omega) hbase hb5 h51 h52 h53)
     have HBX:=lhi (fun(n:Nat)=>Below.toSort hB5 hbase (Lib.compact ss++List.replicate (zs.length - (Lib.compact ss).length) 0).toArray n #[])
     have HCL:=lhi hcl
     clear hown5 hb5 h51 h52 h53 h54 hB5 hcl
     go_wp2_with (fail)
     refine HC.out.mono ?_
     rintro e w6 ⟨rfl,n6,hw6⟩
     have hown6:=HX.out n6
     have hB6:=HBX.out n6
     rw[show∀X:World,grow X #[]=X from fun X=>by simp[grow]]at hown6 hB6
     rw[<-hw6]at hown6 hB6
     have hown7:=row_shrink hown6 HCL.out
     have HO7:=lhi hown7
     have HB6:=lhi hB6
     clear hw6 HX HBX HC hown6 hB6 hown7
     go_wp2_with (fail)
     go_ret
     refine⟨_,Lib.compact ss,rfl,HW.out,?_,HB6.out⟩
     have:=HO7.out
     unfold IntRow
     rwa [<-List.map_take,List.take_left]at this
end
section
open Go.RowKit
set_option maxHeartbeats 1000000
def pairB(x y:Acc):Bool:=x.1==y.1&& (x.2||y.2)
def meetT(t s:List Acc):Bool:=t.any fun x=>s.any fun y=>pairB x y
theorem meetT_iff{t s:List Acc}:meetT t s=true↔ ∃x∈t,∃y∈s,x.1=y.1/\ (x.2=true∨y.2=true):=by
 unfold meetT
 rw[List.any_eq_true]
 constructor
 ·rintro⟨x,hx,h⟩
  obtain⟨y,hy,e⟩:=List.any_eq_true.1 h
  unfold pairB at e
  rw[Bool.and_eq_true,Bool.or_eq_true]at e
  exact⟨x,hx,y,hy,by simpa using e.1,e.2⟩
 ·rintro⟨x,hx,y,hy,e1,e2⟩
  refine⟨x,hx,List.any_eq_true.2 ⟨y,hy,?_⟩⟩
  unfold pairB
  rw[Bool.and_eq_true,Bool.or_eq_true]
  exact⟨by simpa using e1,e2⟩
theorem meetT_of{t s:List Acc}{u v u' v':List Int}(h1:WSt t true u)(h2:WSt s false v)(h3:WSt s true u')(h4:WSt t false v'):(meetB u v||meetB u' v')=meetT t s:=by
 rw[Bool.eq_iff_iff,Bool.or_eq_true,meetT_iff,meetB_iff,meetB_iff]
 constructor
 ·rintro(⟨a,ha,hb⟩ | ⟨a,ha,hb⟩)
  ·obtain⟨x,hx,hw,rfl⟩:=(h1.mem a).1 ha
   obtain⟨y,hy,_,e⟩:=(h2.mem _).1 hb
   exact⟨x,hx,y,hy,e.symm,.inl (hw rfl)⟩
  ·obtain⟨y,hy,hw,rfl⟩:=(h3.mem a).1 ha
   obtain⟨x,hx,_,e⟩:=(h4.mem _).1 hb
   exact⟨x,hx,y,hy,e,.inr (hw rfl)⟩
 ·rintro⟨x,hx,y,hy,e,hw | hw⟩
  ·exact .inl ⟨x.1,(h1.mem _).2 ⟨x,hx,fun _=>hw,rfl⟩,(h2.mem _).2 ⟨y,hy,(fun h=>by cases h),e.symm⟩⟩
  ·exact .inr ⟨y.1,(h3.mem _).2 ⟨y,hy,fun _=>hw,rfl⟩,(h4.mem _).2 ⟨x,hx,(fun h=>by cases h),e⟩⟩
section
variable{w:World}{v v':Value}{t s:List Acc}
theorem twords_calls(h:Sl w 2 v t.length (encAccs t))(hl:t.length<=8796093022208):
  Calls Tryz.prog 36 #[v] w fun e w'=>∃u us,e= .returned u/\WSt t false us/\IntRow w' w.heap.size u us/\Below w.heap.size w w':=by
 have H:=lhi (places_calls t v false w h hl)
 clear h
 go_enter Tryz.func36,Tryz.ntmps36
 go_wp2_with (fail)
 refine H.out.mono ?_
 rintro e w' ⟨u,us,rfl,h1,h2,h3⟩
 have HH:=lhi (show WSt t false us/\IntRow w' w.heap.size u us/\Below w.heap.size w w' from⟨h1,h2,h3⟩)
 clear h1 h2 h3 H
 go_wp2_with (fail)
 go_ret
 exact⟨_,us,rfl,HH.out⟩
theorem twrites_calls(h:Sl w 2 v t.length (encAccs t))(hl:t.length<=8796093022208):
  Calls Tryz.prog 35 #[v] w fun e w'=>∃u us,e= .returned u/\WSt t true us/\IntRow w' w.heap.size u us/\Below w.heap.size w w':=by
 have H:=lhi (places_calls t v true w h hl)
 clear h
 go_enter Tryz.func35,Tryz.ntmps35
 go_wp2_with (fail)
 refine H.out.mono ?_
 rintro e w' ⟨u,us,rfl,h1,h2,h3⟩
 have HH:=lhi (show WSt t true us/\IntRow w' w.heap.size u us/\Below w.heap.size w w' from⟨h1,h2,h3⟩)
 clear h1 h2 h3 H
 go_wp2_with (fail)
 go_ret
 exact⟨_,us,rfl,HH.out⟩
theorem WSt.len_le{t:List Acc}{b:Bool}{us:List Int}(h:WSt t b us)(hl:t.length<=8796093022208):us.length<=8796093022208:=Nat.le_trans h.len hl
theorem IntRow.cap_le{w:World}{B:Nat}{u:Value}{us:List Int}(h:IntRow w B u us): ∀A n c,u= .slice A n c->c<=9223372036854775807:=by
 obtain⟨A',cap,rfl,h1,h2,_⟩:=h.form
 intro A n c e
 cases e
 unfold maxLen at h2
 omega
theorem common_rows{w:World}{B B':Nat}{u u':Value}{us vs:List Int}(hr:Sl w 1 u us.length (us.map (Value.int .i64)))(hr':Sl w 1 u' vs.length (vs.map (Value.int .i64))){W W':World}(hw:IntRow W B u us)(hw':IntRow W' B' u' vs)(hu:Rises us)(hv:Rises vs){b:Bool}(hb:meetB us vs=b):
  Calls Tryz.prog 34 #[u,u'] w fun e w'=>e= .returned (.bool b)/\ ∃d,w'=w.drewN d:=by
 subst hb
 exact common_calls us vs u u' w hr hr' hu hv hw.cap_le hw'.cap_le
theorem tmeet_calls(h:Sl w 2 v t.length (encAccs t))(h':Sl w 2 v' s.length (encAccs s))(hl:t.length<=8796093022208)(hl':s.length<=8796093022208):
  Calls Tryz.prog 14 #[v,v'] w fun e w'=>e= .returned (.bool (meetT t s))/\Below w.heap.size w w':=by
 have H:=lhi h
 have H':=lhi h'
 clear h h'
 go_enter Tryz.func14,Tryz.ntmps14
 go_wp2_with (fail)
 refine(twrites_calls H.out hl).mono ?_
 rintro e w1 ⟨u1,us1,rfl,g1,r1,b1⟩
 have R1:=lhi r1
 have B1:=lhi b1
 have G1:=lhi g1
 clear g1 r1 b1
 go_wp2_with (fail)
 refine(twords_calls (H'.out.below B1.out) hl').mono ?_
 rintro e w2 ⟨u2,us2,rfl,g2,r2,b2⟩
 have R2:=lhi r2
 have B2:=lhi b2
 have G2:=lhi g2
 clear g2 r2 b2
 obtain⟨b,hb⟩: ∃b,meetB us1 us2=b:=⟨_,rfl⟩
 have HB:=lhi hb
 go_wp2_with (fail)
 refine(common_rows (R1.out.sl.below B2.out) R2.out.sl R1.out R2.out G1.out.up G2.out.up HB.out).mono ?_
 rintro e w3 ⟨rfl,d3,rfl⟩
 have B3:=lhi (below_drewN' (bel_then B1.out B2.out) d3)
 clear hb
 cases b
 ·go_wp2_with (fail)
  refine(twrites_calls (H'.out.below B3.out) hl').mono ?_
  rintro e w4 ⟨u4,us4,rfl,g4,r4,b4⟩
  have R4:=lhi r4
  have B4:=lhi (bel_then B3.out b4)
  have G4:=lhi g4
  clear g4 r4 b4
  go_wp2_with (fail)
  refine(twords_calls (H.out.below B4.out) hl).mono ?_
  rintro e w5 ⟨u5,us5,rfl,g5,r5,b5⟩
  have R5:=lhi r5
  have B5:=lhi b5
  have G5:=lhi g5
  clear g5 r5 b5
  obtain⟨b,hb⟩: ∃b,meetB us4 us5=b:=⟨_,rfl⟩
  have HB2:=lhi hb
  clear hb
  go_wp2_with (fail)
  refine(common_rows (R4.out.sl.below B5.out) R5.out.sl R4.out R5.out G4.out.up G5.out.up HB2.out).mono ?_
  rintro e w6 ⟨rfl,d6,rfl⟩
  have HF:=lhi (show b=meetT t s by have:=meetT_of G1.out G2.out G4.out G5.out;rw[HB.out,HB2.out,Bool.false_or]at this;exact this)
  go_wp2_with (fail)
  go_ret
  exact⟨ret_bool HF.out,below_drewN' (bel_then B4.out B5.out) _⟩
 ·have HF:=lhi (show true=meetT t s by
   obtain⟨x,h1,h2⟩:=meetB_iff.1 HB.out
   obtain⟨y,hy,hw,rfl⟩:=(G1.out.mem x).1 h1
   obtain⟨z,hz,_,e⟩:=(G2.out.mem _).1 h2
   exact(meetT_iff.2 ⟨y,hy,z,hz,e.symm,.inl (hw rfl)⟩).symm)
  go_wp2_with (fail)
  go_ret
  exact⟨ret_bool HF.out,B3.out⟩
end
end
end Go.Proofs.YtkebjgebkneijaaGreat
