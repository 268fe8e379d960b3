/- Texts of one's own that a claim's last text rests on: Ins2. -/
import Derived.Test.YtkebjgebkneijaaGreatMG18
set_option linter.unusedVariables false
set_option linter.unusedSimpArgs false
namespace Go.Proofs.YtkebjgebkneijaaGreat
open Go.RowKit
set_option maxHeartbeats 16000000
set_option maxRecDepth 1000000
open Go.RowKit Go.Lib
theorem Zj{w:World}{base g cap:Nat}{L:List (En)}{i:Nat}(hown:w.ownsRow base 132 2 (.slice (some ⟨g,0,none⟩) L.length cap) L.length (L.flatMap Ai))(hi:i<L.length){x:En}{xb:Nat}(hx:Blk w xb 132 (Ai x).toArray)(hne:xb≠g)(hone: ∀y∈x::L,∀u∈Ai y,u.oneCell'=true)(hn:L.length<=90000)(hbase:base<=w.heap.size):
  Calls Tryz.prog 172 #[.slice (some ⟨g,0,none⟩) L.length cap,.int .i64 i,.slice (some ⟨xb,0,none⟩) 1 1] w fun e w'=>∃v',e= .returned v'/\w'.ownsRow base 132 2 v' (L.length+1) ((L.take i++x::L.drop i).flatMap Ai)/\w.grownBy w' (some g)/\ (v'.ownBlock=some g∨v'.ownBlock=some w.heap.size):=by
 obtain⟨i0,hi0,hz⟩:=Option.map_eq_some_iff.1 Lk
 have hz0:i0.zero=some (.agg #[.string ⟨#[]⟩,.int .i64 0]):=congrArg (fun p=>p.1) hz
 have hz1:i0.size=2:=congrArg (fun p=>p.2.1) hz
 have hz2:i0.bytes=24:=congrArg (fun p=>p.2.2) hz
 clear hz
 obtain⟨g',cap',cur,hv,hgb,hh,hcap,hcm,hcs,htk⟩: ∃g' cap' cur,Value.slice (some ⟨g,0,none⟩) L.length cap= .slice (some ⟨g',0,none⟩) L.length cap'/\base<=g'/\w.heap[g']? =some (.cells cur 132 (0,0))/\L.length<=cap'/\cap'<=maxLen/\cur.size=cap'*2/\cur.toList.take (L.length*2)=L.flatMap Ai:=by
  rcases hown.2 with⟨q,-⟩ | q
  ·cases q
  ·exact q
 obtain rfl:g=g':=by injection hv with e1;injection e1 with e1;injection e1
 obtain rfl:cap=cap':=by injection hv
 clear hv hown
 have HH:=lhi (show Blk w g 132 cur from hh)
 have HX:=lhi hx
 have hgw:g<w.heap.size:=HH.out.lt
 have hxw:xb<w.heap.size:=hx.lt
 obtain⟨P,hP⟩:=yy ((L.take i).flatMap Ai)
 obtain⟨D,hD⟩:=yy ((L.drop i).flatMap Ai)
 obtain⟨X,hX⟩:=yy (Ai x)
 obtain⟨n,hnn⟩:=xx L.length
 have hPl:P.length=i*2:=by rw[hP,Cb Bn,List.length_take];congr 1;omega
 have hDl:D.length=(n - i)*2:=by rw[hD,Cb Bn,List.length_drop,hnn]
 have hXl:X.length=2:=by rw[hX];rfl
 have hres:(L.take i++x::L.drop i).flatMap Ai=P++X++D:=by rw[List.flatMap_append,List.flatMap_cons,<-hP,<-hD,<-hX,List.append_assoc]
 have hF:L.flatMap Ai=P++D:=by rw[hP,hD,<-List.flatMap_append,List.take_append_drop]
 have hcP:cur.toList.take (i*2)=P:=by
  have h:=Jc (enc:=Ai) Bn L i
  rw[<-hP,<-htk,List.take_take,Nat.min_eq_left (by omega)]at h
  exact h
 have h1D: ∀v∈D,v.oneCell'=true:=fun v hv=>by
  rw[hD]at hv
  obtain⟨y,hy,hv⟩:=List.mem_flatMap.1 hv
  exact hone y (Amc _ (List.mem_of_mem_drop hy)) v hv
 have h1X: ∀v∈X,v.oneCell'=true:=fun v hv=>hone x Amb v (by rw[<-hX];exact hv)
 have hsz:(Tryz.prog.info? 132).map (·.size)=some 2:=by rw[hi0];simp[hz1]
 have hcD: ∀j v,D[j]? =some v->w.cell? ((⟨g,i*2,none⟩:Addr).add j)=some v:=fun j v hj=>by
  rw[Addr.add_lit,HH.out.cell]
  have hjl:j<D.length:=(List.getElem?_eq_some_iff.1 hj).1
  have h:(L.flatMap Ai)[i*2+j]? =some v:=by rw[hF,<-hPl,List.getElem?_append_right (by omega),Nat.add_sub_cancel_left];exact hj
  rw[<-htk,List.getElem?_take,hnn,if_pos (by omega)]at h
  simpa using h
 have hcX: ∀j v,X[j]? =some v->w.cell? ((⟨xb,0,none⟩:Addr).add j)=some v:=fun j v hj=>by
  rw[Addr.add_lit,HX.out.cell,<-hX,Nat.zero_add]
  simpa using hj
 rw[hres]
 rw[hnn]at hi hn hcap⊢
 clear hnn hone hF htk hres hP hD hx hh L
 have mixed:Tryz.prog.follows .mixedOrders=true:=by kernel_rfl
 have hz3: ¬ ((i:Int)=(n:Int)):=by omega
 have hin:i<=n:=by omega
 have hw1:IntKind.i64.wrap ((i:Int)+1)=(i:Int)+1:=by rw[IntKind.wrap_i64];omega
 have hw2:IntKind.i64.wrap ((n:Int)+1)=(n:Int)+1:=by rw[IntKind.wrap_i64];omega
 have hb1:(0:Int)<= (i:Int)+1:=by omega
 have hb0:(0:Int)<= (n:Int)+1:=by omega
 have ht1:((i:Int)+1).toNat=i+1:=by omega
 have ht2:((n:Int)+1).toNat=n+1:=by omega
 by_cases hroom:n+1<=cap
 ·have hroom1: ¬ ((cap:Int)< (n:Int)+1):=by omega
  have hroom2:(n:Int)+1<= (cap:Int):=by omega
  have hb3:(i:Int)+1<= (n:Int)+1:=by omega
  have hb4:(i:Int)<= (n:Int)+1:=by omega
  have hb5: ¬ (cap=i+1):=by omega
  have hb6: ¬ (cap=i):=by omega
  have hov: ∀lb cb,(callFunc 214 #[.slice (some ⟨xb,0,none⟩) 1 1,.slice (some ⟨g,(i+1)*2,none⟩) lb cb]).run Tryz.prog w= .ok (.value (.bool false)) w:=fun lb cb=>by
   rw[run_callFunc_extern Tryz.func214 (by kernel_rfl) (by kernel_rfl) (by kernel_rfl) (e:=Extern.SlicesOverlaps.overlaps #[91,91] #[4]) (by kernel_rfl),
    Lib.run_overlaps_apart w 91 4 132 Tryz.underlying91 2 (fun w=>by simp[sizeOf,typeInfo,hi0,hz1]) ⟨xb,0,none⟩ ⟨g,(i+1)*2,none⟩ 1 1 lb cb hne 132 132 2 cur.size (by have:=HX.out;unfold Blk at this;simp[World.shape?,this,Bn]) (by have:=HH.out;unfold Blk at this;simp[World.shape?,this]) (by omega) (HX.out.frozen _) (HX.out.frozen _)]
   rfl
  have hcp1: ∀ty dc sc,(Builtin.copy_ #[91,91] ty #[.slice (some ⟨g,(i+1)*2,none⟩) (n - i) dc,.slice (some ⟨g,i*2,none⟩) (n+1 - i) sc]).run Tryz.prog w.drew= .ok (goInt (Nat.min (n+1 - i) (n - i))) (w.drew.setRow g (Ac cur.toList ((i+1)*2) D).toArray):=fun ty dc sc=>
   Df w.drew _ _ ty 132 g ((i+1)*2) (n - i) dc ⟨g,i*2,none⟩ (n+1 - i) sc 2 cur 132 D Tryz.underlying91 hsz HH.out (by rw[hDl];congr 1;simp only[Nat.min_def];split <;> omega) hcD (by omega) h1D
  obtain⟨W1,hW1⟩:=yy (w.drew.setRow g (Ac cur.toList ((i+1)*2) D).toArray)
  have hB1:Blk W1 g 132 (Ac cur.toList ((i+1)*2) D).toArray:=by rw[hW1];exact Blk.setRow (show Blk w.drew g _ _ from HH.out) _
  have hB1l:(Ac cur.toList ((i+1)*2) D).length=cap*2:=by rw[Cd (by simp;omega)];simpa using hcs
  have hcX1: ∀j v,X[j]? =some v->W1.cell? ((⟨xb,0,none⟩:Addr).add j)=some v:=fun j v hj=>by
   rw[hW1,cell_setRow_other _ _ _ _ (by rw[Addr.add_lit];exact hne)]
   exact hcX j v hj
  rw[<-hW1]at hcp1
  have hcp2: ∀ty dc,(Builtin.copy_ #[91,91] ty #[.slice (some ⟨g,i*2,none⟩) (n+1 - i) dc,.slice (some ⟨xb,0,none⟩) 1 1]).run Tryz.prog W1= .ok (goInt (Nat.min 1 (n+1 - i))) (W1.setRow g (Ac (Ac cur.toList ((i+1)*2) D).toArray.toList (i*2) X).toArray):=fun ty dc=>
   Df W1 _ _ ty 132 g (i*2) (n+1 - i) dc ⟨xb,0,none⟩ 1 1 2 _ 132 X Tryz.underlying91 hsz hB1 (by rw[hXl];simp only[Nat.min_def];split <;> omega) hcX1 (by simp[hB1l];omega) h1X
  have HFIN:=lhi (show(W1.setRow g (Ac (Ac cur.toList ((i+1)*2) D).toArray.toList (i*2) X).toArray).ownsRow base 132 2 (.slice (some ⟨g,0,none⟩) (n+1) cap) (n+1) (P++X++D)from by
   refine⟨by simp[hPl,hXl,hDl];omega,.inr ⟨g,cap,_,rfl,hgb,hB1.setRow _,hroom,hcm,?_,?_⟩⟩
   ·simp only[List.size_toArray]
    rw[Cd (by simp[hB1l];omega)]
    simpa using hB1l
   ·have h:=Kj (l:=cur.toList) (P:=P) (X:=X) (D:=D) (o:=i*2) (n:=(n+1)*2) hcP hPl (by simp;omega) (by omega)
    have e:i*2+X.length=(i+1)*2:=by omega
    rw[e]at h
    exact h)
  have HGR:=lhi (show w.grownBy (W1.setRow g (Ac (Ac cur.toList ((i+1)*2) D).toArray.toList (i*2) X).toArray) (some g)from by
   rw[hW1]
   exact Di (Hz w _) (Di (Ea w.drew g _) (Ea _ g _)))
  clear hcP hcD hcX hB1 hcX1 hW1 hX
  go_enter Tryz.func172,Tryz.ntmps172
  go_wp2_with (simp only[hov])
  go_region_law_o (refine Go.Proofs.step_copy_runI rfl _ _ 91 91 rfl _ _ (by simp[Act.eval,Act.put]) (by simp[Act.eval,Act.put]) (hcp1 _ _ _) ?_)
  go_wp2_with (at_builtin;refine Go.Proofs.wpList_copy_runI _ rfl _ _ 91 91 rfl _ _ rfl rfl (hcp2 _ _) ?_)
  go_ret
  exact⟨_,rfl,HFIN.out,HGR.out,.inl rfl⟩
 ·have hroom1:(cap:Int)< (n:Int)+1:=by omega
  have hkk:(n:Int)+1 - (i:Int)=((n+1 - i:Nat):Int):=by omega
  have hik:i+ (n+1 - i)=n+1:=by omega
  have hold:(Builtin.firstCells i0.size i (.slice (some ⟨g,0,none⟩) i cap)).run Tryz.prog w.drew= .ok P.toArray w.drew:=by
   rw[hz1]
   refine run_firstCells_some w.drew 2 i ⟨g,0,none⟩ i cap P (by omega) (fun j v hj=>?_)
   rw[Addr.add_lit]
   show w.cell? _=_
   rw[HH.out.cell]
   have hjl:j<P.length:=(List.getElem?_eq_some_iff.1 hj).1
   rw[<-hcP,List.getElem?_take]at hj
   split at hj
   ·simpa using hj
   ·cases hj
  have hrz: ∀ty,(Builtin.append_ #[91,3] ty #[.slice (some ⟨g,0,none⟩) i cap,.int .i64 ((n:Int)+1 - (i:Int))]).run Tryz.prog w=
    .ok (.slice (some ⟨w.heap.size,0,none⟩) (n+1) (grownCap w (n+1) cap 132)) (w.drew.alloc (.cells (P.toArray++Builtin.zeroCells (Value.cells (.agg #[.string ⟨#[]⟩,.int .i64 0])) (n+1 - i)++Builtin.zeroCells (Value.cells (.agg #[.string ⟨#[]⟩,.int .i64 0])) (grownCap w (n+1) cap 132 - (n+1))) 132)):=fun ty=>by
   have h:=Lib.run_append_grow_zeros w 91 3 ty 132 i0 _ .i64 .i64 Tryz.underlying91 Tryz.underlying3 hi0 hz0 (some ⟨g,0,none⟩) i cap P hold (n+1 - i) (by omega) (by omega) (by omega) (by omega) (by rw[hz2];omega) (by rw[hz2,hik];exact growslice_fits (by omega) (by omega))
   rw[hik]at h
   rw[hkk]
   exact h
  have hGn:n+1<=grownCap w (n+1) cap 132:=grownCap_ge w _ _ _
  have hGm:grownCap w (n+1) cap 132<=maxLen:=grownCap_le_maxLen w (n+1) cap 132 (by unfold maxLen;omega)
  obtain⟨G,hG⟩:=yy (grownCap w (n+1) cap 132)
  rw[<-hG]at hrz hGn hGm
  obtain⟨ROW,hROW⟩: ∃ROW:Array Value,ROW=P.toArray++Builtin.zeroCells (Value.cells (.agg #[.string ⟨#[]⟩,.int .i64 0])) (n+1 - i)++Builtin.zeroCells (Value.cells (.agg #[.string ⟨#[]⟩,.int .i64 0])) (G - (n+1)):=⟨_,rfl⟩
  rw[<-hROW]at hrz
  have hRl:ROW.size=G*2:=by
   rw[hROW]
   simp[Builtin.zeroCells,Value.cells,hPl]
   omega
  have hRP:ROW.toList.take (i*2)=P:=by
   rw[hROW]
   simp only[Array.toList_append]
   rw[List.append_assoc,List.take_append_of_le_length (by simp[hPl]),<-hPl,List.take_length]
  have hG63:G<=9223372036854775807:=by unfold maxLen at hGm;omega
  clear hG hROW hold hkk
  obtain⟨W1,hW1⟩:=yy (w.drew.alloc (.cells ROW 132))
  rw[<-hW1]at hrz
  obtain⟨h,hh⟩:=yy w.heap.size
  have hB1:Blk W1 h 132 ROW:=by rw[hW1,hh];exact Blk.new w.drew _ _
  have hXW:Blk W1 xb 132 (Ai x).toArray:=by rw[hW1];exact Blk.alloc (show Blk w.drew xb _ _ from HX.out) _
  have hgW:Blk W1 g 132 cur:=by rw[hW1];exact Blk.alloc (show Blk w.drew g _ _ from HH.out) _
  have hhg:g≠h:=by omega
  have hhx:xb≠h:=by omega
  rw[<-hh]at hrz⊢
  have hcpA: ∀ty dc,(Builtin.copy_ #[91,91] ty #[.slice (some ⟨h,i*2,none⟩) (n+1 - i) dc,.slice (some ⟨xb,0,none⟩) 1 1]).run Tryz.prog W1= .ok (goInt (Nat.min 1 (n+1 - i))) (W1.setRow h (Ac ROW.toList (i*2) X).toArray):=fun ty dc=>
   Df W1 _ _ ty 132 h (i*2) (n+1 - i) dc ⟨xb,0,none⟩ 1 1 2 _ 132 X Tryz.underlying91 hsz hB1 (by rw[hXl];simp only[Nat.min_def];split <;> omega) (fun j v hj=>by
    rw[Addr.add_lit,hXW.cell,Nat.zero_add,<-hX]
    simpa using hj) (by omega) h1X
  obtain⟨W2,hW2⟩:=yy (W1.setRow h (Ac ROW.toList (i*2) X).toArray)
  have hB2:Blk W2 h 132 (Ac ROW.toList (i*2) X).toArray:=by rw[hW2];exact Blk.setRow hB1 _
  have hl2:(Ac ROW.toList (i*2) X).length=G*2:=by rw[Cd (by simp;omega)];simpa using hRl
  have hcpB: ∀ty dc sc,(Builtin.copy_ #[91,91] ty #[.slice (some ⟨h,(i+1)*2,none⟩) (n - i) dc,.slice (some ⟨g,i*2,none⟩) (n - i) sc]).run Tryz.prog W2.drew= .ok (goInt (Nat.min (n - i) (n - i))) (W2.drew.setRow h (Ac (Ac ROW.toList (i*2) X).toArray.toList ((i+1)*2) D).toArray):=fun ty dc sc=>
   Df W2.drew _ _ ty 132 h ((i+1)*2) (n - i) dc ⟨g,i*2,none⟩ (n - i) sc 2 _ 132 D Tryz.underlying91 hsz (show Blk W2.drew h _ _ from hB2) (by rw[hDl];congr 1;simp only[Nat.min_def];split <;> omega) (fun j v hj=>by
    have:=hcD j v hj
    rw[Addr.add_lit]at this⊢
    show W2.cell? _=_
    rw[hW2]
    rw[cell_setRow_other _ _ _ _ hhg,hgW.cell]
    rw[HH.out.cell]at this
    exact this) (by simp[hl2];omega) h1D
  have HFIN:=lhi (show(W2.drew.setRow h (Ac (Ac ROW.toList (i*2) X).toArray.toList ((i+1)*2) D).toArray).ownsRow base 132 2 (.slice (some ⟨h,0,none⟩) (n+1) G) (n+1) (P++X++D)from by
   refine⟨by simp[hPl,hXl,hDl];omega,.inr ⟨h,G,_,rfl,by omega,Blk.setRow (show Blk W2.drew h _ _ from hB2) _,hGn,hGm,?_,?_⟩⟩
   ·simp only[List.size_toArray]
    rw[Cd (by simp[hl2];omega)]
    simpa using hl2
   ·have q:=Kk (l:=ROW.toList) (P:=P) (X:=X) (D:=D) (o:=i*2) (n:=(n+1)*2) hRP hPl (by simp;omega) (by omega)
    have e:i*2+X.length=(i+1)*2:=by omega
    rw[e]at q
    exact q)
  have HGR:=lhi (show w.grownBy (W2.drew.setRow h (Ac (Ac ROW.toList (i*2) X).toArray.toList ((i+1)*2) D).toArray) (some g)from by
   refine⟨by rw[hW2,hW1];rfl,by rw[hW2,hW1];rfl,by rw[hW2,hW1];rfl,?_,fun b hb _=>?_⟩
   ·rw[setRow_size]
    show _<=W2.heap.size
    rw[hW2,setRow_size,hW1]
    rw[World.size_alloc]
    exact Nat.le_succ _
   ·rw[setRow_other _ _ _ _ (by omega)]
    show W2.heap[b]? =_
    rw[hW2,setRow_other _ _ _ _ (by omega),hW1]
    exact Below.heap_alloc w.drew _ b hb)
  have hGi: ¬ (G=i):=by omega
  have hGim: ¬ (G=i+1):=by omega
  have hci: ¬ (cap=i):=by omega
  have hb3:(i:Int)+1<= (n:Int)+1:=by omega
  have hb4:(i:Int)<= (n:Int)+1:=by omega
  have hw3:IntKind.i64.wrap ((n:Int)+1 - (i:Int))=(n:Int)+1 - (i:Int):=by rw[IntKind.wrap_i64];omega
  clear hcP hcD hcX hB1 hXW hgW hW1 hB2 hl2 hRP hRl hh hX
  go_enter Tryz.func172,Tryz.ntmps172
  go_wp2_with (first
   | (at_builtin;refine Lib.wpList_append_run _ rfl _ _ _ _ rfl _ _ rfl rfl _ _ (hrz _) ?_)
   | (at_builtin;refine Go.Proofs.wpList_copy_runI _ rfl _ _ 91 91 rfl _ _ rfl rfl (hcpA _ _) ?_))
  rw[<-hW2]
  clear hW2
  go_region_law_o (refine Go.Proofs.step_copy_runI rfl _ _ 91 91 rfl _ _ (by simp[Act.eval,Act.put]) (by simp[Act.eval,Act.put]) (hcpB _ _ _) ?_)
  go_wp2
  go_ret
  exact⟨_,rfl,HFIN.out,HGR.out,.inr rfl⟩
theorem Zl{w:World}{base:Nat}{v:Value}{L:List (En)}{i:Nat}(hown:w.ownsRow base 132 2 v L.length (L.flatMap Ai))(hi:i<=L.length){x:En}{xb:Nat}(hx:Blk w xb 132 (Ai x).toArray)(hne:v.ownBlock≠some xb)(hone: ∀y∈x::L,∀u∈Ai y,u.oneCell'=true)(hn:L.length<=90000)(hbase:base<=w.heap.size):
  Calls Tryz.prog 172 #[v,.int .i64 i,.slice (some ⟨xb,0,none⟩) 1 1] w fun e w'=>∃v',e= .returned v'/\w'.ownsRow base 132 2 v' (L.length+1) ((L.take i++x::L.drop i).flatMap Ai)/\w.grownBy w' v.ownBlock/\ (v'.ownBlock=v.ownBlock∨v'.ownBlock=some w.heap.size):=by
 by_cases e:i=L.length
 ·subst e
  have h:=Zk hown (xv:=.slice (some ⟨xb,0,none⟩) 1 1) (x:=x) (C:=fun _ j=>(Ai x).getD j (.int .i64 0)) ⟨_,_,rfl,Ama _,fun _=>⟨xb,0,rfl,fun a j ha hj=>by
   obtain rfl:a=0:=by omega
   rw[hx.cell,Nat.zero_add,Nat.zero_mul,Nat.zero_add,List.getElem?_toArray]
   show _=some ((Ai x).getD j (.int .i64 0))
   rw[Ame,Amh (by rw[Bn];exact hj)]
   rfl⟩⟩ (fun a j ha hj=>by
   have ha:a<1:=ha
   obtain rfl:a=0:=by omega
   show(Ai x)[j]? =some ((Ai x).getD j (.int .i64 0))
   rw[Ame,Amh (by rw[Bn];exact hj)]
   rfl) (hone x Amb) hn hbase
  rw[List.take_length,List.drop_length]
  exact h
 ·rcases hown.2 with⟨rfl,h0⟩ | ⟨g,cap,cur,rfl,-⟩
  ·omega
  ·exact Zj hown (by omega) hx (fun q=>hne (by rw[q];rfl)) hone hn hbase
theorem Zg{w:World}{base g cap:Nat}{L:List (InV)}{i:Nat}(hown:w.ownsRow base 93 4 (.slice (some ⟨g,0,none⟩) L.length cap) L.length (L.flatMap encI))(hi:i<L.length){x:InV}{xb:Nat}(hx:Blk w xb 93 (encI x).toArray)(hne:xb≠g)(hone: ∀y∈x::L,∀u∈encI y,u.oneCell'=true)(hn:L.length<=90000)(hbase:base<=w.heap.size):
  Calls Tryz.prog 122 #[.slice (some ⟨g,0,none⟩) L.length cap,.int .i64 i,.slice (some ⟨xb,0,none⟩) 1 1] w fun e w'=>∃v',e= .returned v'/\w'.ownsRow base 93 4 v' (L.length+1) ((L.take i++x::L.drop i).flatMap encI)/\w.grownBy w' (some g)/\ (v'.ownBlock=some g∨v'.ownBlock=some w.heap.size):=by
 obtain⟨i0,hi0,hz⟩:=Option.map_eq_some_iff.1 Ja
 have hz0:i0.zero=some (.agg #[.int .i64 0,.bool false,.slice none 0 0,.string ⟨#[]⟩]):=congrArg (fun p=>p.1) hz
 have hz1:i0.size=4:=congrArg (fun p=>p.2.1) hz
 have hz2:i0.bytes=56:=congrArg (fun p=>p.2.2) hz
 clear hz
 obtain⟨g',cap',cur,hv,hgb,hh,hcap,hcm,hcs,htk⟩: ∃g' cap' cur,Value.slice (some ⟨g,0,none⟩) L.length cap= .slice (some ⟨g',0,none⟩) L.length cap'/\base<=g'/\w.heap[g']? =some (.cells cur 93 (0,0))/\L.length<=cap'/\cap'<=maxLen/\cur.size=cap'*4/\cur.toList.take (L.length*4)=L.flatMap encI:=by
  rcases hown.2 with⟨q,-⟩ | q
  ·cases q
  ·exact q
 obtain rfl:g=g':=by injection hv with e1;injection e1 with e1;injection e1
 obtain rfl:cap=cap':=by injection hv
 clear hv hown
 have HH:=lhi (show Blk w g 93 cur from hh)
 have HX:=lhi hx
 have hgw:g<w.heap.size:=HH.out.lt
 have hxw:xb<w.heap.size:=hx.lt
 obtain⟨P,hP⟩:=yy ((L.take i).flatMap encI)
 obtain⟨D,hD⟩:=yy ((L.drop i).flatMap encI)
 obtain⟨X,hX⟩:=yy (encI x)
 obtain⟨n,hnn⟩:=xx L.length
 have hPl:P.length=i*4:=by rw[hP,Cb Db,List.length_take];congr 1;omega
 have hDl:D.length=(n - i)*4:=by rw[hD,Cb Db,List.length_drop,hnn]
 have hXl:X.length=4:=by rw[hX];rfl
 have hres:(L.take i++x::L.drop i).flatMap encI=P++X++D:=by rw[List.flatMap_append,List.flatMap_cons,<-hP,<-hD,<-hX,List.append_assoc]
 have hF:L.flatMap encI=P++D:=by rw[hP,hD,<-List.flatMap_append,List.take_append_drop]
 have hcP:cur.toList.take (i*4)=P:=by
  have h:=Jc (enc:=encI) Db L i
  rw[<-hP,<-htk,List.take_take,Nat.min_eq_left (by omega)]at h
  exact h
 have h1D: ∀v∈D,v.oneCell'=true:=fun v hv=>by
  rw[hD]at hv
  obtain⟨y,hy,hv⟩:=List.mem_flatMap.1 hv
  exact hone y (Amc _ (List.mem_of_mem_drop hy)) v hv
 have h1X: ∀v∈X,v.oneCell'=true:=fun v hv=>hone x Amb v (by rw[<-hX];exact hv)
 have hsz:(Tryz.prog.info? 93).map (·.size)=some 4:=by rw[hi0];simp[hz1]
 have hcD: ∀j v,D[j]? =some v->w.cell? ((⟨g,i*4,none⟩:Addr).add j)=some v:=fun j v hj=>by
  rw[Addr.add_lit,HH.out.cell]
  have hjl:j<D.length:=(List.getElem?_eq_some_iff.1 hj).1
  have h:(L.flatMap encI)[i*4+j]? =some v:=by rw[hF,<-hPl,List.getElem?_append_right (by omega),Nat.add_sub_cancel_left];exact hj
  rw[<-htk,List.getElem?_take,hnn,if_pos (by omega)]at h
  simpa using h
 have hcX: ∀j v,X[j]? =some v->w.cell? ((⟨xb,0,none⟩:Addr).add j)=some v:=fun j v hj=>by
  rw[Addr.add_lit,HX.out.cell,<-hX,Nat.zero_add]
  simpa using hj
 rw[hres]
 rw[hnn]at hi hn hcap⊢
 clear hnn hone hF htk hres hP hD hx hh L
 have mixed:Tryz.prog.follows .mixedOrders=true:=by kernel_rfl
 have hz3: ¬ ((i:Int)=(n:Int)):=by omega
 have hin:i<=n:=by omega
 have hw1:IntKind.i64.wrap ((i:Int)+1)=(i:Int)+1:=by rw[IntKind.wrap_i64];omega
 have hw2:IntKind.i64.wrap ((n:Int)+1)=(n:Int)+1:=by rw[IntKind.wrap_i64];omega
 have hb1:(0:Int)<= (i:Int)+1:=by omega
 have hb0:(0:Int)<= (n:Int)+1:=by omega
 have ht1:((i:Int)+1).toNat=i+1:=by omega
 have ht2:((n:Int)+1).toNat=n+1:=by omega
 by_cases hroom:n+1<=cap
 ·have hroom1: ¬ ((cap:Int)< (n:Int)+1):=by omega
  have hroom2:(n:Int)+1<= (cap:Int):=by omega
  have hb3:(i:Int)+1<= (n:Int)+1:=by omega
  have hb4:(i:Int)<= (n:Int)+1:=by omega
  have hb5: ¬ (cap=i+1):=by omega
  have hb6: ¬ (cap=i):=by omega
  have hov: ∀lb cb,(callFunc 173 #[.slice (some ⟨xb,0,none⟩) 1 1,.slice (some ⟨g,(i+1)*4,none⟩) lb cb]).run Tryz.prog w= .ok (.value (.bool false)) w:=fun lb cb=>by
   rw[run_callFunc_extern Tryz.func173 (by kernel_rfl) (by kernel_rfl) (by kernel_rfl) (e:=Extern.SlicesOverlaps.overlaps #[26,26] #[4]) (by kernel_rfl),
    Lib.run_overlaps_apart w 26 4 93 Tryz.underlying26 4 (fun w=>by simp[sizeOf,typeInfo,hi0,hz1]) ⟨xb,0,none⟩ ⟨g,(i+1)*4,none⟩ 1 1 lb cb hne 93 93 4 cur.size (by have:=HX.out;unfold Blk at this;simp[World.shape?,this,Db]) (by have:=HH.out;unfold Blk at this;simp[World.shape?,this]) (by omega) (HX.out.frozen _) (HX.out.frozen _)]
   rfl
  have hcp1: ∀ty dc sc,(Builtin.copy_ #[26,26] ty #[.slice (some ⟨g,(i+1)*4,none⟩) (n - i) dc,.slice (some ⟨g,i*4,none⟩) (n+1 - i) sc]).run Tryz.prog w.drew= .ok (goInt (Nat.min (n+1 - i) (n - i))) (w.drew.setRow g (Ac cur.toList ((i+1)*4) D).toArray):=fun ty dc sc=>
   Df w.drew _ _ ty 93 g ((i+1)*4) (n - i) dc ⟨g,i*4,none⟩ (n+1 - i) sc 4 cur 93 D Tryz.underlying26 hsz HH.out (by rw[hDl];congr 1;simp only[Nat.min_def];split <;> omega) hcD (by omega) h1D
  obtain⟨W1,hW1⟩:=yy (w.drew.setRow g (Ac cur.toList ((i+1)*4) D).toArray)
  have hB1:Blk W1 g 93 (Ac cur.toList ((i+1)*4) D).toArray:=by rw[hW1];exact Blk.setRow (show Blk w.drew g _ _ from HH.out) _
  have hB1l:(Ac cur.toList ((i+1)*4) D).length=cap*4:=by rw[Cd (by simp;omega)];simpa using hcs
  have hcX1: ∀j v,X[j]? =some v->W1.cell? ((⟨xb,0,none⟩:Addr).add j)=some v:=fun j v hj=>by
   rw[hW1,cell_setRow_other _ _ _ _ (by rw[Addr.add_lit];exact hne)]
   exact hcX j v hj
  rw[<-hW1]at hcp1
  have hcp2: ∀ty dc,(Builtin.copy_ #[26,26] ty #[.slice (some ⟨g,i*4,none⟩) (n+1 - i) dc,.slice (some ⟨xb,0,none⟩) 1 1]).run Tryz.prog W1= .ok (goInt (Nat.min 1 (n+1 - i))) (W1.setRow g (Ac (Ac cur.toList ((i+1)*4) D).toArray.toList (i*4) X).toArray):=fun ty dc=>
   Df W1 _ _ ty 93 g (i*4) (n+1 - i) dc ⟨xb,0,none⟩ 1 1 4 _ 93 X Tryz.underlying26 hsz hB1 (by rw[hXl];simp only[Nat.min_def];split <;> omega) hcX1 (by simp[hB1l];omega) h1X
  have HFIN:=lhi (show(W1.setRow g (Ac (Ac cur.toList ((i+1)*4) D).toArray.toList (i*4) X).toArray).ownsRow base 93 4 (.slice (some ⟨g,0,none⟩) (n+1) cap) (n+1) (P++X++D)from by
   refine⟨by simp[hPl,hXl,hDl];omega,.inr ⟨g,cap,_,rfl,hgb,hB1.setRow _,hroom,hcm,?_,?_⟩⟩
   ·simp only[List.size_toArray]
    rw[Cd (by simp[hB1l];omega)]
    simpa using hB1l
   ·have h:=Kj (l:=cur.toList) (P:=P) (X:=X) (D:=D) (o:=i*4) (n:=(n+1)*4) hcP hPl (by simp;omega) (by omega)
    have e:i*4+X.length=(i+1)*4:=by omega
    rw[e]at h
    exact h)
  have HGR:=lhi (show w.grownBy (W1.setRow g (Ac (Ac cur.toList ((i+1)*4) D).toArray.toList (i*4) X).toArray) (some g)from by
   rw[hW1]
   exact Di (Hz w _) (Di (Ea w.drew g _) (Ea _ g _)))
  clear hcP hcD hcX hB1 hcX1 hW1 hX
  go_enter Tryz.func122,Tryz.ntmps122
  go_wp2_with (simp only[hov])
  go_region_law_o (refine Go.Proofs.step_copy_runI rfl _ _ 26 26 rfl _ _ (by simp[Act.eval,Act.put]) (by simp[Act.eval,Act.put]) (hcp1 _ _ _) ?_)
  go_wp2_with (at_builtin;refine Go.Proofs.wpList_copy_runI _ rfl _ _ 26 26 rfl _ _ rfl rfl (hcp2 _ _) ?_)
  go_ret
  exact⟨_,rfl,HFIN.out,HGR.out,.inl rfl⟩
 ·have hroom1:(cap:Int)< (n:Int)+1:=by omega
  have hkk:(n:Int)+1 - (i:Int)=((n+1 - i:Nat):Int):=by omega
  have hik:i+ (n+1 - i)=n+1:=by omega
  have hold:(Builtin.firstCells i0.size i (.slice (some ⟨g,0,none⟩) i cap)).run Tryz.prog w.drew= .ok P.toArray w.drew:=by
   rw[hz1]
   refine run_firstCells_some w.drew 4 i ⟨g,0,none⟩ i cap P (by omega) (fun j v hj=>?_)
   rw[Addr.add_lit]
   show w.cell? _=_
   rw[HH.out.cell]
   have hjl:j<P.length:=(List.getElem?_eq_some_iff.1 hj).1
   rw[<-hcP,List.getElem?_take]at hj
   split at hj
   ·simpa using hj
   ·cases hj
  have hrz: ∀ty,(Builtin.append_ #[26,3] ty #[.slice (some ⟨g,0,none⟩) i cap,.int .i64 ((n:Int)+1 - (i:Int))]).run Tryz.prog w=
    .ok (.slice (some ⟨w.heap.size,0,none⟩) (n+1) (grownCap w (n+1) cap 93)) (w.drew.alloc (.cells (P.toArray++Builtin.zeroCells (Value.cells (.agg #[.int .i64 0,.bool false,.slice none 0 0,.string ⟨#[]⟩])) (n+1 - i)++Builtin.zeroCells (Value.cells (.agg #[.int .i64 0,.bool false,.slice none 0 0,.string ⟨#[]⟩])) (grownCap w (n+1) cap 93 - (n+1))) 93)):=fun ty=>by
   have h:=Lib.run_append_grow_zeros w 26 3 ty 93 i0 _ .i64 .i64 Tryz.underlying26 Tryz.underlying3 hi0 hz0 (some ⟨g,0,none⟩) i cap P hold (n+1 - i) (by omega) (by omega) (by omega) (by omega) (by rw[hz2];omega) (by rw[hz2,hik];exact growslice_fits (by omega) (by omega))
   rw[hik]at h
   rw[hkk]
   exact h
  have hGn:n+1<=grownCap w (n+1) cap 93:=grownCap_ge w _ _ _
  have hGm:grownCap w (n+1) cap 93<=maxLen:=grownCap_le_maxLen w (n+1) cap 93 (by unfold maxLen;omega)
  obtain⟨G,hG⟩:=yy (grownCap w (n+1) cap 93)
  rw[<-hG]at hrz hGn hGm
  obtain⟨ROW,hROW⟩: ∃ROW:Array Value,ROW=P.toArray++Builtin.zeroCells (Value.cells (.agg #[.int .i64 0,.bool false,.slice none 0 0,.string ⟨#[]⟩])) (n+1 - i)++Builtin.zeroCells (Value.cells (.agg #[.int .i64 0,.bool false,.slice none 0 0,.string ⟨#[]⟩])) (G - (n+1)):=⟨_,rfl⟩
  rw[<-hROW]at hrz
  have hRl:ROW.size=G*4:=by
   rw[hROW]
   simp[Builtin.zeroCells,Value.cells,hPl]
   omega
  have hRP:ROW.toList.take (i*4)=P:=by
   rw[hROW]
   simp only[Array.toList_append]
   rw[List.append_assoc,List.take_append_of_le_length (by simp[hPl]),<-hPl,List.take_length]
  have hG63:G<=9223372036854775807:=by unfold maxLen at hGm;omega
  clear hG hROW hold hkk
  obtain⟨W1,hW1⟩:=yy (w.drew.alloc (.cells ROW 93))
  rw[<-hW1]at hrz
  obtain⟨h,hh⟩:=yy w.heap.size
  have hB1:Blk W1 h 93 ROW:=by rw[hW1,hh];exact Blk.new w.drew _ _
  have hXW:Blk W1 xb 93 (encI x).toArray:=by rw[hW1];exact Blk.alloc (show Blk w.drew xb _ _ from HX.out) _
  have hgW:Blk W1 g 93 cur:=by rw[hW1];exact Blk.alloc (show Blk w.drew g _ _ from HH.out) _
  have hhg:g≠h:=by omega
  have hhx:xb≠h:=by omega
  rw[<-hh]at hrz⊢
  have hcpA: ∀ty dc,(Builtin.copy_ #[26,26] ty #[.slice (some ⟨h,i*4,none⟩) (n+1 - i) dc,.slice (some ⟨xb,0,none⟩) 1 1]).run Tryz.prog W1= .ok (goInt (Nat.min 1 (n+1 - i))) (W1.setRow h (Ac ROW.toList (i*4) X).toArray):=fun ty dc=>
   Df W1 _ _ ty 93 h (i*4) (n+1 - i) dc ⟨xb,0,none⟩ 1 1 4 _ 93 X Tryz.underlying26 hsz hB1 (by rw[hXl];simp only[Nat.min_def];split <;> omega) (fun j v hj=>by
    rw[Addr.add_lit,hXW.cell,Nat.zero_add,<-hX]
    simpa using hj) (by omega) h1X
  obtain⟨W2,hW2⟩:=yy (W1.setRow h (Ac ROW.toList (i*4) X).toArray)
  have hB2:Blk W2 h 93 (Ac ROW.toList (i*4) X).toArray:=by rw[hW2];exact Blk.setRow hB1 _
  have hl2:(Ac ROW.toList (i*4) X).length=G*4:=by rw[Cd (by simp;omega)];simpa using hRl
  have hcpB: ∀ty dc sc,(Builtin.copy_ #[26,26] ty #[.slice (some ⟨h,(i+1)*4,none⟩) (n - i) dc,.slice (some ⟨g,i*4,none⟩) (n - i) sc]).run Tryz.prog W2.drew= .ok (goInt (Nat.min (n - i) (n - i))) (W2.drew.setRow h (Ac (Ac ROW.toList (i*4) X).toArray.toList ((i+1)*4) D).toArray):=fun ty dc sc=>
   Df W2.drew _ _ ty 93 h ((i+1)*4) (n - i) dc ⟨g,i*4,none⟩ (n - i) sc 4 _ 93 D Tryz.underlying26 hsz (show Blk W2.drew h _ _ from hB2) (by rw[hDl];congr 1;simp only[Nat.min_def];split <;> omega) (fun j v hj=>by
    have:=hcD j v hj
    rw[Addr.add_lit]at this⊢
    show W2.cell? _=_
    rw[hW2]
    rw[cell_setRow_other _ _ _ _ hhg,hgW.cell]
    rw[HH.out.cell]at this
    exact this) (by simp[hl2];omega) h1D
  have HFIN:=lhi (show(W2.drew.setRow h (Ac (Ac ROW.toList (i*4) X).toArray.toList ((i+1)*4) D).toArray).ownsRow base 93 4 (.slice (some ⟨h,0,none⟩) (n+1) G) (n+1) (P++X++D)from by
   refine⟨by simp[hPl,hXl,hDl];omega,.inr ⟨h,G,_,rfl,by omega,Blk.setRow (show Blk W2.drew h _ _ from hB2) _,hGn,hGm,?_,?_⟩⟩
   ·simp only[List.size_toArray]
    rw[Cd (by simp[hl2];omega)]
    simpa using hl2
   ·have q:=Kk (l:=ROW.toList) (P:=P) (X:=X) (D:=D) (o:=i*4) (n:=(n+1)*4) hRP hPl (by simp;omega) (by omega)
    have e:i*4+X.length=(i+1)*4:=by omega
    rw[e]at q
    exact q)
  have HGR:=lhi (show w.grownBy (W2.drew.setRow h (Ac (Ac ROW.toList (i*4) X).toArray.toList ((i+1)*4) D).toArray) (some g)from by
   refine⟨by rw[hW2,hW1];rfl,by rw[hW2,hW1];rfl,by rw[hW2,hW1];rfl,?_,fun b hb _=>?_⟩
   ·rw[setRow_size]
    show _<=W2.heap.size
    rw[hW2,setRow_size,hW1]
    rw[World.size_alloc]
    exact Nat.le_succ _
   ·rw[setRow_other _ _ _ _ (by omega)]
    show W2.heap[b]? =_
    rw[hW2,setRow_other _ _ _ _ (by omega),hW1]
    exact Below.heap_alloc w.drew _ b hb)
  have hGi: ¬ (G=i):=by omega
  have hGim: ¬ (G=i+1):=by omega
  have hci: ¬ (cap=i):=by omega
  have hb3:(i:Int)+1<= (n:Int)+1:=by omega
  have hb4:(i:Int)<= (n:Int)+1:=by omega
  have hw3:IntKind.i64.wrap ((n:Int)+1 - (i:Int))=(n:Int)+1 - (i:Int):=by rw[IntKind.wrap_i64];omega
  clear hcP hcD hcX hB1 hXW hgW hW1 hB2 hl2 hRP hRl hh hX
  go_enter Tryz.func122,Tryz.ntmps122
  go_wp2_with (first
   | (at_builtin;refine Lib.wpList_append_run _ rfl _ _ _ _ rfl _ _ rfl rfl _ _ (hrz _) ?_)
   | (at_builtin;refine Go.Proofs.wpList_copy_runI _ rfl _ _ 26 26 rfl _ _ rfl rfl (hcpA _ _) ?_))
  rw[<-hW2]
  clear hW2
  go_region_law_o (refine Go.Proofs.step_copy_runI rfl _ _ 26 26 rfl _ _ (by simp[Act.eval,Act.put]) (by simp[Act.eval,Act.put]) (hcpB _ _ _) ?_)
  go_wp2
  go_ret
  exact⟨_,rfl,HFIN.out,HGR.out,.inr rfl⟩
theorem Zi{w:World}{base:Nat}{v:Value}{L:List (InV)}{i:Nat}(hown:w.ownsRow base 93 4 v L.length (L.flatMap encI))(hi:i<=L.length){x:InV}{xb:Nat}(hx:Blk w xb 93 (encI x).toArray)(hne:v.ownBlock≠some xb)(hone: ∀y∈x::L,∀u∈encI y,u.oneCell'=true)(hn:L.length<=90000)(hbase:base<=w.heap.size):
  Calls Tryz.prog 122 #[v,.int .i64 i,.slice (some ⟨xb,0,none⟩) 1 1] w fun e w'=>∃v',e= .returned v'/\w'.ownsRow base 93 4 v' (L.length+1) ((L.take i++x::L.drop i).flatMap encI)/\w.grownBy w' v.ownBlock/\ (v'.ownBlock=v.ownBlock∨v'.ownBlock=some w.heap.size):=by
 by_cases e:i=L.length
 ·subst e
  have h:=Zh hown (xv:=.slice (some ⟨xb,0,none⟩) 1 1) (x:=x) (C:=fun _ j=>(encI x).getD j (.int .i64 0)) ⟨_,_,rfl,Ama _,fun _=>⟨xb,0,rfl,fun a j ha hj=>by
   obtain rfl:a=0:=by omega
   rw[hx.cell,Nat.zero_add,Nat.zero_mul,Nat.zero_add,List.getElem?_toArray]
   show _=some ((encI x).getD j (.int .i64 0))
   rw[Ame,Amh (by rw[Db];exact hj)]
   rfl⟩⟩ (fun a j ha hj=>by
   have ha:a<1:=ha
   obtain rfl:a=0:=by omega
   show(encI x)[j]? =some ((encI x).getD j (.int .i64 0))
   rw[Ame,Amh (by rw[Db];exact hj)]
   rfl) (hone x Amb) hn hbase
  rw[List.take_length,List.drop_length]
  exact h
 ·rcases hown.2 with⟨rfl,h0⟩ | ⟨g,cap,cur,rfl,-⟩
  ·omega
  ·exact Zg hown (by omega) hx (fun q=>hne (by rw[q];rfl)) hone hn hbase
theorem Zm{w:World}{base g cap:Nat}{L:List (Int×Int×Int)}{i:Nat}(hown:w.ownsRow base 144 3 (.slice (some ⟨g,0,none⟩) L.length cap) L.length (L.flatMap encD))(hi:i<L.length){x:Int×Int×Int}{xb:Nat}(hx:Blk w xb 144 (encD x).toArray)(hne:xb≠g)(hone: ∀y∈x::L,∀u∈encD y,u.oneCell'=true)(hn:L.length<=90000)(hbase:base<=w.heap.size):
  Calls Tryz.prog 124 #[.slice (some ⟨g,0,none⟩) L.length cap,.int .i64 i,.slice (some ⟨xb,0,none⟩) 1 1] w fun e w'=>∃v',e= .returned v'/\w'.ownsRow base 144 3 v' (L.length+1) ((L.take i++x::L.drop i).flatMap encD)/\w.grownBy w' (some g)/\ (v'.ownBlock=some g∨v'.ownBlock=some w.heap.size):=by
 obtain⟨i0,hi0,hz⟩:=Option.map_eq_some_iff.1 Jb
 have hz0:i0.zero=some (.agg #[.int .i64 0,.int .i64 0,.int .i64 0]):=congrArg (fun p=>p.1) hz
 have hz1:i0.size=3:=congrArg (fun p=>p.2.1) hz
 have hz2:i0.bytes=24:=congrArg (fun p=>p.2.2) hz
 clear hz
 obtain⟨g',cap',cur,hv,hgb,hh,hcap,hcm,hcs,htk⟩: ∃g' cap' cur,Value.slice (some ⟨g,0,none⟩) L.length cap= .slice (some ⟨g',0,none⟩) L.length cap'/\base<=g'/\w.heap[g']? =some (.cells cur 144 (0,0))/\L.length<=cap'/\cap'<=maxLen/\cur.size=cap'*3/\cur.toList.take (L.length*3)=L.flatMap encD:=by
  rcases hown.2 with⟨q,-⟩ | q
  ·cases q
  ·exact q
 obtain rfl:g=g':=by injection hv with e1;injection e1 with e1;injection e1
 obtain rfl:cap=cap':=by injection hv
 clear hv hown
 have HH:=lhi (show Blk w g 144 cur from hh)
 have HX:=lhi hx
 have hgw:g<w.heap.size:=HH.out.lt
 have hxw:xb<w.heap.size:=hx.lt
 obtain⟨P,hP⟩:=yy ((L.take i).flatMap encD)
 obtain⟨D,hD⟩:=yy ((L.drop i).flatMap encD)
 obtain⟨X,hX⟩:=yy (encD x)
 obtain⟨n,hnn⟩:=xx L.length
 have hPl:P.length=i*3:=by rw[hP,Cb Ek,List.length_take];congr 1;omega
 have hDl:D.length=(n - i)*3:=by rw[hD,Cb Ek,List.length_drop,hnn]
 have hXl:X.length=3:=by rw[hX];rfl
 have hres:(L.take i++x::L.drop i).flatMap encD=P++X++D:=by rw[List.flatMap_append,List.flatMap_cons,<-hP,<-hD,<-hX,List.append_assoc]
 have hF:L.flatMap encD=P++D:=by rw[hP,hD,<-List.flatMap_append,List.take_append_drop]
 have hcP:cur.toList.take (i*3)=P:=by
  have h:=Jc (enc:=encD) Ek L i
  rw[<-hP,<-htk,List.take_take,Nat.min_eq_left (by omega)]at h
  exact h
 have h1D: ∀v∈D,v.oneCell'=true:=fun v hv=>by
  rw[hD]at hv
  obtain⟨y,hy,hv⟩:=List.mem_flatMap.1 hv
  exact hone y (Amc _ (List.mem_of_mem_drop hy)) v hv
 have h1X: ∀v∈X,v.oneCell'=true:=fun v hv=>hone x Amb v (by rw[<-hX];exact hv)
 have hsz:(Tryz.prog.info? 144).map (·.size)=some 3:=by rw[hi0];simp[hz1]
 have hcD: ∀j v,D[j]? =some v->w.cell? ((⟨g,i*3,none⟩:Addr).add j)=some v:=fun j v hj=>by
  rw[Addr.add_lit,HH.out.cell]
  have hjl:j<D.length:=(List.getElem?_eq_some_iff.1 hj).1
  have h:(L.flatMap encD)[i*3+j]? =some v:=by rw[hF,<-hPl,List.getElem?_append_right (by omega),Nat.add_sub_cancel_left];exact hj
  rw[<-htk,List.getElem?_take,hnn,if_pos (by omega)]at h
  simpa using h
 have hcX: ∀j v,X[j]? =some v->w.cell? ((⟨xb,0,none⟩:Addr).add j)=some v:=fun j v hj=>by
  rw[Addr.add_lit,HX.out.cell,<-hX,Nat.zero_add]
  simpa using hj
 rw[hres]
 rw[hnn]at hi hn hcap⊢
 clear hnn hone hF htk hres hP hD hx hh L
 have mixed:Tryz.prog.follows .mixedOrders=true:=by kernel_rfl
 have hz3: ¬ ((i:Int)=(n:Int)):=by omega
 have hin:i<=n:=by omega
 have hw1:IntKind.i64.wrap ((i:Int)+1)=(i:Int)+1:=by rw[IntKind.wrap_i64];omega
 have hw2:IntKind.i64.wrap ((n:Int)+1)=(n:Int)+1:=by rw[IntKind.wrap_i64];omega
 have hb1:(0:Int)<= (i:Int)+1:=by omega
 have hb0:(0:Int)<= (n:Int)+1:=by omega
 have ht1:((i:Int)+1).toNat=i+1:=by omega
 have ht2:((n:Int)+1).toNat=n+1:=by omega
 by_cases hroom:n+1<=cap
 ·have hroom1: ¬ ((cap:Int)< (n:Int)+1):=by omega
  have hroom2:(n:Int)+1<= (cap:Int):=by omega
  have hb3:(i:Int)+1<= (n:Int)+1:=by omega
  have hb4:(i:Int)<= (n:Int)+1:=by omega
  have hb5: ¬ (cap=i+1):=by omega
  have hb6: ¬ (cap=i):=by omega
  have hov: ∀lb cb,(callFunc 175 #[.slice (some ⟨xb,0,none⟩) 1 1,.slice (some ⟨g,(i+1)*3,none⟩) lb cb]).run Tryz.prog w= .ok (.value (.bool false)) w:=fun lb cb=>by
   rw[run_callFunc_extern Tryz.func175 (by kernel_rfl) (by kernel_rfl) (by kernel_rfl) (e:=Extern.SlicesOverlaps.overlaps #[27,27] #[4]) (by kernel_rfl),
    Lib.run_overlaps_apart w 27 4 144 Tryz.underlying27 3 (fun w=>by simp[sizeOf,typeInfo,hi0,hz1]) ⟨xb,0,none⟩ ⟨g,(i+1)*3,none⟩ 1 1 lb cb hne 144 144 3 cur.size (by have:=HX.out;unfold Blk at this;simp[World.shape?,this,Ek]) (by have:=HH.out;unfold Blk at this;simp[World.shape?,this]) (by omega) (HX.out.frozen _) (HX.out.frozen _)]
   rfl
  have hcp1: ∀ty dc sc,(Builtin.copy_ #[27,27] ty #[.slice (some ⟨g,(i+1)*3,none⟩) (n - i) dc,.slice (some ⟨g,i*3,none⟩) (n+1 - i) sc]).run Tryz.prog w.drew= .ok (goInt (Nat.min (n+1 - i) (n - i))) (w.drew.setRow g (Ac cur.toList ((i+1)*3) D).toArray):=fun ty dc sc=>
   Df w.drew _ _ ty 144 g ((i+1)*3) (n - i) dc ⟨g,i*3,none⟩ (n+1 - i) sc 3 cur 144 D Tryz.underlying27 hsz HH.out (by rw[hDl];congr 1;simp only[Nat.min_def];split <;> omega) hcD (by omega) h1D
  obtain⟨W1,hW1⟩:=yy (w.drew.setRow g (Ac cur.toList ((i+1)*3) D).toArray)
  have hB1:Blk W1 g 144 (Ac cur.toList ((i+1)*3) D).toArray:=by rw[hW1];exact Blk.setRow (show Blk w.drew g _ _ from HH.out) _
  have hB1l:(Ac cur.toList ((i+1)*3) D).length=cap*3:=by rw[Cd (by simp;omega)];simpa using hcs
  have hcX1: ∀j v,X[j]? =some v->W1.cell? ((⟨xb,0,none⟩:Addr).add j)=some v:=fun j v hj=>by
   rw[hW1,cell_setRow_other _ _ _ _ (by rw[Addr.add_lit];exact hne)]
   exact hcX j v hj
  rw[<-hW1]at hcp1
  have hcp2: ∀ty dc,(Builtin.copy_ #[27,27] ty #[.slice (some ⟨g,i*3,none⟩) (n+1 - i) dc,.slice (some ⟨xb,0,none⟩) 1 1]).run Tryz.prog W1= .ok (goInt (Nat.min 1 (n+1 - i))) (W1.setRow g (Ac (Ac cur.toList ((i+1)*3) D).toArray.toList (i*3) X).toArray):=fun ty dc=>
   Df W1 _ _ ty 144 g (i*3) (n+1 - i) dc ⟨xb,0,none⟩ 1 1 3 _ 144 X Tryz.underlying27 hsz hB1 (by rw[hXl];simp only[Nat.min_def];split <;> omega) hcX1 (by simp[hB1l];omega) h1X
  have HFIN:=lhi (show(W1.setRow g (Ac (Ac cur.toList ((i+1)*3) D).toArray.toList (i*3) X).toArray).ownsRow base 144 3 (.slice (some ⟨g,0,none⟩) (n+1) cap) (n+1) (P++X++D)from by
   refine⟨by simp[hPl,hXl,hDl];omega,.inr ⟨g,cap,_,rfl,hgb,hB1.setRow _,hroom,hcm,?_,?_⟩⟩
   ·simp only[List.size_toArray]
    rw[Cd (by simp[hB1l];omega)]
    simpa using hB1l
   ·have h:=Kj (l:=cur.toList) (P:=P) (X:=X) (D:=D) (o:=i*3) (n:=(n+1)*3) hcP hPl (by simp;omega) (by omega)
    have e:i*3+X.length=(i+1)*3:=by omega
    rw[e]at h
    exact h)
  have HGR:=lhi (show w.grownBy (W1.setRow g (Ac (Ac cur.toList ((i+1)*3) D).toArray.toList (i*3) X).toArray) (some g)from by
   rw[hW1]
   exact Di (Hz w _) (Di (Ea w.drew g _) (Ea _ g _)))
  clear hcP hcD hcX hB1 hcX1 hW1 hX
  go_enter Tryz.func124,Tryz.ntmps124
  go_wp2_with (simp only[hov])
  go_region_law_o (refine Go.Proofs.step_copy_runI rfl _ _ 27 27 rfl _ _ (by simp[Act.eval,Act.put]) (by simp[Act.eval,Act.put]) (hcp1 _ _ _) ?_)
  go_wp2_with (at_builtin;refine Go.Proofs.wpList_copy_runI _ rfl _ _ 27 27 rfl _ _ rfl rfl (hcp2 _ _) ?_)
  go_ret
  exact⟨_,rfl,HFIN.out,HGR.out,.inl rfl⟩
 ·have hroom1:(cap:Int)< (n:Int)+1:=by omega
  have hkk:(n:Int)+1 - (i:Int)=((n+1 - i:Nat):Int):=by omega
  have hik:i+ (n+1 - i)=n+1:=by omega
  have hold:(Builtin.firstCells i0.size i (.slice (some ⟨g,0,none⟩) i cap)).run Tryz.prog w.drew= .ok P.toArray w.drew:=by
   rw[hz1]
   refine run_firstCells_some w.drew 3 i ⟨g,0,none⟩ i cap P (by omega) (fun j v hj=>?_)
   rw[Addr.add_lit]
   show w.cell? _=_
   rw[HH.out.cell]
   have hjl:j<P.length:=(List.getElem?_eq_some_iff.1 hj).1
   rw[<-hcP,List.getElem?_take]at hj
   split at hj
   ·simpa using hj
   ·cases hj
  have hrz: ∀ty,(Builtin.append_ #[27,3] ty #[.slice (some ⟨g,0,none⟩) i cap,.int .i64 ((n:Int)+1 - (i:Int))]).run Tryz.prog w=
    .ok (.slice (some ⟨w.heap.size,0,none⟩) (n+1) (grownCap w (n+1) cap 144)) (w.drew.alloc (.cells (P.toArray++Builtin.zeroCells (Value.cells (.agg #[.int .i64 0,.int .i64 0,.int .i64 0])) (n+1 - i)++Builtin.zeroCells (Value.cells (.agg #[.int .i64 0,.int .i64 0,.int .i64 0])) (grownCap w (n+1) cap 144 - (n+1))) 144)):=fun ty=>by
   have h:=Lib.run_append_grow_zeros w 27 3 ty 144 i0 _ .i64 .i64 Tryz.underlying27 Tryz.underlying3 hi0 hz0 (some ⟨g,0,none⟩) i cap P hold (n+1 - i) (by omega) (by omega) (by omega) (by omega) (by rw[hz2];omega) (by rw[hz2,hik];exact growslice_fits (by omega) (by omega))
   rw[hik]at h
   rw[hkk]
   exact h
  have hGn:n+1<=grownCap w (n+1) cap 144:=grownCap_ge w _ _ _
  have hGm:grownCap w (n+1) cap 144<=maxLen:=grownCap_le_maxLen w (n+1) cap 144 (by unfold maxLen;omega)
  obtain⟨G,hG⟩:=yy (grownCap w (n+1) cap 144)
  rw[<-hG]at hrz hGn hGm
  obtain⟨ROW,hROW⟩: ∃ROW:Array Value,ROW=P.toArray++Builtin.zeroCells (Value.cells (.agg #[.int .i64 0,.int .i64 0,.int .i64 0])) (n+1 - i)++Builtin.zeroCells (Value.cells (.agg #[.int .i64 0,.int .i64 0,.int .i64 0])) (G - (n+1)):=⟨_,rfl⟩
  rw[<-hROW]at hrz
  have hRl:ROW.size=G*3:=by
   rw[hROW]
   simp[Builtin.zeroCells,Value.cells,hPl]
   omega
  have hRP:ROW.toList.take (i*3)=P:=by
   rw[hROW]
   simp only[Array.toList_append]
   rw[List.append_assoc,List.take_append_of_le_length (by simp[hPl]),<-hPl,List.take_length]
  have hG63:G<=9223372036854775807:=by unfold maxLen at hGm;omega
  clear hG hROW hold hkk
  obtain⟨W1,hW1⟩:=yy (w.drew.alloc (.cells ROW 144))
  rw[<-hW1]at hrz
  obtain⟨h,hh⟩:=yy w.heap.size
  have hB1:Blk W1 h 144 ROW:=by rw[hW1,hh];exact Blk.new w.drew _ _
  have hXW:Blk W1 xb 144 (encD x).toArray:=by rw[hW1];exact Blk.alloc (show Blk w.drew xb _ _ from HX.out) _
  have hgW:Blk W1 g 144 cur:=by rw[hW1];exact Blk.alloc (show Blk w.drew g _ _ from HH.out) _
  have hhg:g≠h:=by omega
  have hhx:xb≠h:=by omega
  rw[<-hh]at hrz⊢
  have hcpA: ∀ty dc,(Builtin.copy_ #[27,27] ty #[.slice (some ⟨h,i*3,none⟩) (n+1 - i) dc,.slice (some ⟨xb,0,none⟩) 1 1]).run Tryz.prog W1= .ok (goInt (Nat.min 1 (n+1 - i))) (W1.setRow h (Ac ROW.toList (i*3) X).toArray):=fun ty dc=>
   Df W1 _ _ ty 144 h (i*3) (n+1 - i) dc ⟨xb,0,none⟩ 1 1 3 _ 144 X Tryz.underlying27 hsz hB1 (by rw[hXl];simp only[Nat.min_def];split <;> omega) (fun j v hj=>by
    rw[Addr.add_lit,hXW.cell,Nat.zero_add,<-hX]
    simpa using hj) (by omega) h1X
  obtain⟨W2,hW2⟩:=yy (W1.setRow h (Ac ROW.toList (i*3) X).toArray)
  have hB2:Blk W2 h 144 (Ac ROW.toList (i*3) X).toArray:=by rw[hW2];exact Blk.setRow hB1 _
  have hl2:(Ac ROW.toList (i*3) X).length=G*3:=by rw[Cd (by simp;omega)];simpa using hRl
  have hcpB: ∀ty dc sc,(Builtin.copy_ #[27,27] ty #[.slice (some ⟨h,(i+1)*3,none⟩) (n - i) dc,.slice (some ⟨g,i*3,none⟩) (n - i) sc]).run Tryz.prog W2.drew= .ok (goInt (Nat.min (n - i) (n - i))) (W2.drew.setRow h (Ac (Ac ROW.toList (i*3) X).toArray.toList ((i+1)*3) D).toArray):=fun ty dc sc=>
   Df W2.drew _ _ ty 144 h ((i+1)*3) (n - i) dc ⟨g,i*3,none⟩ (n - i) sc 3 _ 144 D Tryz.underlying27 hsz (show Blk W2.drew h _ _ from hB2) (by rw[hDl];congr 1;simp only[Nat.min_def];split <;> omega) (fun j v hj=>by
    have:=hcD j v hj
    rw[Addr.add_lit]at this⊢
    show W2.cell? _=_
    rw[hW2]
    rw[cell_setRow_other _ _ _ _ hhg,hgW.cell]
    rw[HH.out.cell]at this
    exact this) (by simp[hl2];omega) h1D
  have HFIN:=lhi (show(W2.drew.setRow h (Ac (Ac ROW.toList (i*3) X).toArray.toList ((i+1)*3) D).toArray).ownsRow base 144 3 (.slice (some ⟨h,0,none⟩) (n+1) G) (n+1) (P++X++D)from by
   refine⟨by simp[hPl,hXl,hDl];omega,.inr ⟨h,G,_,rfl,by omega,Blk.setRow (show Blk W2.drew h _ _ from hB2) _,hGn,hGm,?_,?_⟩⟩
   ·simp only[List.size_toArray]
    rw[Cd (by simp[hl2];omega)]
    simpa using hl2
   ·have q:=Kk (l:=ROW.toList) (P:=P) (X:=X) (D:=D) (o:=i*3) (n:=(n+1)*3) hRP hPl (by simp;omega) (by omega)
    have e:i*3+X.length=(i+1)*3:=by omega
    rw[e]at q
    exact q)
  have HGR:=lhi (show w.grownBy (W2.drew.setRow h (Ac (Ac ROW.toList (i*3) X).toArray.toList ((i+1)*3) D).toArray) (some g)from by
   refine⟨by rw[hW2,hW1];rfl,by rw[hW2,hW1];rfl,by rw[hW2,hW1];rfl,?_,fun b hb _=>?_⟩
   ·rw[setRow_size]
    show _<=W2.heap.size
    rw[hW2,setRow_size,hW1]
    rw[World.size_alloc]
    exact Nat.le_succ _
   ·rw[setRow_other _ _ _ _ (by omega)]
    show W2.heap[b]? =_
    rw[hW2,setRow_other _ _ _ _ (by omega),hW1]
    exact Below.heap_alloc w.drew _ b hb)
  have hGi: ¬ (G=i):=by omega
  have hGim: ¬ (G=i+1):=by omega
  have hci: ¬ (cap=i):=by omega
  have hb3:(i:Int)+1<= (n:Int)+1:=by omega
  have hb4:(i:Int)<= (n:Int)+1:=by omega
  have hw3:IntKind.i64.wrap ((n:Int)+1 - (i:Int))=(n:Int)+1 - (i:Int):=by rw[IntKind.wrap_i64];omega
  clear hcP hcD hcX hB1 hXW hgW hW1 hB2 hl2 hRP hRl hh hX
  go_enter Tryz.func124,Tryz.ntmps124
  go_wp2_with (first
   | (at_builtin;refine Lib.wpList_append_run _ rfl _ _ _ _ rfl _ _ rfl rfl _ _ (hrz _) ?_)
   | (at_builtin;refine Go.Proofs.wpList_copy_runI _ rfl _ _ 27 27 rfl _ _ rfl rfl (hcpA _ _) ?_))
  rw[<-hW2]
  clear hW2
  go_region_law_o (refine Go.Proofs.step_copy_runI rfl _ _ 27 27 rfl _ _ (by simp[Act.eval,Act.put]) (by simp[Act.eval,Act.put]) (hcpB _ _ _) ?_)
  go_wp2
  go_ret
  exact⟨_,rfl,HFIN.out,HGR.out,.inr rfl⟩
theorem Zo{w:World}{base:Nat}{v:Value}{L:List (Int×Int×Int)}{i:Nat}(hown:w.ownsRow base 144 3 v L.length (L.flatMap encD))(hi:i<=L.length){x:Int×Int×Int}{xb:Nat}(hx:Blk w xb 144 (encD x).toArray)(hne:v.ownBlock≠some xb)(hone: ∀y∈x::L,∀u∈encD y,u.oneCell'=true)(hn:L.length<=90000)(hbase:base<=w.heap.size):
  Calls Tryz.prog 124 #[v,.int .i64 i,.slice (some ⟨xb,0,none⟩) 1 1] w fun e w'=>∃v',e= .returned v'/\w'.ownsRow base 144 3 v' (L.length+1) ((L.take i++x::L.drop i).flatMap encD)/\w.grownBy w' v.ownBlock/\ (v'.ownBlock=v.ownBlock∨v'.ownBlock=some w.heap.size):=by
 by_cases e:i=L.length
 ·subst e
  have h:=Zn hown (xv:=.slice (some ⟨xb,0,none⟩) 1 1) (x:=x) (C:=fun _ j=>(encD x).getD j (.int .i64 0)) ⟨_,_,rfl,Ama _,fun _=>⟨xb,0,rfl,fun a j ha hj=>by
   obtain rfl:a=0:=by omega
   rw[hx.cell,Nat.zero_add,Nat.zero_mul,Nat.zero_add,List.getElem?_toArray]
   show _=some ((encD x).getD j (.int .i64 0))
   rw[Ame,Amh (by rw[Ek];exact hj)]
   rfl⟩⟩ (fun a j ha hj=>by
   have ha:a<1:=ha
   obtain rfl:a=0:=by omega
   show(encD x)[j]? =some ((encD x).getD j (.int .i64 0))
   rw[Ame,Amh (by rw[Ek];exact hj)]
   rfl) (hone x Amb) hn hbase
  rw[List.take_length,List.drop_length]
  exact h
 ·rcases hown.2 with⟨rfl,h0⟩ | ⟨g,cap,cur,rfl,-⟩
  ·omega
  ·exact Zm hown (by omega) hx (fun q=>hne (by rw[q];rfl)) hone hn hbase
end Go.Proofs.YtkebjgebkneijaaGreat
