/- Texts of one's own that a claim's last text rests on: Del Da1 Da2 Byt2 Dr4 Dr5. -/
import Derived.Lib.SliceRun
import Derived.Laws.IdiomCopy
import Derived.Deep.RegionLaw
import Derived.Test.YtkebjgebkneijaaGreatMG18
import Derived.Test.YtkebjgebkneijaaGreatMG20
import Derived.Test.YtkebjgebkneijaaGreatMG6
import Derived.Test.YtkebjgebkneijaaGreatMG5
import Derived.Test.YtkebjgebkneijaaGreatMG21
set_option linter.unusedVariables false
set_option linter.unusedSimpArgs false
namespace Go.Proofs.YtkebjgebkneijaaGreat
open Go.RowKit
set_option maxHeartbeats 16000000
set_option maxRecDepth 1000000
section
open Go.RowKit Go.Lib
theorem Aet(w:World)(g i:Nat)(u:Value):w.grownBy (w.setCell ⟨g,i,none⟩ u) (some g):=
 ⟨rfl,rfl,rfl,by simp[World.setCell],fun k _ hk=>by
  have e:g≠k:=fun e=>hk (by rw[e])
  simp[World.setCell,Array.getElem?_modify,e]⟩
theorem Xt{l:List Value}{o:Nat}{u:Value}{cs:List Value}(h:o<l.length):Ac (l.set o u) (o+1) cs=Ac l o (u::cs):=by
 unfold Ac
 have e1:(l.set o u).take (o+1)=l.take o++[u]:=by rw[List.take_add_one,List.take_set_of_le (Ama o)];simp[h]
 have e2:(l.set o u).drop (o+1+cs.length)=l.drop (o+ (u::cs).length):=by rw[List.drop_set_of_lt (by omega),List.length_cons];congr 1;omega
 rw[e1,e2];simp
theorem Nb{g:Nat}{t:TypeId}: ∀(cs:List Value) (o:Nat) {w:World} {cur:Array Value},Blk w g t cur->o+cs.length<=cur.size->Blk (w.setCells g o cs) g t (Ac cur.toList o cs).toArray/\w.grownBy (w.setCells g o cs) (some g)
 | [],o,w,cur,h,_=>by
  refine⟨?_,⟨rfl,rfl,rfl,Ama _,fun _ _ _=>rfl⟩⟩
  have e:(Ac cur.toList o []).toArray=cur:=by simp[Ac]
  rw[e];exact h
 | u::cs,o,w,cur,h,hl=>by
  have hl':o+ (cs.length+1)<=cur.size:=hl
  obtain⟨h1,h2⟩:=Nb cs (o+1) (h.set_ o u) (by simp;omega)
  refine⟨?_,Di (Aet w g o u) h2⟩
  have e:Ac (cur.setIfInBounds o u).toList (o+1) cs=Ac cur.toList o (u::cs):=by rw[Array.toList_setIfInBounds];exact Xt (by rw[Array.length_toList];omega)
  rw[<-e];exact h1
section
variable{P:Program}
theorem Mh(w:World)(t e ty:TypeId)(z:Value)(Z:List Value)(ht:P.underlying t=some (.slice e))(hv: ∀w,(zeroValue e).run P w= .ok z w)(hz:(Builtin.zeroCells z.cells 1).toList=Z)(h1: ∀v∈Z,v.oneCell'=true){b o c:Nat}{T:TypeId}{cur:Array Value}(hb:Blk w b T cur)(hf:o+Z.length<=cur.size):
  (Builtin.clear_ #[t] ty #[.slice (some ⟨b,o,none⟩) 1 c]).run P w= .ok (.tuple #[]) (w.setRow b (Ac cur.toList o Z).toArray):=by
 have hst:=run_storeCells_at P b o T Z 0 cur w hb (by simpa using hf) h1
 simp[Builtin.clear_,run_underlying ht,hv,hz,hst,Ac]
end
theorem Sz{A:Type}{enc:A->List Value}{K:Nat}{T:TypeId}{w:World}{base g cap n i:Nat}{L:List A}{Z:List Value}(hl: ∀x,(enc x).length=K)(hown:w.ownsRow base T K (.slice (some ⟨g,0,none⟩) n cap) n (L.flatMap enc))(hn:n=L.length)(hi:i<n)(hone: ∀y∈L,∀u∈enc y,u.oneCell'=true)(hZ:Z.length=K):
  n<=cap/\cap<=maxLen/\base<=g/\ ∃news W1 cur1,W1=w.drew.setCells g (i*K) news/\news.length=(n - (i+1))*K/\ (∀u∈news,u.oneCell'=true)/\ (∀j u,news[j]? =some u->w.drew.cell? ⟨g,(i+1)*K+j,none⟩=some u)/\
   (∀j,j<news.length->(w.drew.cell? ⟨g,i*K+j,none⟩).isSome=true/\w.drew.frozen? ⟨g,i*K+j,none⟩=false)/\Blk W1 g T cur1/\ (n - 1)*K+Z.length<=cur1.size/\
   (W1.setRow g (Ac cur1.toList ((n - 1)*K) Z).toArray).ownsRow base T K (.slice (some ⟨g,0,none⟩) (n - 1) cap) (n - 1) ((L.eraseIdx i).flatMap enc)/\w.grownBy (W1.setRow g (Ac cur1.toList ((n - 1)*K) Z).toArray) (some g):=by
 obtain⟨g',cap',cur,hv,hgb,hh,hcap,hcm,hcs,htk⟩: ∃g' cap' cur,Value.slice (some ⟨g,0,none⟩) n cap= .slice (some ⟨g',0,none⟩) n cap'/\base<=g'/\w.heap[g']? =some (.cells cur T (0,0))/\n<=cap'/\cap'<=maxLen/\cur.size=cap'*K/\cur.toList.take (n*K)=L.flatMap enc:=by
  rcases hown.2 with⟨q,-⟩ | q
  ·cases q
  ·exact q
 obtain rfl:g=g':=by injection hv with e1;injection e1 with e1;injection e1
 obtain rfl:cap=cap':=by injection hv
 have HH:Blk w.drew g T cur:=hh
 have hPl:((L.take i).flatMap enc).length=i*K:=by rw[Cb hl,List.length_take];congr 1;omega
 have hDl:((L.drop (i+1)).flatMap enc).length=(n - (i+1))*K:=by rw[Cb hl,List.length_drop,hn]
 have e1:(i+1)*K+ (n - (i+1))*K=n*K:=by rw[<-Nat.add_mul];congr 1;omega
 have e2:i*K+ (n - (i+1))*K=(n - 1)*K:=by rw[<-Nat.add_mul];congr 1;omega
 have e3:(n - 1)*K+K=n*K:=by rw[<-Nat.succ_mul];congr 1;omega
 have e4:n*K<=cap*K:=Nat.mul_le_mul_right _ hcap
 have e5:(i+1)*K=i*K+K:=Nat.succ_mul _ _
 have hcl:cur.toList.length=cap*K:=by rw[Array.length_toList];exact hcs
 obtain⟨h1,h2⟩:=Nb ((L.drop (i+1)).flatMap enc) (i*K) HH (by omega)
 have hsl:(Ac cur.toList (i*K) ((L.drop (i+1)).flatMap enc)).length=cap*K:=by rw[Cd (by omega),hcl]
 refine⟨hcap,hcm,hgb,_,_,_,rfl,hDl,?_,?_,?_,h1,?_,?_,?_⟩
 ·intro v hv
  obtain⟨y,hy,hv⟩:=List.mem_flatMap.1 hv
  exact hone y (List.mem_of_mem_drop hy) v hv
 ·intro j u hj
  rw[HH.cell]
  have hjl:=(List.getElem?_eq_some_iff.1 hj).1
  rw[<-Ut hl,<-htk,List.getElem?_drop,List.getElem?_take,if_pos (by omega)]at hj
  simpa using hj
 ·intro j hj
  refine⟨?_,HH.frozen _⟩
  rw[HH.cell,Array.getElem?_eq_getElem (by omega)]
  rfl
 ·rw[List.size_toArray,hsl];omega
 ·refine⟨by rw[Cb hl,List.length_eraseIdx,if_pos (by omega),hn],.inr ⟨g,cap,_,rfl,hgb,h1.setRow _,by omega,hcm,?_,?_⟩⟩
  ·show(Ac (Ac cur.toList (i*K) ((L.drop (i+1)).flatMap enc)) ((n - 1)*K) Z).toArray.size=_
   rw[List.size_toArray,Cd (by omega),hsl]
  ·show(Ac (Ac cur.toList (i*K) ((L.drop (i+1)).flatMap enc)) ((n - 1)*K) Z).take ((n - 1)*K)=_
   rw[Pe (Ama _) (by omega)]
   unfold Ac
   have hcP:cur.toList.take (i*K)=(L.take i).flatMap enc:=by
    have h:=Jc (enc:=enc) hl L i
    rw[<-htk,List.take_take,Nat.min_eq_left (by omega)]at h
    exact h
   rw[hcP,List.take_append_of_le_length (by rw[Ami];omega),List.take_of_length_le (by rw[Ami];omega),<-List.flatMap_append,<-List.eraseIdx_eq_take_drop_succ]
 ·exact Di (Hz w _) (Di h2 (Ea _ g _))
theorem Akm(W:World):(zeroValue 132).run Tryz.prog W= .ok (.agg #[.string ⟨#[]⟩,.int .i64 0]) W:=by kernel_rfl
theorem Ajs{w:World}{base g cap n i:Nat}{L:List (En)}(hown:w.ownsRow base 132 2 (.slice (some ⟨g,0,none⟩) n cap) n (L.flatMap Ai))(hn:n=L.length)(hi:i<n)(hone: ∀y∈L,∀u∈Ai y,u.oneCell'=true)(hs:n<=90000):
  Calls Tryz.prog 177 #[.slice (some ⟨g,0,none⟩) n cap,.int .i64 i,.int .i64 ((i:Int)+1)] w fun e w'=>e= .returned (.slice (some ⟨g,0,none⟩) (n - 1) cap)/\w'.ownsRow base 132 2 (.slice (some ⟨g,0,none⟩) (n - 1) cap) (n - 1) ((L.eraseIdx i).flatMap Ai)/\w.grownBy w' (some g):=by
 obtain⟨i0,hi0,hz⟩:=Option.map_eq_some_iff.1 Lk
 have hz1:i0.size=2:=congrArg (fun p=>p.2.1) hz
 obtain⟨hcap,hcm,hgb,news,W1,cur1,hW1,hnl,hone',hsrc,hroom,hB1,hfit,HO,HG⟩:=Sz (Z:=[.string ⟨#[]⟩,.int .i64 0]) (by intro x;rfl) hown hn hi hone rfl
 generalize (L.eraseIdx i).flatMap Ai=XS at HO⊢
 clear hown hone hz hn L
 have hcl: ∀ty c,(Builtin.clear_ #[91] ty #[.slice (some ⟨g,(n - 1)*2,none⟩) 1 c]).run Tryz.prog W1= .ok (.tuple #[]) (W1.setRow g (Ac cur1.toList ((n - 1)*2) [.string ⟨#[]⟩,.int .i64 0]).toArray):=fun ty c=>Mh W1 _ _ ty _ [.string ⟨#[]⟩,.int .i64 0] Tryz.underlying91 Akm (by kernel_rfl) (by intro v hv;simp at hv;rcases hv with rfl | rfl <;> rfl) hB1 hfit
 obtain⟨A,hA,hsrc'⟩: ∃A:Addr,(if cap=i+1 then some (⟨g,0,none⟩:Addr)else some ⟨g,(i+1)*2,none⟩)=some A/\Hid (∀j u,news[j]? =some u->w.drew.cell? (A.add j)=some u):=by
  by_cases h:cap=i+1
  ·refine⟨_,if_pos h,fun j u hu=>?_⟩
   rw[List.length_eq_zero_iff.1 (show news.length=0 by rw[hnl];omega)]at hu
   simp at hu
  ·exact⟨_,if_neg h,fun j u hu=>by rw[Addr.add_lit];exact hsrc j u hu⟩
 have s1:Hid (news.length=(n - (i+1))*2):=hnl
 have s2:Hid (∀u∈news,u.oneCell'=true):=hone'
 have s3:Hid (∀j,j<news.length->(w.drew.cell? ⟨g,0+i*2+j,none⟩).isSome=true/\w.drew.frozen? ⟨g,0+i*2+j,none⟩=false):=by rw[Nat.zero_add];exact hroom
 have hW:Hid (W1=w.drew.setCells g (0+i*2) news):=by rw[Nat.zero_add];exact hW1
 have HO':=lhi HO
 have HG':=lhi HG
 clear hnl hone' hroom hsrc hW1 hB1 hfit HO HG
 have mixed:Tryz.prog.follows .mixedOrders=true:=by kernel_rfl
 have hz3: ¬ ((i:Int)=(i:Int)+1):=by omega
 have ht1:((i:Int)+1).toNat=i+1:=by omega
 have hb1:(0:Int)<= (i:Int)+1:=by omega
 have hb2:(i:Int)<= (i:Int)+1:=by omega
 have hb3:(i:Int)+1<= (n:Int):=by omega
 have hb4:(n:Int)<= (cap:Int):=by omega
 have hb5:(i:Int)+1<= (cap:Int):=by omega
 have hic:i<=cap:=by omega
 have hjc:i+1<=cap:=by omega
 have hsum:i+ (n - (i+1))=n - 1:=by omega
 have hn1:n - 1<=n:=by omega
 have hn2:n - (n - 1)=1:=by omega
 have hn3: ¬ (cap=n - 1):=by omega
 go_enter Tryz.func177,Tryz.ntmps177
 go_wp2_with fail
 go_region_law_o (refine step_append_room rfl (.tmp 22) (.tmp 25) 91 rfl 132 i0 2 Tryz.underlying91 hi0 hz1 g 0 i cap (by simp[Act.eval,Act.put]) A (n - (i+1)) (cap - (i+1)) news (by simp[Act.eval,Act.put]) s1.out hsrc'.out s2.out (by omega) s3.out ?_;rw[<-hW.out,hsum])
 go_wp2
 go_ret
 exact⟨rfl,HO'.out,HG'.out⟩
theorem Akl(W:World):(zeroValue 93).run Tryz.prog W= .ok (.agg #[.int .i64 0,.bool false,.slice none 0 0,.string ⟨#[]⟩]) W:=by kernel_rfl
theorem Adh{w:World}{base g cap n i:Nat}{L:List (InV)}(hown:w.ownsRow base 93 4 (.slice (some ⟨g,0,none⟩) n cap) n (L.flatMap encI))(hn:n=L.length)(hi:i<n)(hone: ∀y∈L,∀u∈encI y,u.oneCell'=true)(hs:n<=90000):
  Calls Tryz.prog 127 #[.slice (some ⟨g,0,none⟩) n cap,.int .i64 i,.int .i64 ((i:Int)+1)] w fun e w'=>e= .returned (.slice (some ⟨g,0,none⟩) (n - 1) cap)/\w'.ownsRow base 93 4 (.slice (some ⟨g,0,none⟩) (n - 1) cap) (n - 1) ((L.eraseIdx i).flatMap encI)/\w.grownBy w' (some g):=by
 obtain⟨i0,hi0,hz⟩:=Option.map_eq_some_iff.1 Ja
 have hz1:i0.size=4:=congrArg (fun p=>p.2.1) hz
 obtain⟨hcap,hcm,hgb,news,W1,cur1,hW1,hnl,hone',hsrc,hroom,hB1,hfit,HO,HG⟩:=Sz (Z:=[.int .i64 0,.bool false,.slice none 0 0,.string ⟨#[]⟩]) (by intro x;rfl) hown hn hi hone rfl
 generalize (L.eraseIdx i).flatMap encI=XS at HO⊢
 clear hown hone hz hn L
 have hcl: ∀ty c,(Builtin.clear_ #[26] ty #[.slice (some ⟨g,(n - 1)*4,none⟩) 1 c]).run Tryz.prog W1= .ok (.tuple #[]) (W1.setRow g (Ac cur1.toList ((n - 1)*4) [.int .i64 0,.bool false,.slice none 0 0,.string ⟨#[]⟩]).toArray):=fun ty c=>Mh W1 _ _ ty _ [.int .i64 0,.bool false,.slice none 0 0,.string ⟨#[]⟩] Tryz.underlying26 Akl (by kernel_rfl) (by intro v hv;simp at hv;rcases hv with rfl | rfl | rfl | rfl <;> rfl) hB1 hfit
 obtain⟨A,hA,hsrc'⟩: ∃A:Addr,(if cap=i+1 then some (⟨g,0,none⟩:Addr)else some ⟨g,(i+1)*4,none⟩)=some A/\Hid (∀j u,news[j]? =some u->w.drew.cell? (A.add j)=some u):=by
  by_cases h:cap=i+1
  ·refine⟨_,if_pos h,fun j u hu=>?_⟩
   rw[List.length_eq_zero_iff.1 (show news.length=0 by rw[hnl];omega)]at hu
   simp at hu
  ·exact⟨_,if_neg h,fun j u hu=>by rw[Addr.add_lit];exact hsrc j u hu⟩
 have s1:Hid (news.length=(n - (i+1))*4):=hnl
 have s2:Hid (∀u∈news,u.oneCell'=true):=hone'
 have s3:Hid (∀j,j<news.length->(w.drew.cell? ⟨g,0+i*4+j,none⟩).isSome=true/\w.drew.frozen? ⟨g,0+i*4+j,none⟩=false):=by rw[Nat.zero_add];exact hroom
 have hW:Hid (W1=w.drew.setCells g (0+i*4) news):=by rw[Nat.zero_add];exact hW1
 have HO':=lhi HO
 have HG':=lhi HG
 clear hnl hone' hroom hsrc hW1 hB1 hfit HO HG
 have mixed:Tryz.prog.follows .mixedOrders=true:=by kernel_rfl
 have hz3: ¬ ((i:Int)=(i:Int)+1):=by omega
 have ht1:((i:Int)+1).toNat=i+1:=by omega
 have hb1:(0:Int)<= (i:Int)+1:=by omega
 have hb2:(i:Int)<= (i:Int)+1:=by omega
 have hb3:(i:Int)+1<= (n:Int):=by omega
 have hb4:(n:Int)<= (cap:Int):=by omega
 have hb5:(i:Int)+1<= (cap:Int):=by omega
 have hic:i<=cap:=by omega
 have hjc:i+1<=cap:=by omega
 have hsum:i+ (n - (i+1))=n - 1:=by omega
 have hn1:n - 1<=n:=by omega
 have hn2:n - (n - 1)=1:=by omega
 have hn3: ¬ (cap=n - 1):=by omega
 go_enter Tryz.func127,Tryz.ntmps127
 go_wp2_with fail
 go_region_law_o (refine step_append_room rfl (.tmp 22) (.tmp 25) 26 rfl 93 i0 4 Tryz.underlying26 hi0 hz1 g 0 i cap (by simp[Act.eval,Act.put]) A (n - (i+1)) (cap - (i+1)) news (by simp[Act.eval,Act.put]) s1.out hsrc'.out s2.out (by omega) s3.out ?_;rw[<-hW.out,hsum])
 go_wp2
 go_ret
 exact⟨rfl,HO'.out,HG'.out⟩
theorem Akn(W:World):(zeroValue 144).run Tryz.prog W= .ok (.agg #[.int .i64 0,.int .i64 0,.int .i64 0]) W:=by kernel_rfl
theorem Ajt{w:World}{base g cap n i:Nat}{L:List (Int×Int×Int)}(hown:w.ownsRow base 144 3 (.slice (some ⟨g,0,none⟩) n cap) n (L.flatMap encD))(hn:n=L.length)(hi:i<n)(hone: ∀y∈L,∀u∈encD y,u.oneCell'=true)(hs:n<=90000):
  Calls Tryz.prog 80 #[.slice (some ⟨g,0,none⟩) n cap,.int .i64 i,.int .i64 ((i:Int)+1)] w fun e w'=>e= .returned (.slice (some ⟨g,0,none⟩) (n - 1) cap)/\w'.ownsRow base 144 3 (.slice (some ⟨g,0,none⟩) (n - 1) cap) (n - 1) ((L.eraseIdx i).flatMap encD)/\w.grownBy w' (some g):=by
 obtain⟨i0,hi0,hz⟩:=Option.map_eq_some_iff.1 Jb
 have hz1:i0.size=3:=congrArg (fun p=>p.2.1) hz
 obtain⟨hcap,hcm,hgb,news,W1,cur1,hW1,hnl,hone',hsrc,hroom,hB1,hfit,HO,HG⟩:=Sz (Z:=[.int .i64 0,.int .i64 0,.int .i64 0]) (by intro x;rfl) hown hn hi hone rfl
 generalize (L.eraseIdx i).flatMap encD=XS at HO⊢
 clear hown hone hz hn L
 have hcl: ∀ty c,(Builtin.clear_ #[27] ty #[.slice (some ⟨g,(n - 1)*3,none⟩) 1 c]).run Tryz.prog W1= .ok (.tuple #[]) (W1.setRow g (Ac cur1.toList ((n - 1)*3) [.int .i64 0,.int .i64 0,.int .i64 0]).toArray):=fun ty c=>Mh W1 _ _ ty _ [.int .i64 0,.int .i64 0,.int .i64 0] Tryz.underlying27 Akn (by kernel_rfl) (by intro v hv;simp at hv;rcases hv with rfl | rfl | rfl <;> rfl) hB1 hfit
 obtain⟨A,hA,hsrc'⟩: ∃A:Addr,(if cap=i+1 then some (⟨g,0,none⟩:Addr)else some ⟨g,(i+1)*3,none⟩)=some A/\Hid (∀j u,news[j]? =some u->w.drew.cell? (A.add j)=some u):=by
  by_cases h:cap=i+1
  ·refine⟨_,if_pos h,fun j u hu=>?_⟩
   rw[List.length_eq_zero_iff.1 (show news.length=0 by rw[hnl];omega)]at hu
   simp at hu
  ·exact⟨_,if_neg h,fun j u hu=>by rw[Addr.add_lit];exact hsrc j u hu⟩
 have s1:Hid (news.length=(n - (i+1))*3):=hnl
 have s2:Hid (∀u∈news,u.oneCell'=true):=hone'
 have s3:Hid (∀j,j<news.length->(w.drew.cell? ⟨g,0+i*3+j,none⟩).isSome=true/\w.drew.frozen? ⟨g,0+i*3+j,none⟩=false):=by rw[Nat.zero_add];exact hroom
 have hW:Hid (W1=w.drew.setCells g (0+i*3) news):=by rw[Nat.zero_add];exact hW1
 have HO':=lhi HO
 have HG':=lhi HG
 clear hnl hone' hroom hsrc hW1 hB1 hfit HO HG
 have mixed:Tryz.prog.follows .mixedOrders=true:=by kernel_rfl
 have hz3: ¬ ((i:Int)=(i:Int)+1):=by omega
 have ht1:((i:Int)+1).toNat=i+1:=by omega
 have hb1:(0:Int)<= (i:Int)+1:=by omega
 have hb2:(i:Int)<= (i:Int)+1:=by omega
 have hb3:(i:Int)+1<= (n:Int):=by omega
 have hb4:(n:Int)<= (cap:Int):=by omega
 have hb5:(i:Int)+1<= (cap:Int):=by omega
 have hic:i<=cap:=by omega
 have hjc:i+1<=cap:=by omega
 have hsum:i+ (n - (i+1))=n - 1:=by omega
 have hn1:n - 1<=n:=by omega
 have hn2:n - (n - 1)=1:=by omega
 have hn3: ¬ (cap=n - 1):=by omega
 go_enter Tryz.func80,Tryz.ntmps80
 go_wp2_with fail
 go_region_law_o (refine step_append_room rfl (.tmp 22) (.tmp 25) 27 rfl 144 i0 3 Tryz.underlying27 hi0 hz1 g 0 i cap (by simp[Act.eval,Act.put]) A (n - (i+1)) (cap - (i+1)) news (by simp[Act.eval,Act.put]) s1.out hsrc'.out s2.out (by omega) s3.out ?_;rw[<-hW.out,hsum])
 go_wp2
 go_ret
 exact⟨rfl,HO'.out,HG'.out⟩
end
def atS(S:St)(p:ByteArray):Except Int Nat:=match Au p with
 | .err k=>.error (Jh k)
 | .ok ns=>if(Ao S ns 0).2=0 then .ok (Ao S ns 0).1.toNat else .error (Ao S ns 0).2
def AtR(g:Nat)(e:Ending):Except Int Nat->Prop
 | .error k=>e=Cg k
 | .ok k=>e= .returned (.pointer (some ⟨g,k*4,none⟩))
theorem Tm{S:St}(hI:Inv S){p:ByteArray}{k:Nat}(h:atS S p= .ok k):k<S.inodes.length:=by
 unfold atS at h
 split at h
 ·cases h
 ·rename_i ns hp
  split at h
  ·rename_i h0
   obtain⟨j,hj,e⟩:=Fy hI.ord ns 0 hI.pos h0
   injection h with h
   rw[e]at h
   simp only[Int.toNat_natCast]at h
   omega
  ·cases h
section
variable{W:World}{base ob db:Nat}{c:Ad}{r:ResV}{iv ov mv:Value}{Iv:List InV}{S:St}
theorem Ob{g icap:Nat}(h:Doer W base ob db c r (.slice (some ⟨g,0,none⟩) S.inodes.length icap) ov mv Iv S)(hI:Inv S){p:ByteArray}(hp:p.size<=4611686018427387904):
  Calls Tryz.prog 123 #[.pointer (some ⟨db,0,none⟩),.string p] W fun e w'=>AtR g e (atS S p)/\Below W.heap.size W w':=by
 have HS:=lhi h.stm
 have HI:=lhi hI
 have d0:W.cell? ⟨db,0,none⟩=some (.pointer (some ⟨ob,0,none⟩)):=h.d.cell 0
 have o0:W.cell? ⟨ob,0,none⟩=some (.slice (some ⟨g,0,none⟩) S.inodes.length icap):=h.o.cell 0
 have dl:=h.d.lt
 have ol:=h.o.lt
 have HD0:=lhi (show W.drew.cell? ⟨db,0,none⟩=some (.pointer (some ⟨ob,0,none⟩))from d0)
 have HBD:=lhi (Ae W)
 cases hpr:Au p with
 | err k=>
  have HPS:=lhi (Ro hp W.drew hpr (Jr hpr))
  have HR:atS S p= .error (Jh k):=by unfold atS;rw[hpr]
  rw[HR]
  clear hpr h hI HR
  go_enter Tryz.func123,Tryz.ntmps123
  go_upto_region 1 with(fail)
  refine wp_region_held_drew (S:=fun w'=>w'.cell? ⟨db,0,none⟩=some (.pointer (some ⟨ob,0,none⟩))) (by kernel_rfl) (HD0.out) (fun hHeld=>?_)
  refine tH 0 ?_
  refine tH 1 ?_
  refine tH 2 ?_
  refine tH 3 ?_
  refine tH 4 ?_
  refine wpAnyH_ready (rs:=[5]) (by kernel_rfl) (by simp) ?_
  refine AllReadyH.cons rfl (fun K hK=>?_) AllReadyH.nil
  go_simp
  refine HPS.out.mono ?_
  rintro e w1 ⟨rfl,hb1⟩
  exact⟨rfl,rfl,HBD.out.trans (show Below W.heap.size W.drew w1 from hb1)⟩
 | ok ns=>
  have HPS:=lhi (Ot hp W.drew hpr)
  have hnl:=Ho hpr
  have HR:atS S p=if(Ao S ns 0).2=0 then .ok (Ao S ns 0).1.toNat else .error (Ao S ns 0).2:=by unfold atS;rw[hpr]
  rw[HR]
  have HWA:=lhi (Fy hI.ord ns 0 hI.pos)
  clear hpr h hI HR
  obtain⟨wp,hwp⟩: ∃q,Ao S ns 0=q:=⟨_,rfl⟩
  have HWK:=lhi (fun(V:World) (v:Value) (hv:Ak V v ns.length 1 (nmC ns)) (hb:Below W.heap.size W V)=>Gb (w:=V) (sp:=ob) (HS.out.keep hb) HI.out.ord HI.out.pos ((hb.cell (p:=⟨ob,0,none⟩) ol).trans o0) hv (by omega))
  rw[hwp]at HWK HWA⊢
  obtain⟨wa,wb⟩:=wp
  simp only at HWK HWA⊢
  clear hwp
  obtain⟨RES,hres⟩: ∃R,(if wb=0 then Except.ok wa.toNat else Except.error wb:Except Int Nat)=R:=⟨_,rfl⟩
  have HRES:=lhi hres
  rw[hres]
  clear hres
  go_enter Tryz.func123,Tryz.ntmps123
  go_upto_region 1 with(fail)
  go_region_held3 (fun w'=>w'.cell? ⟨db,0,none⟩=some (.pointer (some ⟨ob,0,none⟩)))
   (with_reducible first | exact HD0.out | exact z0)
   ((first
    | (go_at_call 171;refine HPS.out.mono ?_;rintro e w1 ⟨⟨v,rfl,hv,-⟩,hb1⟩;have HV:=lhi hv.at';have HB1:=lhi (HBD.out.trans (show Below W.heap.size W.drew w1 from hb1));have z0:=(HB1.out.cell (p:=⟨db,0,none⟩) dl).trans d0;clear hv hb1)
    | (go_at_call 45;refine(HWK.out _ _ HV.out HB1.out).mono ?_;rintro e w2 ⟨rfl,hb2⟩;have HB2:=lhi (HB1.out.trans (hb2.mono HB1.out.size));have z0:=(HB2.out.cell (p:=⟨db,0,none⟩) dl).trans d0;clear hb2)))
  have y0:w2.cell? ⟨db,0,none⟩=some (.pointer (some ⟨ob,0,none⟩)):=(HB2.out.cell (p:=⟨db,0,none⟩) dl).trans d0
  have y1:w2.cell? ⟨ob,0,none⟩=some (.slice (some ⟨g,0,none⟩) S.inodes.length icap):=(HB2.out.cell (p:=⟨ob,0,none⟩) ol).trans o0
  by_cases h0:wb=0
  ·subst h0
   obtain⟨j,hj,rfl⟩:=HWA.out rfl
   obtain rfl:RES= .ok j:=by rw[<-HRES.out,if_pos rfl,Int.toNat_natCast]
   have hj1:(j:Int)<S.inodes.length:=by omega
   clear HRES HWA
   go_wp2_with (go_at_call 116;refine(Ar _ _).mono ?_;rintro e w' ⟨rfl,rfl⟩)
   go_ret
   exact⟨rfl,HB2.out⟩
  ·obtain rfl:RES= .error wb:=by rw[<-HRES.out,if_neg h0]
   have h1:(wb != 0)=true:=by rw[bne_iff_ne];exact h0
   go_wp2_with (go_at_call 116;refine(Al _ _).mono ?_;rintro e w' ⟨rfl,rfl⟩)
   exact⟨rfl,rfl,HB2.out⟩
end
def Jg(S:St)(c f:Int):Int:=match(List.range S.opens.length).find? (fun i=>S.oc i==c&&S.of i==f)with
 | some k=>k
 | none=> -1
theorem Ahx{S:St}{c f:Int}{k:Nat}(hk:k<S.opens.length)(h:S.oc k=c/\S.of k=f)(hlt: ∀i,i<k-> ¬ (S.oc i=c/\S.of i=f)):Jg S c f=k:=by
 have:(List.range S.opens.length).find? (fun i=>S.oc i==c&&S.of i==f)=some k:=by
  rw[List.find?_eq_some_iff_getElem]
  exact⟨by simpa using h,k,by simpa using hk,by simp,fun j hj=>by
   have h:=hlt j hj
   simp
   by_cases q:S.oc j=c
   ·exact .inr fun x=>h ⟨q,x⟩
   ·exact .inl q⟩
 unfold Jg
 rw[this]
theorem Ahw{S:St}{c f:Int}(h: ∀i,i<S.opens.length-> ¬ (S.oc i=c/\S.of i=f)):Jg S c f= -1:=by
 have:(List.range S.opens.length).find? (fun i=>S.oc i==c&&S.of i==f)=none:=by
  rw[List.find?_eq_none]
  intro i hi
  simpa using h i (by simpa using hi)
 unfold Jg
 rw[this]
theorem Aab{S:St}{c f:Int}(h: ¬ Jg S c f<0): ∃k:Nat,k<S.opens.length/\Jg S c f=k/\S.oc k=c/\S.of k=f:=by
 unfold Jg at h⊢
 split at h
 ·rename_i k hk
  obtain⟨h1,i,h2,h3,-⟩:=List.find?_eq_some_iff_getElem.1 hk
  have e:i=k:=by simpa using h3
  subst e
  simp at h1 h2
  exact⟨i,h2,rfl,h1.1,h1.2⟩
 ·omega
section
variable{w:World}
theorem Zw{q db ob:Nat}{cv:Ad}{r:ResV}(hq:w.cell? ⟨q,0,none⟩=some (.pointer (some ⟨db,0,none⟩)))(hd:Blk w db 88 (Sy ob cv r))(c f n:Int):
  Calls Tryz.prog 126 #[.agg #[.int .i64 c,.int .i64 f,.int .i64 n],.pointer (some ⟨q,0,none⟩)] w fun e w'=>e= .returned (.bool (c==cv.core&&f==cv.fd))/\Below w.heap.size w w':=by
 have hl:=Amd w _ hq
 have dl:=hd.lt
 have d2:w.cell? ⟨db,2,none⟩=some (.int .i64 cv.core):=hd.cell 2
 have d3:w.cell? ⟨db,3,none⟩=some (.int .i64 cv.fd):=hd.cell 3
 have HB:=lhi ((Amf w.heap.size w).alloc (Ama _) (.cells #[.int .i64 c,.int .i64 f,.int .i64 n] 144))
 clear hd
 by_cases e:c=cv.core
 ·have e1:(c==cv.core)=true:=by simp[e]
  rw[e1]
  clear e
  go_enter Tryz.func126,Tryz.ntmps126
  go_wp2_with (fail)
  go_region
  go_wp2_with (fail)
  go_ret
  exact⟨rfl,HB.out.drew⟩
 ·have e1:(c==cv.core)=false:=by simp[e]
  rw[e1]
  clear e
  go_enter Tryz.func126,Tryz.ntmps126
  go_wp2_with (fail)
  go_region
  go_wp2_with (fail)
  go_ret
  exact⟨rfl,HB.out.drew⟩
theorem Tx{v:Value}{S:St}(hv:Ak w v S.opens.length 3 (opnC S))(hn:S.opens.length<=1000){q db ob:Nat}{cv:Ad}{r:ResV}(hq:w.cell? ⟨q,0,none⟩=some (.pointer (some ⟨db,0,none⟩)))(hd:Blk w db 88 (Sy ob cv r)):
  Calls Tryz.prog 125 #[v,.func (.func 126) #[] #[.pointer (some ⟨q,0,none⟩)]] w fun e w'=>e= .returned (.int .i64 (Jg S cv.core cv.fd))/\Below w.heap.size w w':=by
 have HV:=lhi hv
 have H1:=lhi (fun(k:Nat) a b d=>Ahx (S:=S) (c:=cv.core) (f:=cv.fd) (k:=k) a b d)
 have H2:=lhi (fun a=>Ahw (S:=S) (c:=cv.core) (f:=cv.fd) a)
 have HFC:=lhi (fun(W:World) (hb:Below w.heap.size w W) (a b d:Int)=>Zw ((hb.cell (Amd _ _ hq)).trans hq) (Blk.of_heap (hb.block _ hd.lt) hd) a b d)
 obtain⟨A,cap,rfl,-,-⟩:=hv
 obtain⟨n,hnn⟩:=xx S.opens.length
 rw[hnn]at hn HV H1 H2
 rw[hnn]
 clear hnn hq hd
 go_enter Tryz.func125,Tryz.ntmps125
 go_wp2_with (fail)
 go_loopw [8] (fun i wr=>∃k:Nat,i= .int .i64 k/\k<=n/\ (∀j,j<k-> ¬ (S.oc j=cv.core/\S.of j=cv.fd))/\Below w.heap.size w wr) (fun i _=>n - (intOf i).toNat)
 case atStart=>exact⟨0,rfl,by omega,fun j hj=>absurd hj (by omega),Amf _ _⟩
 case round=>
  obtain⟨k,rfl,hk,hl,hB⟩:=hrel
  have HB:=lhi hB
  have HL:=lhi hl
  clear hl
  by_cases hq:k<n
  ·have hq1:(k:Int)<n:=by omega
   obtain⟨-,-,g,off,rfl,hcell⟩:=(HV.out.keep hB).at_ hq
   have q0:wr.cell? ⟨g,off+k*3,none⟩=some (.int .i64 (S.oc k)):=hcell 0 (by omega)
   have q1:wr.cell? ⟨g,off+k*3+1,none⟩=some (.int .i64 (S.of k)):=hcell 1 (by omega)
   have q2:wr.cell? ⟨g,off+k*3+2,none⟩=some (.int .i64 (S.on k)):=hcell 2 (by omega)
   have HC:=lhi (HFC.out wr hB (S.oc k) (S.of k) (S.on k))
   clear hcell hB
   by_cases e:S.oc k=cv.core/\S.of k=cv.fd
   ·have e1:(S.oc k==cv.core&&S.of k==cv.fd)=true:=by simp[e.1,e.2]
    have HR:=lhi (H1.out k hq e HL.out)
    rw[e1]at HC
    clear e e1
    go_wp2_with (go_at_call 126;refine HC.out.mono ?_;rintro e w1 ⟨rfl,hb1⟩)
    go_ret
    exact⟨by rw[HR.out];rfl,HB.out.trans (hb1.mono HB.out.size)⟩
   ·have e1:(S.oc k==cv.core&&S.of k==cv.fd)=false:=by
     rw[Bool.and_eq_false_iff]
     by_cases q:S.oc k=cv.core
     ·exact .inr (by simp;exact fun x=>e ⟨q,x⟩)
     ·exact .inl (by simp[q])
    rw[e1]at HC
    have HE:=lhi e
    clear e
    go_wp2_with (go_at_call 126;refine HC.out.mono ?_;rintro e w1 ⟨rfl,hb1⟩)
    go_roundw
    case rel=>exact⟨k+1,by simp,by omega,fun j hj=>by
     by_cases h:j=k
     ·subst h;exact HE.out
     ·exact HL.out j (by omega),HB.out.trans (hb1.mono HB.out.size)⟩
    case measure=>
     simp only[intOf]
     omega
  ·have e:k=n:=by omega
   subst e
   have HR:=lhi (H2.out HL.out)
   clear hB
   go_wp2_with (fail)
   go_ret
   exact⟨by rw[HR.out];rfl,HB.out⟩
end
def Ej(S:St)(c:Ad):Except Int (Nat×Nat):=if Jg S c.core c.fd<0 then .error 4 else .ok ((Bh S (S.on (Jg S c.core c.fd).toNat)).toNat,(Jg S c.core c.fd).toNat)
def All(g:Nat)(e:Ending):Except Int (Nat×Nat)->Prop
 | .error k=>e=Cg k
 | .ok (a,k)=>e= .returned (.tuple #[.pointer (some ⟨g,a*4,none⟩),.int .i64 k])
theorem Fi{S:St}(hI:Inv S){c:Ad}{a k:Nat}(h:Ej S c= .ok (a,k)):k<S.opens.length/\a<S.inodes.length/\S.num a=S.on k/\S.dir a=false/\S.oc k=c.core/\S.of k=c.fd/\Bh S (S.on k)=a:=by
 unfold Ej at h
 split at h
 ·cases h
 ·rename_i h0
  obtain⟨j,hj,e,h1,h2⟩:=Aab h0
  injection h with h
  injection h with ha hk
  rw[e]at ha hk
  simp only[Int.toNat_natCast]at ha hk
  subst hk
  obtain⟨-,-,-,-,y,hy,hn,hd⟩:=hI.ok (S.opens.getD j (0,0,0)) (Bm hj)
  obtain⟨q,hq,hqy,hp⟩:=Ir (S:=S) (fun i j a b=>hI.num_lt b a) hy
  have hpl:Bh S (S.on j)=q:=by
   show Bh S (S.opens.getD j (0,0,0)).2.2=q
   rw[<-hn];exact hp
  rw[hpl]at ha
  simp only[Int.toNat_natCast]at ha
  subst ha
  have hino:S.ino q=y:=by unfold St.ino;rw[Ame,hqy];rfl
  exact⟨hj,hq,by show(S.ino q).num=_;rw[hino];exact hn,by show(S.ino q).dir=_;rw[hino];exact hd,h1,h2,hpl⟩
section
variable{W:World}{base ob db:Nat}{c:Ad}{r:ResV}{iv ov mv:Value}{Iv:List InV}{S:St}
theorem El{g icap:Nat}(h:Doer W base ob db c r (.slice (some ⟨g,0,none⟩) S.inodes.length icap) ov mv Iv S)(hI:Inv S):
  Calls Tryz.prog 79 #[.pointer (some ⟨db,0,none⟩)] W fun e w'=>All g e (Ej S c)/\Below W.heap.size W w':=by
 have hmf: ∀(fn:Fn) (first cap:Array Value) (w:World),(Instr.makeFunc fn first cap).run Tryz.prog w= .ok (.func fn first cap) w:=fun _ _ _ _=>rfl
 have HS:=lhi h.stm
 have HI:=lhi hI
 have hno:=hI.small.no
 have hni:=hI.small.ni
 obtain⟨q,hq⟩: ∃x,x=W.heap.size:=⟨_,rfl⟩
 obtain⟨w0,hw0⟩: ∃x,x=W.alloc (.cells #[.pointer (some ⟨db,0,none⟩)] 86):=⟨_,rfl⟩
 have HB0:=lhi (show Below W.heap.size W w0 by rw[hw0];exact(Amf _ _).alloc (Ama _) _)
 have HQ:=lhi (show Blk w0 q 86 #[.pointer (some ⟨db,0,none⟩)]by rw[hw0,hq];exact Blk.new _ _ _)
 have HD:=lhi (Blk.of_heap (HB0.out.block _ h.d.lt) h.d)
 have HO:=lhi (Blk.of_heap (HB0.out.block _ h.o.lt) h.o)
 have HIX:=lhi (Tx (HS.out.keep HB0.out).opn hno (HQ.out.cell 0) HD.out)
 have HPL:=lhi (fun(V:World) (hb:Below w0.heap.size w0 V) (x:Int)=>Ia (w:=V) (sp:=ob) (HS.out.keep (HB0.out.trans (hb.mono HB0.out.size))) hni x (fun i j a b=>HI.out.num_lt b a) ((Blk.of_heap (hb.block _ HO.out.lt) HO.out).cell 0))
 have HFS:=lhi (fun(a k:Nat) (e:Ej S c= .ok (a,k))=>Fi hI e)
 obtain⟨OA,ocap,rfl,-⟩:=h.st.stv.opn
 obtain⟨ix,hix⟩: ∃x,Jg S c.core c.fd=x:=⟨_,rfl⟩
 obtain⟨RES,hres⟩: ∃R,Ej S c=R:=⟨_,rfl⟩
 have HRES:=lhi (show(if ix<0 then .error 4 else .ok ((Bh S (S.on ix.toNat)).toNat,ix.toNat))=RES by rw[<-hres,<-hix];rfl)
 rw[hres]at HFS⊢
 rw[hix]at HIX
 have HIXL:=lhi (fun(hx: ¬ ix<0)=>show∃k:Nat,k<S.opens.length/\ix=k by
  rw[<-hix]at hx⊢
  obtain⟨k,h1,h2,-⟩:=Aab hx
  exact⟨k,h1,h2⟩)
 have q0:w0.cell? ⟨q,0,none⟩=some (.pointer (some ⟨db,0,none⟩)):=HQ.out.cell 0
 have d0:w0.cell? ⟨db,0,none⟩=some (.pointer (some ⟨ob,0,none⟩)):=HD.out.cell 0
 have o1:w0.cell? ⟨ob,1,none⟩=some (.slice OA S.opens.length ocap):=HO.out.cell 1
 clear h hI hix hres
 go_enter Tryz.func79,Tryz.ntmps79
 go_upto_region 1 with(fail)
 rw[<-hq,<-hw0]
 clear hq hw0
 go_upto_region 2 with(go_at_call 125;refine HIX.out.mono ?_;rintro e w1 ⟨rfl,hb1⟩;have HB1:=lhi hb1;clear hb1)
 clear q0 d0 o1
 by_cases hx:ix<0
 ·obtain rfl:RES= .error 4:=by rw[<-HRES.out,if_pos hx]
  clear HRES HFS HIXL
  go_wp2_with (go_at_call 116;refine(Al _ _).mono ?_;rintro e w' ⟨rfl,rfl⟩)
  exact⟨rfl,rfl,HB0.out.trans (HB1.out.mono HB0.out.size)⟩
 ·obtain⟨k,hk,rfl⟩:=HIXL.out (by omega)
  have hk0:decide ((k:Int)<0)=false:=by simp
  have hkl:(k:Int)<S.opens.length:=by omega
  obtain⟨a,ha⟩: ∃a:Nat,(Bh S (S.on k)).toNat=a:=⟨_,rfl⟩
  obtain rfl:RES= .ok (a,k):=by rw[<-HRES.out,if_neg hx,Int.toNat_natCast,ha]
  obtain⟨-,hal,-,-,-,-,hpa⟩:=HFS.out _ _ rfl
  have hal1:(a:Int)<S.inodes.length:=by omega
  have HBB:=lhi (HB0.out.trans (HB1.out.mono HB0.out.size))
  have HQ1:=lhi (Blk.of_heap (HB1.out.block _ HQ.out.lt) HQ.out)
  have HD1:=lhi (Blk.of_heap (HB1.out.block _ HD.out.lt) HD.out)
  have HO1:=lhi (Blk.of_heap (HB1.out.block _ HO.out.lt) HO.out)
  obtain⟨-,-,og,off,rfl,hcell⟩:=(HS.out.keep HBB.out).opn.at_ hk
  have p0: ∀x:WIn (Bel w1),x.v.cell? ⟨q,0,none⟩=some (.pointer (some ⟨db,0,none⟩)):=fun x=>x.cell (HQ1.out.cell 0)
  have p1: ∀x:WIn (Bel w1),x.v.cell? ⟨db,0,none⟩=some (.pointer (some ⟨ob,0,none⟩)):=fun x=>x.cell (HD1.out.cell 0)
  have p2: ∀x:WIn (Bel w1),x.v.cell? ⟨ob,0,none⟩=some (.slice (some ⟨g,0,none⟩) S.inodes.length icap):=fun x=>x.cell (HO1.out.cell 0)
  have p3: ∀x:WIn (Bel w1),x.v.cell? ⟨ob,1,none⟩=some (.slice (some ⟨og,off,none⟩) S.opens.length ocap):=fun x=>x.cell (HO1.out.cell 1)
  have p4: ∀x:WIn (Bel w1),x.v.cell? ⟨og,off+k*3+2,none⟩=some (.int .i64 (S.on k)):=fun x=>x.cell (hcell 2 (by omega))
  have HPX:=lhi (fun x:WIn (Bel w1)=>by
   have:=HPL.out x.v (HB1.out.trans (Below.mono x.h HB1.out.size)) (S.on k)
   rw[hpa]at this
   exact this)
  clear hcell hx ha hpa HRES HFS HIXL
  go_upto_region 3 with(go_at_call 116;refine(Ar _ _).mono ?_;rintro e w' ⟨rfl,rfl⟩)
  refine Be (C:=Bel w1) (by kernel_rfl) (by kernel_rfl) (Bel.drew w1) ?_
  repeat (go_big_quiet_step (first | (go_at_call 94;exact Calls.bel _ (HPX.out _))))
  refine wpQuiet_nil ?_
  rintro w2 ⟨⟨w2',hb2⟩,hw⟩
  obtain rfl:w2=w2':=hw
  have HB2:=lhi hb2
  clear hb2 p0 p1 p2 p3 p4
  go_wp2_with (fail)
  go_ret2
  exact⟨rfl,HBB.out.trans (Below.mono HB2.out HBB.out.size)⟩
end
def layL(had:ByteArray)(off:Nat)(d:ByteArray)(k:Nat):List UInt8:=
 let l:=(List.replicate k (0:UInt8)).take 0++had.data.toList.take (Nat.min had.size k)++(List.replicate k 0).drop (0+Nat.min had.size k)
 l.take off++d.data.toList.take (Nat.min d.size (k - off))++l.drop (off+Nat.min d.size (k - off))
def layF(had:ByteArray)(off:Nat)(d:ByteArray):ByteArray:=if d.size=0 then had else⟨(layL had off d (max had.size (off+d.size))).toArray⟩
theorem Uu(had:ByteArray)(k:Nat):((List.replicate k (0:UInt8)).take 0++had.data.toList.take (Nat.min had.size k)++(List.replicate k 0).drop (0+Nat.min had.size k)).length=k:=by
 have h1:Nat.min had.size k<=k:=Nat.min_le_right _ _
 have h2:Nat.min had.size k<=had.size:=Nat.min_le_left _ _
 have h3:had.data.toList.length=had.size:=by simp
 rw[Ami,Ami,List.length_take,List.length_take,List.length_drop,List.length_replicate,h3];omega
theorem Zf(had:ByteArray)(off:Nat)(d:ByteArray){k:Nat}(hk:off<=k):(layL had off d k).length=k:=by
 have h1:Nat.min d.size (k - off)<=k - off:=Nat.min_le_right _ _
 have h2:Nat.min d.size (k - off)<=d.size:=Nat.min_le_left _ _
 have h3:d.data.toList.length=d.size:=by simp
 unfold layL
 simp only
 rw[Ami,Ami,List.length_take,List.length_take,List.length_drop,Uu,h3];omega
theorem Aha(had:ByteArray)(off:Nat)(d:ByteArray):(layF had off d).size<=max had.size (off+d.size):=by
 unfold layF
 split
 ·omega
 ·show(List.toArray _).size<=_
  rw[List.size_toArray,Zf had off d (by omega)];exact Ama _
theorem Abl(had d:ByteArray)(off:Nat)(h1:had.size<=256)(h2:off+d.size<=256)(w:World):Calls Tryz.prog 130 #[.string had,.int .i64 off,.string d] w fun e w'=>e= .returned (.string (layF had off d))/\Below w.heap.size w w':=by
 by_cases h0:d.size=0
 ·have he:d.toList.isEmpty=true:=by
   rw[ByteArray.toList_eq]
   have:d.data.toList.length=0:=h0
   rw[List.length_eq_zero_iff.1 this];rfl
  rw[show layF had off d=had by unfold layF;rw[if_pos h0]]
  clear h0
  go_enter Tryz.func130,Tryz.ntmps130
  go_wp2_with (fail)
  go_ret
  exact⟨rfl,Amf _ _⟩
 ·have he:d.toList.isEmpty=false:=by
   rw[ByteArray.toList_eq]
   have:d.data.toList.length=d.size:=by simp
   cases e:d.data.toList with
   | nil=>rw[e]at this;exact absurd this.symm h0
   | cons=>rfl
  obtain⟨i0_,hi,hz0,hz1,hz2⟩:=info_parts Ac7
  have hdp:(0:Int)<d.size:=by omega
  obtain⟨k,hk⟩:=yy (max had.size (off+d.size))
  have hmk:(Instr.makeSlice 95 (.int .i64 k) (.int .i64 k)).run Tryz.prog w= .ok (.slice (some ⟨w.heap.size,0,none⟩) k k) (w.alloc (.cells (Cf (List.replicate k 0)) 5)):=by
   have h:=Ci (P:=Tryz.prog) (w:=w) 95 5 i0_ _ Tryz.underlying95 hi hz0 .i64 .i64 k k (Ama _) (by rw[hz2];omega) (by omega)
   simp only[hz1,Nat.mul_one,Value.cells,Dl,Qa]at h
   exact h
  have HB:=lhi (Blk.new w 5 (Cf (List.replicate k 0)))
  obtain⟨n,hn⟩:=yy (Nat.min had.size k)
  obtain⟨l',hl'⟩:=yy ((List.replicate k (0:UInt8)).take 0++had.data.toList.take n++(List.replicate k 0).drop (0+n))
  have hlk:l'.length=k:=by rw[hl',hn];exact Uu had k
  have hcp:=Jp (P:=Tryz.prog) (dT:=95) (sT:=9) (ty:=3) (elem:=5) Tryz.underlying95 (by rw[hi];simp[hz1]) (g:=w.heap.size) (o:=0) (dLen:=k) (dCap:=k) HB.out (by simp) had hn
  rw[<-hl']at hcp
  obtain⟨n2,hn2⟩: ∃n,n=Nat.min d.size (k - off):=⟨_,rfl⟩
  obtain⟨l2,hl2⟩:=yy (l'.take off++d.data.toList.take n2++l'.drop (off+n2))
  have hcp2:=Jp (P:=Tryz.prog) (w:=(w.alloc (.cells (Cf (List.replicate k 0)) 5)).setRow w.heap.size (Cf l')) (dT:=95) (sT:=9) (ty:=3) (elem:=5) Tryz.underlying95 (by rw[hi];simp[hz1]) (g:=w.heap.size) (o:=off) (dLen:=k - off) (dCap:=k - off) (Jn HB.out (Cf l')) (by omega) d hn2
  rw[<-hl2]at hcp2
  have hl2k:l2.length=k:=by
   have:=Zf had off d (k:=k) (by omega)
   rw[<-this,hl2,hl',hn,hn2];rfl
  have hcv:=Aah (P:=Tryz.prog) (w:=((w.alloc (.cells (Cf (List.replicate k 0)) 5)).setRow w.heap.size (Cf l')).setRow w.heap.size (Cf l2)) (src:=95) (dst:=9) (e:=5) Tryz.underlying95 Tryz.underlying5 Tryz.underlying9 (Jn (Jn HB.out (Cf l')) (Cf l2)) hl2k k
  have HE:=lhi (show(⟨l2.toArray⟩:ByteArray)=layF had off d by
   unfold layF layL
   rw[if_neg h0,hl2,hl',hn,hn2,hk])
  have hok:(off:Int)<k:=by omega
  have hkk:((k - off:Nat):Int)=(k:Int) - off:=by omega
  rw[show had.size=had.size from rfl]at hk
  rcases Nat.lt_or_ge had.size (off+d.size)with hc | hc
  ·have hke:(k:Int)=(off:Int)+d.size:=by omega
   have hc1:(had.size:Int)< (off:Int)+d.size:=by omega
   have hm:max (had.size:Int) ((off:Int)+d.size)=(off:Int)+d.size:=by omega
   rw[hke]at hmk
   clear hl' hn hlk hl2 hn2 hl2k hk h0 hc
   go_enter Tryz.func130,Tryz.ntmps130
   go_wp2_with (fail)
   refine bodyPost_ret (results_tmp rfl _ _ _) rfl ?_
   refine⟨?_,Fc (Fc (Br w _) (Ama _) _) (Ama _) _⟩
   rw[<-HE.out]
   rfl
  ·have hke:(k:Int)=had.size:=by omega
   have hc1:(off:Int)+d.size<=had.size:=by omega
   have hm:max (had.size:Int) ((off:Int)+d.size)=had.size:=by omega
   rw[hke]at hmk
   clear hl' hn hlk hl2 hn2 hl2k hk h0 hc
   go_enter Tryz.func130,Tryz.ntmps130
   go_wp2_with (fail)
   all_goals
    refine bodyPost_ret (results_tmp rfl _ _ _) rfl ?_
    refine⟨?_,Fc (Fc (Br w _) (Ama _) _) (Ama _) _⟩
    rw[<-HE.out]
    rfl
theorem Ly(a b:Int)(ha:0<=a/\a<=1000000)(hb:0<=b/\b<=1000000)(d:Bool)(A:Option Addr)(n cap:Nat)(s:ByteArray)(w:World):
  Calls Tryz.prog 121 #[.agg #[.int .i64 a,.bool d,.slice A n cap,.string s],.int .i64 b] w fun e w'=>e= .returned (.int .i64 (a - b))/\Below w.heap.size w w':=by
 have hB:=(Amf w.heap.size w).alloc (Ama _) (.cells #[.int .i64 a,.bool d,.slice A n cap,.string s] 93)
 have hw:IntKind.i64.wrap (a - b)=a - b:=by rw[IntKind.wrap_i64];omega
 go_enter Tryz.func121,Tryz.ntmps121
 go_wp2
 go_ret
 exact⟨rfl,hB⟩
theorem Afg{w:World}{iv ov mv:Value}{ev:Nat->Value}{S:St}(hS:StM w iv ov mv ev S)(hn:S.inodes.length<=1000)(x:Int)(hx:0<=x/\x<=1000000)(hnum: ∀i,i<S.inodes.length->0<=S.num i/\S.num i<=1000000)(hlt: ∀i j,i<j->j<S.inodes.length->S.num i<S.num j):
  Calls Tryz.prog 120 #[iv,.int .i64 x,.func (.func 121) #[] #[]] w fun e w'=>(∃k:Nat,k<=S.inodes.length/\ (∀i,i<k->S.num i<x)/\ (∀i,k<=i->i<S.inodes.length->x<=S.num i)/\e= .returned (.tuple #[.int .i64 k,.bool (decide (k<S.inodes.length)&& (S.num k==x))]))/\Below w.heap.size w w':=by
 have HS:=lhi hS
 have HI:=lhi hS.ino
 obtain⟨A,cap,rfl,hcap,-⟩:=hS.ino
 obtain⟨n,hnn⟩:=xx S.inodes.length
 rw[hnn]at hn hlt HI hnum
 rw[hnn]
 have HNN:=lhi hnn
 have HLT:=lhi hlt
 have HNM:=lhi hnum
 clear hS hnn hlt hcap hnum
 go_enter Tryz.func120,Tryz.ntmps120
 go_wp2_with (fail)
 go_loopw [9,10] (fun i j wr=>∃a b:Nat,i= .int .i64 a/\j= .int .i64 b/\a<=b/\b<=n/\ (∀i,i<a->S.num i<x)/\ (∀i,b<=i->i<n->x<=S.num i)/\Below w.heap.size w wr) (fun i j _=>(intOf j).toNat - (intOf i).toNat)
 case atStart=>exact⟨0,n,rfl,rfl,by omega,Ama _,fun i hi=>absurd hi (by omega),fun i h1 h2=>absurd h1 (by omega),Amf _ _⟩
 case round=>
  obtain⟨a,b,rfl,rfl,hab,hbn,hlo,hhi,hB⟩:=hrel
  have HLO:=lhi hlo
  have HHI:=lhi hhi
  have HB:=lhi hB
  clear hlo hhi hB
  by_cases hp:a<b
  ·have hp1:(a:Int)<b:=by omega
   obtain⟨h,hh⟩: ∃h:Nat,((a:Int)+b) / 2=h:=⟨(a+b) / 2,by omega⟩
   have hha:a<=h/\h<b:=by omega
   have hhn:h<n:=by omega
   have hl1:decide ((h:Int)<n)=true:=by simp;omega
   obtain⟨-,-,g,off,rfl,hcell⟩:=(HI.out.keep HB.out).at_ hhn
   have q0:wr.cell? ⟨g,off+h*4,none⟩=some (.int .i64 (S.num h)):=hcell 0 (by omega)
   have q1:wr.cell? ⟨g,off+h*4+1,none⟩=some (.bool (S.dir h)):=hcell 1 (by omega)
   have q2:wr.cell? ⟨g,off+h*4+2,none⟩=some (ev h):=hcell 2 (by omega)
   have q3:wr.cell? ⟨g,off+h*4+3,none⟩=some (.string (S.dat h)):=hcell 3 (by omega)
   obtain⟨EA,ecap,hev,-⟩:=HS.out.ent h (by rw[HNN.out];exact hhn)
   rw[hev]at q2
   have HC:=lhi (Ly (S.num h) x (HNM.out h hhn) hx (S.dir h) EA (S.ne h) ecap (S.dat h) wr)
   have e1:decide (S.num h - x<0)=decide (S.num h<x):=decide_eq_decide.2 (by omega)
   obtain⟨cv,hcv⟩: ∃c,S.num h - x=c:=⟨_,rfl⟩
   rw[hcv]at HC e1
   clear hcell hev hcv
   by_cases hxx:S.num h<x
   ·have e2:cv<0:=by simpa[hxx]using e1
    clear e1
    go_wp2_with (go_at_call 121;refine HC.out.mono ?_;rintro e w1 ⟨rfl,hb1⟩)
    go_roundw
    case rel=>exact⟨h+1,b,by simp,rfl,by omega,hbn,fun i hi=>by
     by_cases e:i=h
     ·subst e;exact hxx
     ·have:=HLT.out i h (by omega) hhn;omega,HHI.out,HB.out.trans (hb1.mono HB.out.size)⟩
    case measure=>
     simp only[intOf]
     omega
   ·have e2: ¬ cv<0:=by simpa[hxx]using e1
    clear e1
    go_wp2_with (go_at_call 121;refine HC.out.mono ?_;rintro e w1 ⟨rfl,hb1⟩)
    go_roundw
    case rel=>exact⟨a,h,rfl,rfl,by omega,by omega,HLO.out,fun i h1 h2=>by
     by_cases e:i=h
     ·subst e;omega
     ·have:=HLT.out h i (by omega) h2;omega,HB.out.trans (hb1.mono HB.out.size)⟩
    case measure=>
     simp only[intOf]
     omega
  ·have e:a=b:=by omega
   subst e
   by_cases hq:a<n
   ·have hq1:(a:Int)<n:=by omega
    obtain⟨-,-,g,off,rfl,hcell⟩:=(HI.out.keep HB.out).at_ hq
    have q0:wr.cell? ⟨g,off+a*4,none⟩=some (.int .i64 (S.num a)):=hcell 0 (by omega)
    have q1:wr.cell? ⟨g,off+a*4+1,none⟩=some (.bool (S.dir a)):=hcell 1 (by omega)
    have q2:wr.cell? ⟨g,off+a*4+2,none⟩=some (ev a):=hcell 2 (by omega)
    have q3:wr.cell? ⟨g,off+a*4+3,none⟩=some (.string (S.dat a)):=hcell 3 (by omega)
    obtain⟨EA,ecap,hev,-⟩:=HS.out.ent a (by rw[HNN.out];exact hq)
    rw[hev]at q2
    have HC:=lhi (Ly (S.num a) x (HNM.out a hq) hx (S.dir a) EA (S.ne a) ecap (S.dat a) wr)
    have HE:=lhi (show((S.num a - x)==0)=(S.num a==x)by rw[Bool.eq_iff_iff,beq_iff_eq,beq_iff_eq];omega)
    obtain⟨cv,hcv⟩: ∃c,S.num a - x=c:=⟨_,rfl⟩
    rw[hcv]at HC HE
    clear hcell hev hcv
    go_wp2_with (go_at_call 121;refine HC.out.mono ?_;rintro e w1 ⟨rfl,hb1⟩)
    go_ret2
    exact⟨⟨a,by omega,HLO.out,HHI.out,by simp[hq,<-HE.out]⟩,HB.out.trans (hb1.mono HB.out.size)⟩
   ·have hq1: ¬ (a:Int)<n:=by omega
    go_wp2_with (fail)
    go_ret2
    exact⟨⟨a,by omega,HLO.out,HHI.out,by simp[hq]⟩,HB.out⟩
theorem Yi{w:World}{base:Nat}{e:TypeId}{k g n cap:Nat}{xs:List Value}(h:w.ownsRow base e k (.slice (some ⟨g,0,none⟩) n cap) n xs){t:Nat}(ht:t<n*k):w.cell? ⟨g,t,none⟩=xs[t]?:=by
 rcases h.2 with⟨q,-⟩ | ⟨g',cap',cur,hv,-,hh,-,-,-,hx⟩
 ·cases q
 ·have e1:g=g':=by injection hv with e1;injection e1 with e1;injection e1
  subst e1
  rw[Blk.cell (show Blk w g e cur from hh),<-hx,List.getElem?_take,if_pos ht]
  simp
theorem StO.cell{w:World}{base g n cap:Nat}{ov mv:Value}{Iv:List InV}{S:St}(h:StO w base (.slice (some ⟨g,0,none⟩) n cap) ov mv Iv S)(hn:n=Iv.length){k j:Nat}(hk:k<Iv.length)(hj:j<4):w.cell? ⟨g,k*4+j,none⟩=(encI Iv[k])[j]?:=by
 subst hn
 rw[Yi h.ino (by omega),Hr (k:=4) (by decide) Db,show(k*4+j) / 4=k by omega,show(k*4+j) % 4=j by omega,Amh hk]
 rfl
theorem Oo{W:World}{base ob db g icap:Nat}{c:Ad}{r:ResV}{ov mv:Value}{Iv:List InV}{S:St}(h:Doer W base ob db c r (.slice (some ⟨g,0,none⟩) S.inodes.length icap) ov mv Iv S){k:Nat}(hk:k<S.inodes.length){s:ByteArray}{num:Int}(hr:Ky (S.ino k).ents)(hn:(S.ino k).ents.length<=1000)(hs: ∀e∈(S.ino k).ents,e.1≠s):
  Calls Tryz.prog 119 #[.pointer (some ⟨g,k*4,none⟩),.string s,.int .i64 num] W fun e w'=>e= .returned (.tuple #[])/\Below base W w'/\ ∃Iv',Doer w' base ob db c r (.slice (some ⟨g,0,none⟩) S.inodes.length icap) ov mv Iv' (S.setI k {S.ino k with ents:=insE (s,num) (S.ino k).ents}):=by
 have hl:=h.st.len'
 have hkI:k<Iv.length:=by omega
 have hino:=h.st.at_ hkI
 have hek:=h.st.ent k hkI
 have c2:=h.st.cell hl.symm hkI (show 2<4 by omega)
 obtain⟨p,hp⟩:=xx (Iv[k])
 rw[hp]at hino hek c2
 obtain⟨p1,ev⟩:=p
 replace hino:p1=S.ino k:=hino
 subst hino
 obtain⟨es,hes⟩:=xx ((S.ino k).ents)
 replace hek:W.ownsRow base 132 2 ev es.length (es.flatMap Ai):=by rw[<-hes];exact hek
 rw[hes]at hr hn hs⊢
 have HC:=lhi (Ku (Cc (by decide) Bn hek (Ee _)).at' hn s hr)
 have HEK:=lhi hek
 have HES:=lhi hes
 have HP:=lhi hp
 have H:=lhi h
 have HBS:=lhi h.bs
 have HS:=lhi hs
 obtain⟨EA,ecap,rfl,-⟩:=Aj hek
 replace c2:W.cell? ⟨g,k*4+2,none⟩=some (.slice EA es.length ecap):=c2
 clear hek hes hp h hl hs
 go_enter Tryz.func119,Tryz.ntmps119
 go_upto_region 1 with(go_at_call 93;refine HC.out.mono ?_;rintro e w1 ⟨⟨j,hj,h1,h2,rfl⟩,hb1⟩)
 have HB1:=lhi hb1
 have H1:=lhi (H.out.below hb1)
 replace c2:w1.cell? ⟨g,k*4+2,none⟩=some (.slice EA es.length ecap):=(hb1.cell (Amd _ _ c2)).trans c2
 have HEK1:=lhi (Bc HEK.out hb1)
 have HAT:=lhi (Ak6 (p:=(s,num)) hj h1 h2 HS.out)
 have HBL:=lhi (Blk.new w1 132 #[.string s,.int .i64 num])
 have HBA:=lhi ((Amf w1.heap.size w1).alloc (Ama _) (.cells #[.string s,.int .i64 num] 132))
 have HINS:=lhi (Zl (i:=j) (x:=(s,num)) (xb:=w1.heap.size) (Bc HEK1.out HBA.out) hj HBL.out (fun q=>by have:=(HEK1.out.lt _ q).2;omega) (fun y _=>Lm y) (by omega) (Aml H1.out.bs HBA.out.size))
 clear hb1 h1 h2 HC H HEK
 have H2:=lhi (H1.out.below HBA.out)
 obtain⟨w2,hw2⟩:=yy (w1.alloc (.cells #[.string s,.int .i64 num] 132))
 have HG:=lhi (Ag H2.out.st.ino rfl)
 have HEK2:=lhi (Bc HEK1.out HBA.out)
 rw[<-hw2]at HINS H2 HG HEK2 HBA
 clear HBL HEK1
 obtain⟨-,gcs,hG⟩:=HG.out
 have HGB:=lhi (show Blk w2 g 93 gcs from hG)
 have hne:(Value.slice EA es.length ecap).ownBlock≠some g:=Ah HEK2.out hG (by decide)
 have HNE:=lhi hne
 clear hG hne HG
 go_wp2_with (rw[<-hw2];clear hw2;go_at_call 172;refine HINS.out.mono ?_;rintro e w3 ⟨v',rfl,hown,hgr,hbl⟩;obtain⟨VA,vcap,rfl,-⟩:=Aj hown;have HOW:=lhi hown;have HGR:=lhi hgr;have HBB:=lhi hbl;clear hown hgr hbl HINS;have HG3:=lhi (Am HGB.out HGR.out HNE.out);have c3:w3.cell? ⟨g,k*4+2,none⟩=some (.slice EA es.length ecap):=(HGR.out.cell (a:=⟨g,k*4+2,none⟩) ((HBA.out.cell (Amd _ _ c2)).trans c2) (Ne.symm HNE.out));have f3:w3.frozen? ⟨g,k*4+2,none⟩=false:=HG3.out.frozen _)
 go_end0
 have hl:=H2.out.st.len'
 have hp:=HP.out
 have hb: ∀q,(Value.slice EA es.length ecap).ownBlock=some q->base<=q:=fun q hq=>(HEK2.out.lt q hq).1
 have hst:=H2.out.st.putE (w1:=w3) (k:=k) hkI hl.symm (by rw[hp];exact HGR.out) (L:=insE (s,num) es) (v':=.slice VA (es.length+1) vcap) (by
  rw[<-HAT.out]
  have e:(es.take j++(s,num)::es.drop j).length=es.length+1:=by rw[Ami,List.length_cons,List.length_take,List.length_drop];omega
  rw[e]
  exact HOW.out) (by rw[hp];exact HBB.out)
 have hs0:=HB1.out.size
 have hs1:=HBA.out.size
 have hbs:=HBS.out
 have hgb:base<=g:=(H2.out.st.ino.lt g rfl).1
 have hbw:Below base W (w3.setCell ⟨g,k*4+2,none⟩ (.slice VA (es.length+1) vcap)):=(((HB1.out.mono hbs).trans (HBA.out.mono (by omega))).trans (Bg HGR.out (by omega) hb)).setCell (p:=⟨g,k*4+2,none⟩) hgb _
 rw[hp]at hst
 refine⟨rfl,hbw,Iv.set k ({S.ino k with ents:=insE (s,num) es},.slice VA (es.length+1) vcap),H2.out.ob_,H2.out.db_,?_,?_,hst⟩
 ·exact(Am H2.out.o HGR.out (Ah HEK2.out H2.out.o (by decide))).far (p:=⟨g,k*4+2,none⟩) (Blk.ne_ (Am H2.out.o HGR.out (Ah HEK2.out H2.out.o (by decide))) HG3.out (by decide)) _
 ·exact(Am H2.out.d HGR.out (Ah HEK2.out H2.out.d (by decide))).far (p:=⟨g,k*4+2,none⟩) (Blk.ne_ (Am H2.out.d HGR.out (Ah HEK2.out H2.out.d (by decide))) HG3.out (by decide)) _
end Go.Proofs.YtkebjgebkneijaaGreat
