/- Texts of one's own that a claim's last text rests on: Byt Wk Mf10 Mf11. -/
import Derived.Test.YtkebjgebkneijaaGreatMG4
import Derived.Laws.CopyRow
import Derived.Laws.IdiomStrings
set_option linter.unusedVariables false
set_option linter.unusedSimpArgs false
namespace Go.Proofs.YtkebjgebkneijaaGreat
open Go.RowKit
set_option maxHeartbeats 16000000
set_option maxRecDepth 1000000
def Fr(l:List UInt8):List Value:=l.map fun b=>Value.int .u8 b.toNat
def Cf(l:List UInt8):Array Value:=(Fr l).toArray
theorem Td(l:List UInt8):(Fr l).length=l.length:=List.length_map ..
theorem Aca(l:List UInt8): ∀v∈Fr l,v.oneCell'=true:=by
 intro v hv
 obtain⟨b,_,rfl⟩:=List.mem_map.1 hv
 rfl
theorem Jp{P:Program}{w:World}{dT sT ty elem:TypeId}(hu:P.underlying dT=some (.slice elem))(hs:(P.info? elem).map (·.size)=some 1){g o dLen dCap:Nat}{t:TypeId}{l:List UInt8}(hb:Blk w g t (Cf l))(hfit:o+dLen<=l.length)(s:ByteArray){n:Nat}(hn:n=Nat.min s.size dLen):
  (Builtin.copy_ #[dT,sT] ty #[.slice (some ⟨g,o,none⟩) dLen dCap,.string s]).run P w= .ok (goInt n) (w.setRow g (Cf (l.take o++s.data.toList.take n++l.drop (o+n)))):=by
 have hle:n<=dLen:=by rw[hn];exact Nat.min_le_right _ _
 have hle2:n<=s.size:=by rw[hn];exact Nat.min_le_left _ _
 have hce:(s.extract 0 n).data.toList=s.data.toList.take n:=by simp
 obtain⟨cs,hcs⟩: ∃cs:List UInt8,cs=(s.extract 0 n).data.toList:=⟨_,rfl⟩
 have hcl:cs.length=n:=by
  rw[hcs,Array.length_toList]
  show(s.extract 0 n).size=n
  rw[ByteArray.size_extract];omega
 have hsz:(Cf l).size=l.length:=by unfold Cf;rw[List.size_toArray,Td]
 have hst:=run_storeCells_at (P:=P) g o t (Fr cs) 0 (Cf l) w hb (by rw[Td,hsz];omega) (Aca _)
 rw[<-hce,<-hcs]
 have he:Cf (l.take o++cs++l.drop (o+n))=((Cf l).toList.take (o+0)++Fr cs++(Cf l).toList.drop (o+0+ (Fr cs).length)).toArray:=by
  unfold Cf Fr
  simp[hcl,List.map_take,List.map_drop]
 rw[he]
 have hfc:(s.extract 0 n).data.map (fun b=>Value.int .u8 (b.toNat:Int))=(Fr cs).toArray:=by
  unfold Fr
  rw[hcs]
  apply Array.ext'
  simp
 cases hq:P.info? elem with
 | none=>simp[hq]at hs
 | some i=>
  have hi:i.size=1:=by simpa[hq]using hs
  have hfc2:(s.extract 0 (Nat.min s.size dLen)).data.map (fun b=>Value.int .u8 (b.toNat:Int))=(Fr cs).toArray:=by rw[<-hn];exact hfc
  have hfc3:(Builtin.firstCells 1 (Nat.min s.size dLen) (.string s)).run P w= .ok (Fr cs).toArray w:=by
   show Sem.run P (pure _) w=_
   rw[hfc2];rfl
  simp[Builtin.copy_,run_underlying hu,Builtin.lenOf,sizeOf,typeInfo,hq,hi]
  rw[hfc3]
  simp only[Result.andThen_ok]
  rw[hst]
  simp[<-hn]
theorem Jn{w:World}{g:Nat}{t:TypeId}{cs:Array Value}(h:Blk w g t cs)(cs':Array Value):Blk (w.setRow g cs') g t cs':=setRow_heap w g cs cs' t (0,0) h
theorem Fc{w w':World}{b g:Nat}(h:Below b w w')(hg:b<=g)(cs:Array Value):Below b w (w'.setRow g cs):=
 ⟨h.os,h.tape,h.output,by simpa[World.setRow]using h.size,fun k hk=>by rw[setRow_other w' g k cs (by omega)];exact h.block k hk⟩
theorem Ac7:(Tryz.prog.info? 5).map (fun i=>(i.zero,i.size,i.bytes))=some (some (.int .u8 0),1,1):=by kernel_rfl
theorem Qa(k:Nat):(List.replicate k (Value.int .u8 0)).toArray=Cf (List.replicate k 0):=by
 unfold Cf Fr
 rw[List.map_replicate];rfl
theorem Aah{P:Program}{w:World}{src dst e t:TypeId}(hs:P.underlying src=some (.slice e))(he:P.underlying e=some (.int .u8))(hd:P.underlying dst=some .string){g n:Nat}{l:List UInt8}(hb:Blk w g t (Cf l))(hn:l.length=n)(cap:Nat):
  (convert src dst (.slice (some ⟨g,0,none⟩) n cap)).run P w= .ok (.string ⟨l.toArray⟩) w:=by
 subst hn
 refine run_convert_bytes_back w src dst e ⟨g,0,none⟩ cap l hs he hd fun j hj=>?_
 rw[Addr.add_lit,Nat.zero_add,hb.cell j]
 unfold Cf Fr
 simp[hj]
def cutF(d:ByteArray)(k:Nat):ByteArray:=⟨(d.data.toList.take (Nat.min d.size k)++(List.replicate k 0).drop (Nat.min d.size k)).toArray⟩
def Cx(d:ByteArray)(off n:Nat):ByteArray:=if d.size<=off then⟨#[]⟩else d.extract off (min d.size (off+n))
theorem Ve(s:ByteArray)(k:Nat)(hk:k<=1000)(w:World):Calls Tryz.prog 131 #[.string s,.int .i64 k] w fun e w'=>e= .returned (.string (cutF s k))/\Below w.heap.size w w':=by
 obtain⟨i0_,hi,hz0,hz1,hz2⟩:=info_parts Ac7
 have hmk:(Instr.makeSlice 95 (.int .i64 k) (.int .i64 k)).run Tryz.prog w= .ok (.slice (some ⟨w.heap.size,0,none⟩) k k) (w.alloc (.cells (Cf (List.replicate k 0)) 5)):=by
  have h:=Ci (P:=Tryz.prog) (w:=w) 95 5 i0_ _ Tryz.underlying95 hi hz0 .i64 .i64 k k (Ama _) (by rw[hz2];omega) (by omega)
  simp only[hz1,Nat.mul_one,Value.cells,Dl,Qa]at h
  exact h
 have HB:=lhi (Blk.new w 5 (Cf (List.replicate k 0)))
 obtain⟨n,hn⟩:=yy (Nat.min s.size k)
 obtain⟨l',hl'⟩:=yy ((List.replicate k (0:UInt8)).take 0++s.data.toList.take n++(List.replicate k 0).drop (0+n))
 have hlk:l'.length=k:=by
  have h1:n<=k:=by rw[hn];exact Nat.min_le_right _ _
  have h2:n<=s.size:=by rw[hn];exact Nat.min_le_left _ _
  have h3:s.data.toList.length=s.size:=by simp
  rw[hl',Ami,Ami,List.length_take,List.length_take,List.length_drop,List.length_replicate,h3];omega
 have hcp:=Jp (P:=Tryz.prog) (dT:=95) (sT:=9) (ty:=3) (elem:=5) Tryz.underlying95 (by rw[hi];simp[hz1]) (g:=w.heap.size) (o:=0) (dLen:=k) (dCap:=k) HB.out (by simp) s hn
 rw[<-hl']at hcp
 have hcv:=Aah (P:=Tryz.prog) (w:=(w.alloc (.cells (Cf (List.replicate k 0)) 5)).setRow w.heap.size (Cf l')) (src:=95) (dst:=9) (e:=5) Tryz.underlying95 Tryz.underlying5 Tryz.underlying9 (Jn HB.out (Cf l')) hlk k
 have HE:=lhi (show(⟨l'.toArray⟩:ByteArray)=cutF s k by rw[hl',hn];simp[cutF])
 clear hl' hn hlk
 go_enter Tryz.func131,Tryz.ntmps131
 go_wp2_with (fail)
 refine bodyPost_ret (results_tmp rfl _ _ _) rfl ?_
 refine⟨?_,Fc (Br w _) (Ama _) _⟩
 rw[<-HE.out]
 rfl
theorem Pf(s:ByteArray)(off n:Nat)(hs:s.size<=1000)(ho:off<=1000)(hn:n<=1000)(w:World):Calls Tryz.prog 129 #[.string s,.int .i64 off,.int .i64 n] w fun e w'=>e= .returned (.string (Cx s off n))/\w=w':=by
 unfold Cx
 by_cases h:s.size<=off
 ·have h':decide (s.size<=off)=true:=by simpa using h
  rw[if_pos h]
  go_enter Tryz.func129,Tryz.ntmps129
  go_wp2_with (fail)
  go_ret
  exact⟨rfl,rfl⟩
 ·have h':decide (s.size<=off)=false:=by simpa using h
  rw[if_neg h]
  by_cases h2:s.size<=off+n
  ·have h3:(s.size:Int)<=off+n:=by omega
   rw[show min s.size (off+n)=s.size by omega]
   have hm:min (s.size:Int) ((off:Int)+n)=s.size:=by omega
   clear h2
   go_enter Tryz.func129,Tryz.ntmps129
   go_wp2_with (fail)
   all_goals
    go_ret
    exact⟨rfl,rfl⟩
  ·have h3:(off:Int)+n<s.size:=by omega
   rw[show min s.size (off+n)=((off:Int)+n).toNat by omega]
   have hm:min (s.size:Int) ((off:Int)+n)=(off:Int)+n:=by omega
   clear h2
   go_enter Tryz.func129,Tryz.ntmps129
   go_wp2_with (fail)
   go_ret
   exact⟨rfl,rfl⟩
theorem Tt(n:Nat)(hn:n<=1000)(w:World):Calls Tryz.prog 141 #[.int .i64 n] w fun e w'=>e= .returned (.int .i64 (((n+15) / 16:Nat):Int))/\w=w':=by
 go_enter Tryz.func141,Tryz.ntmps141
 go_wp2_with (fail)
 go_ret
 exact⟨Nd (by omega),rfl⟩
structure LB where
 g:Nat
 t:TypeId
 cs:Array Value
structure RB where
 t:TypeId
 k:Nat
 v:Value
 n:Nat
 xs:List Value
structure Wk (L:Nat->Prop) (w:World) (s:Nat) (M:Mem) (Bs:List LB) (Rs:List RB) (W:World):Prop where
 ex: ∃K:Nat->Prop,(∀b,L b->K b)/\Ab K W s M/\ (∀x∈Bs,K x.g/\w.heap.size<=x.g/\Blk W x.g x.t x.cs)/\
  (∀r∈Rs,W.ownsRow w.heap.size r.t r.k r.v r.n r.xs/\ ∀q,r.v.ownBlock=some q->K q)
 kp:Kp L w W
 bb:Bs.Pairwise (fun x y=>x.g≠y.g)
 br: ∀x∈Bs,∀r∈Rs,r.v.ownBlock≠some x.g
 rr:Rs.Pairwise (fun x y=>∀q,x.v.ownBlock=some q->y.v.ownBlock≠some q)
theorem KI.setNew{w W:World}(h:KI w W){g:Nat}(hg:w.heap.size<=g)(i:Nat)(u:Value):KI w (W.setCell ⟨g,i,none⟩ u):=fun b t cs ht hb=>(h b t cs ht hb).far (p:=⟨g,i,none⟩) (show b≠g by have:=hb.lt;omega) u
namespace Wk
variable{L:Nat->Prop}{w W W':World}{s:Nat}{M M':Mem}{Bs:List LB}{Rs:List RB}
theorem start(h:Ab L w s M):Wk L w s M [] [] w:=⟨⟨L,fun _ h=>h,h,fun _ h=>by simp at h,fun _ h=>by simp at h⟩,Kp.refl _ _,List.Pairwise.nil,fun _ h=>by simp at h,List.Pairwise.nil⟩
theorem mem(h:Wk L w s M Bs Rs W):Ab L W s M:=by obtain⟨K,h1,h2,-⟩:=h.ex;exact h2.sub h1
theorem blk(h:Wk L w s M Bs Rs W){x:LB}(hx:x∈Bs):Blk W x.g x.t x.cs:=by obtain⟨K,-,-,h3,-⟩:=h.ex;exact(h3 x hx).2.2
theorem bk(h:Wk L w s M Bs Rs W){g:Nat}{t:TypeId}{cs:Array Value}(hx:(⟨g,t,cs⟩:LB)∈Bs):Blk W g t cs:=h.blk hx
theorem row(h:Wk L w s M Bs Rs W){r:RB}(hr:r∈Rs):W.ownsRow w.heap.size r.t r.k r.v r.n r.xs:=by obtain⟨K,-,-,-,h4⟩:=h.ex;exact(h4 r hr).1
theorem size(h:Wk L w s M Bs Rs W):w.heap.size<=W.heap.size:=h.kp.size
theorem below(h:Wk L w s M Bs Rs W)(hb:Below W.heap.size W W')(hl:Bd L w):Wk L w s M Bs Rs W':=by
 obtain⟨K,h1,h2,h3,h4⟩:=h.ex
 exact⟨⟨K,h1,h2.below hb,fun x hx=>⟨(h3 x hx).1,(h3 x hx).2.1,Blk.of_heap (hb.block _ (h3 x hx).2.2.lt) (h3 x hx).2.2⟩,fun r hr=>⟨Bc (h4 r hr).1 hb,(h4 r hr).2⟩⟩,h.kp.trans (Kp.below (h.kp.bd hl) hb),h.bb,h.br,h.rr⟩
theorem drew(h:Wk L w s M Bs Rs W):Wk L w s M Bs Rs W.drew:=by
 obtain⟨K,h1,h2,h3,h4⟩:=h.ex
 exact⟨⟨K,h1,h2.drew,h3,h4⟩,h.kp.drew,h.bb,h.br,h.rr⟩
theorem drewN(h:Wk L w s M Bs Rs W)(n:Nat):Wk L w s M Bs Rs (W.drewN n):=by
 obtain⟨K,h1,h2,h3,h4⟩:=h.ex
 exact⟨⟨K,h1,h2.drewN n,h3,h4⟩,h.kp.drewN n,h.bb,h.br,h.rr⟩
theorem row_lt(h:Wk L w s M Bs Rs W){r:RB}(hr:r∈Rs){q:Nat}(hq:r.v.ownBlock=some q):q<W.heap.size:=((h.row hr).lt q hq).2
theorem alloc(h:Wk L w s M Bs Rs W)(hl:Bd L w)(cs:Array Value)(t:TypeId):Wk L w s M (⟨W.heap.size,t,cs⟩::Bs) Rs (W.alloc (.cells cs t)):=by
 have hb:Below W.heap.size W (W.alloc (.cells cs t)):=(Amf _ _).alloc (Ama _) _
 have h':=h.below hb hl
 obtain⟨K,h1,h2,h3,h4⟩:=h.ex
 refine⟨⟨ins K W.heap.size,fun b hb=>ins.old (h1 b hb),h2.allocIns _,?_,fun r hr=>⟨Bc (h4 r hr).1 hb,fun q hq=>ins.old ((h4 r hr).2 q hq)⟩⟩,h'.kp,?_,?_,h.rr⟩
 ·intro x hx
  rcases List.mem_cons.1 hx with rfl | hx
  ·exact⟨ins.new _ _,h.size,Blk.new _ _ _⟩
  ·exact⟨ins.old (h3 x hx).1,(h3 x hx).2.1,(h3 x hx).2.2.alloc _⟩
 ·refine List.pairwise_cons.2 ⟨fun y hy=>?_,h.bb⟩
  have:=(h3 y hy).2.2.lt
  show W.heap.size≠y.g
  omega
 ·intro x hx r hr
  rcases List.mem_cons.1 hx with rfl | hx
  ·intro e
   have:=h.row_lt hr e
   exact absurd this (Nat.lt_irrefl _)
  ·exact h.br x hx r hr
theorem set0{x:LB}(h:Wk L w s M (x::Bs) Rs W)(hl:Bd L w)(i:Nat)(u:Value):Wk L w s M (⟨x.g,x.t,x.cs.setIfInBounds i u⟩::Bs) Rs (W.setCell ⟨x.g,i,none⟩ u):=by
 obtain⟨K,h1,h2,h3,h4⟩:=h.ex
 have hx:=h3 x (Amb ..)
 have hn: ¬ L x.g:=fun q=>absurd (hl _ q) (by omega)
 obtain⟨p1,p2⟩:=List.pairwise_cons.1 h.bb
 refine⟨⟨K,h1,h2.set hx.2.2 hx.1 i u,?_,fun r hr=>⟨ownsRow_setCell_other (h4 r hr).1 (a:=⟨x.g,i,none⟩) (h.br x (Amb ..) r hr) u,(h4 r hr).2⟩⟩,⟨h.kp.k.setCell (p:=⟨x.g,i,none⟩) hn u,h.kp.i.setNew hx.2.1 i u⟩,List.pairwise_cons.2 ⟨p1,p2⟩,?_,h.rr⟩
 ·intro y hy
  rcases List.mem_cons.1 hy with rfl | hy
  ·exact⟨hx.1,hx.2.1,hx.2.2.set_ i u⟩
  ·have h5:=h3 y (Amc _ hy)
   exact⟨h5.1,h5.2.1,h5.2.2.far (p:=⟨x.g,i,none⟩) (Ne.symm (p1 y hy)) u⟩
 ·intro y hy r hr
  rcases List.mem_cons.1 hy with rfl | hy
  ·exact h.br x (Amb ..) r hr
  ·exact h.br y (Amc _ hy) r hr
theorem permB{Bs':List LB}(h:Wk L w s M Bs Rs W)(hp:Bs.Perm Bs'):Wk L w s M Bs' Rs W:=by
 obtain⟨K,h1,h2,h3,h4⟩:=h.ex
 exact⟨⟨K,h1,h2,fun x hx=>h3 x (hp.mem_iff.2 hx),h4⟩,h.kp,hp.pairwise h.bb (fun h=>Ne.symm h),fun x hx r hr=>h.br x (hp.mem_iff.2 hx) r hr,h.rr⟩
theorem swap{x y:LB}(h:Wk L w s M (x::y::Bs) Rs W):Wk L w s M (y::x::Bs) Rs W:=h.permB (List.Perm.swap ..)
theorem set1{x y:LB}(h:Wk L w s M (y::x::Bs) Rs W)(hl:Bd L w)(i:Nat)(u:Value):Wk L w s M (y::⟨x.g,x.t,x.cs.setIfInBounds i u⟩::Bs) Rs (W.setCell ⟨x.g,i,none⟩ u):=(h.swap.set0 hl i u).swap
theorem drop0{x:LB}(h:Wk L w s M (x::Bs) Rs W):Wk L w s M Bs Rs W:=by
 obtain⟨K,h1,h2,h3,h4⟩:=h.ex
 exact⟨⟨K,h1,h2,fun x hx=>h3 x (Amc _ hx),h4⟩,h.kp,(List.pairwise_cons.1 h.bb).2,fun x hx=>h.br x (Amc _ hx),h.rr⟩
theorem sub{Bs':List LB}(h:Wk L w s M Bs Rs W)(hs:Bs'.Sublist Bs):Wk L w s M Bs' Rs W:=by
 obtain⟨K,h1,h2,h3,h4⟩:=h.ex
 exact⟨⟨K,h1,h2,fun x hx=>h3 x (hs.subset hx),h4⟩,h.kp,h.bb.sublist hs,fun x hx=>h.br x (hs.subset hx),h.rr⟩
theorem call(h:Wk L w s M Bs Rs W){P:FuncId}{args:Array Value}{R:Ending->World->Prop}
  (hc: ∀K,Ab K W s M->Calls Tryz.prog P args W fun e w'=>R e w'/\Ab K w' s M'/\Kp K W w'):
  Calls Tryz.prog P args W fun e w'=>R e w'/\Wk L w s M' Bs Rs w':=by
 obtain⟨K,h1,h2,h3,h4⟩:=h.ex
 refine(hc K h2).mono ?_
 rintro e w' ⟨hr,hm,hk⟩
 refine⟨hr,⟨K,h1,hm,fun x hx=>⟨(h3 x hx).1,(h3 x hx).2.1,hk.blk (h3 x hx).2.2 (h3 x hx).1⟩,fun r hr=>⟨?_,(h4 r hr).2⟩⟩,h.kp.trans (hk.sub h1),h.bb,h.br,h.rr⟩
 obtain⟨o1,o2⟩:=h4 r hr
 refine⟨o1.1,?_⟩
 rcases o1.2 with q | ⟨g,cap,cur,hv,hg,hh,rest⟩
 ·exact .inl q
 ·refine .inr ⟨g,cap,cur,hv,hg,?_,rest⟩
  rw[hk.k.block g (o2 g (by rw[hv];rfl))]
  exact hh
theorem callL(h:Wk L w s M Bs Rs W){P:FuncId}{args:Array Value}{R:Ending->World->Prop}
  (hc: ∀K,(∀b,L b->K b)->(∀x∈Bs,K x.g)->Ab K W s M->Calls Tryz.prog P args W fun e w'=>R e w'/\Ab K w' s M'/\Kp K W w'):
  Calls Tryz.prog P args W fun e w'=>R e w'/\Wk L w s M' Bs Rs w':=by
 obtain⟨K,h1,h2,h3,h4⟩:=h.ex
 refine(hc K h1 (fun x hx=>(h3 x hx).1) h2).mono ?_
 rintro e w' ⟨hr,hm,hk⟩
 refine⟨hr,⟨K,h1,hm,fun x hx=>⟨(h3 x hx).1,(h3 x hx).2.1,hk.blk (h3 x hx).2.2 (h3 x hx).1⟩,fun r hr=>⟨?_,(h4 r hr).2⟩⟩,h.kp.trans (hk.sub h1),h.bb,h.br,h.rr⟩
 obtain⟨o1,o2⟩:=h4 r hr
 refine⟨o1.1,?_⟩
 rcases o1.2 with q | ⟨g,cap,cur,hv,hg,hh,rest⟩
 ·exact .inl q
 ·refine .inr ⟨g,cap,cur,hv,hg,?_,rest⟩
  rw[hk.k.block g (o2 g (by rw[hv];rfl))]
  exact hh
theorem callNew{W0:World}(h:Wk L w s M Bs Rs W0)(hl:Bd L w)(hb:Below W0.heap.size W0 W){P:FuncId}{args:Array Value}{R:Ending->World->Prop}
  (hc: ∀K,(∀b,L b->K b)->Bd K W0->Ab K W s M->Calls Tryz.prog P args W fun e w'=>R e w'/\Ab K w' s M'/\Kp K W w'):
  Calls Tryz.prog P args W fun e w'=>R e w'/\Wk L w s M' Bs Rs w':=by
 obtain⟨K,h1,h2,h3,h4⟩:=h.ex
 refine(hc K h1 h2.bd (h2.below hb)).mono ?_
 rintro e w' ⟨hr,hm,hk⟩
 have hk0: ∀b,K b->w'.heap[b]? =W0.heap[b]?:=fun b q=>(hk.k.block b q).trans (hb.block b (h2.bd b q))
 refine⟨hr,⟨K,h1,hm,fun x hx=>⟨(h3 x hx).1,(h3 x hx).2.1,Blk.of_heap (hk0 _ (h3 x hx).1) (h3 x hx).2.2⟩,fun r hr=>⟨?_,(h4 r hr).2⟩⟩,(h.kp.trans (Kp.below (h.kp.bd hl) hb)).trans (hk.sub h1),h.bb,h.br,h.rr⟩
 obtain⟨o1,o2⟩:=h4 r hr
 refine⟨o1.1,?_⟩
 rcases o1.2 with q | ⟨g,cap,cur,hv,hg,hh,rest⟩
 ·exact .inl q
 ·refine .inr ⟨g,cap,cur,hv,hg,?_,rest⟩
  rw[hk0 g (o2 g (by rw[hv];rfl))]
  exact hh
theorem adopt{W0:World}(h:Wk L w s M Bs Rs W0)(hl:Bd L w)(hb:Below W0.heap.size W0 W){g:Nat}{t:TypeId}{cs:Array Value}(hg:Blk W g t cs)(hn:W0.heap.size<=g):Wk L w s M (⟨g,t,cs⟩::Bs) Rs W:=by
 have h':=h.below hb hl
 obtain⟨K,h1,h2,h3,h4⟩:=h.ex
 have hm:Ab (ins K g) W s M:=(h2.fresh hb).sub fun b q=>by
  rcases q with q | q
  ·exact .inl q
  ·exact .inr ⟨by omega,by rw[q];exact hg.lt⟩
 refine⟨⟨ins K g,fun b hb=>ins.old (h1 b hb),hm,?_,fun r hr=>⟨Bc (h4 r hr).1 hb,fun q hq=>ins.old ((h4 r hr).2 q hq)⟩⟩,h'.kp,?_,?_,h.rr⟩
 ·intro x hx
  rcases List.mem_cons.1 hx with rfl | hx
  ·exact⟨ins.new _ _,Aml h.size hn,hg⟩
  ·exact⟨ins.old (h3 x hx).1,(h3 x hx).2.1,Blk.of_heap (hb.block _ (h3 x hx).2.2.lt) (h3 x hx).2.2⟩
 ·refine List.pairwise_cons.2 ⟨fun y hy=>?_,h.bb⟩
  have:=(h3 y hy).2.2.lt
  show g≠y.g
  omega
 ·intro x hx r hr
  rcases List.mem_cons.1 hx with rfl | hx
  ·intro e
   have:=h.row_lt hr e
   exact absurd this (by show ¬ g<W0.heap.size;omega)
  ·exact h.br x hx r hr
theorem nilRow(h:Wk L w s M Bs Rs W)(t:TypeId)(k:Nat):Wk L w s M Bs (⟨t,k,.slice none 0 0,0,[]⟩::Rs) W:=by
 obtain⟨K,h1,h2,h3,h4⟩:=h.ex
 refine⟨⟨K,h1,h2,h3,fun r hr=>?_⟩,h.kp,h.bb,fun x hx r hr=>?_,List.pairwise_cons.2 ⟨fun y _ q hq=>(by cases hq),h.rr⟩⟩
 ·rcases List.mem_cons.1 hr with rfl | hr
  ·exact⟨World.ownsRow_nil _ _ _ _,fun q hq=>by cases hq⟩
  ·exact h4 r hr
 ·rcases List.mem_cons.1 hr with rfl | hr
  ·intro e;cases e
  ·exact h.br x hx r hr
theorem app{r:RB}(h:Wk L w s M Bs (r::Rs) W)(hl:Bd L w){v':Value}{n':Nat}{xs':List Value}(ho:W'.ownsRow w.heap.size r.t r.k v' n' xs')(hg:W.grownBy W' r.v.ownBlock)
  (hat: ∀q,v'.ownBlock=some q->r.v.ownBlock=some q∨q=W.heap.size):Wk L w s M Bs (⟨r.t,r.k,v',n',xs'⟩::Rs) W':=by
 obtain⟨K,h1,h2,h3,h4⟩:=h.ex
 have hr:=h4 r (Amb ..)
 have hn: ∀q,r.v.ownBlock=some q-> ¬ L q:=fun q hq hq2=>absurd (hl _ hq2) (by have:=(hr.1.lt q hq).1;omega)
 have kk:KI w W':=fun b t cs hs hb=>by
  have hb2:=h.kp.i b t cs hs hb
  exact Blk.of_heap (hg.block b hb2.lt (fun e=>absurd (hr.1.lt b e.symm).1 (by have:=hb.lt;omega))) hb2
 obtain⟨q1,q2⟩:=List.pairwise_cons.1 h.rr
 have hK:Bd (fun b=>K b∨v'.ownBlock=some b) W':=fun b hb=>by
  rcases hb with hb | hb
  ·exact Amk (h2.bd b hb) hg.size
  ·exact(ho.lt b hb).2
 refine⟨⟨fun b=>K b∨v'.ownBlock=some b,fun b hb=>.inl (h1 b hb),h2.move hK hg.size (fun b hb hlt=>?_) (fun b hlt hb=>?_),fun x hx=>⟨.inl (h3 x hx).1,(h3 x hx).2.1,Blk.of_heap (hg.block _ (h3 x hx).2.2.lt (fun e=>h.br x hx r (Amb ..) e.symm)) (h3 x hx).2.2⟩,fun y hy=>?_⟩,⟨h.kp.k.trans ⟨hg.os,hg.tape,hg.output,hg.size,fun b hb=>hg.block b (h.kp.bd hl b hb) (fun e=>hn b e.symm hb)⟩,kk⟩,h.bb,fun x hx y hy=>?_,?_⟩
 ·rcases hb with hb | hb
  ·exact hb
  ·rcases hat b hb with e | e
   ·exact hr.2 b e
   ·omega
 ·refine hg.block b hlt (fun e=>hb (hr.2 b e.symm))
 ·rcases List.mem_cons.1 hy with rfl | hy
  ·exact⟨ho,fun q hq=>.inr hq⟩
  ·obtain⟨o1,o2⟩:=h4 y (Amc _ hy)
   refine⟨⟨o1.1,?_⟩,fun q hq=>.inl (o2 q hq)⟩
   rcases o1.2 with q | ⟨g,cap,cur,hv,hg2,hh,rest⟩
   ·exact .inl q
   ·refine .inr ⟨g,cap,cur,hv,hg2,?_,rest⟩
    rw[hg.block g (lt_of_block hh) (fun e=>q1 y hy g e.symm (by rw[hv];rfl))]
    exact hh
 ·rcases List.mem_cons.1 hy with rfl | hy
  ·intro e
   rcases hat _ e with e2 | e2
   ·exact h.br x hx r (Amb ..) e2
   ·have:=(h3 x hx).2.2.lt;omega
  ·exact h.br x hx y (Amc _ hy)
 ·refine List.pairwise_cons.2 ⟨fun y hy q hq=>?_,q2⟩
  rcases hat q hq with e | e
  ·exact q1 y hy q e
  ·intro e2
   have:=h.row_lt (Amc _ hy) e2
   omega
end Wk
structure Mem.fit (M:Mem):Prop where
 bk: ∀num b,1<=num/\num<=257->0<=b/\b<8->M.isBkt num b/\rd M.ws (wd num b)<=1000000000000
 it: ∀num b,1<=num/\num<=257->0<=b/\b<8->(M.bkt num b).length<=1000/\ ∀i∈M.bkt num b,1<=i.num/\i.num<=257
theorem Mem.at_see(M:Mem)(c i j:Int):(M.see c i).at_ j=M.at_ j:=by unfold Mem.see;split <;> rfl
theorem Mem.bkt_see(M:Mem)(c i num b:Int):(M.see c i).bkt num b=M.bkt num b:=by unfold Mem.see;split <;> rfl
theorem Mem.ws_see(M:Mem)(c i:Int):(M.see c i).ws=M.ws:=by unfold Mem.see;split <;> rfl
theorem Mem.fine_see(M:Mem)(c i j:Int):(M.see c i).fine j↔M.fine j:=by unfold Mem.see;split <;> exact Iff.rfl
theorem Mem.fit.see{M:Mem}(h:M.fit)(c i:Int):(M.see c i).fit:=by
 refine⟨fun num b h1 h2=>?_,fun num b h1 h2=>?_⟩
 ·obtain⟨⟨q1,q2⟩,q3⟩:=h.bk num b h1 h2
  exact⟨⟨(M.fine_see c i _).2 q1,fun t ht=>q2 t (by rw[<-M.at_see c i];exact ht)⟩,by rw[M.ws_see];exact q3⟩
 ·rw[M.bkt_see];exact h.it num b h1 h2
inductive Aaz where
 | at_ (it:Item)
 | bad (code:Int)
def Ch(c:Int):List ByteArray->Mem->Item->Aaz×Mem
 | [],M,it=>(.at_ it,M)
 | n::ns,M,it=>
  if it.dir=false then(.bad 7,M)
  else match(M.bkt it.num (Aa n:Nat)).find? (Item.is n)with
   | none=>(.bad 1,M.see c (wd it.num (Aa n:Nat)))
   | some i=>Ch c ns (M.see c (wd it.num (Aa n:Nat))) i
def Av:Item:=⟨⟨#[]⟩,1,true⟩
def Akh(e:Ending):Aaz->Prop
 | .at_ it=>∃tn tc ta,e= .returned (.agg #[.string it.name,.int .i64 it.num,.bool it.dir,.slice ta tn tc])
 | .bad code=>e=Ki code
namespace Wk
variable{L:Nat->Prop}{w W W':World}{s:Nat}{M M':Mem}{Bs:List LB}{Rs:List RB}{m:Nat}
theorem set0'(hl:Bd L w){T:TypeId}{g:Nat}{a b d x y z:Value}(h:Wk L w s M (⟨g,T,#[a,b,d]⟩::Bs) Rs W):
  Wk L w s M (⟨g,T,#[x,y,z]⟩::Bs) Rs (((W.setCell ⟨g,0,none⟩ x).setCell ⟨g,1,none⟩ y).setCell ⟨g,2,none⟩ z):=((h.set0 hl 0 x).set0 hl 1 y).set0 hl 2 z
theorem allocAt(h:Wk L w s M Bs Rs W)(hl:Bd L w)(cs:Array Value)(t:TypeId){q:Nat}(hq:q=W.heap.size):Wk L w s M (⟨q,t,cs⟩::Bs) Rs (W.alloc (.cells cs t)):=hq▸h.alloc hl cs t
theorem bucket_wk(h:Wk L w s M Bs Rs W)(hok:M.ok m)(hm:m<=1000000000){c num b:Int}(hc:Who M c)(hn:1<=num/\num<=257)(hb:0<=b/\b<8)(hf:M.fit):
  Calls Tryz.prog 136 #[.agg #[.pointer (some ⟨s,0,none⟩),.int .i64 c],.int .i64 num,.int .i64 b] W fun e w'=>(∃v,e= .returned v/\ItB w' v (M.bkt num b))/\Wk L w s (M.see c (wd num b)) Bs Rs w':=
 h.call fun K hK=>Ij hK hok hm hc hn hb (hf.bk num b hn hb).1 (hf.bk num b hn hb).2
theorem old(h:Wk L w s M Bs Rs W){p:Addr}{v:Value}(hp:L p.block)(hc:w.cell? p=some v):W.cell? p=some v:=h.kp.cellOf hp hc
theorem fin(h:Wk L w s M Bs Rs W):Ab L W s M/\Kp L w W:=⟨h.mem,h.kp⟩
end Wk
theorem Un:(Tryz.prog.info? 3).map (fun i=>(i.zero,i.size,i.bytes))=some (some (.int .i64 0),1,8):=by kernel_rfl
theorem Qs{L:Nat->Prop}{w:World}{s:Nat}{M:Mem}{m:Nat}(h:Ab L w s M)(hok:M.ok m)(hm:m<=900000000){c:Int}(hc:0<=c/\c<M.ts.length)(hf:M.fit)
  {sp:Nat} (hL:L sp) (s0:w.cell? ⟨sp,0,none⟩=some (.pointer (some ⟨s,0,none⟩))) (s1:w.cell? ⟨sp,1,none⟩=some (.int .i64 c)) {v:Value} {ns:List ByteArray} (hv:NmB w v ns) (hn:ns.length<=100):
  Calls Tryz.prog 200 #[.pointer (some ⟨sp,0,none⟩),v] w fun e w'=>Akh e (Ch c ns M Av).1/\Ab L w' s (Ch c ns M Av).2/\Kp L w w':=by
 obtain⟨i0,hi,hz0,hz1,hz2⟩:=info_parts Un
 have HBD:=lhi h.bd
 obtain⟨p4,hp4⟩: ∃p,p=w.heap.size:=⟨_,rfl⟩
 obtain⟨p5,hp5⟩: ∃p,p=w.heap.size+1:=⟨_,rfl⟩
 obtain⟨n,hnn⟩:=xx ns.length
 have HW0:=lhi ((((Wk.start h).allocAt h.bd #[.string ⟨#[]⟩,.int .i64 0,.bool false,.slice none 0 0] 276 hp4).allocAt h.bd #[.string ⟨#[]⟩,.int .i64 1,.bool true,.slice none 0 0] 276 (q:=p5) (by rw[hp5];simp)).nilRow 3 1)
 obtain⟨A,cap,rfl,hcap,-⟩:=RowT.at' hv
 have HV:=lhi hv
 rw[hnn]at HV hcap hn⊢
 have HNN:=lhi hnn
 have HS:=lhi (show∀(M':Mem) (Bs:List LB) (W:World) (Rs:List RB) (x:List Value) (nu:Int) (a d e:Value),Wk L w s M' Bs Rs W->(⟨p5,276,#[a,.int .i64 nu,d,e]⟩:LB)∈Bs->(W.cell? ⟨sp,0,none⟩=some (.pointer (some ⟨s,0,none⟩))/\W.cell? ⟨sp,1,none⟩=some (.int .i64 c)/\W.cell? ⟨p5,1,none⟩=some (.int .i64 nu))from
  fun M' Bs W Rs x nu a d e hW hb=>⟨hW.old hL s0,hW.old hL s1,(hW.blk hb).cell 1⟩)
 have HOK0:=lhi hok
 have HF0:=lhi hf
 have HC0:=lhi hc
 have HP4:=lhi hp4
 have hm':=hm
 obtain⟨RES,hres⟩: ∃R,Ch c ns M Av=R:=⟨_,rfl⟩
 have HRES:=lhi hres
 rw[hres]
 clear h hok hf hc hv hnn hres
 go_enter Tryz.func200,Tryz.ntmps200
 go_wp2_with (fail)
 rw[<-hp5,<-hp4]
 clear hp4 hp5
 generalize (w.alloc (.cells #[.string ⟨#[]⟩,.int .i64 0,.bool false,.slice none 0 0] 276)).alloc (.cells #[.string ⟨#[]⟩,.int .i64 1,.bool true,.slice none 0 0] 276)=w1 at*
 go_loopw [14] (fun i wr=>∃(k:Nat) (Mk:Mem) (it:Item) (tv:Value) (th:List Value),i= .int .i64 k/\k<=n/\Wk L w s Mk [⟨p5,276,#[.string it.name,.int .i64 it.num,.bool it.dir,tv]⟩,⟨p4,276,#[.string ⟨#[]⟩,.int .i64 0,.bool false,.slice none 0 0]⟩] [⟨3,1,tv,k,th⟩] wr/\Ch c (ns.drop k) Mk it=RES/\Mk.ok (m+k)/\Mk.fit/\ (1<=it.num/\it.num<=257)/\Mk.ts.length=M.ts.length) (fun i _=>n - (intOf i).toNat)
 case atStart=>exact⟨0,M,Av,_,_,rfl,by omega,HW0.out,by rw[List.drop_zero];exact HRES.out,HOK0.out,HF0.out,⟨by decide,by decide⟩,rfl⟩
 case round=>
  obtain⟨k,Mk,it,tv,th,rfl,hk,hW,hwm,hok,hft,hnum,hts⟩:=hrel
  obtain⟨TA,tcap,rfl⟩: ∃A' cap',tv= .slice A' k cap':=by
   rcases(hW.row (.head _)).2 with⟨e,h0⟩ | ⟨g,cap',cur,e,_⟩
   ·exact⟨none,0,e.trans (by rw[show k=0 from h0])⟩
   ·exact⟨_,_,e⟩
  have HW:=lhi hW
  have HWM:=lhi hwm
  have HFT:=lhi hft
  have HNU:=lhi hnum
  have HTS:=lhi hts
  have HOK:=lhi hok
  by_cases hp:k<n
  ·have hp1:(k:Int)<n:=by omega
   have hvr:NmB wr (.slice A n cap) ns:=by rw[<-HNN.out]at HV⊢;exact RowT.heap HV.out fun q cs _ hq=>hW.kp.i q _ cs (.inr rfl) hq
   obtain⟨-,-,g,off,rfl,hcell⟩:=(RowT.at' hvr).at_ (i:=k) (by rw[HNN.out];exact hp)
   have q0:wr.cell? ⟨g,off+k,none⟩=some (.string (ns.getD k ByteArray.empty)):=by have:=hcell 0 (by omega);rwa [Nat.mul_one,Nat.add_zero]at this
   have hk':k<ns.length:=by rw[HNN.out];exact hp
   have HDR:=lhi (show ns.drop k=ns.getD k ByteArray.empty::ns.drop (k+1)by rw[List.drop_eq_getElem_cons hk'];simp[List.getD,hk'])
   have b0:wr.cell? ⟨p5,0,none⟩=some (.string it.name):=(hW.blk (.head _)).cell 0
   have b1:wr.cell? ⟨p5,1,none⟩=some (.int .i64 it.num):=(hW.blk (.head _)).cell 1
   have b2:wr.cell? ⟨p5,2,none⟩=some (.bool it.dir):=(hW.blk (.head _)).cell 2
   have b3:wr.cell? ⟨p5,3,none⟩=some (.slice TA k tcap):=(hW.blk (.head _)).cell 3
   obtain⟨nm,hnm⟩: ∃x,ns.getD k ByteArray.empty=x:=⟨_,rfl⟩
   rw[hnm]at HDR q0
   clear hcell hvr hk' hnm hW hwm hft hnum hts hok
   obtain⟨inm,inu,idr⟩:=it
   have HU:=lhi (show Ch c (nm::ns.drop (k+1)) Mk ⟨inm,inu,idr⟩=RES by rw[<-HDR.out];exact HWM.out)
   rcases Ql idr with rfl | rfl
   ·have HWA:=lhi (HW.out.below ((Amf _ _).alloc (Ama _) (.cells #[.int .i64 inu] 3)) HBD.out)
    have HOW:=lhi (show(wr.alloc (.cells #[.int .i64 inu] 3)).ownsRow w.heap.size 3 1 (.slice TA k tcap) k th from HWA.out.row (.head _))
    have hwsz:=HWA.out.size
    have HSZ:=lhi hwsz
    clear hwsz
    go_upto_region 7 with(first
     | (go_at_call 199;refine(Ec _ _).mono ?_;rintro e w' ⟨rfl,rfl⟩)
     | (at_builtin;refine wpList_append_lies _ rfl (.tmp 24) (.tmp 28) 28 rfl w.heap.size 3 i0 _ 1 8 Tryz.underlying28 hi hz0 hz1 hz2 rfl (by decide) (.slice TA k tcap) k th rfl HOW.out ⟨wr.heap.size,0,none⟩ 1 1 [.int .i64 inu] rfl rfl (World.news_of_block (heap_alloc_new _ _)) (by intro u hu;simp at hu;subst hu;rfl) (by decide) (by simp only[maxLen];omega) (by omega) HSZ.out _ rfl ?_;intro g2 cap2 wv0 hown hgrow hat hlt;have HWB:=lhi (HWA.out.app HBD.out hown hgrow (fun q hq=>by simp[Value.ownBlock]at hq;subst hq;exact hat));have t3:wv0.cell? ⟨p5,3,none⟩=some (.slice TA k tcap):=(HWB.out.bk (.head _)).cell 3;have t3f:wv0.frozen? ⟨p5,3,none⟩=false:=(HWB.out.bk (.head _)).frozen 3;clear b0 b1 b2 b3 hown hgrow hat hlt))
    have HWC:=lhi (show Wk L w s Mk [⟨p5,276,#[.string inm,.int .i64 inu,.bool true,.slice (some ⟨g2,0,none⟩) (k+1) cap2]⟩,⟨p4,276,#[.string ⟨#[]⟩,.int .i64 0,.bool false,.slice none 0 0]⟩] [⟨3,1,.slice (some ⟨g2,0,none⟩) (k+1) cap2,k+1,th++[.int .i64 inu]⟩] (wv0.setCell ⟨p5,3,none⟩ (.slice (some ⟨g2,0,none⟩) (k+1) cap2))from HWB.out.set0 HBD.out 3 _)
    generalize wv0.setCell ⟨p5,3,none⟩ (.slice (some ⟨g2,0,none⟩) (k+1) cap2)=wb at HWC⊢
    clear t3 t3f HWB HWA HSZ HW q0
    have HNB:=lhi (show(0:Int)<= (Aa nm:Nat)/\ ((Aa nm:Nat):Int)<8 by have:=Cz nm;omega)
    have HBI:=lhi (HFT.out.it inu (Aa nm:Nat) HNU.out HNB.out)
    have HBL:=lhi HBI.out.1
    have HC:=lhi (show Who Mk c from .inr ⟨HC0.out.1,by rw[HTS.out];exact HC0.out.2⟩)
    have HMM:=lhi (show m+k<=1000000000 by omega)
    have H0:=lhi HWC.out.drew
    have H0a:=lhi (HWC.out.alloc HBD.out #[.string ⟨#[]⟩,.int .i64 0,.bool false] 136).drew
    have HS2:=lhi (show∀(M':Mem) (Bs:List LB) (W:World),Wk L w s M' Bs [⟨3,1,.slice (some ⟨g2,0,none⟩) (k+1) cap2,k+1,th++[.int .i64 inu]⟩] W->(⟨p5,276,#[.string inm,.int .i64 inu,.bool true,.slice (some ⟨g2,0,none⟩) (k+1) cap2]⟩:LB)∈Bs->(W.cell? ⟨sp,0,none⟩=some (.pointer (some ⟨s,0,none⟩))/\W.cell? ⟨sp,1,none⟩=some (.int .i64 c)/\W.cell? ⟨p5,1,none⟩=some (.int .i64 inu))from fun M' Bs W h1 h2=>HS.out M' Bs W _ [] inu _ _ _ h1 h2)
    clear HS
    have HS:=HS2
    clear HS2
    obtain⟨r0,r1,r2⟩:=HS.out _ _ _ HWC.out (.head _)
    rcases hfind:(Mk.bkt inu (Aa nm:Nat)).find? (Item.is nm)with _ | itm
    ·have HFV:=lhi (show Ks (Mk.bkt inu (Aa nm:Nat)) nm= .tuple #[.agg #[.string ⟨#[]⟩,.int .i64 0,.bool false],.bool false]by unfold Ks;rw[hfind])
     have HX:=lhi (show RES.1=Aaz.bad 1/\RES.2=Mk.see c (wd inu (Aa nm:Nat))by rw[<-HU.out,Ch,if_neg (by simp),hfind];exact⟨rfl,rfl⟩)
     clear hfind
     go_cut [8,9] (fun s8 s9 wx=>∃q,s8= .pointer (some ⟨q,0,none⟩)/\s9= .bool false/\Wk L w s (Mk.see c (wd inu (Aa nm:Nat))) [⟨q,136,#[.string ⟨#[]⟩,.int .i64 0,.bool false]⟩,⟨p5,276,#[.string inm,.int .i64 inu,.bool true,.slice (some ⟨g2,0,none⟩) (k+1) cap2]⟩,⟨p4,276,#[.string ⟨#[]⟩,.int .i64 0,.bool false,.slice none 0 0]⟩] [⟨3,1,.slice (some ⟨g2,0,none⟩) (k+1) cap2,k+1,th++[.int .i64 inu]⟩] wx)
     case first=>
      go_region_held3 (fun w'=>(w'.cell? ⟨sp,0,none⟩=some (.pointer (some ⟨s,0,none⟩))/\w'.cell? ⟨sp,1,none⟩=some (.int .i64 c)/\w'.cell? ⟨p5,1,none⟩=some (.int .i64 inu)))
       (with_reducible first | exact HS.out _ _ _ H0.out (Amb ..) | exact HS.out _ _ _ H0a.out (Amc _ (Amb ..)) | exact HS.out _ _ _ HQ1.out (Amb ..) | exact HS.out _ _ _ HQ1.out (Amc _ (Amb ..)) | exact HS.out _ _ _ (HQ1.out.alloc HBD.out _ _) (Amc _ (Amb ..)) | exact HS.out _ _ _ HQ2.out (Amb ..) | exact HS.out _ _ _ HQ2.out (Amc _ (Amb ..)) | exact HS.out _ _ _ (HQ2.out.alloc HBD.out _ _) (Amc _ (Amb ..)) | exact HS.out _ _ _ HQ3.out (Amb ..) | exact HS.out _ _ _ HQ3.out (Amc _ (Amb ..)) | exact HS.out _ _ _ (HQ3.out.alloc HBD.out _ _) (Amc _ (Amb ..)) | exact HS.out _ _ _ (Wk.set0' HBD.out HQ3.out) (Amc _ (Amb ..)))
       ((first
        | (go_at_call 62;(first | (refine(Cj nm _).mono ?_;rintro e wv1 ⟨rfl,hq⟩;have HQ1:=lhi (H0.out.below hq HBD.out);clear hq) | (refine(Cj nm _).mono ?_;rintro e wv1 ⟨rfl,hq⟩;have HQ1:=lhi (H0a.out.below hq HBD.out);clear hq)))
        | (go_at_call 136;(first | (refine(Wk.bucket_wk HQ1.out HOK.out HMM.out HC.out HNU.out HNB.out HFT.out).mono ?_;rintro e wv2 ⟨⟨bv,rfl,hbv⟩,hq⟩;have HBV:=lhi hbv;clear hbv;have HQ2:=lhi (hq);clear hq) | (refine(Wk.bucket_wk (HQ1.out.alloc HBD.out #[.string ⟨#[]⟩,.int .i64 0,.bool false] 136) HOK.out HMM.out HC.out HNU.out HNB.out HFT.out).mono ?_;rintro e wv2 ⟨⟨bv,rfl,hbv⟩,hq⟩;have HBV:=lhi hbv;clear hbv;have HQ2:=lhi (hq);clear hq)))
        | (go_at_call 211;(first | (refine(Hs HBV.out HBL.out nm).mono ?_;rintro e wv3 ⟨hfe,hq⟩;rw[HFV.out]at hfe;subst hfe;have HQ3:=lhi (HQ2.out.below hq HBD.out);clear hq) | (refine(Hs (HBV.out.ki (KI.below ((Amf _ _).alloc (Ama _) _))) HBL.out nm).mono ?_;rintro e wv3 ⟨hfe,hq⟩;rw[HFV.out]at hfe;subst hfe;have HQ3:=lhi ((HQ2.out.alloc HBD.out #[.string ⟨#[]⟩,.int .i64 0,.bool false] 136).below hq HBD.out);clear hq));(first | (have y0:wv3.cell? ⟨wv1.heap.size,0,none⟩=some (.string ⟨#[]⟩):=(HQ3.out.bk (.head _)).cell 0;have u0:wv3.frozen? ⟨wv1.heap.size,0,none⟩=false:=(HQ3.out.bk (.head _)).frozen 0;have y1:wv3.cell? ⟨wv1.heap.size,1,none⟩=some (.int .i64 0):=(HQ3.out.bk (.head _)).cell 1;have u1:wv3.frozen? ⟨wv1.heap.size,1,none⟩=false:=(HQ3.out.bk (.head _)).frozen 1;have y2:wv3.cell? ⟨wv1.heap.size,2,none⟩=some (.bool false):=(HQ3.out.bk (.head _)).cell 2;have u2:wv3.frozen? ⟨wv1.heap.size,2,none⟩=false:=(HQ3.out.bk (.head _)).frozen 2) | (have y0:wv3.cell? ⟨wv2.heap.size,0,none⟩=some (.string ⟨#[]⟩):=(HQ3.out.bk (.head _)).cell 0;have u0:wv3.frozen? ⟨wv2.heap.size,0,none⟩=false:=(HQ3.out.bk (.head _)).frozen 0;have y1:wv3.cell? ⟨wv2.heap.size,1,none⟩=some (.int .i64 0):=(HQ3.out.bk (.head _)).cell 1;have u1:wv3.frozen? ⟨wv2.heap.size,1,none⟩=false:=(HQ3.out.bk (.head _)).frozen 1;have y2:wv3.cell? ⟨wv2.heap.size,2,none⟩=some (.bool false):=(HQ3.out.bk (.head _)).cell 2;have u2:wv3.frozen? ⟨wv2.heap.size,2,none⟩=false:=(HQ3.out.bk (.head _)).frozen 2) | (have y0:wv3.cell? ⟨wb.heap.size,0,none⟩=some (.string ⟨#[]⟩):=(HQ3.out.bk (.head _)).cell 0;have u0:wv3.frozen? ⟨wb.heap.size,0,none⟩=false:=(HQ3.out.bk (.head _)).frozen 0;have y1:wv3.cell? ⟨wb.heap.size,1,none⟩=some (.int .i64 0):=(HQ3.out.bk (.head _)).cell 1;have u1:wv3.frozen? ⟨wb.heap.size,1,none⟩=false:=(HQ3.out.bk (.head _)).frozen 1;have y2:wv3.cell? ⟨wb.heap.size,2,none⟩=some (.bool false):=(HQ3.out.bk (.head _)).cell 2;have u2:wv3.frozen? ⟨wb.heap.size,2,none⟩=false:=(HQ3.out.bk (.head _)).frozen 2) | skip))))
      all_goals
       go_wp2_with (fail)
       go_meet
       case rel=>first | exact⟨_,rfl,rfl,HQ3.out.set0' HBD.out⟩ | exact⟨_,rfl,rfl,HQ3.out.alloc HBD.out _ _⟩
     case rest=>
      obtain⟨q,rfl,rfl,hq⟩:=hcut
      have HQ:=lhi hq
      clear hq r0 r1 r2
      go_wp2_with (go_at_call 199;refine(Em _ _).mono ?_;rintro e w' ⟨rfl,rfl⟩)
      (try simp only[Exit.inBlock,Exit.then])
      exact⟨rfl,by rw[HX.out.1];rfl,by rw[HX.out.2];exact HQ.out.mem,HQ.out.kp⟩
    ·obtain⟨xn,xu,xd⟩:=itm
     have HFV:=lhi (show Ks (Mk.bkt inu (Aa nm:Nat)) nm= .tuple #[.agg #[.string xn,.int .i64 xu,.bool xd],.bool true]by unfold Ks;rw[hfind];rfl)
     have HXU:=lhi (HBI.out.2 _ (List.mem_of_find?_eq_some hfind))
     have HX:=lhi (show Ch c (ns.drop (k+1)) (Mk.see c (wd inu (Aa nm:Nat))) ⟨xn,xu,xd⟩=RES by rw[<-HU.out,Ch,if_neg (by simp),hfind])
     clear hfind
     go_cut [8,9] (fun s8 s9 wx=>∃q,s8= .pointer (some ⟨q,0,none⟩)/\s9= .bool true/\Wk L w s (Mk.see c (wd inu (Aa nm:Nat))) [⟨q,136,#[.string xn,.int .i64 xu,.bool xd]⟩,⟨p5,276,#[.string inm,.int .i64 inu,.bool true,.slice (some ⟨g2,0,none⟩) (k+1) cap2]⟩,⟨p4,276,#[.string ⟨#[]⟩,.int .i64 0,.bool false,.slice none 0 0]⟩] [⟨3,1,.slice (some ⟨g2,0,none⟩) (k+1) cap2,k+1,th++[.int .i64 inu]⟩] wx)
     case first=>
      go_region_held3 (fun w'=>(w'.cell? ⟨sp,0,none⟩=some (.pointer (some ⟨s,0,none⟩))/\w'.cell? ⟨sp,1,none⟩=some (.int .i64 c)/\w'.cell? ⟨p5,1,none⟩=some (.int .i64 inu)))
       (with_reducible first | exact HS.out _ _ _ H0.out (Amb ..) | exact HS.out _ _ _ H0a.out (Amc _ (Amb ..)) | exact HS.out _ _ _ HQ1.out (Amb ..) | exact HS.out _ _ _ HQ1.out (Amc _ (Amb ..)) | exact HS.out _ _ _ (HQ1.out.alloc HBD.out _ _) (Amc _ (Amb ..)) | exact HS.out _ _ _ HQ2.out (Amb ..) | exact HS.out _ _ _ HQ2.out (Amc _ (Amb ..)) | exact HS.out _ _ _ (HQ2.out.alloc HBD.out _ _) (Amc _ (Amb ..)) | exact HS.out _ _ _ HQ3.out (Amb ..) | exact HS.out _ _ _ HQ3.out (Amc _ (Amb ..)) | exact HS.out _ _ _ (HQ3.out.alloc HBD.out _ _) (Amc _ (Amb ..)) | exact HS.out _ _ _ (Wk.set0' HBD.out HQ3.out) (Amc _ (Amb ..)))
       ((first
        | (go_at_call 62;(first | (refine(Cj nm _).mono ?_;rintro e wv1 ⟨rfl,hq⟩;have HQ1:=lhi (H0.out.below hq HBD.out);clear hq) | (refine(Cj nm _).mono ?_;rintro e wv1 ⟨rfl,hq⟩;have HQ1:=lhi (H0a.out.below hq HBD.out);clear hq)))
        | (go_at_call 136;(first | (refine(Wk.bucket_wk HQ1.out HOK.out HMM.out HC.out HNU.out HNB.out HFT.out).mono ?_;rintro e wv2 ⟨⟨bv,rfl,hbv⟩,hq⟩;have HBV:=lhi hbv;clear hbv;have HQ2:=lhi (hq);clear hq) | (refine(Wk.bucket_wk (HQ1.out.alloc HBD.out #[.string ⟨#[]⟩,.int .i64 0,.bool false] 136) HOK.out HMM.out HC.out HNU.out HNB.out HFT.out).mono ?_;rintro e wv2 ⟨⟨bv,rfl,hbv⟩,hq⟩;have HBV:=lhi hbv;clear hbv;have HQ2:=lhi (hq);clear hq)))
        | (go_at_call 211;(first | (refine(Hs HBV.out HBL.out nm).mono ?_;rintro e wv3 ⟨hfe,hq⟩;rw[HFV.out]at hfe;subst hfe;have HQ3:=lhi (HQ2.out.below hq HBD.out);clear hq) | (refine(Hs (HBV.out.ki (KI.below ((Amf _ _).alloc (Ama _) _))) HBL.out nm).mono ?_;rintro e wv3 ⟨hfe,hq⟩;rw[HFV.out]at hfe;subst hfe;have HQ3:=lhi ((HQ2.out.alloc HBD.out #[.string ⟨#[]⟩,.int .i64 0,.bool false] 136).below hq HBD.out);clear hq));(first | (have y0:wv3.cell? ⟨wv1.heap.size,0,none⟩=some (.string ⟨#[]⟩):=(HQ3.out.bk (.head _)).cell 0;have u0:wv3.frozen? ⟨wv1.heap.size,0,none⟩=false:=(HQ3.out.bk (.head _)).frozen 0;have y1:wv3.cell? ⟨wv1.heap.size,1,none⟩=some (.int .i64 0):=(HQ3.out.bk (.head _)).cell 1;have u1:wv3.frozen? ⟨wv1.heap.size,1,none⟩=false:=(HQ3.out.bk (.head _)).frozen 1;have y2:wv3.cell? ⟨wv1.heap.size,2,none⟩=some (.bool false):=(HQ3.out.bk (.head _)).cell 2;have u2:wv3.frozen? ⟨wv1.heap.size,2,none⟩=false:=(HQ3.out.bk (.head _)).frozen 2) | (have y0:wv3.cell? ⟨wv2.heap.size,0,none⟩=some (.string ⟨#[]⟩):=(HQ3.out.bk (.head _)).cell 0;have u0:wv3.frozen? ⟨wv2.heap.size,0,none⟩=false:=(HQ3.out.bk (.head _)).frozen 0;have y1:wv3.cell? ⟨wv2.heap.size,1,none⟩=some (.int .i64 0):=(HQ3.out.bk (.head _)).cell 1;have u1:wv3.frozen? ⟨wv2.heap.size,1,none⟩=false:=(HQ3.out.bk (.head _)).frozen 1;have y2:wv3.cell? ⟨wv2.heap.size,2,none⟩=some (.bool false):=(HQ3.out.bk (.head _)).cell 2;have u2:wv3.frozen? ⟨wv2.heap.size,2,none⟩=false:=(HQ3.out.bk (.head _)).frozen 2) | (have y0:wv3.cell? ⟨wb.heap.size,0,none⟩=some (.string ⟨#[]⟩):=(HQ3.out.bk (.head _)).cell 0;have u0:wv3.frozen? ⟨wb.heap.size,0,none⟩=false:=(HQ3.out.bk (.head _)).frozen 0;have y1:wv3.cell? ⟨wb.heap.size,1,none⟩=some (.int .i64 0):=(HQ3.out.bk (.head _)).cell 1;have u1:wv3.frozen? ⟨wb.heap.size,1,none⟩=false:=(HQ3.out.bk (.head _)).frozen 1;have y2:wv3.cell? ⟨wb.heap.size,2,none⟩=some (.bool false):=(HQ3.out.bk (.head _)).cell 2;have u2:wv3.frozen? ⟨wb.heap.size,2,none⟩=false:=(HQ3.out.bk (.head _)).frozen 2) | skip))))
      all_goals
       go_wp2_with (fail)
       go_meet
       case rel=>first | exact⟨_,rfl,rfl,HQ3.out.set0' HBD.out⟩ | exact⟨_,rfl,rfl,HQ3.out.alloc HBD.out _ _⟩
     case rest=>
      obtain⟨q,rfl,rfl,hq⟩:=hcut
      have v0:wc.cell? ⟨q,0,none⟩=some (.string xn):=(hq.bk (.head _)).cell 0
      have v1:wc.cell? ⟨q,1,none⟩=some (.int .i64 xu):=(hq.bk (.head _)).cell 1
      have v2:wc.cell? ⟨q,2,none⟩=some (.bool xd):=(hq.bk (.head _)).cell 2
      have HB5:=hq.bk (.tail _ (.head _))
      have b0:wc.cell? ⟨p5,0,none⟩=some (.string inm):=HB5.cell 0
      have b1:wc.cell? ⟨p5,1,none⟩=some (.int .i64 inu):=HB5.cell 1
      have b2:wc.cell? ⟨p5,2,none⟩=some (.bool true):=HB5.cell 2
      have f0:wc.frozen? ⟨p5,0,none⟩=false:=HB5.frozen 0
      have f1:wc.frozen? ⟨p5,1,none⟩=false:=HB5.frozen 1
      have f2:wc.frozen? ⟨p5,2,none⟩=false:=HB5.frozen 2
      have HQ:=lhi (show Wk L w s (Mk.see c (wd inu (Aa nm:Nat))) [⟨p5,276,#[.string xn,.int .i64 xu,.bool xd,.slice (some ⟨g2,0,none⟩) (k+1) cap2]⟩,⟨p4,276,#[.string ⟨#[]⟩,.int .i64 0,.bool false,.slice none 0 0]⟩] [⟨3,1,.slice (some ⟨g2,0,none⟩) (k+1) cap2,k+1,th++[.int .i64 inu]⟩] (((wc.setCell ⟨p5,0,none⟩ (.string xn)).setCell ⟨p5,1,none⟩ (.int .i64 xu)).setCell ⟨p5,2,none⟩ (.bool xd))from((hq.drop0.set0 HBD.out 0 (.string xn)).set0 HBD.out 1 (.int .i64 xu)).set0 HBD.out 2 (.bool xd))
      have HOK2:=lhi (show(Mk.see c (wd inu (Aa nm:Nat))).ok (m+ (k+1))from HOK.out.see _ _)
      have HFT2:=lhi (HFT.out.see c (wd inu (Aa nm:Nat)))
      have HTS2:=lhi (show(Mk.see c (wd inu (Aa nm:Nat))).ts.length=M.ts.length by rw[<-HTS.out];unfold Mem.see Mem.note;split <;> simp)
      clear hq r0 r1 r2 HB5
      go_wp2_with (go_at_call 199;refine(Ec _ _).mono ?_;rintro e w' ⟨rfl,rfl⟩)
      go_roundw
      case rel=>exact⟨k+1,_,⟨xn,xu,xd⟩,_,_,by go_num,by omega,HQ.out,HX.out,HOK2.out,HFT2.out,HXU.out,HTS2.out⟩
      case measure=>
       simp only[intOf]
       omega
   ·have HX:=lhi (show RES.1=Aaz.bad 7/\RES.2=Mk by rw[<-HU.out];exact⟨rfl,rfl⟩)
    go_wp2_with (go_at_call 199;refine(Em _ _).mono ?_;rintro e w' ⟨rfl,rfl⟩)
    (try simp only[Exit.inBlock,Exit.then])
    exact⟨rfl,by rw[HX.out.1];rfl,by rw[HX.out.2];exact HW.out.mem,HW.out.kp⟩
  ·have e:k=n:=by omega
   subst e
   have HX:=lhi (show RES.1=Aaz.at_ it/\RES.2=Mk by rw[<-HWM.out,List.drop_of_length_le (by rw[HNN.out];exact Ama _)];exact⟨rfl,rfl⟩)
   obtain⟨inm,inu,idr⟩:=it
   have b0:wr.cell? ⟨p5,0,none⟩=some (.string inm):=(hW.blk (.head _)).cell 0
   have b1:wr.cell? ⟨p5,1,none⟩=some (.int .i64 inu):=(hW.blk (.head _)).cell 1
   have b2:wr.cell? ⟨p5,2,none⟩=some (.bool idr):=(hW.blk (.head _)).cell 2
   have b3:wr.cell? ⟨p5,3,none⟩=some (.slice TA k tcap):=(hW.blk (.head _)).cell 3
   have HQ:=hW.blk (x:=⟨p4,276,#[.string ⟨#[]⟩,.int .i64 0,.bool false,.slice none 0 0]⟩) (.tail _ (.head _))
   have a0:wr.cell? ⟨p4,0,none⟩=some (.string ⟨#[]⟩):=HQ.cell 0
   have a1:wr.cell? ⟨p4,1,none⟩=some (.int .i64 0):=HQ.cell 1
   have a2:wr.cell? ⟨p4,2,none⟩=some (.bool false):=HQ.cell 2
   have a3:wr.cell? ⟨p4,3,none⟩=some (.slice none 0 0):=HQ.cell 3
   have f0:wr.frozen? ⟨p4,0,none⟩=false:=HQ.frozen 0
   have f1:wr.frozen? ⟨p4,1,none⟩=false:=HQ.frozen 1
   have f2:wr.frozen? ⟨p4,2,none⟩=false:=HQ.frozen 2
   have f3:wr.frozen? ⟨p4,3,none⟩=false:=HQ.frozen 3
   have HFIN:=lhi ((((hW.set1 HBD.out 0 (.string inm)).set1 HBD.out 1 (.int .i64 inu)).set1 HBD.out 2 (.bool idr)).set1 HBD.out 3 (.slice TA k tcap))
   clear hW hwm hok hft hnum hts HQ
   go_wp2_with (fail)
   have c0:=(HFIN.out.bk (.tail _ (.head _))).cell 0
   have c1:=(HFIN.out.bk (.tail _ (.head _))).cell 1
   have c2:=(HFIN.out.bk (.tail _ (.head _))).cell 2
   have c3:=(HFIN.out.bk (.tail _ (.head _))).cell 3
   (try simp only[Exit.inBlock,Exit.then])
   refine bodyPost_ret (v:=.agg #[.string inm,.int .i64 inu,.bool idr,.slice TA k tcap]) ?_ rfl ⟨?_,?_⟩
   ·simp[results,Tryz.results200,go_sem,c0,c1,c2,c3]
   ·rw[HX.out.1];exact⟨_,_,_,rfl⟩
   ·rw[HX.out.2];exact HFIN.out.fin
def Aj8(it:Item)(tv:Value)(nm:ByteArray)(wdn:Int)(bv:Value):Array Value:=#[.string it.name,.int .i64 it.num,.bool it.dir,tv,.string nm,.int .i64 wdn,bv]
def Wf(l:List Item)(nm:ByteArray):Int:=if(l.find? (Item.is nm)).isSome then 2 else if 4<=l.length then 5 else 0
theorem Tj{B:Nat}{w w1:World}(h:Below B w w1)(x y z:Value):Below B w (((w1.setCell ⟨B,0,none⟩ x).setCell ⟨B,1,none⟩ y).setCell ⟨B,2,none⟩ z):=
 ((h.setCell (p:=⟨B,0,none⟩) (Ama _) _).setCell (p:=⟨B,1,none⟩) (Ama _) _).setCell (p:=⟨B,2,none⟩) (Ama _) _
theorem Ahm{w:World}{xp:Nat}{it:Item}{tv bv:Value}{nm:ByteArray}{wdn:Int}{l:List Item}(hx:Blk w xp 278 (Aj8 it tv nm wdn bv))(hb:ItB w bv l)(hl:l.length<=1000)(h:Wf l nm=0):
  Calls Tryz.prog 198 #[.pointer (some ⟨xp,0,none⟩)] w fun e w'=>e= .returned (.tuple #[])/\Below w.heap.size w w':=by
 have hfind:l.find? (Item.is nm)=none/\ ¬ 4<=l.length:=by
  unfold Wf at h
  cases hf:l.find? (Item.is nm)with
  | some x=>rw[hf]at h;cases h
  | none=>
   rw[hf]at h
   refine⟨rfl,fun h4=>?_⟩
   rw[if_neg (by simp),if_pos h4]at h
   cases h
 have HFV:=lhi (show Ks l nm= .tuple #[.agg #[.string ⟨#[]⟩,.int .i64 0,.bool false],.bool false]by unfold Ks;rw[hfind.1])
 have hl4: ¬ (4:Int)<= (l.length:Int):=by have:=hfind.2;omega
 obtain⟨A,cap,rfl,hcap,-⟩:=RowT.at' hb
 have HB:=lhi hb
 have HX:=lhi hx
 have hxl:=hx.lt
 have x1:w.cell? ⟨xp,4,none⟩=some (.string nm):=hx.cell 4
 have x3:w.cell? ⟨xp,6,none⟩=some (.slice A l.length cap):=hx.cell 6
 obtain⟨n,hn⟩:=xx l.length
 have HC:=lhi (show∀W,Below w.heap.size w W->Calls Tryz.prog 211 #[.slice A n cap,.string nm] W fun e w'=>e= .returned (.tuple #[.agg #[.string ⟨#[]⟩,.int .i64 0,.bool false],.bool false])/\Below W.heap.size W w' from fun W hW=>by
  have:=Hs (hb.ki (KI.below hW)) hl nm
  rw[HFV.out,hn]at this
  exact this)
 rw[hn]at x3 hl4 hcap hl
 clear hb hx hfind h hn
 have HPD:=lhi (show w.drew.cell? ⟨xp,4,none⟩=some (.string nm)/\w.drew.cell? ⟨xp,6,none⟩=some (.slice A n cap)from⟨x1,x3⟩)
 have HPA:=lhi (show(w.alloc (.cells #[.string ⟨#[]⟩,.int .i64 0,.bool false] 136)).drew.cell? ⟨xp,4,none⟩=some (.string nm)/\ (w.alloc (.cells #[.string ⟨#[]⟩,.int .i64 0,.bool false] 136)).drew.cell? ⟨xp,6,none⟩=some (.slice A n cap)from⟨(Amj _ _ _ hxl).trans x1,(Amj _ _ _ hxl).trans x3⟩)
 have HBL:=lhi (show Blk (w.alloc (.cells #[.string ⟨#[]⟩,.int .i64 0,.bool false] 136)).drew w.heap.size 136 #[.string ⟨#[]⟩,.int .i64 0,.bool false]from Blk.new _ _ _)
 have hne:xp≠w.heap.size:=by omega
 go_enter Tryz.func198,Tryz.ntmps198
 go_upto_region 0 with(fail)
 go_cut [2,3] (fun s2 s3 wx=>s3= .bool false/\Below w.heap.size w wx)
 case first=>
  go_region_held3 (fun w'=>w'.cell? ⟨xp,4,none⟩=some (.string nm)/\w'.cell? ⟨xp,6,none⟩=some (.slice A n cap))
   (with_reducible first | exact HPD.out | exact HPA.out | exact⟨z1,z3⟩ | exact⟨(Amj _ _ _ zl).trans z1,(Amj _ _ _ zl).trans z3⟩ | exact⟨Cr hne z1,Cr hne z3⟩)
   ((go_at_call 211;first
    | ((with_reducible refine(HC.out _ (Ae w)).mono ?_);rintro e wv1 ⟨rfl,hq⟩;have HQ:=lhi (show Below w.heap.size w wv1 from(Ae w).trans hq);clear hq;have z1:wv1.cell? ⟨xp,4,none⟩=some (.string nm):=(HQ.out.cell (p:=⟨xp,4,none⟩) hxl).trans x1;have z3:wv1.cell? ⟨xp,6,none⟩=some (.slice A n cap):=(HQ.out.cell (p:=⟨xp,6,none⟩) hxl).trans x3;have zl:xp<wv1.heap.size:=Amk hxl HQ.out.size;have HEA:=lhi (show Below w.heap.size w (wv1.alloc (.cells #[.string ⟨#[]⟩,.int .i64 0,.bool false] 136))from HQ.out.alloc HQ.out.size _);have HEB:=lhi (Tj HQ.out (.string ⟨#[]⟩) (.int .i64 0) (.bool false)))
    | ((with_reducible refine(HC.out _ (Gh w (.cells #[.string ⟨#[]⟩,.int .i64 0,.bool false] 136))).mono ?_);rintro e wv1 ⟨rfl,hq⟩;have HQ:=lhi (show Below w.heap.size w wv1 from(Gh w _).trans (hq.mono (by simp)));have hB:Blk wv1 w.heap.size 136 #[.string ⟨#[]⟩,.int .i64 0,.bool false]:=Blk.of_heap (hq.block w.heap.size (by simp)) (HBL.out);have z1:wv1.cell? ⟨xp,4,none⟩=some (.string nm):=(HQ.out.cell (p:=⟨xp,4,none⟩) hxl).trans x1;have z3:wv1.cell? ⟨xp,6,none⟩=some (.slice A n cap):=(HQ.out.cell (p:=⟨xp,6,none⟩) hxl).trans x3;have zl:xp<wv1.heap.size:=Amk hxl HQ.out.size;have HEA:=lhi (show Below w.heap.size w (wv1.alloc (.cells #[.string ⟨#[]⟩,.int .i64 0,.bool false] 136))from HQ.out.alloc HQ.out.size _);have HEB:=lhi (Tj HQ.out (.string ⟨#[]⟩) (.int .i64 0) (.bool false));have y0:wv1.cell? ⟨w.heap.size,0,none⟩=some (.string ⟨#[]⟩):=hB.cell 0;have y1:wv1.cell? ⟨w.heap.size,1,none⟩=some (.int .i64 0):=hB.cell 1;have y2:wv1.cell? ⟨w.heap.size,2,none⟩=some (.bool false):=hB.cell 2;have u0:=hB.frozen 0;have u1:=hB.frozen 1;have u2:=hB.frozen 2;clear hq hB)))
  all_goals
   go_wp2_with (fail)
   go_meet
   case rel=>
    refine⟨rfl,?_⟩
    first | (with_reducible exact HEA.out) | (with_reducible exact HEB.out)
 case rest=>
  obtain⟨rfl,hb⟩:=hcut
  have z3:=(hb.cell (p:=⟨xp,6,none⟩) hxl).trans x3
  have HB2:=lhi hb
  have hl5:decide ((4:Int)<= (n:Int))=false:=by simpa using hl4
  clear hb x1 x3
  go_wp2_with (go_at_call 199;refine(Ec _ _).mono ?_;rintro e w' ⟨rfl,rfl⟩)
  go_end0
  exact⟨rfl,HB2.out⟩
end Go.Proofs.YtkebjgebkneijaaGreat
