/- Texts of one's own that a claim's last text rests on: MpW. -/
import Derived.Test.YtkebjgebkneijaaGreatMG16
import Derived.Maps.RangeWalk
import Derived.StillTailTactics
import Derived.Test.YtkebjgebkneijaaGreatMG6
set_option linter.unusedVariables false
set_option linter.unusedSimpArgs false
namespace Go.Proofs.YtkebjgebkneijaaGreat
open Go.RowKit
set_option maxHeartbeats 16000000
set_option maxRecDepth 1000000
section
variable{A:Type}{enc:A->List Value}{k:Nat}{ops:Array Oper}{o:Oper}{a:Act}{Q:Exit->Act->World->Prop}
theorem Adv(w:World){K:Act->World->Prop}{E:Prop}(hg:o.guard=none)(s x:Operand)(t e:TypeId)(hop:o.op=Op.call {callee:=Callee.builtin Builtin.append,args:=#[s,x],argTypes:=#[t,t]})
  (i:TypeInfo) (z:Value) (bytes:Nat) (ht:Tryz.prog.underlying t=some (.slice e)) (hi:Tryz.prog.info? e=some i) (hz:i.zero=some z) (hsize:i.size=k) (hby:i.bytes=bytes) (hzs:z.cells.size=k) (hk:0<k)
  (base:Nat) (v:Value) (L:List A) (hs:a.eval s=v) (hown:w.ownsRow base e k v L.length (L.flatMap enc)) (xv:Value) (hx:a.eval x=xv) (M:List A) {C:Nat->Nat->Value} (hM:Ak w xv M.length k C) (hC:CL enc M C k)
  (hl: ∀x,(enc x).length=k) (h1: ∀x∈M,∀u∈enc x,u.oneCell'=true) (h63:L.length+M.length<=100000) (hbytes:bytes<=1000) (hbase:base<=w.heap.size)
  (hK: ∀A' n' cap' w',n'=(L++M).length->w'.ownsRow base e k (.slice A' n' cap') (L++M).length ((L++M).flatMap enc)->w.grownBy w' v.ownBlock->((Value.slice A' n' cap').ownBlock=v.ownBlock∨(Value.slice A' n' cap').ownBlock=some w.heap.size)->K (a.put o.dst (.slice A' n' cap')) w'):if Region.wanted o (yielded ops a.tmps)=true then Oper.wp Tryz.prog o a w K Q else E:=by
 have hw:Region.wanted o (yielded ops a.tmps)=true:=by simp[Region.wanted,hg]
 rw[if_pos hw]
 obtain⟨A1,cap1,rfl,hc1,hA1⟩:=hM
 have hbb:(L.length+M.length)*bytes<=140737488355328:=Aml (Nat.mul_le_mul h63 hbytes) (by decide)
 have hrun: ∃v' w',(Builtin.append_ #[t,t] o.type #[v,.slice A1 M.length cap1]).run Tryz.prog w= .ok v' w'/\w'.ownsRow base e k v' (L++M).length ((L++M).flatMap enc)/\w.grownBy w' v.ownBlock/\ (v'.ownBlock=v.ownBlock∨v'.ownBlock=some w.heap.size):=by
  rcases Nat.eq_zero_or_pos M.length with h0 | h0
  ·have hM0:M=[]:=List.length_eq_zero_iff.1 h0
   subst hM0
   rw[List.append_nil]
   cases A1 with
   | none=>
    have hb: ∃b n' c',v= .slice b n' c'/\n'<=c':=by
     rcases hown.2 with⟨rfl,_⟩ | ⟨g,cap,cur,rfl,_,_,h6,_⟩
     ·exact⟨_,_,_,rfl,Ama _⟩
     ·exact⟨_,_,_,rfl,h6⟩
    obtain⟨b,n',c',rfl,hle⟩:=hb
    exact⟨_,_,run_append_nothing (P:=Tryz.prog) w t t o.type e i ht hi b n' c' hle _ (Src.ofNil w ht cap1),hown,⟨rfl,rfl,rfl,Ama _,fun _ _ _=>rfl⟩,.inl rfl⟩
   | some ad=>
    obtain⟨v',w',r1,r2,r3,-,r5⟩:=run_append_own_at (P:=Tryz.prog) w base t o.type e i z k bytes ht hi hz hsize hby hzs hk v L.length _ hown ad 0 cap1 [] (by simp) (fun j u hu=>by simp at hu) (fun u hu=>by simp at hu) (by simp only[maxLen];omega) (by simpa using hbb) hbase
    rw[List.append_nil,Nat.add_zero]at r2
    exact⟨v',w',r1,r2,r3,r5⟩
  ·obtain⟨g,off,rfl,hcell⟩:=hA1 h0
   obtain⟨v',w',r1,r2,r3,-,r5⟩:=run_append_own_at (P:=Tryz.prog) w base t o.type e i z k bytes ht hi hz hsize hby hzs hk v L.length _ hown ⟨g,off,none⟩ M.length cap1 (M.flatMap enc) (Cb hl M) (fun j u hu=>by
    have hj:j<M.length*k:=by rw[<-Cb hl M];exact(List.getElem?_eq_some_iff.1 hu).1
    have e1:j=j / k*k+j % k:=by rw[Nat.mul_comm];exact(Nat.div_add_mod j k).symm
    have hq:j / k<M.length:=Nat.div_lt_of_lt_mul (by rw[Nat.mul_comm];exact hj)
    have h2:=hC.get hk hl hq (Nat.mod_lt j hk)
    rw[<-e1,hu]at h2
    rw[Addr.add_lit]
    have h3:=hcell (j / k) (j % k) hq (Nat.mod_lt j hk)
    rw[<-e1]at h3
    rw[h3,<-h2]) (fun u hu=>by
    obtain⟨x,hm,hx⟩:=List.mem_flatMap.1 hu
    exact h1 x hm u hx) (by simp only[maxLen];omega) hbb hbase
   rw[<-List.flatMap_append,<-Ami]at r2
   exact⟨v',w',r1,r2,r3,r5⟩
 obtain⟨v',w',hrun,r2,r3,r4⟩:=hrun
 unfold Oper.wp
 simp[execOp,hop,resolve,invoke,builtin,hx,hs,hrun,Result.andThen]
 have hf: ∃A' cap',v'= .slice A' (L++M).length cap':=by
  rcases r2.2 with⟨rfl,h0⟩ | ⟨g,cap,cur,rfl,_⟩
  ·exact⟨none,0,by rw[h0]⟩
  ·exact⟨_,_,rfl⟩
 obtain⟨A',cap',rfl⟩:=hf
 exact hK A' _ cap' w' rfl r2 r3 r4
end
theorem Agk{L:Nat->Prop}{w:World}{s:Nat}{M:Mem}{m:Nat}(h:Ab L w s M)(hok:M.ok m){i:Int}(hi:0<=i/\i<9549){a:Nat}(ha:w.cell? ⟨s,0,none⟩=some (.pointer (some ⟨a,0,none⟩))){r:Int}(hr:rd M.ws i=r):
  Calls Tryz.prog 90 #[.pointer (some ⟨a,0,none⟩),.int .i64 i] w fun e w'=>e= .returned (.int .i64 r)/\w'=w:=by
 obtain⟨a',L1,h0,har,hback⟩:=h.lend
 have e:a'=a:=by
  rw[h0]at ha
  injection ha with ha
  injection ha with ha
  injection ha with ha
  injection ha
 subst e
 exact(Acv har (i:=i) (by rw[hok.wl];exact hi) hr).mono fun _ _ h=>⟨h.1,h.2.symm⟩
theorem Ajv{L:Nat->Prop}{w:World}{s:Nat}{M:Mem}(h:Ab L w s M){a:Nat}(ha:w.cell? ⟨s,0,none⟩=some (.pointer (some ⟨a,0,none⟩))):
  Calls Tryz.prog 89 #[.pointer (some ⟨a,0,none⟩)] w fun e w'=>e= .returned (.int .i64 M.ts.length)/\w'=w:=by
 obtain⟨a',L1,h0,har,hback⟩:=h.lend
 have e:a'=a:=by
  rw[h0]at ha
  injection ha with ha
  injection ha with ha
  injection ha with ha
  injection ha
 subst e
 exact(Pw har).mono fun _ _ h=>⟨h.1,h.2.symm⟩
theorem Kw.ofKd{L K:Nat->Prop}{w w4 w5:World}{fb ab:Nat}(h:Kw L w w4)(hL:Bd L w)(hs: ∀b,L b->K b)(h1:w.heap.size<=fb)(h2:w.heap.size<=ab)(hk:Kd K fb ab w4 w5):Kw L w w5:=
 ⟨⟨⟨hk.os.trans h.k.k.os,hk.tape.trans h.k.k.tape,hk.output.trans h.k.k.output,Aml h.size hk.size,fun b hb=>(hk.l b (hs b hb) (by have:=hL b hb;omega) (by have:=hL b hb;omega)).trans (h.k.k.block b hb)⟩,h.k.i.trans hk.i⟩,
  fun b hb hn=>(hk.o b (by have:=h.size;omega) (fun q=>hn ((Bw.heap (h.o b hb hn)).1 q)) (by omega) (by omega)).trans (h.o b hb hn)⟩
section
variable{L:Nat->Prop}{w:World}{s:Nat}{M:Mem}
def st4(w:World)(s:Nat):World:=((((w.alloc (.cells #[.slice none 0 0,.slice none 0 0,.slice none 0 0] 30)).alloc (.cells #[.pointer (some ⟨s,0,none⟩),.int .i64 (-1)] 168)).alloc (.map #[] 0)).alloc (.map #[] 0)).alloc (.cells #[.pointer (some ⟨s,0,none⟩),.int .i64 (-1),.map (some (w.heap.size+2)),.map (some (w.heap.size+3))] 172)
def K4(L:Nat->Prop)(p:Nat):Nat->Prop:=fun b=>L b∨b=p∨b=p+1∨b=p+2∨b=p+3∨b=p+4
theorem Xr(w:World)(s:Nat):(st4 w s).heap.size=w.heap.size+5:=by simp[st4]
theorem Ol(w:World)(s:Nat):Below w.heap.size w (st4 w s):=((((((Amf _ _).alloc (Ama _) _).alloc (by simp) _).alloc (by simp;omega) _).alloc (by simp;omega) _).alloc (by simp;omega) _)
theorem Ais(h:Ab L w s M):Ab (K4 L w.heap.size) (st4 w s) s M:=by
 refine h.move (fun b hb=>?_) (Ol w s).size (fun b hb hlt=>?_) (fun b hlt _=>(Ol w s).block b hlt)
 ·rw[Xr]
  rcases hb with hb | rfl | rfl | rfl | rfl | rfl
  ·have:=h.bd b hb;omega
  all_goals omega
 ·rcases hb with hb | rfl | rfl | rfl | rfl | rfl
  ·exact hb
  all_goals omega
theorem Aky(w:World)(s:Nat):GV (fun _=>False) (st4 w s) (w.heap.size+2) (w.heap.size+3) M ⟨[],[]⟩:=by
 have h:=(GV.made (M:=M) (a:=(w.alloc (.cells #[.slice none 0 0,.slice none 0 0,.slice none 0 0] 30)).alloc (.cells #[.pointer (some ⟨s,0,none⟩),.int .i64 (-1)] 168))).alloc (.cells #[.pointer (some ⟨s,0,none⟩),.int .i64 (-1),.map (some (w.heap.size+2)),.map (some (w.heap.size+3))] 172)
 have e:((w.alloc (.cells #[.slice none 0 0,.slice none 0 0,.slice none 0 0] 30)).alloc (.cells #[.pointer (some ⟨s,0,none⟩),.int .i64 (-1)] 168)).heap.size=w.heap.size+2:=by simp
 rw[e]at h
 exact h
theorem Akx(w:World)(s:Nat):Blk (st4 w s) w.heap.size 30 #[.slice none 0 0,.slice none 0 0,.slice none 0 0]:=((((Blk.new w _ _).alloc _).alloc _).alloc _).alloc _
theorem Akw(w:World)(s:Nat):Blk (st4 w s) (w.heap.size+1) 168 #[.pointer (some ⟨s,0,none⟩),.int .i64 (-1)]:=(((Blk.newAt _ _ _ (by simp)).alloc _).alloc _).alloc _
theorem Af7(w:World)(s:Nat):Blk (st4 w s) (w.heap.size+4) 172 #[.pointer (some ⟨s,0,none⟩),.int .i64 (-1),.map (some (w.heap.size+2)),.map (some (w.heap.size+3))]:=Blk.newAt _ _ _ (by simp)
theorem Af6(hL:Bd L w){g:Gt}{w5:World}(hm:Ab (K4 L w.heap.size) w5 s M)(hg:GV (fun _=>False) w5 (w.heap.size+2) (w.heap.size+3) M g)(hk:Kd (K4 L w.heap.size) (w.heap.size+2) (w.heap.size+3) (st4 w s) w5):
  ∃fa,AllD M g fa/\Sw L w s (w.heap.size+2) (w.heap.size+3) (w.heap.size+4) (w.heap.size+1) w5.heap.size w.heap.size M g.n (Bb g.fs []) g.n fa (.slice none 0 0) (.slice none 0 0) (.slice none 0 0) [] [] [] (w5.alloc (.cells #[.slice none 0 0,.slice none 0 0,.slice none 0 0] 30)):=by
 obtain⟨fa,h1,h2,h3⟩:=Ali hg
 have hsz:w.heap.size+5<=w5.heap.size:=by rw[<-Xr w s];exact hk.size
 have hB: ∀{b:Nat} {t:TypeId} {cs:Array Value},K4 L w.heap.size b->b≠w.heap.size+2->b≠w.heap.size+3->Blk (st4 w s) b t cs->Blk (w5.alloc (.cells #[.slice none 0 0,.slice none 0 0,.slice none 0 0] 30)) b t cs:=fun hb n1 n2 hq=>(Blk.of_heap (hk.l _ hb n1 n2) hq).alloc _
 have kw:Kw L w w5:=Kw.ofKd (Kw.below hL (Ol w s)) hL (fun b hb=>.inl hb) (by omega) (by omega) hk
 refine⟨fa,h2,⟨⟨ins (K4 L w.heap.size) w5.heap.size,fun b hb=>ins.old (.inl hb),⟨ins.old (.inr (.inr (.inr (.inl rfl)))),ins.old (.inr (.inr (.inr (.inr (.inl rfl))))),ins.old (.inr (.inr (.inr (.inr (.inr rfl))))),ins.old (.inr (.inr (.inl rfl))),ins.new _ _,ins.old (.inr (.inl rfl))⟩,fun b hb=>?_,hm.allocIns _⟩,kw.trans (Kw.below (kw.bd hL) ((Amf _ _).alloc (Ama _) _)),(hg.f.congr fun i=>(Ab0 g i).symm).alloc _,h1.alloc _,by omega,hB (.inr (.inr (.inr (.inr (.inr rfl))))) (by omega) (by omega) (Af7 w s),hB (.inr (.inr (.inl rfl))) (by omega) (by omega) (Akw w s),Blk.new _ _ _,hB (.inr (.inl rfl)) (by omega) (by omega) (Akx w s),by omega,by omega,fun b hb=>?_⟩,World.ownsRow_nil _ _ _ _,World.ownsRow_nil _ _ _ _,World.ownsRow_nil _ _ _ _,fun p hp=>(by cases hp),fun i p hp=>(h3 i p hp).rk (Q:=fun _=>True) fun b cs hq=>hq.alloc _⟩
 ·rcases hb with hb | hb | hb <;> cases hb
 ·rcases hb with hb | hb | hb <;> cases hb
end
theorem Ll{W W':World}{base:Nat}{e:TypeId}{n:Nat}{v:Value}{k:Nat}{xs:List Value}(hv:W.ownsRow base e n v k xs)(hg:W.grownBy W' v.ownBlock){b:Nat}{t:TypeId}{cs:Array Value}(hb:Blk W b t cs)(ht:t≠e):Blk W' b t cs:=
 Blk.of_heap (hg.block b hb.lt (fun q=>by
  obtain⟨-,cs',hq⟩:=Ag hv q.symm
  exact Blk.ne_ hb hq ht rfl)) hb
theorem Ab.arenaB{L:Nat->Prop}{w:World}{s:Nat}{M:Mem}(h:Ab L w s M): ∃a v,Blk w s 78 #[.pointer (some ⟨a,0,none⟩),v]:=by
 obtain⟨a,bn,K,vs,xs,h⟩:=h
 exact⟨a,_,h.nm.bs⟩
theorem Ajg:(Tryz.prog.info? 3).map (fun i=>(i.zero,i.size,i.bytes))=some (some (.int .i64 0),1,8):=by kernel_rfl
theorem Aij(W:World):(zeroValue 93).run Tryz.prog W= .ok (.agg #[.int .i64 0,.bool false,.slice none 0 0,.string ⟨#[]⟩]) W:=by kernel_rfl
theorem Kw.setNew{L:Nat->Prop}{w W:World}(h:Kw L w W)(hL:Bd L w){q:Nat}(hq:w.heap.size<=q)(i:Nat)(v:Value):Kw L w (W.setCell ⟨q,i,none⟩ v):=
 have hhp: ∀b,b≠q->(W.setCell ⟨q,i,none⟩ v).heap[b]? =W.heap[b]?:=fun b hb=>Below.heap_setCell _ _ _ _ hb
 ⟨⟨⟨h.k.k.os,h.k.k.tape,h.k.k.output,by simpa[World.setCell]using h.size,fun b hb=>(hhp b (by have:=hL b hb;omega)).trans (h.k.k.block b hb)⟩,h.k.i.setNew hq i v⟩,fun b hb hn=>(hhp b (by omega)).trans (h.o b hb hn)⟩
theorem Dr{w:World}{b b':Nat}{e:TypeId}{k n:Nat}{v:Value}{xs:List Value}(h:w.ownsRow b e k v n xs)(hb:b'<=b):w.ownsRow b' e k v n xs:=by
 refine⟨h.1,?_⟩
 rcases h.2 with q | ⟨g,cap,cur,h1,h2,h3⟩
 ·exact .inl q
 ·exact .inr ⟨g,cap,cur,h1,Aml hb h2,h3⟩
theorem Af5{M:Mem}{g:Gt}{D:Int->ByteArray}{n:Nat}{fa:Int->Option InV}(hfa:AllD M g fa):Og M g D n ⟨(Eu (allF g.fs (Bj M n) D fa (fun _=>false)) 257).map (·.1),Bj M n,Ca M n⟩:=by
 refine⟨rfl,rfl,fun i=>(allF g.fs (Bj M n) D fa (fun _=>false) i).map (·.1),?_,fun i=>⟨fun h=>?_,fun h=>?_⟩⟩
 ·show(Eu _ 257).map _=_
  unfold Eu
  rw[List.map_filterMap]
 ·show(allF g.fs (Bj M n) D fa (fun _=>false) i).map _=_
  unfold allF
  rw[if_pos ⟨h,rfl⟩]
  rfl
 ·have e:allF g.fs (Bj M n) D fa (fun _=>false) i=fa i:=by
   unfold allF
   rw[if_neg (fun q=>h q.1)]
  simp only[e]
  obtain⟨q1,q2⟩:=hfa i
  refine⟨by rw[<-q1];simp,fun p hp=>?_⟩
  obtain⟨x,hx,rfl⟩:=Option.map_eq_some_iff.1 hp
  exact q2 x hx
def Adn(M:Mem)(s:Nat)(fs:Int->Prop)(D:Int->ByteArray):Prop:=∀(K:Nat->Prop) (W:World) (num:Int),fs num->Ab K W s M->Calls Tryz.prog 91 #[.agg #[.pointer (some ⟨s,0,none⟩),.int .i64 (-1)],.int .i64 num] W fun e w'=>e= .returned (.string (D num))/\Ab K w' s M/\Kw K W w'
theorem Abk(A:Option Addr)(n c n' c':Nat):(Value.slice A n c).ownBlock=(Value.slice A n' c').ownBlock:=by cases A <;> rfl
theorem Xq{M:Mem}{m:Nat}(hok:M.ok m)(hm:m<=900000000)(hfit:M.fit){f:Nat}{g:Gt}(hg:gDir M f 1 ⟨[],[]⟩=g)(hgn:g.n<=1000000)(hdeep:Deep M f 1)(D:Int->ByteArray){n:Nat}(hn:M.ts.length=n)(hn8:n<=8)
  (hfd: ∀c k:Nat,c<n->k<4->0<=rd M.ws (fdw (c:Nat) (k:Nat))/\rd M.ws (fdw (c:Nat) (k:Nat))<=257) (hfs: ∀i∈g.fs,0<=i/\i<=257) {L:Nat->Prop} {w:World} {s:Nat} (hM:Ab L w s M) (hD:Adn M s (fun i=>(Bb g.fs (Bj M n) i).isSome=true) D):
  Calls Tryz.prog 41 #[.pointer (some ⟨s,0,none⟩)] w fun e w'=>(∃iv ov mv ev S,e= .returned (.agg #[iv,ov,mv])/\StV w' 0 iv ov mv ev S/\Og M g D n S/\ ∃K:Nat->Prop,(∀b,L b->K b)/\ (∀b,Q3 iv ov mv b->K b)/\Ab K w' s M)/\Ab L w' s M/\Kw L w w':=by
 have HL:=lhi hM.bd
 have HOK:=lhi hok
 have HF:=lhi hfit
 have HFD:=lhi hfd
 have HFS:=lhi hfs
 have HN:=lhi hn
 have HG:=lhi hg
 have HDC:=lhi hD
 have hmm:=@run_makeMap Tryz.prog
 have HC:=lhi (dirC hok hm hfit f (K4 L w.heap.size) (fun _=>False) (st4 w s) s (w.heap.size+2) (w.heap.size+3) (w.heap.size+4) 1 ⟨[],[]⟩ hdeep (Ais hM) (.inr (.inr (.inr (.inl rfl)))) (.inr (.inr (.inr (.inr (.inl rfl))))) (Aky w s) (fun _ h=>h.elim) (Af7 w s) (by rw[hg];exact hgn))
 rw[hg]at HC
 clear hok hfit hfd hfs hg hD hn hdeep
 go_enter Tryz.func41,Tryz.ntmps41
 go_upto_region 3 with(fail)
 change Code.wp _ _ _ _ (st4 w s)
 obtain⟨gb,hgb⟩: ∃x,x=w.heap.size+1+1+1+1:=⟨_,rfl⟩
 rw[<-hgb]
 obtain⟨ab,hab⟩: ∃x,x=w.heap.size+1+1+1:=⟨_,rfl⟩
 rw[<-hab]
 obtain⟨fb,hfb⟩: ∃x,x=w.heap.size+1+1:=⟨_,rfl⟩
 rw[<-hfb]
 obtain⟨vb,hvb⟩: ∃x,x=w.heap.size+1:=⟨_,rfl⟩
 rw[<-hvb]
 have HFR:=lhi (fun(w5:World)=>Af6 (M:=M) (s:=s) HL.out (g:=g) (w5:=w5))
 have e1:w.heap.size+4=gb:=hgb.symm
 have e2:w.heap.size+3=ab:=hab.symm
 have e3:w.heap.size+2=fb:=hfb.symm
 rw[e1,e2,e3]at HC HFR
 rw[<-hvb]at HFR
 obtain⟨ob,hob⟩: ∃x,x=w.heap.size:=⟨_,rfl⟩
 rw[<-hob]
 rw[<-hob]at HFR HC
 clear hgb hab hfb hvb e1 e2 e3 hob hmm
 generalize st4 w s=w4 at*
 go_upto_region 5 with(go_at_call 88;refine HC.out.mono ?_;rintro e w5 ⟨rfl,h1,h2,h3⟩;obtain⟨fa,hfa,hsw⟩:=HFR.out w5 h1 h2 h3;have HFA:=lhi hfa;have HSW:=lhi hsw;clear h1 h2 h3 hsw hfa HFR HC)
 obtain⟨xb,hxb⟩: ∃x,x=w5.heap.size:=⟨_,rfl⟩
 rw[<-hxb]at HSW⊢
 clear hxb
 generalize w5.alloc (.cells #[.slice none 0 0,.slice none 0 0,.slice none 0 0] 30)=w6 at*
 obtain⟨a6,ha6⟩:=Ab.arena HSW.out.c.m
 have HCO:=lhi (Ajv HSW.out.c.m ha6)
 rw[HN.out]at HCO
 have HSW0:=lhi (show Sw L w s fb ab gb vb xb ob M (g.n+ (Bj M 0).length) (Bb g.fs (Bj M 0)) g.n fa (.slice none 0 0) (.slice none 0 0) (.slice none 0 0) [] (Bj M 0) (Ca M 0) w6 from HSW.out)
 clear HSW
 go_wp2_with (go_at_call 89;refine HCO.out.mono ?_;rintro e w' ⟨rfl,rfl⟩)
 clear ha6 HCO
 go_loopw [27] (fun i wr=>∃(c:Nat) (ov mv:Value),i= .int .i64 c/\c<=n/\Sw L w s fb ab gb vb xb ob M (g.n+ (Bj M c).length) (Bb g.fs (Bj M c)) g.n fa (.slice none 0 0) ov mv [] (Bj M c) (Ca M c) wr) (fun i _=>n - (intOf i).toNat)
 case atStart=>exact⟨0,_,_,rfl,by omega,HSW0.out⟩
 case round=>
  obtain⟨c,ov,mv,rfl,hc,hsw⟩:=hrel
  have HSR:=lhi hsw
  clear hsw
  by_cases hp:c<n
  ·
   have hp1:(c:Int)<n:=by omega
   obtain⟨mA,mcap,rfl,hmcap⟩:=Aj HSR.out.r.rm
   rw[Ju]at HSR
   obtain⟨a,av,HA0⟩:=Ab.arenaB HSR.out.c.m
   have HA8:=lhi ((show Blk wr.drew s 78 _ from HA0).alloc (.cells #[.int .i64 (rd M.ws (mdw (c:Nat)))] 3))
   have ha:wr.cell? ⟨s,0,none⟩=some (.pointer (some ⟨a,0,none⟩)):=HA0.cell 0
   clear HA0
   have x2:wr.cell? ⟨xb,2,none⟩=some (.slice mA c mcap):=HSR.out.c.xB.cell 2
   have HMC:=lhi (Gu (c:Int) (by omega))
   have HPK:=lhi (Agk HSR.out.drew.c.m HOK.out (i:=mdw (c:Nat)) (by unfold mdw;omega) ha rfl)
   have HS8:=lhi (HSR.out.drew.alloc (.cells #[.int .i64 (rd M.ws (mdw (c:Nat)))] 3))
   have HX8:=lhi HS8.out.c.xB
   obtain⟨i0,hi0,hz⟩:=Option.map_eq_some_iff.1 Ajg
   have hz0:i0.zero=some (.int .i64 0):=congrArg (fun p=>p.1) hz
   have hz1:i0.size=1:=congrArg (fun p=>p.2.1) hz
   have hz2:i0.bytes=8:=congrArg (fun p=>p.2.2) hz
   clear hz
   have HNR:=lhi (show Ak (wr.drew.alloc (.cells #[.int .i64 (rd M.ws (mdw (c:Nat)))] 3)) (.slice (some ⟨wr.heap.size,0,none⟩) 1 1) 1 1 (fun _ _=>.int .i64 (rd M.ws (mdw (c:Nat))))from⟨_,_,rfl,Ama _,fun _=>⟨_,0,rfl,fun i j hi hj=>by
    obtain rfl:i=0:=by omega
    obtain rfl:j=0:=by omega
    exact(Blk.new wr.drew 3 #[.int .i64 (rd M.ws (mdw (c:Nat)))]).cell 0⟩⟩)
   have HCL:=lhi (show CL encM [rd M.ws (mdw (c:Nat))] (fun _ _=>.int .i64 (rd M.ws (mdw (c:Nat)))) 1 from fun i j hi hj=>by
    obtain rfl:i=0:=by simpa using hi
    obtain rfl:j=0:=by omega
    rfl)
   have hll:(Ca M c).length+1<=100000:=by rw[Ju];omega
   have hbs:w.heap.size<= (wr.drew.alloc (.cells #[.int .i64 (rd M.ws (mdw (c:Nat)))] 3)).heap.size:=HS8.out.c.kw.size
   go_upto_region 8 with(fail)
   refine Af (L:=12) (S:=fun w'=>w'.cell? ⟨xb,2,none⟩=some (.slice mA c mcap)/\w'.cell? ⟨s,0,none⟩=some (.pointer (some ⟨a,0,none⟩))) (by kernel_rfl) (⟨x2,ha⟩) (fun hHeld=>?_)
   refine tF 0 ?_
   refine tF 1 ?_
   refine tF 2 ?_
   refine tF 3 ?_
   refine tF 4 ?_
   refine tF 5 ?_
   refine tF 6 ?_
   refine Ap (i:=7) (by kernel_rfl) rfl (fun K hK=>?_)
   go_simp
   refine(HMC.out _).mono ?_
   rintro e w' ⟨rfl,rfl⟩
   show K _ _
   refine hK.out _ _ (fun _=>hHeld) (fun hHeld=>?_)
   replace hHeld:=hHeld (by decide)
   clear hK K
   refine Ap (i:=8) (by kernel_rfl) rfl (fun K hK=>?_)
   go_simp
   refine HPK.out.mono ?_
   rintro e w' ⟨rfl,rfl⟩
   show K _ _
   refine hK.out _ _ (fun _=>hHeld) (fun hHeld=>?_)
   replace hHeld:=hHeld (by decide)
   clear hK K
   refine Ap (i:=9) (by kernel_rfl) rfl (fun K hK=>?_)
   go_simp
   show K _ _
   refine hK.out _ _ (fun _=>⟨HX8.out.cell 2,HA8.out.cell 0⟩) (fun hHeld=>?_)
   replace hHeld:=hHeld (by decide)
   clear hK K
   refine Ap (i:=10) (by kernel_rfl) rfl (fun K hK=>?_)
   refine Adv _ rfl (.tmp 31) (.tmp 39) 28 3 rfl i0 _ 8 Tryz.underlying28 hi0 hz0 hz1 hz2 rfl (by decide) w.heap.size (.slice mA c mcap) (Ca M c) rfl HS8.out.r.rm (.slice (some ⟨wr.heap.size,0,none⟩) 1 1) rfl [rd M.ws (mdw (c:Nat))] (C:=fun _ _=>.int .i64 (rd M.ws (mdw (c:Nat)))) HNR.out HCL.out Jf (fun x _=>Zy x) hll (by decide) hbs ?_
   intro A' n' cap' w9 hn' ho hgr hor
   obtain rfl:n'=c+1:=by rw[hn',Ami,Ju];rfl
   have HX9:=lhi (Ll HS8.out.r.rm hgr HX8.out (by decide))
   have HA9:=lhi (Ll HS8.out.r.rm hgr HA8.out (by decide))
   have HS9:=lhi (HS8.out.pushM (n':=c+1) (Md':=Ca M (c+1)) HL.out (by rw[Ju]) (by rw[Yz];have h:=ho;rw[<-hn']at h;exact h) hgr hor)
   clear hn'
   show K _ _
   refine hK.out _ _ (fun _=>⟨HX9.out.cell 2,HA9.out.cell 0⟩) (fun hHeld=>?_)
   replace hHeld:=hHeld (by decide)
   clear hK K
   have f9:w9.frozen? ⟨xb,2,none⟩=false:=HX9.out.frozen _
   refine tF 11 ?_
   refine Ap (i:=12) (by kernel_rfl) rfl (fun K hK=>?_)
   go_simp
   show K _ _
   refine hK.out _ _ (fun h=>absurd rfl h) (fun _=>?_)
   clear hK K
   refine Cn (by kernel_rfl) ?_ _
   clear f9 hHeld x2 ha HX9 HA9 HX8 HA8 HS8 HPK HMC HNR HCL hll hbs hi0 hz0 hz1 hz2 ho hgr hor
   have HS10:=lhi (show Sw L w s fb ab gb vb xb ob M (g.n+ (Bj M c++opsC M c 0).length) (Bb g.fs (Bj M c++opsC M c 0)) g.n fa (.slice none 0 0) ov (.slice A' (c+1) cap') [] (Bj M c++opsC M c 0) (Ca M (c+1)) (w9.setCell ⟨xb,2,none⟩ (.slice A' (c+1) cap'))by rw[show opsC M c 0=[]from rfl,List.append_nil];exact HS9.out)
   clear HS9
   generalize w9.setCell ⟨xb,2,none⟩ (.slice A' (c+1) cap')=w10 at*
   go_wp2_with (fail)
   go_loopw [42] (fun i wr=>∃(k:Nat) (ov:Value),i= .int .i64 k/\k<=4/\Sw L w s fb ab gb vb xb ob M (g.n+ (Bj M c++opsC M c k).length) (Bb g.fs (Bj M c++opsC M c k)) g.n fa (.slice none 0 0) ov (.slice A' (c+1) cap') [] (Bj M c++opsC M c k) (Ca M (c+1)) wr) (fun i _=>4 - (intOf i).toNat)
   case atStart=>exact⟨0,_,rfl,by omega,HS10.out⟩
   case round=>
    obtain⟨k,ov,rfl,hk,hsw⟩:=hrel
    have HSK:=lhi hsw
    clear hsw HS10
    by_cases hpk:k<4
    ·
     have hp2:(k:Int)<4:=by omega
     have hrg:=HFD.out c k hp hpk
     obtain⟨a,ha⟩:=Ab.arena HSK.out.c.m
     have HFC:=lhi (Nu (c:Int) (k:Int) (by omega) (by omega))
     have HPK:=lhi (Agk HSK.out.drew.c.m HOK.out (i:=fdw (c:Nat) (k:Nat)) (by unfold fdw;omega) ha rfl)
     obtain⟨x,hx⟩:=xx (rd M.ws (fdw (c:Nat) (k:Nat)))
     rw[hx]at HPK hrg
     have HXE:=lhi hx
     clear hx
     go_upto_region 12 with(fail)
     have HSD:=lhi HSK.out.drew
     refine wp_region_still_lit (by kernel_rfl) (by kernel_rfl) ?_
     repeat still_step
     still_call ((HFC.out _).mono fun _ _ h=>⟨h.1,h.2.symm⟩)
     still_call HPK.out
     repeat still_step
     refine wpStill_nil ?_
     clear HPK HFC ha HSK
     change Exit.then _ _ _ _ wr.drew
     generalize wr.drew=w11 at*
     by_cases hx0:x=0
     ·subst hx0
      have HSN:=lhi (show Sw L w s fb ab gb vb xb ob M (g.n+ (Bj M c++opsC M c (k+1)).length) (Bb g.fs (Bj M c++opsC M c (k+1))) g.n fa (.slice none 0 0) ov (.slice A' (c+1) cap') [] (Bj M c++opsC M c (k+1)) (Ca M (c+1)) w11 by rw[Aeb HXE.out];exact HSD.out)
      go_wp2_with (fail)
      go_roundw
      case rel=>exact⟨k+1,_,by go_num,by omega,HSN.out⟩
      case measure=>
       simp only[intOf]
       omega
     ·have HON:=lhi (show Bj M c++opsC M c (k+1)=(Bj M c++opsC M c k)++[((c:Int),(k:Int),x)]by rw[Aec (by rw[HXE.out];exact hx0),HXE.out,List.append_assoc])
      have HOL:=lhi (show(Bj M c++opsC M c k).length<=100 by rw[Ami];have:=Ou M c;have:=Yj M c k;omega)
      obtain⟨O,hO⟩:=xx (Bj M c++opsC M c k)
      rw[hO]at HSD HON HOL
      clear hO
      obtain⟨oA,ocap,rfl,hocap⟩:=Aj HSD.out.r.ro
      have HSA:=lhi (HSD.out.alloc (.cells #[.int .i64 (c:Int),.int .i64 (k:Int),.int .i64 x] 144))
      have HXA:=lhi HSA.out.c.xB
      have x1:w11.cell? ⟨xb,1,none⟩=some (.slice oA O.length ocap):=HSD.out.c.xB.cell 1
      obtain⟨i0,hi0,hz⟩:=Option.map_eq_some_iff.1 Jb
      have hz0:i0.zero=some (.agg #[.int .i64 0,.int .i64 0,.int .i64 0]):=congrArg (fun p=>p.1) hz
      have hz1:i0.size=3:=congrArg (fun p=>p.2.1) hz
      have hz2:i0.bytes=24:=congrArg (fun p=>p.2.2) hz
      clear hz
      have HNR:=lhi (show Ak (w11.alloc (.cells #[.int .i64 (c:Int),.int .i64 (k:Int),.int .i64 x] 144)) (.slice (some ⟨w11.heap.size,0,none⟩) 1 1) 1 3 (opnL [((c:Int),(k:Int),x)])from⟨_,_,rfl,Ama _,fun _=>⟨_,0,rfl,fun i j hi hj=>by
       obtain rfl:i=0:=by omega
       rcases(by omega:j=0∨j=1∨j=2)with rfl | rfl | rfl
       ·exact(Blk.new w11 144 #[.int .i64 (c:Int),.int .i64 (k:Int),.int .i64 x]).cell 0
       ·exact(Blk.new w11 144 #[.int .i64 (c:Int),.int .i64 (k:Int),.int .i64 x]).cell 1
       ·exact(Blk.new w11 144 #[.int .i64 (c:Int),.int .i64 (k:Int),.int .i64 x]).cell 2⟩⟩)
      have hll:O.length+1<=100000:=by have:=HOL.out;omega
      have hgo:g.n+O.length<1000000000:=by have:=HOL.out;omega
      have hbs:w.heap.size<= (w11.alloc (.cells #[.int .i64 (c:Int),.int .i64 (k:Int),.int .i64 x] 144)).heap.size:=HSA.out.c.kw.size
      go_upto_region 15 with(at_builtin;refine Cm _ rfl (.tmp 56) (.tmp 61) 27 144 rfl i0 _ 24 Tryz.underlying27 hi0 hz0 hz1 hz2 rfl (by decide) w.heap.size (.slice oA O.length ocap) O rfl HSA.out.r.ro (.slice (some ⟨w11.heap.size,0,none⟩) 1 1) rfl [((c:Int),(k:Int),x)] (C:=opnL [((c:Int),(k:Int),x)]) HNR.out (Ajz _) Ek (fun x _=>Zz x) hll (by decide) hbs ?_;intro B' n' bcap w12 hn' ho hgr hor;obtain rfl:n'=O.length+1:=(hn'.trans Ami);have HX12:=lhi (Ll HSA.out.r.ro hgr HXA.out (by decide));have HS13:=lhi (HSA.out.pushO (n':=O.length+1) (O':=O++[((c:Int),(k:Int),x)]) HL.out (by simp) (by have h:=ho;rw[<-hn']at h;exact h) hgr hor);clear hn' ho hgr hor;have y1:w12.cell? ⟨xb,1,none⟩=some (.slice oA O.length ocap):=HX12.out.cell 1;have f1:w12.frozen? ⟨xb,1,none⟩=false:=HX12.out.frozen _)
      clear x1 hi0 hz0 hz1 hz2 HNR HXA HSA hll hbs HSD
      generalize w12.setCell ⟨xb,1,none⟩ (.slice B' (O.length+1) bcap)=w13 at*
      have g2:w13.cell? ⟨gb,2,none⟩=some (.map (some fb)):=HS13.out.c.gB.cell 2
      have hx1:0<=x/\x<=257:=hrg
      go_wp2_with (at_mapUpdate;refine Hu _ rfl 127 4 Tryz.underlying127 (.tmp 67) (.tmp 68) (.const (.bool true)) (.inl rfl) fb (g.n+O.length) _ rfl HS13.out.c.f hgo x (by omega) rfl (.bool true) rfl ?_;intro w14 hM14 hG14;have HS14:=lhi (HS13.out.mapF HL.out (hM14.congr (g:=Bb g.fs (O++[((c:Int),(k:Int),x)])) fun j=>Zv g.fs O ((c:Int),(k:Int),x) j) hG14);clear hM14 hG14)
      have HSN:=lhi (show Sw L w s fb ab gb vb xb ob M (g.n+ (Bj M c++opsC M c (k+1)).length) (Bb g.fs (Bj M c++opsC M c (k+1))) g.n fa (.slice none 0 0) (.slice B' (O.length+1) bcap) (.slice A' (c+1) cap') [] (Bj M c++opsC M c (k+1)) (Ca M (c+1)) w14 by rw[HON.out,show(O++[((c:Int),(k:Int),x)]).length=O.length+1 from by simp];exact HS14.out)
      clear HS14 HS13
      go_roundw
      case rel=>exact⟨k+1,_,by go_num,by omega,HSN.out⟩
      case measure=>
       simp only[intOf]
       omega
    ·have e:k=4:=by omega
     subst e
     have HS11:=lhi (show Sw L w s fb ab gb vb xb ob M (g.n+ (Bj M (c+1)).length) (Bb g.fs (Bj M (c+1))) g.n fa (.slice none 0 0) ov (.slice A' (c+1) cap') [] (Bj M (c+1)) (Ca M (c+1)) wr by rw[Rq];exact HSK.out)
     clear HSK
     go_wp2_with (fail)
     go_roundw
     case rel=>exact⟨c+1,_,_,by go_num,by omega,HS11.out⟩
     case measure=>
      simp only[intOf]
      omega
  ·have e:c=n:=by omega
   subst e
   have HOL:=lhi (Ou M c)
   obtain⟨O,hO⟩:=xx (Bj M c)
   have HOE:=lhi hO
   have HFN:=lhi (fun(i:Int) (hi:(Bb g.fs O i).isSome=true)=>Abz (M:=M) (n:=c) HFD.out HFS.out (i:=i) (by rw[hO];exact hi))
   rw[hO]at HSR HDC HOL
   clear hO
   have g2:wr.cell? ⟨gb,2,none⟩=some (.map (some fb)):=HSR.out.c.gB.cell 2
   have HFM:=lhi HSR.out.c.f
   go_wp2_with (at_range;refine Tp _ rfl 127 4 Tryz.underlying127 (.tmp 74) rfl fb _ _ rfl HFM.out ?_;intro w7 cnt hR7 hG7 hZ7;go_frame)
   have hwr:w.heap.size<=wr.heap.size:=HSR.out.c.kw.size
   have HS7:=lhi (HSR.out.below (W':=w7) ⟨hG7.os,hG7.tape,hG7.output,hG7.size,fun b hb=>hG7.block b hb (by simp)⟩)
   have HR7:=lhi hR7
   clear hG7 g2 HFM HSR
   obtain⟨r,hr⟩:=yy wr.heap.size
   rw[<-hr]at HR7 hwr⊢
   clear hr hR7 hZ7
   obtain⟨NB,hNB⟩:=xx (g.n+cnt)
   have hNB2:NB<=10000000:=by have:=HR7.out.cnt_le;have:=HOL.out;omega
   have HST:=lhi (show Sw L w s fb ab gb vb xb ob M (g.n+O.length) (Bb g.fs O) g.n (allF g.fs O D fa (fun i=>(Bb g.fs O i).isSome)) (.slice none 0 0) ov mv [] O (Ca M c) w7 by
    have e:allF g.fs O D fa (fun i=>(Bb g.fs O i).isSome)=fa:=by
     funext i
     unfold allF
     rw[if_neg (fun h=>absurd (h.1.symm.trans h.2) (by decide))]
    rw[e]
    exact HS7.out)
   clear HS7
   obtain⟨wq,rfl⟩: ∃wq:World,wq=wr:=⟨_,rfl⟩
   go_loopw [9] (fun _ wr=>∃(lf:Int->Bool) (cnt na:Nat),Sw L w s fb ab gb vb xb ob M (g.n+O.length) (Bb g.fs O) na (allF g.fs O D fa lf) (.slice none 0 0) ov mv [] O (Ca M c) wr/\Cp wr fb r (g.n+O.length) (Bb g.fs O) lf cnt/\na+cnt<=NB) (fun _ wr=>wr.rangeLeft fb r)
   case atStart=>exact⟨_,cnt,g.n,HST.out,HR7.out,by omega⟩
   case round=>
    obtain⟨lf,cn,na,hsw,hrv,hna⟩:=hrel
    have HSK:=lhi hsw
    have HRV:=lhi hrv
    clear hsw hrv HST HR7
    by_cases h0:cn=0
    ·go_wp2_with (at_next;refine Mx _ rfl (.tmp 75) rfl fb r (g.n+O.length) (Bb g.fs O) lf cn rfl HRV.out ?_ (fun i v w' cnt' _ _ _ hlt=>absurd hlt (by omega));intro h00 hl0;have HL0:=lhi hl0;clear hl0)
     have HSE:=lhi (show Sw L w s fb ab gb vb xb ob M (g.n+O.length) (Bb g.fs O) na (allF g.fs O D fa (fun _=>false)) (.slice none 0 0) ov mv [] O (Ca M c) wr by rw[show(fun _:Int=>false)=lf from funext fun i=>(HL0.out i).symm];exact HSK.out)
     obtain⟨F,hF⟩:=xx (allF g.fs O D fa (fun _=>false))
     have HFE:=lhi hF
     rw[hF]at HSE
     clear hF HSK HRV HL0
     obtain⟨wp,rfl⟩: ∃wp:World,wp=wr:=⟨_,rfl⟩
     go_loopw [10] (fun i wr=>∃(m:Nat) (iv:Value),i= .int .i64 ((m:Int)+1)/\m<=257/\Sw L w s fb ab gb vb xb ob M (g.n+O.length) (Bb g.fs O) na F iv ov mv (Eu F m) O (Ca M c) wr) (fun i _=>258 - (intOf i).toNat)
     case atStart=>exact⟨0,_,rfl,by omega,HSE.out⟩
     case round=>
      obtain⟨m',iv,rfl,hm',hsw⟩:=hrel
      have HSK:=lhi hsw
      clear hsw HSE
      by_cases hpm:m'<257
      ·have hp3:((m':Int)+1)<=257:=by omega
       have g3:wr.cell? ⟨gb,3,none⟩=some (.map (some ab)):=HSK.out.c.gB.cell 3
       have hlk:=HSK.out.c.a.look_ok Tryz.underlying170 (Aij wr) (i:=(m':Int)+1) (by omega)
       cases hFm:F ((m':Int)+1)with
       | none=>
        have hnn:faV F ((m':Int)+1)=none:=by unfold faV;rw[hFm];rfl
        rw[hnn]at hlk
        simp only[Option.getD_none,Option.isSome_none]at hlk
        have HSN:=lhi (show Sw L w s fb ab gb vb xb ob M (g.n+O.length) (Bb g.fs O) na F iv ov mv (Eu F (m'+1)) O (Ca M c) wr by rw[Abu hFm];exact HSK.out)
        clear hnn hFm
        have HSA:=lhi (HSN.out.alloc (.cells #[.int .i64 0,.bool false,.slice none 0 0,.string ⟨#[]⟩] 93))
        clear HSN HSK
        go_wp2_with (fail)
        go_roundw
        case rel=>exact⟨m'+1,_,by go_num,by omega,HSA.out⟩
        case measure=>
         simp only[intOf]
         omega
       | some p=>
        have hen:=HSK.out.r.ea _ p hFm
        have HEN:=lhi hen
        have hnn:faV F ((m':Int)+1)=some (.agg (encI p).toArray):=by unfold faV;rw[hFm];rfl
        have HIN:=lhi (Abt hFm)
        have HLN:=lhi (Aen F m')
        obtain⟨I0,hI0⟩:=xx (Eu F m')
        rw[hI0]at HIN HLN HSK
        obtain⟨x,ev⟩:=p
        obtain⟨eA,ecp,hev,-,-⟩:=hen
        have hev:ev= .slice eA x.ents.length ecp:=hev
        subst hev
        have hlk2:(Instr.lookup 170 (.map (some ab)) (.int .i64 ((m':Int)+1)) true).run Tryz.prog wr= .ok (.tuple #[.agg #[.int .i64 x.num,.bool x.dir,.slice eA x.ents.length ecp,.string x.data],.bool true]) wr:=by rw[hlk,hnn];rfl
        clear hI0 hnn hFm hlk
        obtain⟨iA,icap,rfl,hicap⟩:=Aj HSK.out.r.ri
        have HSA:=lhi ((HSK.out.alloc (.cells #[.int .i64 x.num,.bool x.dir,.slice eA x.ents.length ecp,.string x.data] 93)).alloc (.cells #[.int .i64 x.num,.bool x.dir,.slice eA x.ents.length ecp,.string x.data] 93))
        have HXA:=lhi HSA.out.c.xB
        have HEA:=lhi (show La _ (x,Value.slice eA x.ents.length ecp)from HEN.out.rk (Q:=fun _=>True) (W':=(wr.alloc (.cells #[.int .i64 x.num,.bool x.dir,.slice eA x.ents.length ecp,.string x.data] 93)).alloc (.cells #[.int .i64 x.num,.bool x.dir,.slice eA x.ents.length ecp,.string x.data] 93)) fun b cs hq=>(hq.alloc _).alloc _)
        have x0:(wr.alloc (.cells #[.int .i64 x.num,.bool x.dir,.slice eA x.ents.length ecp,.string x.data] 93)).cell? ⟨xb,0,none⟩=some (.slice iA I0.length icap):=(HSK.out.alloc _).c.xB.cell 0
        obtain⟨i0,hi0,hz⟩:=Option.map_eq_some_iff.1 Ja
        have hz0:i0.zero=some (.agg #[.int .i64 0,.bool false,.slice none 0 0,.string ⟨#[]⟩]):=congrArg (fun p=>p.1) hz
        have hz1:i0.size=4:=congrArg (fun p=>p.2.1) hz
        have hz2:i0.bytes=56:=congrArg (fun p=>p.2.2) hz
        clear hz
        have HNR:=lhi (show Ak ((wr.alloc (.cells #[.int .i64 x.num,.bool x.dir,.slice eA x.ents.length ecp,.string x.data] 93)).alloc (.cells #[.int .i64 x.num,.bool x.dir,.slice eA x.ents.length ecp,.string x.data] 93)) (.slice (some ⟨wr.heap.size+1,0,none⟩) 1 1) 1 4 (fun _ j=>((encI (x,Value.slice eA x.ents.length ecp))[j]?).getD undef)from by
         have hB:=(Blk.new (wr.alloc (.cells #[.int .i64 x.num,.bool x.dir,.slice eA x.ents.length ecp,.string x.data] 93)) 93 #[.int .i64 x.num,.bool x.dir,.slice eA x.ents.length ecp,.string x.data])
         have e:(wr.alloc (.cells #[.int .i64 x.num,.bool x.dir,.slice eA x.ents.length ecp,.string x.data] 93)).heap.size=wr.heap.size+1:=by simp
         rw[e]at hB
         exact⟨_,_,rfl,Ama _,fun _=>⟨_,0,rfl,fun i j hi hj=>by
          obtain rfl:i=0:=by omega
          rcases(by omega:j=0∨j=1∨j=2∨j=3)with rfl | rfl | rfl | rfl
          ·exact hB.cell 0
          ·exact hB.cell 1
          ·exact hB.cell 2
          ·exact hB.cell 3⟩⟩)
        have HCL:=lhi (show CL encI [(x,Value.slice eA x.ents.length ecp)] (fun _ j=>((encI (x,Value.slice eA x.ents.length ecp))[j]?).getD undef) 4 from fun i j hi hj=>by
         obtain rfl:i=0:=by simpa using hi
         rcases(by omega:j=0∨j=1∨j=2∨j=3)with rfl | rfl | rfl | rfl <;> rfl)
        have hon: ∀q∈[(x,Value.slice eA x.ents.length ecp)],∀u∈encI q,u.oneCell'=true:=fun q hq u hu=>by
         rw[List.mem_singleton.1 hq]at hu
         simp[encI]at hu
         rcases hu with rfl | rfl | rfl | rfl <;> rfl
        have hll:I0.length+1<=100000:=by have:=HLN.out;omega
        have hbs:w.heap.size<= ((wr.alloc (.cells #[.int .i64 x.num,.bool x.dir,.slice eA x.ents.length ecp,.string x.data] 93)).alloc (.cells #[.int .i64 x.num,.bool x.dir,.slice eA x.ents.length ecp,.string x.data] 93)).heap.size:=HSA.out.c.kw.size
        go_wp2_with (at_builtin;refine Cm _ rfl (.tmp 105) (.tmp 107) 26 93 rfl i0 _ 56 Tryz.underlying26 hi0 hz0 hz1 hz2 rfl (by decide) w.heap.size (.slice iA I0.length icap) I0 rfl HSA.out.r.ri (.slice (some ⟨wr.heap.size+1,0,none⟩) 1 1) rfl [(x,Value.slice eA x.ents.length ecp)] HNR.out HCL.out Db hon hll (by decide) hbs ?_;intro B' n' bcap w12 hn' ho hgr hor;obtain rfl:n'=I0.length+1:=(hn'.trans Ami);have HX12:=lhi (Ll HSA.out.r.ri hgr HXA.out (by decide));have HS13:=lhi (HSA.out.pushI (n':=I0.length+1) (p:=(x,Value.slice eA x.ents.length ecp)) HL.out (by simp) (by have h:=ho;rw[<-hn']at h;exact h) HEA.out hgr hor);clear hn' ho hgr hor;have y1:w12.cell? ⟨xb,0,none⟩=some (.slice iA I0.length icap):=HX12.out.cell 0;have f1:w12.frozen? ⟨xb,0,none⟩=false:=HX12.out.frozen _)
        have HSN:=lhi (show Sw L w s fb ab gb vb xb ob M (g.n+O.length) (Bb g.fs O) na F (.slice B' (I0.length+1) bcap) ov mv (Eu F (m'+1)) O (Ca M c) (w12.setCell ⟨xb,0,none⟩ (.slice B' (I0.length+1) bcap))by rw[HIN.out];exact HS13.out)
        go_roundw
        case rel=>exact⟨m'+1,_,by go_num,by omega,HSN.out⟩
        case measure=>
         simp only[intOf]
         omega
      ·have e:m'=257:=by omega
       subst e
       have hp3: ¬ (((257:Nat):Int)+1)<=257:=by omega
       obtain⟨iA,icap,rfl,-⟩:=Aj HSK.out.r.ri
       obtain⟨oA,ocap,rfl,-⟩:=Aj HSK.out.r.ro
       obtain⟨mA,mcap,rfl,-⟩:=Aj HSK.out.r.rm
       have HXA:=lhi HSK.out.c.xB
       have HOB:=lhi HSK.out.c.oB
       obtain⟨iL,hiL⟩: ∃x,(Eu F 257).length=x:=⟨_,rfl⟩
       obtain⟨oL,hoL⟩: ∃x,O.length=x:=⟨_,rfl⟩
       obtain⟨mL,hmL⟩: ∃x,(Ca M c).length=x:=⟨_,rfl⟩
       rw[hiL,hoL,hmL]at HXA
       have HLL:=lhi (show iL=(Eu F 257).length/\oL=O.length/\mL=(Ca M c).length from⟨hiL.symm,hoL.symm,hmL.symm⟩)
       clear hiL hoL hmL
       have x0:wr.cell? ⟨xb,0,none⟩=some (.slice iA iL icap):=HXA.out.cell 0
       have x1:wr.cell? ⟨xb,1,none⟩=some (.slice oA oL ocap):=HXA.out.cell 1
       have x2:wr.cell? ⟨xb,2,none⟩=some (.slice mA mL mcap):=HXA.out.cell 2
       have o0:wr.cell? ⟨ob,0,none⟩=some (.slice none 0 0):=HOB.out.cell 0
       have o1:wr.cell? ⟨ob,1,none⟩=some (.slice none 0 0):=HOB.out.cell 1
       have o2:wr.cell? ⟨ob,2,none⟩=some (.slice none 0 0):=HOB.out.cell 2
       have f0:wr.frozen? ⟨ob,0,none⟩=false:=HOB.out.frozen _
       have f1:wr.frozen? ⟨ob,1,none⟩=false:=HOB.out.frozen _
       have f2:wr.frozen? ⟨ob,2,none⟩=false:=HOB.out.frozen _
       go_wp2_with (fail)
       have hsw:=HSK.out
       have hb0:=hsw.c.lo.2.2.2.2.2
       have HB1:=HOB.out.set_ 0 (.slice iA iL icap)
       have HB2:=HB1.set_ 1 (.slice oA oL ocap)
       have HB3:=HB2.set_ 2 (.slice mA mL mcap)
       have z0:=HB3.cell 0
       have z1:=HB3.cell 1
       have z2:=HB3.cell 2
       obtain⟨ev',hst⟩: ∃ev',StV wr 0 (.slice iA iL icap) (.slice oA oL ocap) (.slice mA mL mcap) ev' ⟨(Eu F 257).map (·.1),O,Ca M c⟩:=by
        obtain⟨l1,l2,l3⟩:=HLL.out
        subst l1 l2 l3
        exact⟨_,StV.of_list (L:=Eu F 257) rfl (Dr hsw.r.ri (Nat.zero_le _)) hsw.r.en ((Cc (by decide) Ek hsw.r.ro (Ab8 ⟨(Eu F 257).map (·.1),O,Ca M c⟩)).base_le (Nat.zero_le _)) ((Cc (by decide) Jf hsw.r.rm (Ab9 ⟨(Eu F 257).map (·.1),O,Ca M c⟩)).base_le (Nat.zero_le _))⟩
       have hst1:=hst.far HOB.out (by decide) (by decide) (by decide) (by decide) 0 (.slice iA iL icap)
       have hst2:=hst1.far HB1 (by decide) (by decide) (by decide) (by decide) 1 (.slice oA oL ocap)
       have hst3:=hst2.far HB2 (by decide) (by decide) (by decide) (by decide) 2 (.slice mA mL mcap)
       have hmem:Ab L (((wr.setCell ⟨ob,0,none⟩ (.slice iA iL icap)).setCell ⟨ob,1,none⟩ (.slice oA oL ocap)).setCell ⟨ob,2,none⟩ (.slice mA mL mcap)) s M:=by
        obtain⟨K,h1,⟨k1,k2,k3,k4,k5,k6⟩,h3,h4⟩:=hsw.c.ex
        exact(((h4.set HOB.out k6 0 _).set HB1 k6 1 _).set HB2 k6 2 _).sub h1
       have hkw:Kw L w (((wr.setCell ⟨ob,0,none⟩ (.slice iA iL icap)).setCell ⟨ob,1,none⟩ (.slice oA oL ocap)).setCell ⟨ob,2,none⟩ (.slice mA mL mcap)):=((hsw.c.kw.setNew HL.out hb0 0 _).setNew HL.out hb0 1 _).setNew HL.out hb0 2 _
       have his:=Af5 (D:=D) (n:=c) HFA.out
       rw[HOE.out,HFE.out]at his
       have hkk: ∃K:Nat->Prop,(∀b,L b->K b)/\ (∀b,Q3 (.slice iA iL icap) (.slice oA oL ocap) (.slice mA mL mcap) b->K b)/\Ab K (((wr.setCell ⟨ob,0,none⟩ (.slice iA iL icap)).setCell ⟨ob,1,none⟩ (.slice oA oL ocap)).setCell ⟨ob,2,none⟩ (.slice mA mL mcap)) s M:=by
        obtain⟨K,h1,⟨k1,k2,k3,k4,k5,k6⟩,h3,h4⟩:=hsw.c.ex
        exact⟨K,h1,fun b hb=>h3 b (hb.imp (fun q=>(Abk _ _ _ _ _).trans q) fun q=>q.imp (fun q=>(Abk _ _ _ _ _).trans q) fun q=>(Abk _ _ _ _ _).trans q),((h4.set HOB.out k6 0 _).set HB1 k6 1 _).set HB2 k6 2 _⟩
       refine bodyPost_ret (v:=.agg #[.slice iA iL icap,.slice oA oL ocap,.slice mA mL mcap]) ?_ rfl ⟨⟨_,_,_,rfl,_,_,hst3,his,hkk⟩,hmem,hkw⟩
       simp[results,Tryz.results41,go_sem,o0,o1,o2]
    ·go_upto_region 21 with(at_next;refine Mx _ rfl (.tmp 75) rfl fb r (g.n+O.length) (Bb g.fs O) lf cn rfl HRV.out (fun h=>absurd h h0) ?_;intro i v w8 cnt8 hl hv hR hlt hG hZ hen;have HR8:=lhi hR;have HLI:=lhi hl;have HVI:=lhi hv;have HS8:=lhi (HSK.out.iter HL.out (HRV.out.noBlk) HRV.out.ne (HRV.out.noMap HSK.out.c.a.obj) hwr HRV.out.lt hG);clear hl hv hR hG hZ)
     have hi:=HFN.out i (by rw[HVI.out];rfl)
     have hna2:na<1000000000:=by omega
     obtain⟨C,hC⟩: ∃C:World->Prop,∀W,C W↔(Sw L w s fb ab gb vb xb ob M (g.n+O.length) (Bb g.fs O) na (allF g.fs O D fa lf) (.slice none 0 0) ov mv [] O (Ca M c) W/\Cp W fb r (g.n+O.length) (Bb g.fs O) (fun j=>lf j&&!decide (j=i)) cnt8):=⟨_,fun _=>Iff.rfl⟩
     have hC0:C w8.drew:=(hC _).2 ⟨HS8.out.drew,HR8.out.heap rfl rfl⟩
     haveI:Nonempty (WIn C):=⟨⟨_,hC0⟩⟩
     have HG3:=lhi (fun(x:WIn C)=>show x.v.cell? ⟨gb,3,none⟩=some (.map (some ab))from((hC _).1 x.h).1.c.gB.cell 3)
     have HV0:=lhi (fun(x:WIn C)=>show x.v.cell? ⟨vb,0,none⟩=some (.pointer (some ⟨s,0,none⟩))from((hC _).1 x.h).1.c.vB.cell 0)
     have HV1:=lhi (fun(x:WIn C)=>show x.v.cell? ⟨vb,1,none⟩=some (.int .i64 (-1))from((hC _).1 x.h).1.c.vB.cell 1)
     have HDX:=lhi (fun(x:WIn C)=>show Calls Tryz.prog 91 #[.agg #[.pointer (some ⟨s,0,none⟩),.int .i64 (-1)],.int .i64 i] x.v fun e w'=>e= .returned (.string (D i))/\C w' from by
      obtain⟨q1,q2⟩:=(hC _).1 x.h
      refine(q1.call fun K hK=>(HDC.out K x.v i (show(Bb g.fs O i).isSome=true by rw[HVI.out];rfl) hK).mono (R':=fun e w'=>e= .returned (.string (D i))/\Ab K w' s M/\Kw K x.v w') fun _ _ h=>h).mono ?_
      rintro e w' ⟨r1,r2,r3⟩
      refine⟨r1,(hC _).2 ⟨r2,q2.heap (r3 fb q1.c.f.lt (Bw.map_no q1.c.f.obj)) (r3 r q2.lt fun⟨t,cs,hb,_⟩=>q2.noBlk t cs hb)⟩⟩)
     have g3:=HG3.out
     have v0:=HV0.out
     have v1:=HV1.out
     refine Fa C (by kernel_rfl) (by kernel_rfl) (by kernel_rfl) (by kernel_rfl) (by kernel_rfl) (by decide) hC0 ?_
     simp only[List.dropLast]
     repeat (go_big_quiet_step ((go_at_call 91;exact Calls.win (HDX.out _))))
     refine wpQuiet_nil ?_
     rintro wx ⟨x5,h5⟩
     have hx:=(hC _).1 x5.h
     rw[<-h5]at hx
     clear h5 x5 HG3 HV0 HV1 HDX g3 v0 v1 hC0 hC
     have HSX:=lhi hx.1
     have HRX:=lhi hx.2
     clear hx
     refine Qe (o:=⟨none,_,_,_,_,_⟩) rfl (fun K hK=>?_)
     refine Adu _ rfl 170 93 Tryz.underlying170 (.tmp 83) (.tmp 84) (.tmp 89) rfl ab na _ rfl HSX.out.c.a hna2 i (by omega) rfl (.agg (encI (filI D i)).toArray) rfl ?_
     intro w9 hM9 hG9
     have HS9:=lhi (HSX.out.mapA HL.out hM9 (Ajm _ D i) hG9)
     have HR9:=lhi (HRX.out.kept hG9 (fun e=>HSX.out.c.ne (Amg e)) (fun e=>HRX.out.noMap HSX.out.c.a.obj (Amg e)))
     have HSN:=lhi (show Sw L w s fb ab gb vb xb ob M (g.n+O.length) (Bb g.fs O) (na+1) (allF g.fs O D fa (fun j=>lf j&&!decide (j=i))) (.slice none 0 0) ov mv [] O (Ca M c) w9 by
      have e:(fun j=>if j=i then some (filI D i)else allF g.fs O D fa lf j)=allF g.fs O D fa (fun j=>lf j&&!decide (j=i)):=by
       funext j
       unfold allF
       by_cases q:j=i
       ·subst q
        rw[if_pos rfl,if_pos ⟨by rw[HVI.out];rfl,by simp⟩]
       ·simp only[if_neg q,decide_eq_false q,Bool.not_false,Bool.and_true]
      rw[<-e]
      exact HS9.out)
     clear hM9 hG9 HSX HS9 HRX
     refine hK.out _ _ ?_
     go_wp2_with (fail)
     go_roundw
     case rel=>exact⟨_,_,_,_,_,_,_,_,_,_,_,_,_,_,_,⟨_,cnt8,na+1,HSN.out,HR9.out,by omega⟩,rfl⟩
     case measure=>
      rw[HR9.out.left_eq,HRV.out.left_eq]
      omega
end Go.Proofs.YtkebjgebkneijaaGreat
