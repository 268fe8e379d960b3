/- Texts of one's own that a claim's last text rests on: MpD MpO. -/
import Derived.Test.YtkebjgebkneijaaGreatMG17
import Derived.StillTailTactics
import Derived.Test.YtkebjgebkneijaaGreatMG7
import Derived.Test.YtkebjgebkneijaaGreatMG14
set_option linter.unusedVariables false
set_option linter.unusedSimpArgs false
namespace Go.Proofs.YtkebjgebkneijaaGreat
section
open Go.RowKit
set_option maxHeartbeats 2000000
section
variable{ops:Array Oper}{o:Oper}{a:Act}{Q:Exit->Act->World->Prop}
theorem step_setV(w:World){K:Act->World->Prop}{E:Prop}(hgd:o.guard=none)(T E_:TypeId)(hT:Tryz.prog.underlying T=some (.map 3 E_))(m x v:Operand)(hop:o.op=Op.mapUpdate T m x v)(b n:Nat)(f:Int->Option Value)(hm:a.eval m= .map (some b))(h:MapV w b n f)(hn:n<1000000000)
  (i:Int) (hi: -1000000<=i/\i<=1000000) (hx:a.eval x= .int .i64 i) (y:Value) (hv:a.eval v=y)
  (hK: ∀w',MapV w' b (n+1) (fun j=>if j=i then some y else f j)->w.grownBy w' (some b)->K (a.put o.dst undef) w'):
  if Region.wanted o (yielded ops a.tmps)=true then Oper.wp Tryz.prog o a w K Q else E:=by
 have hw:Region.wanted o (yielded ops a.tmps)=true:=by simp[Region.wanted,hgd]
 rw[if_pos hw]
 obtain⟨D,ho,hf⟩:=h
 obtain⟨w',hrun,r1,r2⟩:=ho.update (val:=y) lawI hT (by unfold maxLen;omega) (keyI hi) (show anyE y=some (.held y,[])from rfl)
 unfold Oper.wp
 simp[execOp,hop,hm,hx,hv,hrun,Result.andThen]
 exact hK w' ⟨_,r1,hf.put ho.isMap i y⟩ r2
end
section
variable{A:Type}{enc:A->List Value}{k:Nat}{ops:Array Oper}{rest:List Oper}{o:Oper}{a:Act}{Q:Exit->Act->World->Prop}
theorem wpList_appR(w:World)(hg:o.guard=none)(s x:Operand)(t e:TypeId)(hop:o.op=Op.call {callee:=Callee.builtin Builtin.append,args:=#[s,x],argTypes:=#[t,t]})
  (i:TypeInfo) (z:Value) (bytes:Nat) (ht:Tryz.prog.underlying t=some (.slice e)) (hi:Tryz.prog.info? e=some i) (hz:i.zero=some z) (hsize:i.size=k) (hby:i.bytes=bytes) (hzs:z.cells.size=k) (hk:0<k)
  (base:Nat) (v:Value) (L:List A) (hs:a.eval s=v) (hown:w.ownsRow base e k v L.length (L.flatMap enc)) (xv:Value) (hx:a.eval x=xv) (M:List A) {C:Nat->Nat->Value} (hM:RowAt w xv M.length k C) (hC:CL enc M C k)
  (hl: ∀x,(enc x).length=k) (h1: ∀x∈M,∀u∈enc x,u.oneCell'=true) (h63:L.length+M.length<=100000) (hbytes:bytes<=1000) (hbase:base<=w.heap.size)
  (hK: ∀A' n' cap' w',n'=(L++M).length->w'.ownsRow base e k (.slice A' n' cap') (L++M).length ((L++M).flatMap enc)->w.grownBy w' v.ownBlock->((Value.slice A' n' cap').ownBlock=v.ownBlock∨(Value.slice A' n' cap').ownBlock=some w.heap.size)->wpList Tryz.prog ops Q rest (a.put o.dst (.slice A' n' cap')) w'):wpList Tryz.prog ops Q (o::rest) a w:=by
 refine wpList_plain hg fun K' hK'=>?_
 obtain⟨A1,cap1,rfl,hc1,hA1⟩:=hM
 have hbb:(L.length+M.length)*bytes<=140737488355328:=Nat.le_trans (Nat.mul_le_mul h63 hbytes) (by decide)
 have hrun: ∃v' w',(Builtin.append_ #[t,t] o.type #[v,.slice A1 M.length cap1]).run Tryz.prog w= .ok v' w'/\w'.ownsRow base e k v' (L++M).length ((L++M).flatMap enc)/\w.grownBy w' v.ownBlock/\ (v'.ownBlock=v.ownBlock∨v'.ownBlock=some w.heap.size):=by
  rcases Nat.eq_zero_or_pos M.length with h0 | h0
  ·have hM0:M=[]:=List.length_eq_zero_iff.1 h0
   subst hM0
   rw[List.append_nil]
   cases A1 with
   | none=>
    have hb: ∃b n' c',v= .slice b n' c'/\n'<=c':=by
     rcases hown.2 with⟨rfl,_⟩ | ⟨g,cap,cur,rfl,_,_,h6,_⟩
     ·exact⟨_,_,_,rfl,Nat.le_refl _⟩
     ·exact⟨_,_,_,rfl,h6⟩
    obtain⟨b,n',c',rfl,hle⟩:=hb
    exact⟨_,_,run_append_nothing (P:=Tryz.prog) w t t o.type e i ht hi b n' c' hle _ (Src.ofNil w ht cap1),hown,⟨rfl,rfl,rfl,Nat.le_refl _,fun _ _ _=>rfl⟩,.inl rfl⟩
   | some ad=>
    obtain⟨v',w',r1,r2,r3,-,r5⟩:=run_append_own_at (P:=Tryz.prog) w base t o.type e i z k bytes ht hi hz hsize hby hzs hk v L.length _ hown ad 0 cap1 [] (by simp) (fun j u hu=>by simp at hu) (fun u hu=>by simp at hu) (by simp only[maxLen];omega) (by simpa using hbb) hbase
    rw[List.append_nil,Nat.add_zero]at r2
    exact⟨v',w',r1,r2,r3,r5⟩
  ·obtain⟨g,off,rfl,hcell⟩:=hA1 h0
   obtain⟨v',w',r1,r2,r3,-,r5⟩:=run_append_own_at (P:=Tryz.prog) w base t o.type e i z k bytes ht hi hz hsize hby hzs hk v L.length _ hown ⟨g,off,none⟩ M.length cap1 (M.flatMap enc) (flat_len_k hl M) (fun j u hu=>by
    have hj:j<M.length*k:=by rw[<-flat_len_k hl M];exact(List.getElem?_eq_some_iff.1 hu).1
    have e1:j=j / k*k+j % k:=by rw[Nat.mul_comm];exact(Nat.div_add_mod j k).symm
    have hq:j / k<M.length:=Nat.div_lt_of_lt_mul (by rw[Nat.mul_comm];exact hj)
    have h2:=hC.get hk hl hq (Nat.mod_lt j hk)
    rw[<-e1,hu]at h2
    rw[Addr.add_lit]
    have h3:=hcell (j / k) (j % k) hq (Nat.mod_lt j hk)
    rw[<-e1]at h3
    rw[h3,<-h2]) (fun u hu=>by
    obtain⟨x,hm,hx⟩:=List.mem_flatMap.1 hu
    exact h1 x hm u hx) (by simp only[maxLen];omega) hbb hbase
   rw[<-List.flatMap_append,<-List.length_append]at r2
   exact⟨v',w',r1,r2,r3,r5⟩
 obtain⟨v',w',hrun,r2,r3,r4⟩:=hrun
 unfold Oper.wp
 simp[execOp,hop,resolve,invoke,builtin,hx,hs,hrun,Result.andThen]
 have hf: ∃A' cap',v'= .slice A' (L++M).length cap':=by
  rcases r2.2 with⟨rfl,h0⟩ | ⟨g,cap,cur,rfl,_⟩
  ·exact⟨none,0,by rw[h0]⟩
  ·exact⟨_,_,rfl⟩
 obtain⟨A',cap',rfl⟩:=hf
 exact hK' _ _ (hK A' _ cap' w' rfl r2 r3 r4)
end
theorem info_entry':(Tryz.prog.info? 132).map (fun i=>(i.zero,i.size,i.bytes))=some (some (.agg #[.string ⟨#[]⟩,.int .i64 0]),2,24):=by kernel_rfl
theorem own_form{w:World}{base:Nat}{e:TypeId}{size k:Nat}{v:Value}{xs:List Value}(h:w.ownsRow base e size v k xs): ∃A cap,v= .slice A k cap/\k<=cap:=by
 rcases h.2 with⟨rfl,h0⟩ | ⟨g,cap,cur,rfl,_,_,h6,_⟩
 ·exact⟨none,0,by rw[h0],by omega⟩
 ·exact⟨_,_,rfl,h6⟩
theorem Gt.foldl_snoc(rec_:Int->Gt->Gt)(l:List Item)(i:Item)(g:Gt):(l++[i]).foldl (gIt rec_) g=gIt rec_ (l.foldl (gIt rec_) g) i:=by rw[List.foldl_append];rfl
theorem gFold_pre(M:Mem)(f:Nat)(l l':List Item)(g:Gt):(l.foldl (gIt (gDir M f)) g).n<= ((l++l').foldl (gIt (gDir M f)) g).n:=by
 rw[List.foldl_append]
 exact fold_le (gDir_le M f) l' _
theorem itsTo_pre(M:Mem)(num:Int): ∀b,b<=8-> ∃l,itsM M num=itsTo M num b++l:=by
 intro b hb
 unfold itsM itsTo
 obtain⟨c,hc⟩: ∃c,8=b+c:=⟨8 - b,by omega⟩
 rw[hc,List.range_add,List.flatMap_append]
 exact⟨_,rfl⟩
theorem itsTo_len{M:Mem}(hf:M.fit){num:Int}(hn:1<=num/\num<=257): ∀b,b<=8->(itsTo M num b).length<=b*1000
 | 0,_=>by simp[itsTo]
 | b+1,hb=>by
  have:=itsTo_len hf hn b (by omega)
  have:=(hf.it num b hn ⟨by omega,by omega⟩).1
  rw[itsTo_succ,List.length_append];omega
structure Dw (L V:Nat->Prop) (w:World) (s fb ab xb:Nat) (M:Mem) (num:Int) (ev:Value) (D:List En) (g:Gt) (W:World):Prop where
 ex: ∃K:Nat->Prop,(∀b,L b->K b)/\K xb/\ (∀q,ev.ownBlock=some q->K q)/\MemAt K W s M
 k:Kd L fb ab w W
 gv: ∃V':Nat->Prop,(∀b,V b->V' b)/\ (∀q,ev.ownBlock=some q->V' q)/\ (∀q,V' q->q<W.heap.size)/\GV V' W fb ab M g
 x:Blk W xb 93 #[.int .i64 num,.bool true,ev,.string ⟨#[]⟩]
 nx:w.heap.size<=xb
 row:W.ownsRow w.heap.size 132 2 ev D.length (D.flatMap encEn)
namespace Dw
variable{L V:Nat->Prop}{w W W':World}{s fb ab xb:Nat}{M:Mem}{num:Int}{ev:Value}{D:List En}{g:Gt}
theorem m(h:Dw L V w s fb ab xb M num ev D g W):MemAt L W s M:=by obtain⟨K,h1,-,-,h2⟩:=h.ex;exact h2.sub h1
theorem g0(h:Dw L V w s fb ab xb M num ev D g W):GV V W fb ab M g:=by obtain⟨K,h1,-,-,h2⟩:=h.gv;exact h2.sub h1
theorem below(h:Dw L V w s fb ab xb M num ev D g W)(hb:Below W.heap.size W W'):Dw L V w s fb ab xb M num ev D g W':=by
 obtain⟨K,h1,h2,h3,h4⟩:=h.ex
 obtain⟨V',v1,v2,v3,v4⟩:=h.gv
 exact⟨⟨K,h1,h2,h3,h4.below hb⟩,h.k.trans (Kd.below h.m.bd hb),⟨V',v1,v2,fun q hq=>Nat.lt_of_lt_of_le (v3 q hq) hb.size,v4.below hb⟩,Blk.of_heap (hb.block _ h.x.lt) h.x,h.nx,own_below h.row hb⟩
theorem alloc(h:Dw L V w s fb ab xb M num ev D g W)(o:Obj):Dw L V w s fb ab xb M num ev D g (W.alloc o):=h.below ((Below.refl _ _).alloc (Nat.le_refl _) o)
theorem drew(h:Dw L V w s fb ab xb M num ev D g W):Dw L V w s fb ab xb M num ev D g W.drew:=h.below (below_drew W)
theorem call(h:Dw L V w s fb ab xb M num ev D g W){P:FuncId}{args:Array Value}{R:Ending->World->Prop}
  (hc: ∀K,MemAt K W s M->Calls Tryz.prog P args W fun e w'=>R e w'/\MemAt K w' s M/\Kp K W w'):
  Calls Tryz.prog P args W fun e w'=>R e w'/\Dw L V w s fb ab xb M num ev D g w':=by
 obtain⟨K,h1,h2,h3,h4⟩:=h.ex
 obtain⟨V',v1,v2,v3,v4⟩:=h.gv
 refine(call_wide h4 hc).mono ?_
 rintro e w' ⟨hr,hm,hk⟩
 exact⟨hr,⟨K,h1,h2,h3,hm⟩,h.k.trans (Kd.ofKw (hk.sub h1)),⟨V',v1,v2,fun q hq=>Nat.lt_of_lt_of_le (v3 q hq) hk.size,v4.kw hk⟩,hk.blk h.x not_st_inode,h.nx,hk.row h.row not_st_entry⟩
theorem gather(h:Dw L V w s fb ab xb M num ev D g W){P:FuncId}{args:Array Value}{g':Gt}{R:Ending->Prop}
  (hc: ∀K V':Nat->Prop,(∀b,L b->K b)->MemAt K W s M->GV V' W fb ab M g->(∀q,V' q->q<W.heap.size)->Calls Tryz.prog P args W fun e w'=>R e/\MemAt K w' s M/\GV V' w' fb ab M g'/\Kd K fb ab W w'):
  Calls Tryz.prog P args W fun e w'=>R e/\Dw L V w s fb ab xb M num ev D g' w'/\KI W w':=by
 obtain⟨K,h1,h2,h3,h4⟩:=h.ex
 obtain⟨V',v1,v2,v3,v4⟩:=h.gv
 refine(hc K V' h1 h4 v4 v3).mono ?_
 rintro e w' ⟨hr,hm,hg,hk⟩
 exact⟨hr,⟨⟨K,h1,h2,h3,hm⟩,h.k.trans ⟨hk.os,hk.tape,hk.output,hk.size,fun b hb=>hk.l b (h1 b hb),hk.o,hk.i⟩,⟨V',v1,v2,fun q hq=>Nat.lt_of_lt_of_le (v3 q hq) hk.size,hg⟩,hk.blk v4.objF v4.objA h.x not_st_inode,h.nx,hk.row v4.objF v4.objA h.row not_st_entry⟩,hk.i⟩
theorem app(h:Dw L V w s fb ab xb M num ev D g W){v':Value}{n':Nat}{D':List En}(hl:Bd L w)(hn:n'=D'.length)(ho:W'.ownsRow w.heap.size 132 2 v' n' (D'.flatMap encEn))(hg:W.grownBy W' ev.ownBlock)
  (hr:v'.ownBlock=ev.ownBlock∨v'.ownBlock=some W.heap.size):Dw L V w s fb ab xb M num v' D' g (W'.setCell ⟨xb,2,none⟩ v'):=by
 subst hn
 obtain⟨K,h1,h2,h3,h4⟩:=h.ex
 obtain⟨V',v1,v2,v3,v4⟩:=h.gv
 have hrow: ∀q,ev.ownBlock=some q-> ∃t cs,Blk W q t cs:=fun q hq=>by
  obtain⟨-,cs',hb⟩:=own_type h.row hq
  exact⟨_,_,hb⟩
 have hty: ∀{b:Nat} {t:TypeId} {cs:Array Value},Blk W b t cs->t≠132->Blk W' b t cs:=fun {b t cs} hb ht=>Blk.of_heap (hg.block b hb.lt (fun e=>by
  obtain⟨-,cs',hq⟩:=own_type h.row e.symm
  exact Blk.ne_ hb hq ht rfl)) hb
 have hx':=hty h.x (by decide)
 have hin:w.heap.size<=W.heap.size:=h.k.size
 have hnew: ∀b,v'.ownBlock=some b->b<W.heap.size->ev.ownBlock=some b:=fun b hb hlt=>by
  rcases hr with hr | hr
  ·rw[<-hr];exact hb
  ·rw[hr]at hb
   have:=Option.some.inj hb
   omega
 have hK:Bd (fun b=>K b∨v'.ownBlock=some b) W':=fun b hb=>by
  rcases hb with hb | hb
  ·exact Nat.lt_of_lt_of_le (h4.bd b hb) hg.size
  ·exact(ho.lt b hb).2
 have hm':MemAt (fun b=>K b∨v'.ownBlock=some b) W' s M:=by
  refine h4.move hK hg.size (fun b hb hlt=>?_) (fun b hlt hn=>hg.block b hlt (fun e=>hn (h3 b e.symm)))
  rcases hb with hb | hb
  ·exact hb
  ·exact h3 b (hnew b hb hlt)
 have hxn:v'.ownBlock≠some xb:=fun e=>by
  obtain⟨-,cs',hq⟩:=own_type ho e
  exact Blk.ne_ hx' hq (by decide) rfl
 have hgv: ∃V'':Nat->Prop,(∀b,V b->V'' b)/\ (∀q,v'.ownBlock=some q->V'' q)/\ (∀q,V'' q->q<W'.heap.size)/\GV V'' W' fb ab M g:=by
  cases hq:v'.ownBlock with
  | none=>exact⟨V',v1,fun q h=>(by cases h),fun q h=>Nat.lt_of_lt_of_le (v3 q h) hg.size,v4.grown hg fun q e=>⟨v2 q e,hrow q e⟩⟩
  | some q=>
   refine⟨ins V' q,fun b hb=>.inl (v1 b hb),fun p hp=>.inr (Option.some.inj hp).symm,fun p hp=>?_,(v4.addV (q:=q) ?_).grown hg fun p e=>⟨.inl (v2 p e),hrow p e⟩⟩
   ·rcases hp with hp | hp
    ·exact Nat.lt_of_lt_of_le (v3 p hp) hg.size
    ·rw[hp];exact(ho.lt q hq).2
   ·by_cases e:q<W.heap.size
    ·exact .inr (v2 q (hnew q hq e))
    ·exact .inl (by omega)
 obtain⟨V'',u1,u2,u3,u4⟩:=hgv
 have hk1:Kd L fb ab w W':=⟨hg.os.trans h.k.os,hg.tape.trans h.k.tape,hg.output.trans h.k.output,Nat.le_trans h.k.size hg.size,fun b hb q1 q2=>(hg.block b (by have:=hl b hb;omega) (fun e=>by have:=(h.row.lt b e.symm).1;have:=hl b hb;omega)).trans (h.k.l b hb q1 q2),fun b hb hn q1 q2=>(hg.block b (by omega) (fun e=>by have:=(h.row.lt b e.symm).1;omega)).trans (h.k.o b hb hn q1 q2),h.k.i.trans fun b t cs ht hb=>hty hb (by rcases ht with rfl | rfl <;> decide)⟩
 have hxl:=h.nx
 refine⟨⟨_,fun b hb=>.inl (h1 b hb),.inl h2,fun q hq=>.inr hq,hm'.set hx' (.inl h2) 2 v'⟩,?_,⟨V'',u1,u2,fun q hq=>by simpa[World.setCell]using u3 q hq,u4.setE hx' (by decide) 2 v'⟩,hx'.set_ 2 v',h.nx,ownsRow_setCell_other ho (a:=⟨xb,2,none⟩) hxn v'⟩
 exact⟨hk1.os,hk1.tape,hk1.output,by simpa[World.setCell]using hk1.size,fun b hb q1 q2=>(Below.heap_setCell _ _ _ _ (show b≠xb by have:=hl b hb;omega)).trans (hk1.l b hb q1 q2),fun b hb hn q1 q2=>(Below.heap_setCell _ _ _ _ (show b≠xb by omega)).trans (hk1.o b hb hn q1 q2),hk1.i.setNew hxl 2 v'⟩
theorem app_ki(h:Dw L V w s fb ab xb M num ev D g W){v':Value}(hg:W.grownBy W' ev.ownBlock):KI W (W'.setCell ⟨xb,2,none⟩ v'):=by
 have hty: ∀{b:Nat} {t:TypeId} {cs:Array Value},Blk W b t cs->t≠132->Blk W' b t cs:=fun {b t cs} hb ht=>Blk.of_heap (hg.block b hb.lt (fun e=>by
  obtain⟨-,cs',hq⟩:=own_type h.row e.symm
  exact Blk.ne_ hb hq ht rfl)) hb
 intro b t cs ht hb
 exact(hty hb (by rcases ht with rfl | rfl <;> decide)).far (p:=⟨xb,2,none⟩) (Blk.ne_ (hty hb (by rcases ht with rfl | rfl <;> decide)) (hty h.x (by decide)) (by rcases ht with rfl | rfl <;> decide)) _
theorem sorted(h:Dw L V w s fb ab xb M num ev D g W){D':List En}(hl:Bd L w)(hn:D'.length=D.length)(ho:W'.ownsRow w.heap.size 132 2 ev D.length (D'.flatMap encEn))(hg:W.grownBy W' ev.ownBlock):Dw L V w s fb ab xb M num ev D' g W':=by
 obtain⟨K,h1,h2,h3,h4⟩:=h.ex
 obtain⟨V',v1,v2,v3,v4⟩:=h.gv
 have hrow: ∀q,ev.ownBlock=some q-> ∃t cs,Blk W q t cs:=fun q hq=>by
  obtain⟨-,cs',hb⟩:=own_type h.row hq
  exact⟨_,_,hb⟩
 have hty: ∀{b:Nat} {t:TypeId} {cs:Array Value},Blk W b t cs->t≠132->Blk W' b t cs:=fun {b t cs} hb ht=>Blk.of_heap (hg.block b hb.lt (fun e=>by
  obtain⟨-,cs',hq⟩:=own_type h.row e.symm
  exact Blk.ne_ hb hq ht rfl)) hb
 have hin:w.heap.size<=W.heap.size:=h.k.size
 exact⟨⟨K,h1,h2,h3,h4.move (fun b hb=>Nat.lt_of_lt_of_le (h4.bd b hb) hg.size) hg.size (fun _ hb _=>hb) fun b hlt hn=>hg.block b hlt (fun e=>hn (h3 b e.symm))⟩,
  ⟨hg.os.trans h.k.os,hg.tape.trans h.k.tape,hg.output.trans h.k.output,Nat.le_trans h.k.size hg.size,fun b hb q1 q2=>(hg.block b (by have:=hl b hb;omega) (fun e=>by have:=(h.row.lt b e.symm).1;have:=hl b hb;omega)).trans (h.k.l b hb q1 q2),fun b hb hn q1 q2=>(hg.block b (by omega) (fun e=>by have:=(h.row.lt b e.symm).1;omega)).trans (h.k.o b hb hn q1 q2),h.k.i.trans fun b t cs ht hb=>hty hb (by rcases ht with rfl | rfl <;> decide)⟩,
  ⟨V',v1,v2,fun q hq=>Nat.lt_of_lt_of_le (v3 q hq) hg.size,v4.grown hg fun q e=>⟨v2 q e,hrow q e⟩⟩,hty h.x (by decide),h.nx,hn▸ho⟩
theorem file(h:Dw L V w s fb ab xb M num ev D g W){n:Int}(hm:MapV W' fb (g.n+1) (fun j=>if j=n then some (.bool true)else filesV g j))(hg:W.grownBy W' (some fb))(hLf:L fb):
  Dw L V w s fb ab xb M num ev D ⟨n::g.fs,g.ds⟩ W':=by
 obtain⟨K,h1,h2,h3,h4⟩:=h.ex
 obtain⟨V',v1,v2,v3,v4⟩:=h.gv
 have kk:Kd K fb ab W W':=Kd.grownF h4.bd v4.objF hg
 exact⟨⟨K,h1,h2,h3,h4.grown (h1 _ hLf) hg⟩,h.k.trans ⟨kk.os,kk.tape,kk.output,kk.size,fun b hb=>kk.l b (h1 b hb),kk.o,kk.i⟩,⟨V',v1,v2,fun q hq=>Nat.lt_of_lt_of_le (v3 q hq) hg.size,v4.file h4.bd hm hg⟩,kk.blk v4.objF v4.objA h.x not_st_inode,h.nx,kk.row v4.objF v4.objA h.row not_st_entry⟩
end Dw
theorem GV.dir2{L V:Nat->Prop}{w w':World}{fb ab:Nat}{M:Mem}{g:Gt}(hbd:Bd L w)(h:GV V w fb ab M g){num:Int}{y:Value}{fa:Int->Option Value}(h2: ∀i,(fa i).isSome=decide (i∈g.ds)/\ ∀v,fa i=some v->DirV V w M i v)
  (hm:MapV w' ab (g.n+1) (fun j=>if j=num then some y else fa j)) (hy:DirV V w M num y) (hg:w.grownBy w' (some ab)):GV V w' fb ab M ⟨g.fs,num::g.ds⟩:=by
 have kb:Kd L fb ab w w':=Kd.grownA hbd h.objA hg
 have e:Gt.n ⟨g.fs,num::g.ds⟩=g.n+1:=by unfold Gt.n;simp;omega
 refine⟨by rw[e];exact(h.f.kept hg fun q=>h.ne (Option.some.inj q)).mono (by omega),h.ne,_,by rw[e];exact hm,fun i=>?_⟩
 by_cases q:i=num
 ·subst q
  simp only[if_pos rfl]
  refine⟨by simp,fun v hv=>?_⟩
  injection hv with hv
  exact hv▸hy.kd kb h.objF h.objA
 ·simp only[if_neg q]
  refine⟨by rw[(h2 i).1];simp[q],fun v hv=>((h2 i).2 v hv).kd kb h.objF h.objA⟩
theorem take_it{l:List Item}{k:Nat}(hk:k<l.length):l.take (k+1)=l.take k++[l.getD k noItem]:=by
 rw[List.take_add_one,List.getElem?_eq_getElem hk,List.getD_eq_getElem?_getD,List.getElem?_eq_getElem hk]
 rfl
theorem not_st_gath: ¬ ((172:TypeId)=78∨(172:TypeId)=150∨(172:TypeId)=20∨(172:TypeId)=152∨(172:TypeId)=3∨(172:TypeId)=136):=by decide
def DirC(M:Mem)(f:Nat):Prop:=∀(L V:Nat->Prop) (w:World) (s fb ab gb:Nat) (num:Int) (g:Gt),Deep M f num->MemAt L w s M->L fb->L ab->GV V w fb ab M g->(∀q,V q->q<w.heap.size)->
  Blk w gb 172 #[.pointer (some ⟨s,0,none⟩),.int .i64 (-1),.map (some fb),.map (some ab)]->(gDir M f num g).n<=1000000->
  Calls Tryz.prog 88 #[.pointer (some ⟨gb,0,none⟩),.int .i64 num] w fun e w'=>e= .returned (.tuple #[])/\MemAt L w' s M/\GV V w' fb ab M (gDir M f num g)/\Kd L fb ab w w'
theorem dirC_zero(M:Mem):DirC M 0:=fun _ _ _ _ _ _ _ _ _ hD=>hD.elim
set_option maxRecDepth 1000000 in
theorem dirC_succ{M:Mem}{m:Nat}(hok:M.ok m)(hm:m<=900000000)(hf:M.fit)(f:Nat)(IH:DirC M f):DirC M (f+1):=by
  intro L V w s fb ab gb num g hD hM hLf hLa hG hV hgb hn
  obtain⟨hnum,hsub⟩:=hD
  have HL:=lhi hM.bd
  have HD0:=lhi (show Dw L V w s fb ab w.heap.size M num (.slice none 0 0) ((itsTo M num 0).map entIt) ((itsTo M num 0).foldl (gIt (gDir M f)) g) (w.alloc (.cells #[.int .i64 num,.bool true,.slice none 0 0,.string ⟨#[]⟩] 93))from
   ⟨⟨ins L w.heap.size,fun b hb=>ins.old hb,ins.new _ _,fun q hq=>(by cases hq),hM.allocIns _⟩,Kd.below hM.bd ((Below.refl _ _).alloc (Nat.le_refl _) _),⟨V,fun _ h=>h,fun q hq=>(by cases hq),fun q hq=>Nat.lt_of_lt_of_le (hV q hq) (by simp),hG.alloc _⟩,Blk.new _ _ _,Nat.le_refl _,World.ownsRow_nil _ _ _ _⟩)
  have HOK:=lhi hok
  have HF:=lhi hf
  have HGB:=lhi hgb
  have HS:=lhi hsub
  have HOF:=lhi hG.objF
  have HOA:=lhi hG.objA
  have HN:=lhi hn
  have HLF:=lhi hLf
  have HLA:=lhi hLa
  have HVV:=lhi hV
  clear hM hLf hLa hG hV hgb hn hsub hok hf
  go_enter Tryz.func88,Tryz.ntmps88
  go_wp2_with (fail)
  obtain⟨w1,hw1⟩: ∃w1,w1=w.alloc (.cells #[.int .i64 num,.bool true,.slice none 0 0,.string ⟨#[]⟩] 93):=⟨_,rfl⟩
  obtain⟨xb,hxb⟩: ∃xb,xb=w.heap.size:=⟨_,rfl⟩
  rw[<-hw1,<-hxb]at HD0
  rw[<-hw1,<-hxb]
  clear hw1
  have HXB:=lhi hxb
  clear hxb
  go_loopw [10] (fun i wr=>∃(b:Nat) (ev:Value),i= .int .i64 b/\b<=8/\Dw L V w s fb ab xb M num ev ((itsTo M num b).map entIt) ((itsTo M num b).foldl (gIt (gDir M f)) g) wr) (fun i _=>8 - (intOf i).toNat)
  case atStart=>exact⟨0,_,rfl,by omega,HD0.out⟩
  case round=>
   obtain⟨b,ev,rfl,hb,hdw⟩:=hrel
   have HDW:=lhi hdw
   by_cases hp:b<8
   ·have hp1:(b:Int)<8:=by omega
    have HGW:=lhi (hdw.k.blk HOF.out HOA.out HGB.out not_st_gath)
    have g0:wr.cell? ⟨gb,0,none⟩=some (.pointer (some ⟨s,0,none⟩)):=HGW.out.cell 0
    have g1:wr.cell? ⟨gb,1,none⟩=some (.int .i64 (-1)):=HGW.out.cell 1
    have HBK:=lhi (hdw.call fun K hK=>bucket_calls' hK HOK.out (by omega) (.inl rfl) hnum (b:=(b:Int)) ⟨by omega,by omega⟩ (HF.out.bk num b hnum ⟨by omega,by omega⟩).1 (HF.out.bk num b hnum ⟨by omega,by omega⟩).2 |>.mono (by rintro e w' ⟨h1,h2,h3⟩;rw[Mem.see_neg]at h2;exact⟨h1,h2,h3⟩))
    clear hdw
    have HII:=lhi (HF.out.it num b hnum ⟨by omega,by omega⟩)
    go_wp2_with (go_at_call 136;refine HBK.out.mono ?_;rintro e w4 ⟨⟨v,rfl,hit⟩,hdw⟩;obtain⟨HIT⟩:=(⟨lhi hit⟩:Nonempty _);have HDW4:=lhi hdw;clear hit hdw;obtain⟨A,cap,rfl,hcap,-⟩:=RowT.at' HIT.out)
    clear g0 g1 HGW HDW
    have HKI4:=lhi (KI.refl w4)
    have HTK:=lhi (show Dw L V w s fb ab xb M num ev ((itsTo M num b++(M.bkt num (b:Int)).take 0).map entIt) ((itsTo M num b++(M.bkt num (b:Int)).take 0).foldl (gIt (gDir M f)) g) w4 by rw[List.take_zero,List.append_nil];exact HDW4.out)
    obtain⟨l,hl⟩: ∃l,M.bkt num (b:Int)=l:=⟨_,rfl⟩
    have HLE:=lhi hl
    rw[hl]at HIT HTK HII hcap⊢
    clear hl HBK HDW4
    obtain⟨n,hn⟩: ∃n,l.length=n:=⟨_,rfl⟩
    have HNN:=lhi hn
    rw[hn]
    rw[hn]at HIT hcap
    clear hn
    have hn1:n<=1000:=by have:=HII.out.1;rw[HNN.out]at this;exact this
    go_loopw [21] (fun i wr=>∃(k:Nat) (ev:Value),i= .int .i64 k/\k<=n/\Dw L V w s fb ab xb M num ev ((itsTo M num b++l.take k).map entIt) ((itsTo M num b++l.take k).foldl (gIt (gDir M f)) g) wr/\KI w4 wr) (fun i _=>n - (intOf i).toNat)
    case atStart=>exact⟨0,_,rfl,by omega,HTK.out,HKI4.out⟩
    case round=>
     obtain⟨k,ev,rfl,hk,hdw,hki⟩:=hrel
     by_cases hpk:k<n
     ·
      have hp2:(k:Int)<n:=by omega
      have hkl:k<l.length:=by rw[HNN.out];exact hpk
      obtain⟨-,-,ig,ioff,rfl,icell⟩:=(RowT.at' (HIT.out.ki hki)).at_ hkl
      have c0:wr.cell? ⟨ig,ioff+k*3,none⟩=some (.string (l.getD k noItem).name):=icell 0 (by omega)
      have c1:wr.cell? ⟨ig,ioff+k*3+1,none⟩=some (.int .i64 (l.getD k noItem).num):=icell 1 (by omega)
      have c2:wr.cell? ⟨ig,ioff+k*3+2,none⟩=some (.bool (l.getD k noItem).dir):=icell 2 (by omega)
      have hin:1<= (l.getD k noItem).num/\ (l.getD k noItem).num<=257:=HII.out.2 _ (by rw[List.getD_eq_getElem?_getD,List.getElem?_eq_getElem hkl];exact List.getElem_mem hkl)
      have hmem:l.getD k noItem∈itsM M num:=by
       obtain⟨l',e⟩:=itsTo_pre M num (b+1) (by omega)
       rw[e,itsTo_succ,HLE.out]
       exact List.mem_append_left _ (List.mem_append_right _ (by rw[List.getD_eq_getElem?_getD,List.getElem?_eq_getElem hkl];exact List.getElem_mem hkl))
      have HSB:=lhi (HS.out _ hmem)
      have HST:=lhi (show itsTo M num b++l.take (k+1)=(itsTo M num b++l.take k)++[l.getD k noItem]by rw[take_it hkl,List.append_assoc])
      have HLL:=lhi (show(itsTo M num b++l.take k).length<=9000 by
       have:=itsTo_len HF.out hnum b (by omega)
       rw[List.length_append,List.length_take];omega)
      have HGN:=lhi (show(gIt (gDir M f) ((itsTo M num b++l.take k).foldl (gIt (gDir M f)) g) (l.getD k noItem)).n<=1000000 by
       obtain⟨l',e⟩:=itsTo_pre M num (b+1) (by omega)
       have h1:=HN.out
       unfold gDir Gt.n at h1
       have h2:=gFold_pre M f (itsTo M num b++l.take (k+1)) (l.drop (k+1)++l') g
       rw[List.append_assoc,<-List.append_assoc (l.take (k+1)),List.take_append_drop,<-HLE.out,<-List.append_assoc,<-itsTo_succ,<-e,HLE.out,take_it hkl,<-List.append_assoc,Gt.foldl_snoc]at h2
       unfold Gt.n at h2⊢
       simp at h1
       omega)
      clear icell hmem
      obtain⟨it,hit⟩: ∃it,l.getD k noItem=it:=⟨_,rfl⟩
      rw[hit]at c0 c1 c2 hin HSB HST HGN
      clear hit
      obtain⟨LD,hLD⟩: ∃LD,itsTo M num b++l.take k=LD:=⟨_,rfl⟩
      rw[hLD]at hdw HST HLL HGN
      clear hLD
      obtain⟨G,hG⟩: ∃G,LD.foldl (gIt (gDir M f)) g=G:=⟨_,rfl⟩
      have HGE:=lhi hG
      rw[hG]at hdw HGN
      clear hG
      have HKI:=lhi hki
      obtain⟨D,hD⟩: ∃D,LD.map entIt=D:=⟨_,rfl⟩
      have HDE:=lhi hD
      have hll:D.length+1<=100000:=by have:=HLL.out;rw[<-hD,List.length_map];omega
      rw[hD]at hdw
      clear hD
      obtain⟨eA,ecap,rfl,hecap⟩:=own_form hdw.row
      have x2:wr.cell? ⟨xb,2,none⟩=some (.slice eA D.length ecap):=hdw.x.cell 2
      have HD1:=lhi (hdw.alloc (.cells #[.string it.name,.int .i64 it.num,.bool it.dir] 136))
      have HD2:=lhi ((hdw.alloc (.cells #[.string it.name,.int .i64 it.num,.bool it.dir] 136)).alloc (.cells #[.string it.name,.int .i64 it.num] 132))
      clear hdw hki
      obtain⟨i0,hi0,hz⟩:=Option.map_eq_some_iff.1 info_entry'
      have hz0:i0.zero=some (.agg #[.string ⟨#[]⟩,.int .i64 0]):=congrArg (fun p=>p.1) hz
      have hz1:i0.size=2:=congrArg (fun p=>p.2.1) hz
      have hz2:i0.bytes=24:=congrArg (fun p=>p.2.2) hz
      clear hz
      have hbs:w.heap.size<= ((wr.alloc (.cells #[.string it.name,.int .i64 it.num,.bool it.dir] 136)).alloc (.cells #[.string it.name,.int .i64 it.num] 132)).heap.size:=HD2.out.k.size
      have x3:(wr.alloc (.cells #[.string it.name,.int .i64 it.num,.bool it.dir] 136)).cell? ⟨xb,2,none⟩=some (.slice eA D.length ecap):=HD1.out.x.cell 2
      have HNR:=lhi (show RowAt ((wr.alloc (.cells #[.string it.name,.int .i64 it.num,.bool it.dir] 136)).alloc (.cells #[.string it.name,.int .i64 it.num] 132)) (.slice (some ⟨wr.heap.size+1,0,none⟩) 1 1) 1 2 (entL [entIt it])from by
       have hB:=(Blk.new (wr.alloc (.cells #[.string it.name,.int .i64 it.num,.bool it.dir] 136)) 132 #[.string it.name,.int .i64 it.num])
       have e:(wr.alloc (.cells #[.string it.name,.int .i64 it.num,.bool it.dir] 136)).heap.size=wr.heap.size+1:=by simp
       rw[e]at hB
       exact⟨_,_,rfl,Nat.le_refl _,fun _=>⟨_,0,rfl,fun i j hi hj=>by
        obtain rfl:i=0:=by omega
        rcases(by omega:j=0∨j=1)with rfl | rfl
        ·exact hB.cell 0
        ·exact hB.cell 1⟩⟩)
      go_upto_region 8 with(at_builtin;refine wpList_appR _ rfl (.tmp 26) (.tmp 32) 91 132 rfl i0 _ 24 Tryz.underlying91 hi0 hz0 hz1 hz2 rfl (by decide) w.heap.size (.slice eA D.length ecap) D rfl HD2.out.row (.slice (some ⟨wr.heap.size+1,0,none⟩) 1 1) rfl [entIt it] (C:=entL [entIt it]) HNR.out (cl_entEn _) encEn_len (fun x _=>encEn_one x) hll (by decide) hbs ?_;intro A' n' cap' w5 hn' ho hgr hor;obtain rfl:n'=D.length+1:=(hn'.trans List.length_append);have HD5:=lhi (HD2.out.app HL.out (by simp) ho hgr hor);have HK5:=lhi (HD2.out.app_ki (v':=.slice A' (D.length+1) cap') hgr);have HI5:=lhi (show Blk (w5.setCell ⟨xb,2,none⟩ (.slice A' (D.length+1) cap')) wr.heap.size 136 #[.string it.name,.int .i64 it.num,.bool it.dir]from HK5.out _ _ _ (.inl rfl) ((Blk.new wr 136 #[.string it.name,.int .i64 it.num,.bool it.dir]).alloc _));have HX5:=lhi (Blk.of_heap (hgr.block xb HD2.out.x.lt (fun e=>by obtain⟨-,cs',hq⟩:=own_type HD2.out.row e.symm;exact Blk.ne_ HD2.out.x hq (by decide) rfl)) HD2.out.x);have f2:w5.frozen? ⟨xb,2,none⟩=false:=HX5.out.frozen _;have x5:w5.cell? ⟨xb,2,none⟩=some (.slice eA D.length ecap):=HX5.out.cell 2;have y2:(w5.setCell ⟨xb,2,none⟩ (.slice A' (D.length+1) cap')).cell? ⟨wr.heap.size,2,none⟩=some (.bool it.dir):=HI5.out.cell 2;have y1:(w5.setCell ⟨xb,2,none⟩ (.slice A' (D.length+1) cap')).cell? ⟨wr.heap.size,1,none⟩=some (.int .i64 it.num):=HI5.out.cell 1;clear hn' ho hgr hor)
      have HD6:=lhi HD5.out
      have HK6:=lhi (((HKI.out.alloc _).alloc _).trans HK5.out)
      have HI6:=lhi HI5.out
      have HDQ:=lhi (show(LD++[it]).map entIt=D++[entIt it]by rw[List.map_append,HDE.out];rfl)
      have HGQ:=lhi (show(LD++[it]).foldl (gIt (gDir M f)) g=gIt (gDir M f) G it by rw[Gt.foldl_snoc,HGE.out])
      clear HD1 HD2 HD5 HK5 HI5 HKI HNR c0 c1 c2 x2 x3 f2 x5 HX5 hecap
      generalize w5.setCell ⟨xb,2,none⟩ (.slice A' (D.length+1) cap')=w6 at*
      generalize wr.heap.size=ib at*
      obtain⟨dv,hdv⟩: ∃dv,it.dir=dv:=⟨_,rfl⟩
      rw[hdv]at y2 HI6⊢
      have HDV:=lhi hdv
      clear hdv
      cases dv
      ·have HGI:=lhi (show gIt (gDir M f) G it=⟨it.num::G.fs,G.ds⟩by unfold gIt;rw[HDV.out];rfl)
       have HGB6:=lhi (HD6.out.k.blk HOF.out HOA.out HGB.out not_st_gath)
       have g1:w6.cell? ⟨gb,1,none⟩=some (.int .i64 (-1)):=HGB6.out.cell 1
       have g2:w6.cell? ⟨gb,2,none⟩=some (.map (some fb)):=HGB6.out.cell 2
       have hgn:G.n<1000000000:=by
        have:=HGN.out
        rw[HGI.out]at this
        unfold Gt.n at this⊢
        simp at this;omega
       have HMF:=lhi (show MapV w6.drew fb G.n (filesV G)from HD6.out.g0.f)
       go_upto_region 10 with(fail)
       go_still_tail 6,(by kernel_rfl)
       change wpList _ _ _ _ _ w6.drew
       go_wp2_with (at_mapUpdate;refine wpList_setV _ rfl 127 4 Tryz.underlying127 (.tmp 44) (.tmp 46) (.const (.bool true)) (.inl rfl) fb G.n _ rfl HMF.out hgn it.num (by omega) rfl (.bool true) rfl ?_;intro w7 hM7 hG7)
       have HD7:=lhi (HD6.out.drew.file hM7 hG7 HLF.out)
       have HK7:=lhi (show KI w6 w7 from(KI.refl w6).drew.trans (KI.grown HD6.out.g0.objF hG7))
       clear hM7 hG7
       go_roundw
       case rel=>exact⟨k+1,_,by go_num,by omega,by rw[HST.out,HDQ.out,HGQ.out,HGI.out];exact HD7.out,HK6.out.trans HK7.out⟩
       case measure=>
        simp only[intOf]
        omega
      ·have HGI:=lhi (show gIt (gDir M f) G it=gDir M f it.num G by unfold gIt;rw[HDV.out];rfl)
       have HGB6:=lhi (HD6.out.k.blk HOF.out HOA.out HGB.out not_st_gath)
       have HC:=lhi (HD6.out.gather (g':=gDir M f it.num G) (R:=fun e=>e= .returned (.tuple #[])) fun K V' hLK hm hgv hV=>IH K V' w6 s fb ab gb it.num G (HSB.out HDV.out) hm (hLK _ HLF.out) (hLK _ HLA.out) hgv hV HGB6.out (by rw[<-HGI.out];exact HGN.out))
       go_wp2_with (go_at_call 88;refine HC.out.mono ?_;rintro e w7 ⟨rfl,hdw,hki⟩;have HD7:=lhi hdw;have HK7:=lhi hki;clear hdw hki)
       go_roundw
       case rel=>exact⟨k+1,_,by go_num,by omega,by rw[HST.out,HDQ.out,HGQ.out,HGI.out];exact HD7.out,HK6.out.trans HK7.out⟩
       case measure=>
        simp only[intOf]
        omega
     ·have e:k=n:=by omega
      subst e
      have HDN:=lhi (show Dw L V w s fb ab xb M num ev ((itsTo M num (b+1)).map entIt) ((itsTo M num (b+1)).foldl (gIt (gDir M f)) g) wr by
       rw[itsTo_succ,HLE.out]
       rw[List.take_of_length_le (by rw[HNN.out];exact Nat.le_refl _)]at hdw
       exact hdw)
      clear hdw HIT HTK HII HLE
      go_wp2_with (fail)
      go_roundw
      case rel=>exact⟨b+1,_,by go_num,by omega,HDN.out⟩
      case measure=>
       simp only[intOf]
       omega
   ·have e:b=8:=by omega
    subst e
    have HDW:=lhi hdw
    obtain⟨eA,ecap,rfl,hecap⟩:=own_form hdw.row
    clear hdw
    obtain⟨D,hD⟩: ∃D,(itsTo M num 8).map entIt=D:=⟨_,rfl⟩
    obtain⟨G,hG⟩: ∃G,(itsTo M num 8).foldl (gIt (gDir M f)) g=G:=⟨_,rfl⟩
    have HDL:=lhi (show D.length<=10000000 by rw[<-hD,List.length_map];have:=itsTo_len HF.out hnum 8 (by omega);omega)
    have HDE:=lhi hD
    have HGE:=lhi hG
    rw[hD,hG]at HDW
    clear hD hG
    have HST:=lhi (ents_sort HDW.out.row HDL.out)
    have x2:wr.cell? ⟨xb,2,none⟩=some (.slice eA D.length ecap):=HDW.out.x.cell 2
    go_upto_region 14 with(go_at_call 137;refine HST.out.mono ?_;rintro e w5 ⟨rfl,D',hp,hsr,hg,ho⟩;have HP:=lhi hp;have HSR:=lhi hsr;have HD5:=lhi (HDW.out.sorted HL.out hp.length_eq ho hg).drew;clear hp hsr hg ho)
    have HGB5:=lhi (HD5.out.k.blk HOF.out HOA.out HGB.out not_st_gath)
    have HL5:=lhi (HP.out.length_eq)
    have HX5:=lhi HD5.out.x
    have y0:w5.cell? ⟨xb,0,none⟩=some (.int .i64 num):=HX5.out.cell 0
    have y1:w5.cell? ⟨xb,1,none⟩=some (.bool true):=HX5.out.cell 1
    have y2:w5.cell? ⟨xb,2,none⟩=some (.slice eA D.length ecap):=HX5.out.cell 2
    have y3:w5.cell? ⟨xb,3,none⟩=some (.string ⟨#[]⟩):=HX5.out.cell 3
    have g3:w5.cell? ⟨gb,3,none⟩=some (.map (some ab)):=HGB5.out.cell 3
    obtain⟨fa,hfa,hfb⟩:=HD5.out.g0.a
    have HFA:=lhi hfa
    have hgn:G.n<1000000000:=by
     have h1:=HN.out
     unfold gDir Gt.n at h1
     unfold itsM at h1
     rw[HGE.out]at h1
     unfold Gt.n
     simp at h1
     omega
    clear hfa
    go_still_tail 6,(by kernel_rfl)
    change wpList _ _ _ _ _ w5.drew
    go_wp2_with (at_mapUpdate;refine wpList_setV _ rfl 170 93 Tryz.underlying170 (.tmp 55) (.tmp 56) (.tmp 57) (.inl rfl) ab G.n _ rfl HFA.out hgn num (by omega) rfl (.agg #[.int .i64 num,.bool true,.slice eA D.length ecap,.string ⟨#[]⟩]) rfl ?_;intro w6 hM6 hG6)
    go_end0
    have hd:=HD5.out
    refine⟨rfl,hd.m.grown HLA.out hG6,?_,hd.k.trans (Kd.grownA hd.m.bd hd.g0.objA hG6)⟩
    have hrow:=hd.row
    rw[<-HL5.out]at hrow
    have hrt:=own_rowT (by decide) encEn_len hrow (cl_entEn D')
    rw[<-HL5.out]at hM6
    have e:gDir M (f+1) num g=⟨G.fs,num::G.ds⟩:=by
     unfold gDir itsM
     rw[HGE.out]
    rw[e]
    refine hd.g0.dir2 hd.m.bd hfb hM6 ⟨_,D',rfl,hrt.base_le (Nat.zero_le _),fun q hq=>?_,?_,HSR.out⟩ hG6
    ·obtain⟨o,n',c,e⟩:=hq
     injection e with e1 e2 e3
     subst e1
     have:=hrow.lt q rfl
     exact⟨this.2,fun hv=>by have:=HVV.out q hv;omega⟩
    ·unfold itsM
     rw[HDE.out]
     exact HP.out
theorem dirC{M:Mem}{m:Nat}(hok:M.ok m)(hm:m<=900000000)(hf:M.fit): ∀f,DirC M f
 | 0=>dirC_zero M
 | f+1=>dirC_succ hok hm hf f (dirC hok hm hf f)
end
section
open Go.RowKit
set_option maxHeartbeats 2000000
structure StV (w:World) (base:Nat) (iv ov mv:Value) (ev:Nat->Value) (S:St):Prop where
 ino:RowT w base 93 4 iv S.inodes.length (inoC S ev)
 ent: ∀i,i<S.inodes.length->RowT w base 132 2 (ev i) (S.ne i) (entC S i)
 opn:RowT w base 144 3 ov S.opens.length (opnC S)
 mad:RowT w base 3 1 mv S.made.length (madC S)
namespace StV
variable{w w':World}{base:Nat}{iv ov mv:Value}{ev:Nat->Value}{S:St}
theorem stm(h:StV w base iv ov mv ev S):StM w iv ov mv ev S:=⟨h.ino.at',fun i hi=>(h.ent i hi).at',h.opn.at',h.mad.at'⟩
theorem below(h:StV w base iv ov mv ev S)(hb:Below w.heap.size w w'):StV w' base iv ov mv ev S:=⟨h.ino.below hb,fun i hi=>(h.ent i hi).below hb,h.opn.below hb,h.mad.below hb⟩
theorem base_le{base':Nat}(h:StV w base iv ov mv ev S)(hb:base'<=base):StV w base' iv ov mv ev S:=⟨h.ino.base_le hb,fun i hi=>(h.ent i hi).base_le hb,h.opn.base_le hb,h.mad.base_le hb⟩
theorem far(h:StV w base iv ov mv ev S){g:Nat}{u:TypeId}{cs:Array Value}(hg:Blk w g u cs)(h1:93≠u)(h2:132≠u)(h3:144≠u)(h4:3≠u)(i:Nat)(x:Value):StV (w.setCell ⟨g,i,none⟩ x) base iv ov mv ev S:=
 ⟨h.ino.far hg h1 i x,fun j hj=>(h.ent j hj).far hg h2 i x,h.opn.far hg h3 i x,h.mad.far hg h4 i x⟩
end StV
def encI(p:Ino×Value):List Value:=[.int .i64 p.1.num,.bool p.1.dir,p.2,.string p.1.data]
def encD(o:Int×Int×Int):List Value:=[.int .i64 o.1,.int .i64 o.2.1,.int .i64 o.2.2]
def encM(m:Int):List Value:=[.int .i64 m]
theorem encI_len(p:Ino×Value):(encI p).length=4:=rfl
theorem encD_len(o:Int×Int×Int):(encD o).length=3:=rfl
theorem encM_len(m:Int):(encM m).length=1:=rfl
theorem encD_one(o:Int×Int×Int): ∀u∈encD o,u.oneCell'=true:=by intro u hu;simp[encD]at hu;rcases hu with rfl | rfl | rfl <;> rfl
theorem encM_one(m:Int): ∀u∈encM m,u.oneCell'=true:=by intro u hu;simp[encM]at hu;rcases hu with rfl;rfl
theorem getD_lt{A:Type}{l:List A}{i:Nat}{d:A}(h:i<l.length):l.getD i d=l[i]:=by
 rw[List.getD_eq_getElem?_getD,List.getElem?_eq_getElem h];rfl
theorem cl_opn(S:St):CL encD S.opens (opnC S) 3:=by
 intro k j hk hj
 have e:S.opens.getD k (0,0,0)=S.opens[k]:=getD_lt hk
 have:j=0∨j=1∨j=2:=by omega
 rcases this with rfl | rfl | rfl
 ·show some (Value.int .i64 _)=some (Value.int .i64 (S.opens.getD k (0,0,0)).1);rw[e]
 ·show some (Value.int .i64 _)=some (Value.int .i64 (S.opens.getD k (0,0,0)).2.1);rw[e]
 ·show some (Value.int .i64 _)=some (Value.int .i64 (S.opens.getD k (0,0,0)).2.2);rw[e]
theorem cl_mad(S:St):CL encM S.made (madC S) 1:=by
 intro k j hk hj
 have e:S.made.getD k 0=S.made[k]:=getD_lt hk
 obtain rfl:j=0:=by omega
 show some (Value.int .i64 _)=some (Value.int .i64 (S.made.getD k 0));rw[e]
theorem cl_ino(S:St)(L:List (Ino×Value))(h:L.map (·.1)=S.inodes):CL encI L (inoC S fun i=>(L.getD i (noIno,.int .i64 0)).2) 4:=by
 intro k j hk hj
 have e:S.inodes.getD k noIno=L[k].1:=by
  have:k<S.inodes.length:=by rw[<-h];simpa using hk
  rw[getD_lt this]
  simp only[<-h,List.getElem_map]
 have e2:L.getD k (noIno,.int .i64 0)=L[k]:=getD_lt hk
 have:j=0∨j=1∨j=2∨j=3:=by omega
 rcases this with rfl | rfl | rfl | rfl
 ·show some (Value.int .i64 _)=some (Value.int .i64 (S.inodes.getD k noIno).num);rw[e]
 ·show some (Value.bool _)=some (Value.bool (S.inodes.getD k noIno).dir);rw[e]
 ·show some _=some (L.getD k (noIno,.int .i64 0)).2;rw[e2]
 ·show some (Value.string _)=some (Value.string (S.inodes.getD k noIno).data);rw[e]
theorem info_ino4:(Tryz.prog.info? 93).map (fun i=>(i.zero,i.size,i.bytes))=some (some (.agg #[.int .i64 0,.bool false,.slice none 0 0,.string ⟨#[]⟩]),4,56):=by kernel_rfl
theorem info_ent2:(Tryz.prog.info? 132).map (fun i=>(i.zero,i.size,i.bytes))=some (some (.agg #[.string ⟨#[]⟩,.int .i64 0]),2,24):=by kernel_rfl
theorem info_dsc3:(Tryz.prog.info? 144).map (fun i=>(i.zero,i.size,i.bytes))=some (some (.agg #[.int .i64 0,.int .i64 0,.int .i64 0]),3,24):=by kernel_rfl
theorem info_int1:(Tryz.prog.info? 3).map (fun i=>(i.zero,i.size,i.bytes))=some (some (.int .i64 0),1,8):=by kernel_rfl
def opnL(L:List (Int×Int×Int)):Nat->Nat->Value:=fun k j=>match j with
 | 0=>.int .i64 (L.getD k (0,0,0)).1
 | 1=>.int .i64 (L.getD k (0,0,0)).2.1
 | _=>.int .i64 (L.getD k (0,0,0)).2.2
theorem cl_opnL(L:List (Int×Int×Int)):CL encD L (opnL L) 3:=by
 intro k j hk hj
 have e:L.getD k (0,0,0)=L[k]:=getD_lt hk
 have:j=0∨j=1∨j=2:=by omega
 rcases this with rfl | rfl | rfl
 ·show some (Value.int .i64 _)=some (Value.int .i64 (L.getD k (0,0,0)).1);rw[e]
 ·show some (Value.int .i64 _)=some (Value.int .i64 (L.getD k (0,0,0)).2.1);rw[e]
 ·show some (Value.int .i64 _)=some (Value.int .i64 (L.getD k (0,0,0)).2.2);rw[e]
theorem StV.of_list{w:World}{base:Nat}{v ov mv:Value}{L:List (Ino×Value)}{S:St}(hL:L.map (·.1)=S.inodes)(hv:w.ownsRow base 93 4 v L.length (L.flatMap encI))(he: ∀p∈L,RowT w base 132 2 p.2 p.1.ents.length (entL p.1.ents))
  (ho:RowT w base 144 3 ov S.opens.length (opnC S)) (hm:RowT w base 3 1 mv S.made.length (madC S)):StV w base v ov mv (fun i=>(L.getD i (noIno,.int .i64 0)).2) S:=by
 have hl:L.length=S.inodes.length:=by rw[<-hL,List.length_map]
 refine⟨?_,fun i hi=>?_,ho,hm⟩
 ·have:=own_rowT (by decide) encI_len hv (cl_ino S L hL)
  rwa [hl]at this
 ·have h1:L.getD i (noIno,.int .i64 0)=L[i]:=getD_lt (by omega)
  have h2:S.ino i=L[i].1:=by
   show S.inodes.getD i noIno=_
   rw[getD_lt hi]
   simp only[<-hL,List.getElem_map]
  have h3:=he L[i] (List.getElem_mem _)
  show RowT w base 132 2 (L.getD i (noIno,.int .i64 0)).2 (S.ino i).ents.length (entC S i)
  rw[h1,h2]
  have:entC S i=entL L[i].1.ents:=by
   funext k j
   unfold entC entL St.enm St.enu
   rw[h2]
   cases j <;> rfl
  rw[this]
  exact h3
end
end Go.Proofs.YtkebjgebkneijaaGreat
