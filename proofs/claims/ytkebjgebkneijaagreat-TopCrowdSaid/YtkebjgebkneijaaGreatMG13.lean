/- Texts of one's own that a claim's last text rests on: Mf18 Mf19. -/
import Derived.Test.YtkebjgebkneijaaGreatMG12
import Derived.Test.YtkebjgebkneijaaGreatMG2
import Derived.Maps.OwnSet
set_option linter.unusedVariables false
set_option linter.unusedSimpArgs false
namespace Go.Proofs.YtkebjgebkneijaaGreat
section
open Go.RowKit
set_option linter.unusedSimpArgs false
set_option maxHeartbeats 1000000
def AccV(w:World)(v:Value)(t:List Acc):Prop:=(v= .slice none 0 0/\t=[])∨ ∃g cap,v= .slice (some ⟨g,0,none⟩) t.length cap/\t.length<=cap/\cap<=9223372036854775807/\ ∀j u,(encAccs t)[j]? =some u->w.cell? ⟨g,j,none⟩=some u
theorem AccV.ofOwn{w:World}{base:Nat}{e:TypeId}{v:Value}{t:List Acc}(h:w.ownsRow base e 2 v t.length (encAccs t)):AccV w v t:=by
 have hr:=h
 rcases h.2 with⟨rfl,h0⟩ | ⟨g,cap,cur,rfl,hb,hg,hnc,hmax,_⟩
 ·exact .inl ⟨rfl,List.length_eq_zero_iff.1 h0⟩
 ·refine .inr ⟨g,cap,rfl,hnc,by unfold maxLen at hmax;omega,fun j u hu=>?_⟩
  have:=hr.cells (g:=g) rfl j u hu
  rwa [Addr.add_lit,Nat.zero_add]at this
theorem trace_m{L:Nat->Prop}{w:World}{s:Nat}{M:Mem}{m:Nat}(h:MemAt L w s M)(hok:M.ok m)(hm:m<=1000000000){c:Int}(hc:0<=c/\c<M.ts.length){a:Nat}(ha:w.cell? ⟨s,0,none⟩=some (.pointer (some ⟨a,0,none⟩))){t:List Acc}(ht:tr M.ts c=t):
  Calls Tryz.prog 29 #[.pointer (some ⟨a,0,none⟩),.int .i64 c] w fun e w'=>(∃v A cap,v= .slice A t.length cap/\e= .returned v/\AccV w' v t)/\Below w.heap.size w w':=by
 obtain⟨a',L1,h0,har,-⟩:=h.lend
 have e:a'=a:=by
  rw[h0]at ha
  injection ha with ha
  injection ha with ha
  injection ha with ha
  injection ha
 subst e
 refine(trace_to har (Room.of hok.sh (by omega)) hc ht).mono ?_
 rintro e w' ⟨v,rfl,hr,hb⟩
 obtain⟨-,A,cap,hv,-⟩:=Sl.ofOwn hr
 exact⟨⟨v,A,cap,hv,rfl,AccV.ofOwn hr⟩,hb⟩
theorem FsAt.below{L:Nat->Prop}{w w':World}{fb s pb:Nat}{M:Mem}{ps:List PV}(h:FsAt L w fb s pb M ps)(hb:Below w.heap.size w w'):FsAt L w' fb s pb M ps:=
 ⟨h.m.below hb,Blk.of_heap (hb.block _ (FsR.f h).lt) (FsR.f h),⟨Blk.of_heap (hb.block _ (FsR.p h).1.lt) (FsR.p h).1,(FsR.p h).2⟩,FsR.nf h,FsR.np h,FsR.tl h⟩
theorem FsAt.arena{L:Nat->Prop}{w:World}{fb s pb:Nat}{M:Mem}{ps:List PV}(h:FsAt L w fb s pb M ps): ∃a,w.cell? ⟨s,0,none⟩=some (.pointer (some ⟨a,0,none⟩)):=by
 obtain⟨a,L1,h0,-⟩:=h.m.lend
 exact⟨a,h0⟩
def StepC(w:World)(fb s:Nat)(M M':Mem)(k:Nat)(c:CallV)(ty:TypeId)(x:Value)(r:ResV):Prop:=
 ∀(K:Nat->Prop) (W:World),w.heap.size<=W.heap.size->MemAt K W s M->W.cell? ⟨fb,0,none⟩=some (.pointer (some ⟨s,0,none⟩))->
  Calls Tryz.prog 71 #[.pointer (some ⟨fb,0,none⟩),.int .i64 k,.agg c.cs,.iface ty x] W fun e w'=>e= .returned (.tuple #[.agg r.cs,.nilIface])/\MemAt K w' s M'/\Kp K W w'
theorem FsAt.own1{L:Nat->Prop}{w:World}{fb s pb:Nat}{M:Mem}{ps:List PV}(h:FsAt L w fb s pb M ps){g:Nat}{t:TypeId}{cs:Array Value}(hg:Blk w g t cs)(hl:L g)(i:Nat)(u:Value):FsAt L (w.setCell ⟨g,i,none⟩ u) fb s pb M ps:=
 ⟨h.m.set hg (.inl hl) i u,(FsR.f h).far (p:=⟨g,i,none⟩) (fun e=>FsR.nf h ((show fb=g from e)▸hl)) u,⟨(FsR.p h).1.far (p:=⟨g,i,none⟩) (fun e=>FsR.np h ((show pb=g from e)▸hl)) u,(FsR.p h).2⟩,FsR.nf h,FsR.np h,FsR.tl h⟩
theorem FsAt.sets'{L:Nat->Prop}{w w':World}{fb s pb:Nat}{M:Mem}{ps:List PV}{i:Nat}{p0:PV}(h:FsAt L w' fb s pb M (ps.set i p0))(k:Kp L w w')(hi:i<ps.length)(vs:List Value)(j:Nat)(hj:j+vs.length<=17){p:PV}(hp:setF p0.cs j vs=p.cs):
  FsAt L (w'.setCells pb (i*17+j) vs) fb s pb M (ps.set i p)/\Kp L w (w'.setCells pb (i*17+j) vs):=by
 have:=h.sets k (i:=i) (by simpa using hi) vs j hj (p:=p) (by simpa using hp)
 simpa using this
structure FsO (L:Nat->Prop) (w:World) (fb s pb:Nat) (M:Mem) (ps:List PV) (q:Nat) (t:TypeId) (cs:Array Value) (W:World):Prop where
 f:FsAt (ins L q) W fb s pb M ps
 k:Kp L w W
 b:Blk W q t cs
 n:w.heap.size<=q
theorem FsO.set{L:Nat->Prop}{w W:World}{fb s pb:Nat}{M:Mem}{ps:List PV}{q:Nat}{t:TypeId}{cs:Array Value}(h:FsO L w fb s pb M ps q t cs W)(hl:Bd L w)(i:Nat)(u:Value):FsO L w fb s pb M ps q t (cs.setIfInBounds i u) (W.setCell ⟨q,i,none⟩ u):=
 ⟨h.f.own1 h.b (.inr rfl) i u,⟨h.k.k.setCell (p:=⟨q,i,none⟩) (fun hb=>by have:=hl q hb;have:=h.n;omega) u,h.k.i.setNew h.n i u⟩,h.b.set_ i u,h.n⟩
theorem FsO.sets{L:Nat->Prop}{w:World}{fb s pb:Nat}{M:Mem}{ps:List PV}{q:Nat}{t:TypeId}(hl:Bd L w): ∀(us:List Value) (i:Nat) {cs:Array Value} {W:World},FsO L w fb s pb M ps q t cs W->FsO L w fb s pb M ps q t (fillA cs i us) (W.setCells q i us)
 | [],_,_,_,h=>h
 | u::us,i,_,_,h=>FsO.sets hl us (i+1) (h.set hl i u)
structure FsM (L:Nat->Prop) (w:World) (fb s pb:Nat) (M:Mem) (ps:List PV) (q:Nat) (t:TypeId) (cs:Array Value) (mb n g:Nat) (xs:List Acc) (W:World):Prop where
 f:FsAt (ins (ins L q) mb) W fb s pb M ps
 k:Kp L w W
 b:Blk W q t cs
 mp: ∃f,MapB W mb n f
 nq:w.heap.size<=q
 nm:w.heap.size<=mb
 hc: ∀(j:Nat) (u:Value),(encAccs xs)[j]? =some u->W.cell? ⟨g,j,none⟩=some u
namespace FsM
variable{L:Nat->Prop}{w W W':World}{fb s pb:Nat}{M:Mem}{ps:List PV}{q:Nat}{t:TypeId}{cs:Array Value}{mb n g:Nat}{xs:List Acc}
theorem alloc(h:FsM L w fb s pb M ps q t cs mb n g xs W)(hl:Bd L w)(o:Obj):FsM L w fb s pb M ps q t cs mb n g xs (W.alloc o):=by
 obtain⟨f,hf⟩:=h.mp
 refine⟨h.f.alloc o,h.k.trans (Kp.below (h.k.bd hl) ((Below.refl _ _).alloc (Nat.le_refl _) _)),h.b.alloc o,⟨f,hf.alloc o⟩,h.nq,h.nm,fun j u hu=>?_⟩
 have hc:=h.hc j u hu
 rw[World.cell?_alloc_past _ _ _ (World.block_lt_of_cell? W _ hc)]
 exact hc
theorem turn(h:FsM L w fb s pb M ps q t cs mb n g xs W)(hl:Bd L w){n':Nat}{f:Int->Bool}(hm:MapB W' mb n' f)(hg:W.grownBy W' (some mb)):FsM L w fb s pb M ps q t cs mb n' g xs W':=by
 obtain⟨f0,hf0⟩:=h.mp
 obtain⟨es,cl,hob⟩:=hf0.obj
 have hne: ∀{x:Nat} {t:TypeId} {cs:Array Value},Blk W x t cs->some x≠some mb:=fun hq e=>by
  injection e with e
  subst e
  rw[show W.heap[_]? =_ from hq]at hob
  injection hob with hob
  cases hob
 have hbd:Bd L W:=h.k.bd hl
 refine⟨⟨h.f.m.move (fun b hb=>Nat.lt_of_lt_of_le (h.f.m.bd b hb) hg.size) hg.size (fun _ hb _=>hb) (fun b hb hn=>hg.block b hb (fun e=>hn (by injection e with e;exact .inl (.inr e)))),Blk.of_heap (hg.block _ (FsR.f h.f).lt (hne (FsR.f h.f))) (FsR.f h.f),⟨Blk.of_heap (hg.block _ (FsR.p h.f).1.lt (hne (FsR.p h.f).1)) (FsR.p h.f).1,(FsR.p h.f).2⟩,FsR.nf h.f,FsR.np h.f,FsR.tl h.f⟩,
  ⟨h.k.k.grown hg hbd (fun k hk hL=>?_),fun b t cs ht hb=>?_⟩,Blk.of_heap (hg.block _ h.b.lt (hne h.b)) h.b,⟨f,hm⟩,h.nq,h.nm,fun j u hu=>?_⟩
 ·injection hk with hk
  have:=hl k hL
  have:=h.nm
  omega
 ·have hb':=h.k.i b t cs ht hb
  exact Blk.of_heap (hg.block _ hb'.lt (hne hb')) hb'
 ·have hc:=h.hc j u hu
  refine(World.cell?_of_block (hg.block _ (World.block_lt_of_cell? W _ hc) (fun e=>?_))).trans hc
  injection e with e
  have e:g=mb:=e
  subst e
  simp[World.cell?,hob]at hc
theorem start(h:FsO L w fb s pb M ps q t cs W)(hl:Bd L w)(hb:Below (W.alloc (.map #[] 0)).heap.size (W.alloc (.map #[] 0)) W')(hc: ∀(j:Nat) (u:Value),(encAccs xs)[j]? =some u->W'.cell? ⟨g,j,none⟩=some u):FsM L w fb s pb M ps q t cs W.heap.size 0 g xs W':=by
 have ha:Below W.heap.size W (W.alloc (.map #[] 0)):=(Below.refl _ _).alloc (Nat.le_refl _) _
 have hm:MapB W' W.heap.size 0 (fun _=>false):=(MapB.made W).kept (row:=none) ⟨hb.os,hb.tape,hb.output,hb.size,fun k hk _=>hb.block k hk⟩ (by simp)
 exact⟨(h.f.allocIns _).below hb,h.k.trans ((Kp.below (h.k.bd hl) ha).trans (Kp.below (fun b hb=>Nat.lt_of_lt_of_le (h.k.bd hl b hb) ha.size) hb)),Blk.of_heap (hb.block _ (by have:=h.b.lt;simp;omega)) (h.b.alloc _),⟨_,hm⟩,h.n,h.k.k.size,hc⟩
end FsM
set_option maxRecDepth 1000000 in
theorem fstep_ok{L:Nat->Prop}{w:World}{fb s pb:Nat}{M M':Mem}{m:Nat}{ps:List PV}(h:FsAt L w fb s pb M ps)(hok:M.ok m)(hok':M'.ok m)(hm:m<=1000000000){k:Nat}(hk:k<ps.length){c:CallV}(hc:ps[k].c=c){ty:TypeId}{x:Value}(hat:ps[k].at_= .iface ty x){r:ResV}
  (hl':M'.ts.length=M.ts.length) (hle:(tr M.ts k).length<= (tr M'.ts k).length) (hwd: ∀y∈tr M'.ts k,0<=y.1/\y.1<=1000000) (hstep:StepC w fb s M M' k c ty x r):
  Calls Tryz.prog 27 #[.pointer (some ⟨fb,0,none⟩),.int .i64 k] w fun e w'=>e= .returned (.tuple #[.bool true,.int .i64 0])/\ ∃tc,FsAt L w' fb s pb M' (ps.set k ⟨c,.nilIface,true,r,tc⟩)/\Kp L w w':=by
 have h8:=h.tsl
 have htl:=h.tl
 have hme:=hok.sh.at_ (c:=(k:Int))
 obtain⟨kind,core,fd,off,num,path,path2,data⟩:=c
 obtain⟨rcode,rfd,rnum,rdir,rdata,rna,rnl,rnc⟩:=r
 have d3:decide ((k:Int)<0)=false:=by simp
 have d4:decide ((k:Int)<ps.length)=true:=by simp;omega
 obtain⟨a,hsa⟩:=h.arena
 have f0:w.cell? ⟨fb,0,none⟩=some (.pointer (some ⟨s,0,none⟩)):=h.f.cell 0
 have f1:w.cell? ⟨fb,1,none⟩=some (.slice (some ⟨pb,0,none⟩) ps.length ps.length):=h.f.cell 1
 have HPC:=lhi (show w.cell? ⟨pb,k*17,none⟩=some (Value.int IntKind.i64 kind)/\w.cell? ⟨pb,k*17+1,none⟩=some (Value.int IntKind.i64 core)/\w.cell? ⟨pb,k*17+2,none⟩=some (Value.int IntKind.i64 fd)/\w.cell? ⟨pb,k*17+3,none⟩=some (Value.int IntKind.i64 off)/\w.cell? ⟨pb,k*17+4,none⟩=some (Value.int IntKind.i64 num)/\w.cell? ⟨pb,k*17+5,none⟩=some (Value.string path)/\w.cell? ⟨pb,k*17+6,none⟩=some (Value.string path2)/\w.cell? ⟨pb,k*17+7,none⟩=some (Value.string data)/\w.cell? ⟨pb,k*17+8,none⟩=some (Value.iface ty x)from by
  have q: ∀j,j<17->w.cell? ⟨pb,k*17+j,none⟩=ps[k].cs[j]?:=fun j hj=>h.at_ hj hk
  unfold PV.cs at q
  rw[hc,hat]at q
  exact⟨q 0 (by decide),q 1 (by decide),q 2 (by decide),q 3 (by decide),q 4 (by decide),q 5 (by decide),q 6 (by decide),q 7 (by decide),q 8 (by decide)⟩)
 have p8:w.cell? ⟨pb,k*17+8,none⟩=some (.iface ty x):=HPC.out.2.2.2.2.2.2.2.2
 obtain⟨t0,ht0⟩: ∃t,tr M.ts k=t:=⟨_,rfl⟩
 have HC:=lhi (fcore_ok h (c:=k) ⟨by omega,by omega⟩)
 have HT:=lhi (trace_m h.m hok hm (c:=k) ⟨by omega,by omega⟩ hsa ht0)
 have HA:=lhi h
 simp only[StepC,CallV.cs,ResV.cs]at hstep
 have HS:=lhi hstep
 have HTL:=lhi htl
 have HOK:=lhi hok'
 have HWD:=lhi hwd
 rw[ht0]at hle hme
 obtain⟨n0,hn0⟩: ∃n,t0.length=n:=⟨_,rfl⟩
 have HN0:=lhi hn0
 rw[hn0]at hle hme HT
 clear hn0
 clear h hok hok' htl hstep hwd hat ht0
 go_enter Tryz.func27,Tryz.ntmps27
 go_wp2_with (first
  | (go_at_call 28;refine HC.out.mono ?_;rintro e w' ⟨rfl,hww⟩;have hww:=hww.symm;subst hww)
  | (go_at_call 29;refine HT.out.mono ?_;rintro e w5 ⟨⟨v,A,cap,rfl,rfl,-⟩,hb⟩;have HB:=lhi hb;clear hb))
 have h5:=HA.out.below HB.out
 have H5:=lhi h5
 have HP5:=lhi (show w5.cell? ⟨pb,k*17,none⟩=some (Value.int IntKind.i64 kind)/\w5.cell? ⟨pb,k*17+1,none⟩=some (Value.int IntKind.i64 core)/\w5.cell? ⟨pb,k*17+2,none⟩=some (Value.int IntKind.i64 fd)/\w5.cell? ⟨pb,k*17+3,none⟩=some (Value.int IntKind.i64 off)/\w5.cell? ⟨pb,k*17+4,none⟩=some (Value.int IntKind.i64 num)/\w5.cell? ⟨pb,k*17+5,none⟩=some (Value.string path)/\w5.cell? ⟨pb,k*17+6,none⟩=some (Value.string path2)/\w5.cell? ⟨pb,k*17+7,none⟩=some (Value.string data)/\w5.cell? ⟨pb,k*17+8,none⟩=some (Value.iface ty x)/\w5.cell? ⟨fb,0,none⟩=some (.pointer (some ⟨s,0,none⟩))from⟨(HB.out.cell (World.block_lt_of_cell? _ _ HPC.out.1)).trans HPC.out.1,(HB.out.cell (World.block_lt_of_cell? _ _ HPC.out.2.1)).trans HPC.out.2.1,(HB.out.cell (World.block_lt_of_cell? _ _ HPC.out.2.2.1)).trans HPC.out.2.2.1,(HB.out.cell (World.block_lt_of_cell? _ _ HPC.out.2.2.2.1)).trans HPC.out.2.2.2.1,(HB.out.cell (World.block_lt_of_cell? _ _ HPC.out.2.2.2.2.1)).trans HPC.out.2.2.2.2.1,(HB.out.cell (World.block_lt_of_cell? _ _ HPC.out.2.2.2.2.2.1)).trans HPC.out.2.2.2.2.2.1,(HB.out.cell (World.block_lt_of_cell? _ _ HPC.out.2.2.2.2.2.2.1)).trans HPC.out.2.2.2.2.2.2.1,(HB.out.cell (World.block_lt_of_cell? _ _ HPC.out.2.2.2.2.2.2.2.1)).trans HPC.out.2.2.2.2.2.2.2.1,(HB.out.cell (World.block_lt_of_cell? _ _ HPC.out.2.2.2.2.2.2.2.2)).trans HPC.out.2.2.2.2.2.2.2.2,(HB.out.cell (World.block_lt_of_cell? _ _ f0)).trans f0⟩)
 have HK5:=lhi (Kp.below (HA.out.m.bd.sub fun _ hb=>.inl hb) HB.out:Kp L w w5)
 have HBD:=lhi (show Bd L w from HA.out.m.bd.sub fun _ hb=>.inl hb)
 have HB5:=lhi (show Bd L w5 from H5.out.m.bd.sub fun _ hb=>.inl hb)
 clear h5 f0 f1 p8 hsa HC HT HA HPC
 go_cut [9,10] (fun s9 s10 wx=>∃q,s9= .pointer (some ⟨q,0,none⟩)/\s10= .nilIface/\FsO L w fb s pb M' ps q 41 #[Value.int IntKind.i64 rcode,Value.int IntKind.i64 rfd,Value.int IntKind.i64 rnum,Value.bool rdir,Value.string rdata,Value.slice rna rnl rnc] wx)
 case first=>
  refine wp_region_held_drew (S:=fun w'=>(w'.cell? ⟨pb,k*17,none⟩=some (Value.int IntKind.i64 kind)/\w'.cell? ⟨pb,k*17+1,none⟩=some (Value.int IntKind.i64 core)/\w'.cell? ⟨pb,k*17+2,none⟩=some (Value.int IntKind.i64 fd)/\w'.cell? ⟨pb,k*17+3,none⟩=some (Value.int IntKind.i64 off)/\w'.cell? ⟨pb,k*17+4,none⟩=some (Value.int IntKind.i64 num)/\w'.cell? ⟨pb,k*17+5,none⟩=some (Value.string path)/\w'.cell? ⟨pb,k*17+6,none⟩=some (Value.string path2)/\w'.cell? ⟨pb,k*17+7,none⟩=some (Value.string data)/\w'.cell? ⟨pb,k*17+8,none⟩=some (Value.iface ty x)/\w'.cell? ⟨fb,0,none⟩=some (.pointer (some ⟨s,0,none⟩)))) (by kernel_rfl) (HP5.out) (fun hHeld=>?_)
  refine wpAnyH_take (i:=0) (oi:=⟨some 42,_,_,_,_,_⟩) (v:=.pointer (some ⟨fb,0,none⟩)) rfl (by kernel_rfl) (by kernel_rfl) (by kernel_rfl) (fun _ _ _ h=>h) (Or.inl ⟨by kernel_rfl,fun w hSw=>by go_simp⟩) (by assumption) ?_
  simp only[Act.put,lTA,lC0,lCS]
  refine wpAnyH_take (i:=1) (oi:=⟨some 43,_,_,_,_,_⟩) (v:=.int .i64 (k:Int)) rfl (by kernel_rfl) (by kernel_rfl) (by kernel_rfl) (fun _ _ _ h=>h) (Or.inl ⟨by kernel_rfl,fun w hSw=>by go_simp⟩) (by assumption) ?_
  simp only[Act.put,lTA,lC0,lCS]
  refine wpAnyH_take (i:=2) (oi:=⟨some 44,_,_,_,_,_⟩) (v:=.pointer (some ⟨pb,k*17,none⟩)) rfl (by kernel_rfl) (by kernel_rfl) (by kernel_rfl) (fun _ _ _ h=>h) (Or.inl ⟨by kernel_rfl,fun w hSw=>by go_simp⟩) (by assumption) ?_
  simp only[Act.put,lTA,lC0,lCS]
  refine wpAnyH_take (i:=3) (oi:=⟨some 45,_,_,_,_,_⟩) (v:=.pointer (some ⟨pb,k*17,none⟩)) rfl (by kernel_rfl) (by kernel_rfl) (by kernel_rfl) (fun _ _ _ h=>h) (Or.inl ⟨by kernel_rfl,fun w hSw=>by go_simp⟩) (by assumption) ?_
  simp only[Act.put,lTA,lC0,lCS]
  refine wpAnyH_take (i:=4) (oi:=⟨some 46,_,_,_,_,_⟩) (v:=.pointer (some ⟨pb,k*17,none⟩)) rfl (by kernel_rfl) (by kernel_rfl) (by kernel_rfl) (fun _ _ _ h=>h) (Or.inl ⟨by kernel_rfl,fun w hSw=>by go_simp⟩) (by assumption) ?_
  simp only[Act.put,lTA,lC0,lCS]
  refine wpAnyH_take (i:=5) (oi:=⟨some 47,_,_,_,_,_⟩) (v:=.agg #[Value.int IntKind.i64 kind,Value.int IntKind.i64 core,Value.int IntKind.i64 fd,Value.int IntKind.i64 off,Value.int IntKind.i64 num,Value.string path,Value.string path2,Value.string data]) rfl (by kernel_rfl) (by kernel_rfl) (by kernel_rfl) (fun _ _ _ h=>h) (Or.inl ⟨by kernel_rfl,fun w hSw=>by go_simp⟩) (by assumption) ?_
  simp only[Act.put,lTA,lC0,lCS]
  refine wpAnyH_take (i:=6) (oi:=⟨some 48,_,_,_,_,_⟩) (v:=.pointer (some ⟨pb,k*17,none⟩)) rfl (by kernel_rfl) (by kernel_rfl) (by kernel_rfl) (fun _ _ _ h=>h) (Or.inl ⟨by kernel_rfl,fun w hSw=>by go_simp⟩) (by assumption) ?_
  simp only[Act.put,lTA,lC0,lCS]
  refine wpAnyH_take (i:=7) (oi:=⟨some 49,_,_,_,_,_⟩) (v:=.pointer (some ⟨pb,k*17,none⟩)) rfl (by kernel_rfl) (by kernel_rfl) (by kernel_rfl) (fun _ _ _ h=>h) (Or.inl ⟨by kernel_rfl,fun w hSw=>by go_simp⟩) (by assumption) ?_
  simp only[Act.put,lTA,lC0,lCS]
  refine wpAnyH_take (i:=8) (oi:=⟨some 50,_,_,_,_,_⟩) (v:=.pointer (some ⟨pb,k*17+8,none⟩)) rfl (by kernel_rfl) (by kernel_rfl) (by kernel_rfl) (fun _ _ _ h=>h) (Or.inl ⟨by kernel_rfl,fun w hSw=>by go_simp⟩) (by assumption) ?_
  simp only[Act.put,lTA,lC0,lCS]
  refine wpAnyH_take (i:=9) (oi:=⟨some 51,_,_,_,_,_⟩) (v:=.iface ty x) rfl (by kernel_rfl) (by kernel_rfl) (by kernel_rfl) (fun _ _ _ h=>h) (Or.inl ⟨by kernel_rfl,fun w hSw=>by go_simp⟩) (by assumption) ?_
  simp only[Act.put,lTA,lC0,lCS]
  refine wpAnyH_ready (rs:=[10,14]) (by kernel_rfl) (by simp) ?_
  refine AllReadyH.cons rfl (fun K hK=>?_) (AllReadyH.cons rfl (fun K hK=>?_) AllReadyH.nil)
  ·go_simp
   refine(HS.out _ w5.drew HB.out.size H5.out.m.drew hHeld.2.2.2.2.2.2.2.2.2).mono ?_
   rintro e w6 ⟨rfl,hM,hKp⟩
   have hb6:=H5.out.drew.back hM hKp hl'
   have HB6:=lhi hb6
   show K _ _
   refine hK.out _ _ (⟨hKp.cellOf (p:=⟨pb,k*17,none⟩) (.inr (.inr rfl)) hHeld.1,hKp.cellOf (p:=⟨pb,k*17+1,none⟩) (.inr (.inr rfl)) hHeld.2.1,hKp.cellOf (p:=⟨pb,k*17+2,none⟩) (.inr (.inr rfl)) hHeld.2.2.1,hKp.cellOf (p:=⟨pb,k*17+3,none⟩) (.inr (.inr rfl)) hHeld.2.2.2.1,hKp.cellOf (p:=⟨pb,k*17+4,none⟩) (.inr (.inr rfl)) hHeld.2.2.2.2.1,hKp.cellOf (p:=⟨pb,k*17+5,none⟩) (.inr (.inr rfl)) hHeld.2.2.2.2.2.1,hKp.cellOf (p:=⟨pb,k*17+6,none⟩) (.inr (.inr rfl)) hHeld.2.2.2.2.2.2.1,hKp.cellOf (p:=⟨pb,k*17+7,none⟩) (.inr (.inr rfl)) hHeld.2.2.2.2.2.2.2.1,hKp.cellOf (p:=⟨pb,k*17+8,none⟩) (.inr (.inr rfl)) hHeld.2.2.2.2.2.2.2.2.1,hKp.cellOf (p:=⟨fb,0,none⟩) (.inr (.inl rfl)) hHeld.2.2.2.2.2.2.2.2.2⟩) (fun hHeld=>?_)
   clear hK K hM hb6
   refine wpAnyH_take (i:=11) (oi:=⟨some 41,_,_,_,_,_⟩) (v:=.tuple #[.agg #[Value.int IntKind.i64 rcode,Value.int IntKind.i64 rfd,Value.int IntKind.i64 rnum,Value.bool rdir,Value.string rdata,Value.slice rna rnl rnc],.nilIface]) rfl (by kernel_rfl) (by kernel_rfl) (by kernel_rfl) (fun _ _ _ h=>h) (Or.inl ⟨by kernel_rfl,fun w hSw=>by go_simp⟩) (by assumption) ?_
   simp only[Act.put,lTA,lC0,lCS]
   refine wpAnyH_take (i:=12) (oi:=⟨some 53,_,_,_,_,_⟩) (v:=.agg #[Value.int IntKind.i64 rcode,Value.int IntKind.i64 rfd,Value.int IntKind.i64 rnum,Value.bool rdir,Value.string rdata,Value.slice rna rnl rnc]) rfl (by kernel_rfl) (by kernel_rfl) (by kernel_rfl) (fun _ _ _ h=>h) (Or.inl ⟨by kernel_rfl,fun w hSw=>by go_simp⟩) (by assumption) ?_
   simp only[Act.put,lTA,lC0,lCS]
   refine wpAnyH_take (i:=13) (oi:=⟨some 54,_,_,_,_,_⟩) (v:=.nilIface) rfl (by kernel_rfl) (by kernel_rfl) (by kernel_rfl) (fun _ _ _ h=>h) (Or.inl ⟨by kernel_rfl,fun w hSw=>by go_simp⟩) (by assumption) ?_
   simp only[Act.put,lTA,lC0,lCS]
   refine wpAnyH_ready (rs:=[14]) (by kernel_rfl) (by simp) ?_
   refine AllReadyH.cons rfl (fun K hK=>?_) AllReadyH.nil
   go_simp
   have hA7:=below_alloc w6 (.cells #[.int .i64 0,.int .i64 0,.int .i64 0,.bool false,.string ⟨#[]⟩,.slice none 0 0] 41)
   have HO:=lhi (show FsO L w fb s pb M' ps w6.heap.size 41 #[.int .i64 0,.int .i64 0,.int .i64 0,.bool false,.string ⟨#[]⟩,.slice none 0 0] (w6.alloc (.cells #[.int .i64 0,.int .i64 0,.int .i64 0,.bool false,.string ⟨#[]⟩,.slice none 0 0] 41))from⟨HB6.out.1.allocIns _,(HK5.out.trans HB6.out.2.undrew').trans (Kp.below (HB6.out.1.m.bd.sub fun _ hb=>.inl hb) hA7),Blk.new ..,Nat.le_trans HB.out.size hKp.k.size⟩)
   show K _ _
   refine hK.out _ _ (⟨(hA7.cell (World.block_lt_of_cell? _ _ hHeld.1)).trans hHeld.1,(hA7.cell (World.block_lt_of_cell? _ _ hHeld.2.1)).trans hHeld.2.1,(hA7.cell (World.block_lt_of_cell? _ _ hHeld.2.2.1)).trans hHeld.2.2.1,(hA7.cell (World.block_lt_of_cell? _ _ hHeld.2.2.2.1)).trans hHeld.2.2.2.1,(hA7.cell (World.block_lt_of_cell? _ _ hHeld.2.2.2.2.1)).trans hHeld.2.2.2.2.1,(hA7.cell (World.block_lt_of_cell? _ _ hHeld.2.2.2.2.2.1)).trans hHeld.2.2.2.2.2.1,(hA7.cell (World.block_lt_of_cell? _ _ hHeld.2.2.2.2.2.2.1)).trans hHeld.2.2.2.2.2.2.1,(hA7.cell (World.block_lt_of_cell? _ _ hHeld.2.2.2.2.2.2.2.1)).trans hHeld.2.2.2.2.2.2.2.1,(hA7.cell (World.block_lt_of_cell? _ _ hHeld.2.2.2.2.2.2.2.2.1)).trans hHeld.2.2.2.2.2.2.2.2.1,(hA7.cell (World.block_lt_of_cell? _ _ hHeld.2.2.2.2.2.2.2.2.2)).trans hHeld.2.2.2.2.2.2.2.2.2⟩) (fun hHeld=>?_)
   clear hK K
   have hnp:w6.heap.size≠pb:=fun e=>FsR.np HO.out.f (.inr e.symm)
   have hnf:w6.heap.size≠fb:=fun e=>FsR.nf HO.out.f (.inr e.symm)
   refine wpAnyH_ready (rs:=[15]) (by kernel_rfl) (by simp) ?_
   refine AllReadyH.cons rfl (fun K hK=>?_) AllReadyH.nil
   rw[if_pos (by kernel_rfl)]
   refine wp_store_mid 41 (.tmp 9) (.tmp 53) rfl w6.heap.size 0 #[Value.int IntKind.i64 rcode,Value.int IntKind.i64 rfd,Value.int IntKind.i64 rnum,Value.bool rdir,Value.string rdata,Value.slice rna rnl rnc] rfl rfl (there_of_blk HO.out.b (Nat.le_refl 6)) (by kernel_rfl) (by simp[Value.oneCell']) ?_
   have HF:=lhi (FsO.sets HBD.out [Value.int IntKind.i64 rcode,Value.int IntKind.i64 rfd,Value.int IntKind.i64 rnum,Value.bool rdir,Value.string rdata,Value.slice rna rnl rnc] 0 HO.out)
   show K _ _
   refine hK.out _ _ (⟨(World.cell?_setCells_out _ _ _ _ _ (fun e=>absurd e.symm hnp)).trans hHeld.1,(World.cell?_setCells_out _ _ _ _ _ (fun e=>absurd e.symm hnp)).trans hHeld.2.1,(World.cell?_setCells_out _ _ _ _ _ (fun e=>absurd e.symm hnp)).trans hHeld.2.2.1,(World.cell?_setCells_out _ _ _ _ _ (fun e=>absurd e.symm hnp)).trans hHeld.2.2.2.1,(World.cell?_setCells_out _ _ _ _ _ (fun e=>absurd e.symm hnp)).trans hHeld.2.2.2.2.1,(World.cell?_setCells_out _ _ _ _ _ (fun e=>absurd e.symm hnp)).trans hHeld.2.2.2.2.2.1,(World.cell?_setCells_out _ _ _ _ _ (fun e=>absurd e.symm hnp)).trans hHeld.2.2.2.2.2.2.1,(World.cell?_setCells_out _ _ _ _ _ (fun e=>absurd e.symm hnp)).trans hHeld.2.2.2.2.2.2.2.1,(World.cell?_setCells_out _ _ _ _ _ (fun e=>absurd e.symm hnp)).trans hHeld.2.2.2.2.2.2.2.2.1,(World.cell?_setCells_out _ _ _ _ _ (fun e=>absurd e.symm hnf)).trans hHeld.2.2.2.2.2.2.2.2.2⟩) (fun hHeld=>?_)
   clear hK K
   refine wpAnyH_take (i:=16) (oi:=⟨some 10,_,_,_,_,_⟩) (v:=.nilIface) rfl (by kernel_rfl) (by kernel_rfl) (by kernel_rfl) (fun _ _ _ h=>h) (Or.inl ⟨by kernel_rfl,fun w hSw=>by go_simp⟩) (by assumption) ?_
   simp only[Act.put,lTA,lC0,lCS]
   refine wpAnyH_done (by kernel_rfl) ?_ _
   go_wp2_with (fail)
   go_meet
   case rel=>exact⟨w6.heap.size,rfl,rfl,HF.out⟩
  ·go_simp
   have hb7:=H5.out.allocIns (.cells #[.int .i64 0,.int .i64 0,.int .i64 0,.bool false,.string ⟨#[]⟩,.slice none 0 0] 41)
   have hBd:Below w5.heap.size w5 (w5.alloc (.cells #[.int .i64 0,.int .i64 0,.int .i64 0,.bool false,.string ⟨#[]⟩,.slice none 0 0] 41)).drew:=(below_alloc w5 _).trans ⟨rfl,rfl,rfl,Nat.le_refl _,fun _ _=>rfl⟩
   show K _ _
   refine hK.out _ _ (⟨(hBd.cell (World.block_lt_of_cell? _ _ hHeld.1)).trans hHeld.1,(hBd.cell (World.block_lt_of_cell? _ _ hHeld.2.1)).trans hHeld.2.1,(hBd.cell (World.block_lt_of_cell? _ _ hHeld.2.2.1)).trans hHeld.2.2.1,(hBd.cell (World.block_lt_of_cell? _ _ hHeld.2.2.2.1)).trans hHeld.2.2.2.1,(hBd.cell (World.block_lt_of_cell? _ _ hHeld.2.2.2.2.1)).trans hHeld.2.2.2.2.1,(hBd.cell (World.block_lt_of_cell? _ _ hHeld.2.2.2.2.2.1)).trans hHeld.2.2.2.2.2.1,(hBd.cell (World.block_lt_of_cell? _ _ hHeld.2.2.2.2.2.2.1)).trans hHeld.2.2.2.2.2.2.1,(hBd.cell (World.block_lt_of_cell? _ _ hHeld.2.2.2.2.2.2.2.1)).trans hHeld.2.2.2.2.2.2.2.1,(hBd.cell (World.block_lt_of_cell? _ _ hHeld.2.2.2.2.2.2.2.2.1)).trans hHeld.2.2.2.2.2.2.2.2.1,(hBd.cell (World.block_lt_of_cell? _ _ hHeld.2.2.2.2.2.2.2.2.2)).trans hHeld.2.2.2.2.2.2.2.2.2⟩) (fun hHeld=>?_)
   clear hK K
   refine wpAnyH_ready (rs:=[10]) (by kernel_rfl) (by simp) ?_
   refine AllReadyH.cons rfl (fun K hK=>?_) AllReadyH.nil
   go_simp
   refine(HS.out _ _ (Nat.le_trans HB.out.size hBd.size) hb7.m.drew hHeld.2.2.2.2.2.2.2.2.2).mono ?_
   rintro e w6 ⟨rfl,hM,hKp⟩
   show K _ _
   refine hK.out _ _ (⟨hKp.cellOf (p:=⟨pb,k*17,none⟩) (.inr (.inr rfl)) hHeld.1,hKp.cellOf (p:=⟨pb,k*17+1,none⟩) (.inr (.inr rfl)) hHeld.2.1,hKp.cellOf (p:=⟨pb,k*17+2,none⟩) (.inr (.inr rfl)) hHeld.2.2.1,hKp.cellOf (p:=⟨pb,k*17+3,none⟩) (.inr (.inr rfl)) hHeld.2.2.2.1,hKp.cellOf (p:=⟨pb,k*17+4,none⟩) (.inr (.inr rfl)) hHeld.2.2.2.2.1,hKp.cellOf (p:=⟨pb,k*17+5,none⟩) (.inr (.inr rfl)) hHeld.2.2.2.2.2.1,hKp.cellOf (p:=⟨pb,k*17+6,none⟩) (.inr (.inr rfl)) hHeld.2.2.2.2.2.2.1,hKp.cellOf (p:=⟨pb,k*17+7,none⟩) (.inr (.inr rfl)) hHeld.2.2.2.2.2.2.2.1,hKp.cellOf (p:=⟨pb,k*17+8,none⟩) (.inr (.inr rfl)) hHeld.2.2.2.2.2.2.2.2.1,hKp.cellOf (p:=⟨fb,0,none⟩) (.inr (.inl rfl)) hHeld.2.2.2.2.2.2.2.2.2⟩) (fun hHeld=>?_)
   clear hK K
   have hb6:=hb7.drew.back hM hKp hl'
   have HO:=lhi (show FsO L w fb s pb M' ps w5.heap.size 41 #[.int .i64 0,.int .i64 0,.int .i64 0,.bool false,.string ⟨#[]⟩,.slice none 0 0] w6 from⟨hb6.1,HK5.out.trans ((Kp.below HB5.out hBd).trans (hb6.2.sub fun _ hb=>.inl hb)),hb6.2.blk (show Blk (w5.alloc (.cells #[.int .i64 0,.int .i64 0,.int .i64 0,.bool false,.string ⟨#[]⟩,.slice none 0 0] 41)).drew w5.heap.size 41 _ from Blk.new ..) (.inr rfl),HB.out.size⟩)
   refine wpAnyH_take (i:=11) (oi:=⟨some 41,_,_,_,_,_⟩) (v:=.tuple #[.agg #[Value.int IntKind.i64 rcode,Value.int IntKind.i64 rfd,Value.int IntKind.i64 rnum,Value.bool rdir,Value.string rdata,Value.slice rna rnl rnc],.nilIface]) rfl (by kernel_rfl) (by kernel_rfl) (by kernel_rfl) (fun _ _ _ h=>h) (Or.inl ⟨by kernel_rfl,fun w hSw=>by go_simp⟩) (by assumption) ?_
   simp only[Act.put,lTA,lC0,lCS]
   refine wpAnyH_take (i:=12) (oi:=⟨some 53,_,_,_,_,_⟩) (v:=.agg #[Value.int IntKind.i64 rcode,Value.int IntKind.i64 rfd,Value.int IntKind.i64 rnum,Value.bool rdir,Value.string rdata,Value.slice rna rnl rnc]) rfl (by kernel_rfl) (by kernel_rfl) (by kernel_rfl) (fun _ _ _ h=>h) (Or.inl ⟨by kernel_rfl,fun w hSw=>by go_simp⟩) (by assumption) ?_
   simp only[Act.put,lTA,lC0,lCS]
   refine wpAnyH_take (i:=13) (oi:=⟨some 54,_,_,_,_,_⟩) (v:=.nilIface) rfl (by kernel_rfl) (by kernel_rfl) (by kernel_rfl) (fun _ _ _ h=>h) (Or.inl ⟨by kernel_rfl,fun w hSw=>by go_simp⟩) (by assumption) ?_
   simp only[Act.put,lTA,lC0,lCS]
   have hnp:w5.heap.size≠pb:=fun e=>FsR.np HO.out.f (.inr e.symm)
   have hnf:w5.heap.size≠fb:=fun e=>FsR.nf HO.out.f (.inr e.symm)
   refine wpAnyH_ready (rs:=[15]) (by kernel_rfl) (by simp) ?_
   refine AllReadyH.cons rfl (fun K hK=>?_) AllReadyH.nil
   rw[if_pos (by kernel_rfl)]
   refine wp_store_mid 41 (.tmp 9) (.tmp 53) rfl w5.heap.size 0 #[Value.int IntKind.i64 rcode,Value.int IntKind.i64 rfd,Value.int IntKind.i64 rnum,Value.bool rdir,Value.string rdata,Value.slice rna rnl rnc] rfl rfl (there_of_blk HO.out.b (Nat.le_refl 6)) (by kernel_rfl) (by simp[Value.oneCell']) ?_
   have HF:=lhi (FsO.sets HBD.out [Value.int IntKind.i64 rcode,Value.int IntKind.i64 rfd,Value.int IntKind.i64 rnum,Value.bool rdir,Value.string rdata,Value.slice rna rnl rnc] 0 HO.out)
   show K _ _
   refine hK.out _ _ (⟨(World.cell?_setCells_out _ _ _ _ _ (fun e=>absurd e.symm hnp)).trans hHeld.1,(World.cell?_setCells_out _ _ _ _ _ (fun e=>absurd e.symm hnp)).trans hHeld.2.1,(World.cell?_setCells_out _ _ _ _ _ (fun e=>absurd e.symm hnp)).trans hHeld.2.2.1,(World.cell?_setCells_out _ _ _ _ _ (fun e=>absurd e.symm hnp)).trans hHeld.2.2.2.1,(World.cell?_setCells_out _ _ _ _ _ (fun e=>absurd e.symm hnp)).trans hHeld.2.2.2.2.1,(World.cell?_setCells_out _ _ _ _ _ (fun e=>absurd e.symm hnp)).trans hHeld.2.2.2.2.2.1,(World.cell?_setCells_out _ _ _ _ _ (fun e=>absurd e.symm hnp)).trans hHeld.2.2.2.2.2.2.1,(World.cell?_setCells_out _ _ _ _ _ (fun e=>absurd e.symm hnp)).trans hHeld.2.2.2.2.2.2.2.1,(World.cell?_setCells_out _ _ _ _ _ (fun e=>absurd e.symm hnp)).trans hHeld.2.2.2.2.2.2.2.2.1,(World.cell?_setCells_out _ _ _ _ _ (fun e=>absurd e.symm hnf)).trans hHeld.2.2.2.2.2.2.2.2.2⟩) (fun hHeld=>?_)
   clear hK K
   refine wpAnyH_take (i:=16) (oi:=⟨some 10,_,_,_,_,_⟩) (v:=.nilIface) rfl (by kernel_rfl) (by kernel_rfl) (by kernel_rfl) (fun _ _ _ h=>h) (Or.inl ⟨by kernel_rfl,fun w hSw=>by go_simp⟩) (by assumption) ?_
   simp only[Act.put,lTA,lC0,lCS]
   refine wpAnyH_done (by kernel_rfl) ?_ _
   go_wp2_with (fail)
   go_meet
   case rel=>exact⟨w5.heap.size,rfl,rfl,HF.out⟩
 case rest=>
  obtain⟨q,rfl,rfl,hO⟩:=hcut
  obtain⟨t1,ht1⟩: ∃t,tr M'.ts k=t:=⟨_,rfl⟩
  have hm1:t1.length<=m:=by rw[<-ht1];exact HOK.out.sh.at_
  rw[ht1]at hle HWD
  have hF:FsAt (ins L q) (wc.alloc (.map #[] 0)) fb s pb M' ps:=hO.f.below ((Below.refl _ _).alloc (Nat.le_refl _) _)
  obtain⟨a2,hsa⟩:=hF.arena
  have f0:(wc.alloc (.map #[] 0)).cell? ⟨fb,0,none⟩=some (.pointer (some ⟨s,0,none⟩)):=hF.f.cell 0
  have HT:=lhi (trace_m hF.m HOK.out hm (c:=k) ⟨by omega,by rw[hl',<-HTL.out];omega⟩ hsa ht1)
  have HO:=lhi hO
  have HMA:=lhi (MapB.made wc)
  have hmm:=@run_makeMap Tryz.prog
  have d5:decide ((n0:Int)<0)=false:=by simp
  have d6:decide ((t1.length:Int)<n0)=false:=by simp;omega
  clear hO hF
  go_wp2_with (go_at_call 29;refine HT.out.mono ?_;rintro e w7 ⟨⟨v,A,cap,hv,rfl,hs⟩,hb⟩;have HB7:=lhi hb;clear hb;rcases hs with⟨rfl,ht⟩ | ⟨g,cap,rfl,hcap,hcm,hcell⟩;(obtain rfl:n0=0:=by(rw[ht]at hle;simpa using hle)))
  ·skip
   have hst:FsM L w fb s pb M' ps q 41 #[Value.int IntKind.i64 rcode,Value.int IntKind.i64 rfd,Value.int IntKind.i64 rnum,Value.bool rdir,Value.string rdata,Value.slice rna rnl rnc] wc.heap.size 0 0 t1 w7:=FsM.start HO.out HBD.out HB7.out (by rw[ht];simp[encAccs])
   obtain⟨mb,hmb⟩: ∃b,wc.heap.size=b:=⟨_,rfl⟩
   rw[hmb]at hst
   rw[hmb]
   have HST:=lhi hst
   clear hst HB7 HT HO HMA f0 hsa hmb
   go_loopw [68] (fun i wr=>∃j:Nat,i= .int .i64 j/\j<=0/\FsM L w fb s pb M' ps q 41 #[Value.int IntKind.i64 rcode,Value.int IntKind.i64 rfd,Value.int IntKind.i64 rnum,Value.bool rdir,Value.string rdata,Value.slice rna rnl rnc] mb j 0 t1 wr) (fun i _=>0 - (intOf i).toNat)
   case atStart=>exact⟨0,rfl,by omega,HST.out⟩
   case round=>
    obtain⟨j,rfl,hj,hm7⟩:=hrel
    have HM:=lhi hm7
    by_cases hp:j<0
    ·exact absurd hp (by omega)
    ·have e:j=0:=by omega
     subst e
     obtain⟨fm,D,hD,-⟩:=hm7.mp
     have HD:=lhi hD
     have hpz: ∀i,i<17->wr.cell? ⟨pb,k*17+i,none⟩=ps[k].cs[i]?:=fun i hi=>hm7.f.at_ hi hk
     have hfz: ∀i,wr.frozen? ⟨pb,i,none⟩=false:=fun i=>hm7.f.p.1.frozen i
     have x8:wr.cell? ⟨pb,k*17+8,none⟩=some _:=hpz 8 (by decide)
     have y8:=hfz (k*17+8)
     have x9:wr.cell? ⟨pb,k*17+9,none⟩=some _:=hpz 9 (by decide)
     have y9:=hfz (k*17+9)
     have x10:wr.cell? ⟨pb,k*17+10,none⟩=some _:=hpz 10 (by decide)
     have y10:=hfz (k*17+10)
     have x11:wr.cell? ⟨pb,k*17+11,none⟩=some _:=hpz 11 (by decide)
     have y11:=hfz (k*17+11)
     have x12:wr.cell? ⟨pb,k*17+12,none⟩=some _:=hpz 12 (by decide)
     have y12:=hfz (k*17+12)
     have x13:wr.cell? ⟨pb,k*17+13,none⟩=some _:=hpz 13 (by decide)
     have y13:=hfz (k*17+13)
     have x14:wr.cell? ⟨pb,k*17+14,none⟩=some _:=hpz 14 (by decide)
     have y14:=hfz (k*17+14)
     have x15:wr.cell? ⟨pb,k*17+15,none⟩=some _:=hpz 15 (by decide)
     have y15:=hfz (k*17+15)
     have x16:wr.cell? ⟨pb,k*17+16,none⟩=some _:=hpz 16 (by decide)
     have y16:=hfz (k*17+16)
     have z0:wr.cell? ⟨q,0,none⟩=some (Value.int IntKind.i64 rcode):=hm7.b.cell 0
     have z1:wr.cell? ⟨q,1,none⟩=some (Value.int IntKind.i64 rfd):=hm7.b.cell 1
     have z2:wr.cell? ⟨q,2,none⟩=some (Value.int IntKind.i64 rnum):=hm7.b.cell 2
     have z3:wr.cell? ⟨q,3,none⟩=some (Value.bool rdir):=hm7.b.cell 3
     have z4:wr.cell? ⟨q,4,none⟩=some (Value.string rdata):=hm7.b.cell 4
     have z5:wr.cell? ⟨q,5,none⟩=some (Value.slice rna rnl rnc):=hm7.b.cell 5
     have hnq:q≠pb:=fun e=>FsR.np hm7.f (.inl (.inr e.symm))
     have hnq':pb≠q:=Ne.symm hnq
     clear hm7 hD hpz hfz
     go_wp2_with (at_len;refine wpList_len_own _ rfl _ 127 rfl 3 4 Tryz.underlying127 _ mb _ D rfl HD.out ?_)
     generalize hW9:((wr.setCell ⟨pb,k*17+16,none⟩ (.int .i64 (Maps.size D:Int))).setCell ⟨pb,k*17+8,none⟩ .nilIface)=w9
     have h9:=(HM.out.f.sub fun _ hb=>.inl (.inl hb)).sets HM.out.k hk [.int .i64 (Maps.size D:Int)] 16 (by simp) (p:={ps[k]with tc:=(Maps.size D:Int)}) rfl
     have h10:=FsAt.sets' h9.1 h9.2 hk [.nilIface] 8 (by simp) (p:={ps[k]with tc:=(Maps.size D:Int),at_:=.nilIface}) rfl
     have h11:FsAt L w9 fb s pb M' (ps.set k {ps[k]with tc:=(Maps.size D:Int),at_:=.nilIface})/\Kp L w w9:=by rw[<-hW9];exact h10
     have hb9:Blk w9 q 41 #[Value.int IntKind.i64 rcode,Value.int IntKind.i64 rfd,Value.int IntKind.i64 rnum,Value.bool rdir,Value.string rdata,Value.slice rna rnl rnc]:=by rw[<-hW9];exact(HM.out.b.far (p:=⟨pb,k*17+16,none⟩) hnq _).far (p:=⟨pb,k*17+8,none⟩) hnq _
     have hpz: ∀i,i<17->w9.cell? ⟨pb,k*17+i,none⟩=({ps[k]with tc:=(Maps.size D:Int),at_:=.nilIface}:PV).cs[i]?:=fun i hi=>by have:=h11.1.at_ (i:=k) hi (by simpa using hk);simpa using this
     have hfz: ∀i,w9.frozen? ⟨pb,i,none⟩=false:=fun i=>h11.1.p.1.frozen i
     have x9:w9.cell? ⟨pb,k*17+9,none⟩=some _:=hpz 9 (by decide)
     have y9:=hfz (k*17+9)
     have x10:w9.cell? ⟨pb,k*17+10,none⟩=some _:=hpz 10 (by decide)
     have y10:=hfz (k*17+10)
     have x11:w9.cell? ⟨pb,k*17+11,none⟩=some _:=hpz 11 (by decide)
     have y11:=hfz (k*17+11)
     have x12:w9.cell? ⟨pb,k*17+12,none⟩=some _:=hpz 12 (by decide)
     have y12:=hfz (k*17+12)
     have x13:w9.cell? ⟨pb,k*17+13,none⟩=some _:=hpz 13 (by decide)
     have y13:=hfz (k*17+13)
     have x14:w9.cell? ⟨pb,k*17+14,none⟩=some _:=hpz 14 (by decide)
     have y14:=hfz (k*17+14)
     have x15:w9.cell? ⟨pb,k*17+15,none⟩=some _:=hpz 15 (by decide)
     have y15:=hfz (k*17+15)
     have z0:w9.cell? ⟨q,0,none⟩=some (Value.int IntKind.i64 rcode):=hb9.cell 0
     have z1:w9.cell? ⟨q,1,none⟩=some (Value.int IntKind.i64 rfd):=hb9.cell 1
     have z2:w9.cell? ⟨q,2,none⟩=some (Value.int IntKind.i64 rnum):=hb9.cell 2
     have z3:w9.cell? ⟨q,3,none⟩=some (Value.bool rdir):=hb9.cell 3
     have z4:w9.cell? ⟨q,4,none⟩=some (Value.string rdata):=hb9.cell 4
     have z5:w9.cell? ⟨q,5,none⟩=some (Value.slice rna rnl rnc):=hb9.cell 5
     have H11:=lhi h11
     clear h9 h10 h11 hb9 hpz hfz hW9
     have h12:=FsAt.sets' H11.out.1 H11.out.2 hk [.bool true] 9 (by simp) (p:={ps[k]with tc:=(Maps.size D:Int),at_:=.nilIface,ended:=true}) rfl
     have h13:=FsAt.sets' h12.1 h12.2 hk [Value.int IntKind.i64 rcode,Value.int IntKind.i64 rfd,Value.int IntKind.i64 rnum,Value.bool rdir,Value.string rdata,Value.slice rna rnl rnc] 10 (by simp) (p:=⟨⟨kind,core,fd,off,num,path,path2,data⟩,.nilIface,true,⟨rcode,rfd,rnum,rdir,rdata,rna,rnl,rnc⟩,(Maps.size D:Int)⟩) (by simp[setF,PV.cs,hc])
     have H13:=lhi (⟨h13.1.drew,h13.2.drew⟩:_/\Kp L w _)
     clear h12 h13
     go_region
     go_wp2_with (fail)
     go_ret2
     first | exact⟨rfl,⟨_,H13.out.1⟩,H13.out.2⟩ | exact⟨rfl,_,H13.out.1,H13.out.2⟩
  ·generalize hN:t1.length - n0=N at*
   have hst:FsM L w fb s pb M' ps q 41 #[Value.int IntKind.i64 rcode,Value.int IntKind.i64 rfd,Value.int IntKind.i64 rnum,Value.bool rdir,Value.string rdata,Value.slice rna rnl rnc] wc.heap.size 0 g t1 w7:=FsM.start HO.out HBD.out HB7.out hcell
   obtain⟨mb,hmb⟩: ∃b,wc.heap.size=b:=⟨_,rfl⟩
   rw[hmb]at hst
   rw[hmb]
   have HST:=lhi hst
   clear hst HB7 HT HO HMA f0 hsa hmb
   go_loopw [68] (fun i wr=>∃j:Nat,i= .int .i64 j/\j<=0/\FsM L w fb s pb M' ps q 41 #[Value.int IntKind.i64 rcode,Value.int IntKind.i64 rfd,Value.int IntKind.i64 rnum,Value.bool rdir,Value.string rdata,Value.slice rna rnl rnc] mb j g t1 wr) (fun i _=>0 - (intOf i).toNat)
   case atStart=>exact⟨0,rfl,by omega,HST.out⟩
   case round=>
    obtain⟨j,rfl,hj,hm7⟩:=hrel
    have HM:=lhi hm7
    by_cases hp:j<0
    ·exact absurd hp (by omega)
    ·have e:j=0:=by omega
     subst e
     obtain⟨fm,D,hD,-⟩:=hm7.mp
     have HD:=lhi hD
     have hpz: ∀i,i<17->wr.cell? ⟨pb,k*17+i,none⟩=ps[k].cs[i]?:=fun i hi=>hm7.f.at_ hi hk
     have hfz: ∀i,wr.frozen? ⟨pb,i,none⟩=false:=fun i=>hm7.f.p.1.frozen i
     have x8:wr.cell? ⟨pb,k*17+8,none⟩=some _:=hpz 8 (by decide)
     have y8:=hfz (k*17+8)
     have x9:wr.cell? ⟨pb,k*17+9,none⟩=some _:=hpz 9 (by decide)
     have y9:=hfz (k*17+9)
     have x10:wr.cell? ⟨pb,k*17+10,none⟩=some _:=hpz 10 (by decide)
     have y10:=hfz (k*17+10)
     have x11:wr.cell? ⟨pb,k*17+11,none⟩=some _:=hpz 11 (by decide)
     have y11:=hfz (k*17+11)
     have x12:wr.cell? ⟨pb,k*17+12,none⟩=some _:=hpz 12 (by decide)
     have y12:=hfz (k*17+12)
     have x13:wr.cell? ⟨pb,k*17+13,none⟩=some _:=hpz 13 (by decide)
     have y13:=hfz (k*17+13)
     have x14:wr.cell? ⟨pb,k*17+14,none⟩=some _:=hpz 14 (by decide)
     have y14:=hfz (k*17+14)
     have x15:wr.cell? ⟨pb,k*17+15,none⟩=some _:=hpz 15 (by decide)
     have y15:=hfz (k*17+15)
     have x16:wr.cell? ⟨pb,k*17+16,none⟩=some _:=hpz 16 (by decide)
     have y16:=hfz (k*17+16)
     have z0:wr.cell? ⟨q,0,none⟩=some (Value.int IntKind.i64 rcode):=hm7.b.cell 0
     have z1:wr.cell? ⟨q,1,none⟩=some (Value.int IntKind.i64 rfd):=hm7.b.cell 1
     have z2:wr.cell? ⟨q,2,none⟩=some (Value.int IntKind.i64 rnum):=hm7.b.cell 2
     have z3:wr.cell? ⟨q,3,none⟩=some (Value.bool rdir):=hm7.b.cell 3
     have z4:wr.cell? ⟨q,4,none⟩=some (Value.string rdata):=hm7.b.cell 4
     have z5:wr.cell? ⟨q,5,none⟩=some (Value.slice rna rnl rnc):=hm7.b.cell 5
     have hnq:q≠pb:=fun e=>FsR.np hm7.f (.inl (.inr e.symm))
     have hnq':pb≠q:=Ne.symm hnq
     clear hm7 hD hpz hfz
     go_wp2_with (at_len;refine wpList_len_own _ rfl _ 127 rfl 3 4 Tryz.underlying127 _ mb _ D rfl HD.out ?_)
     generalize hW9:((wr.setCell ⟨pb,k*17+16,none⟩ (.int .i64 (Maps.size D:Int))).setCell ⟨pb,k*17+8,none⟩ .nilIface)=w9
     have h9:=(HM.out.f.sub fun _ hb=>.inl (.inl hb)).sets HM.out.k hk [.int .i64 (Maps.size D:Int)] 16 (by simp) (p:={ps[k]with tc:=(Maps.size D:Int)}) rfl
     have h10:=FsAt.sets' h9.1 h9.2 hk [.nilIface] 8 (by simp) (p:={ps[k]with tc:=(Maps.size D:Int),at_:=.nilIface}) rfl
     have h11:FsAt L w9 fb s pb M' (ps.set k {ps[k]with tc:=(Maps.size D:Int),at_:=.nilIface})/\Kp L w w9:=by rw[<-hW9];exact h10
     have hb9:Blk w9 q 41 #[Value.int IntKind.i64 rcode,Value.int IntKind.i64 rfd,Value.int IntKind.i64 rnum,Value.bool rdir,Value.string rdata,Value.slice rna rnl rnc]:=by rw[<-hW9];exact(HM.out.b.far (p:=⟨pb,k*17+16,none⟩) hnq _).far (p:=⟨pb,k*17+8,none⟩) hnq _
     have hpz: ∀i,i<17->w9.cell? ⟨pb,k*17+i,none⟩=({ps[k]with tc:=(Maps.size D:Int),at_:=.nilIface}:PV).cs[i]?:=fun i hi=>by have:=h11.1.at_ (i:=k) hi (by simpa using hk);simpa using this
     have hfz: ∀i,w9.frozen? ⟨pb,i,none⟩=false:=fun i=>h11.1.p.1.frozen i
     have x9:w9.cell? ⟨pb,k*17+9,none⟩=some _:=hpz 9 (by decide)
     have y9:=hfz (k*17+9)
     have x10:w9.cell? ⟨pb,k*17+10,none⟩=some _:=hpz 10 (by decide)
     have y10:=hfz (k*17+10)
     have x11:w9.cell? ⟨pb,k*17+11,none⟩=some _:=hpz 11 (by decide)
     have y11:=hfz (k*17+11)
     have x12:w9.cell? ⟨pb,k*17+12,none⟩=some _:=hpz 12 (by decide)
     have y12:=hfz (k*17+12)
     have x13:w9.cell? ⟨pb,k*17+13,none⟩=some _:=hpz 13 (by decide)
     have y13:=hfz (k*17+13)
     have x14:w9.cell? ⟨pb,k*17+14,none⟩=some _:=hpz 14 (by decide)
     have y14:=hfz (k*17+14)
     have x15:w9.cell? ⟨pb,k*17+15,none⟩=some _:=hpz 15 (by decide)
     have y15:=hfz (k*17+15)
     have z0:w9.cell? ⟨q,0,none⟩=some (Value.int IntKind.i64 rcode):=hb9.cell 0
     have z1:w9.cell? ⟨q,1,none⟩=some (Value.int IntKind.i64 rfd):=hb9.cell 1
     have z2:w9.cell? ⟨q,2,none⟩=some (Value.int IntKind.i64 rnum):=hb9.cell 2
     have z3:w9.cell? ⟨q,3,none⟩=some (Value.bool rdir):=hb9.cell 3
     have z4:w9.cell? ⟨q,4,none⟩=some (Value.string rdata):=hb9.cell 4
     have z5:w9.cell? ⟨q,5,none⟩=some (Value.slice rna rnl rnc):=hb9.cell 5
     have H11:=lhi h11
     clear h9 h10 h11 hb9 hpz hfz hW9
     have h12:=FsAt.sets' H11.out.1 H11.out.2 hk [.bool true] 9 (by simp) (p:={ps[k]with tc:=(Maps.size D:Int),at_:=.nilIface,ended:=true}) rfl
     have h13:=FsAt.sets' h12.1 h12.2 hk [Value.int IntKind.i64 rcode,Value.int IntKind.i64 rfd,Value.int IntKind.i64 rnum,Value.bool rdir,Value.string rdata,Value.slice rna rnl rnc] 10 (by simp) (p:=⟨⟨kind,core,fd,off,num,path,path2,data⟩,.nilIface,true,⟨rcode,rfd,rnum,rdir,rdata,rna,rnl,rnc⟩,(Maps.size D:Int)⟩) (by simp[setF,PV.cs,hc])
     have H13:=lhi (⟨h13.1.drew,h13.2.drew⟩:_/\Kp L w _)
     clear h12 h13
     go_region
     go_wp2_with (fail)
     go_ret2
     first | exact⟨rfl,⟨_,H13.out.1⟩,H13.out.2⟩ | exact⟨rfl,_,H13.out.1,H13.out.2⟩
  ·generalize hN:t1.length - n0=N at*
   have hst:FsM L w fb s pb M' ps q 41 #[Value.int IntKind.i64 rcode,Value.int IntKind.i64 rfd,Value.int IntKind.i64 rnum,Value.bool rdir,Value.string rdata,Value.slice rna rnl rnc] wc.heap.size 0 g t1 w7:=FsM.start HO.out HBD.out HB7.out hcell
   obtain⟨mb,hmb⟩: ∃b,wc.heap.size=b:=⟨_,rfl⟩
   rw[hmb]at hst
   rw[hmb]
   have HST:=lhi hst
   clear hst HB7 HT HO HMA f0 hsa hmb
   go_loopw [68] (fun i wr=>∃j:Nat,i= .int .i64 j/\j<=N/\FsM L w fb s pb M' ps q 41 #[Value.int IntKind.i64 rcode,Value.int IntKind.i64 rfd,Value.int IntKind.i64 rnum,Value.bool rdir,Value.string rdata,Value.slice rna rnl rnc] mb j g t1 wr) (fun i _=>N - (intOf i).toNat)
   case atStart=>exact⟨0,rfl,by omega,HST.out⟩
   case round=>
    obtain⟨j,rfl,hj,hm7⟩:=hrel
    have HM:=lhi hm7
    by_cases hp:j<N
    ·have hlt:n0+j<t1.length:=by omega
     have hcc:=encAccs_at t1 (n0+j) hlt
     have q0:wr.cell? ⟨g,n0*2+j*2,none⟩=some (.int .i64 t1[n0+j].1):=by rw[show n0*2+j*2=(n0+j)*2 by omega];exact hm7.hc _ _ hcc.1
     have q1:wr.cell? ⟨g,n0*2+j*2+1,none⟩=some (.bool t1[n0+j].2):=by rw[show n0*2+j*2+1=(n0+j)*2+1 by omega];exact hm7.hc _ _ hcc.2
     have HR:=lhi (HWD.out t1[n0+j] (List.getElem_mem ..))
     obtain⟨xw,hxw⟩: ∃x,t1[n0+j].1=x:=⟨_,rfl⟩
     obtain⟨xb,hxb⟩: ∃x,t1[n0+j].2=x:=⟨_,rfl⟩
     rw[hxw]at q0 HR
     rw[hxb]at q1
     have hg:=World.block_lt_of_cell? wr _ q0
     have hp1:(j:Int)<N:=by omega
     have HA:=lhi (hm7.alloc HBD.out (.cells #[.int .i64 xw,.bool xb] 149))
     obtain⟨fm,hfm⟩:=HA.out.mp
     have HFM:=lhi hfm
     clear hm7 hcc hxw hxb hfm
     go_wp2_with (at_mapUpdate;refine wpList_setB _ rfl (.tmp 72) (.tmp 74) (.const (.bool true)) (.inl rfl) mb j fm rfl HFM.out (by omega) xw (by have:=HR.out;omega) rfl true rfl ?_;intro w8 hM8 hG8)
     go_roundw
     case rel=>exact⟨j+1,by simp,by omega,HA.out.turn HBD.out hM8 hG8⟩
     case measure=>
      simp only[intOf]
      omega
    ·have e:j=N:=by omega
     subst e
     obtain⟨fm,D,hD,-⟩:=hm7.mp
     have HD:=lhi hD
     have hpz: ∀i,i<17->wr.cell? ⟨pb,k*17+i,none⟩=ps[k].cs[i]?:=fun i hi=>hm7.f.at_ hi hk
     have hfz: ∀i,wr.frozen? ⟨pb,i,none⟩=false:=fun i=>hm7.f.p.1.frozen i
     have x8:wr.cell? ⟨pb,k*17+8,none⟩=some _:=hpz 8 (by decide)
     have y8:=hfz (k*17+8)
     have x9:wr.cell? ⟨pb,k*17+9,none⟩=some _:=hpz 9 (by decide)
     have y9:=hfz (k*17+9)
     have x10:wr.cell? ⟨pb,k*17+10,none⟩=some _:=hpz 10 (by decide)
     have y10:=hfz (k*17+10)
     have x11:wr.cell? ⟨pb,k*17+11,none⟩=some _:=hpz 11 (by decide)
     have y11:=hfz (k*17+11)
     have x12:wr.cell? ⟨pb,k*17+12,none⟩=some _:=hpz 12 (by decide)
     have y12:=hfz (k*17+12)
     have x13:wr.cell? ⟨pb,k*17+13,none⟩=some _:=hpz 13 (by decide)
     have y13:=hfz (k*17+13)
     have x14:wr.cell? ⟨pb,k*17+14,none⟩=some _:=hpz 14 (by decide)
     have y14:=hfz (k*17+14)
     have x15:wr.cell? ⟨pb,k*17+15,none⟩=some _:=hpz 15 (by decide)
     have y15:=hfz (k*17+15)
     have x16:wr.cell? ⟨pb,k*17+16,none⟩=some _:=hpz 16 (by decide)
     have y16:=hfz (k*17+16)
     have z0:wr.cell? ⟨q,0,none⟩=some (Value.int IntKind.i64 rcode):=hm7.b.cell 0
     have z1:wr.cell? ⟨q,1,none⟩=some (Value.int IntKind.i64 rfd):=hm7.b.cell 1
     have z2:wr.cell? ⟨q,2,none⟩=some (Value.int IntKind.i64 rnum):=hm7.b.cell 2
     have z3:wr.cell? ⟨q,3,none⟩=some (Value.bool rdir):=hm7.b.cell 3
     have z4:wr.cell? ⟨q,4,none⟩=some (Value.string rdata):=hm7.b.cell 4
     have z5:wr.cell? ⟨q,5,none⟩=some (Value.slice rna rnl rnc):=hm7.b.cell 5
     have hnq:q≠pb:=fun e=>FsR.np hm7.f (.inl (.inr e.symm))
     have hnq':pb≠q:=Ne.symm hnq
     clear hm7 hD hpz hfz
     go_wp2_with (at_len;refine wpList_len_own _ rfl _ 127 rfl 3 4 Tryz.underlying127 _ mb _ D rfl HD.out ?_)
     generalize hW9:((wr.setCell ⟨pb,k*17+16,none⟩ (.int .i64 (Maps.size D:Int))).setCell ⟨pb,k*17+8,none⟩ .nilIface)=w9
     have h9:=(HM.out.f.sub fun _ hb=>.inl (.inl hb)).sets HM.out.k hk [.int .i64 (Maps.size D:Int)] 16 (by simp) (p:={ps[k]with tc:=(Maps.size D:Int)}) rfl
     have h10:=FsAt.sets' h9.1 h9.2 hk [.nilIface] 8 (by simp) (p:={ps[k]with tc:=(Maps.size D:Int),at_:=.nilIface}) rfl
     have h11:FsAt L w9 fb s pb M' (ps.set k {ps[k]with tc:=(Maps.size D:Int),at_:=.nilIface})/\Kp L w w9:=by rw[<-hW9];exact h10
     have hb9:Blk w9 q 41 #[Value.int IntKind.i64 rcode,Value.int IntKind.i64 rfd,Value.int IntKind.i64 rnum,Value.bool rdir,Value.string rdata,Value.slice rna rnl rnc]:=by rw[<-hW9];exact(HM.out.b.far (p:=⟨pb,k*17+16,none⟩) hnq _).far (p:=⟨pb,k*17+8,none⟩) hnq _
     have hpz: ∀i,i<17->w9.cell? ⟨pb,k*17+i,none⟩=({ps[k]with tc:=(Maps.size D:Int),at_:=.nilIface}:PV).cs[i]?:=fun i hi=>by have:=h11.1.at_ (i:=k) hi (by simpa using hk);simpa using this
     have hfz: ∀i,w9.frozen? ⟨pb,i,none⟩=false:=fun i=>h11.1.p.1.frozen i
     have x9:w9.cell? ⟨pb,k*17+9,none⟩=some _:=hpz 9 (by decide)
     have y9:=hfz (k*17+9)
     have x10:w9.cell? ⟨pb,k*17+10,none⟩=some _:=hpz 10 (by decide)
     have y10:=hfz (k*17+10)
     have x11:w9.cell? ⟨pb,k*17+11,none⟩=some _:=hpz 11 (by decide)
     have y11:=hfz (k*17+11)
     have x12:w9.cell? ⟨pb,k*17+12,none⟩=some _:=hpz 12 (by decide)
     have y12:=hfz (k*17+12)
     have x13:w9.cell? ⟨pb,k*17+13,none⟩=some _:=hpz 13 (by decide)
     have y13:=hfz (k*17+13)
     have x14:w9.cell? ⟨pb,k*17+14,none⟩=some _:=hpz 14 (by decide)
     have y14:=hfz (k*17+14)
     have x15:w9.cell? ⟨pb,k*17+15,none⟩=some _:=hpz 15 (by decide)
     have y15:=hfz (k*17+15)
     have z0:w9.cell? ⟨q,0,none⟩=some (Value.int IntKind.i64 rcode):=hb9.cell 0
     have z1:w9.cell? ⟨q,1,none⟩=some (Value.int IntKind.i64 rfd):=hb9.cell 1
     have z2:w9.cell? ⟨q,2,none⟩=some (Value.int IntKind.i64 rnum):=hb9.cell 2
     have z3:w9.cell? ⟨q,3,none⟩=some (Value.bool rdir):=hb9.cell 3
     have z4:w9.cell? ⟨q,4,none⟩=some (Value.string rdata):=hb9.cell 4
     have z5:w9.cell? ⟨q,5,none⟩=some (Value.slice rna rnl rnc):=hb9.cell 5
     have H11:=lhi h11
     clear h9 h10 h11 hb9 hpz hfz hW9
     have h12:=FsAt.sets' H11.out.1 H11.out.2 hk [.bool true] 9 (by simp) (p:={ps[k]with tc:=(Maps.size D:Int),at_:=.nilIface,ended:=true}) rfl
     have h13:=FsAt.sets' h12.1 h12.2 hk [Value.int IntKind.i64 rcode,Value.int IntKind.i64 rfd,Value.int IntKind.i64 rnum,Value.bool rdir,Value.string rdata,Value.slice rna rnl rnc] 10 (by simp) (p:=⟨⟨kind,core,fd,off,num,path,path2,data⟩,.nilIface,true,⟨rcode,rfd,rnum,rdir,rdata,rna,rnl,rnc⟩,(Maps.size D:Int)⟩) (by simp[setF,PV.cs,hc])
     have H13:=lhi (⟨h13.1.drew,h13.2.drew⟩:_/\Kp L w _)
     clear h12 h13
     go_region
     go_wp2_with (fail)
     go_ret2
     first | exact⟨rfl,⟨_,H13.out.1⟩,H13.out.2⟩ | exact⟨rfl,_,H13.out.1,H13.out.2⟩
end
section
open Go.RowKit
set_option maxHeartbeats 1000000
set_option maxRecDepth 1000000 in
theorem clone_nil(w:World):Calls Tryz.prog 42 #[.slice none 0 0] w fun e w'=>e= .returned (.slice none 0 0)/\w'=w:=by
 have he: ∀w:World,(binOp BinOp.eql 39 (.slice none 0 0) (.slice none 0 0)).run Tryz.prog w= .ok (.bool true) w:=fun _=>by kernel_rfl
 go_enter Tryz.func42,Tryz.ntmps42
 go_wp2
 go_ret
 exact⟨rfl,rfl⟩
set_option maxRecDepth 1000000 in
theorem result_ok{L:Nat->Prop}{w:World}{fb s pb:Nat}{M:Mem}{ps:List PV}(h:FsAt L w fb s pb M ps){k:Nat}(hk:k<ps.length)(he:ps[k].ended=true){r:ResV}(hr:ps[k].r=r)(hn:r.na=none/\r.nl=0/\r.nc=0):
  Calls Tryz.prog 20 #[.pointer (some ⟨fb,0,none⟩),.int .i64 k] w fun e w'=>e= .returned (.tuple #[.agg r.cs,.bool true])/\Below w.heap.size w w':=by
 have h8:=h.tsl
 obtain⟨rcode,rfd,rnum,rdir,rdata,rna,rnl,rnc⟩:=r
 obtain⟨rfl,rfl,rfl⟩:rna=none/\rnl=0/\rnc=0:=hn
 have d1:decide ((k:Int)<0)=false:=by simp
 have d2:decide ((k:Int)<ps.length)=true:=by simp;omega
 have ha:=h.alloc (.cells #[.int .i64 0,.int .i64 0,.int .i64 0,.bool false,.string ⟨#[]⟩,.slice none 0 0] 41)
 have HC:=lhi (fcore_ok ha (c:=k) ⟨by omega,by omega⟩)
 have hfl:=h.f.lt
 have hpl:=h.p.1.lt
 have f1:w.cell? ⟨fb,1,none⟩=some (.slice (some ⟨pb,0,none⟩) ps.length ps.length):=h.f.cell 1
 have q: ∀j,j<17->w.cell? ⟨pb,k*17+j,none⟩=ps[k].cs[j]?:=fun j hj=>h.at_ hj hk
 unfold PV.cs at q
 rw[hr,he]at q
 have p9:w.cell? ⟨pb,k*17+9,none⟩=some (.bool true):=q 9 (by decide)
 have p10:w.cell? ⟨pb,k*17+10,none⟩=some (.int .i64 rcode):=q 10 (by decide)
 have p11:w.cell? ⟨pb,k*17+10+1,none⟩=some (.int .i64 rfd):=q 11 (by decide)
 have p12:w.cell? ⟨pb,k*17+10+2,none⟩=some (.int .i64 rnum):=q 12 (by decide)
 have p13:w.cell? ⟨pb,k*17+10+3,none⟩=some (.bool rdir):=q 13 (by decide)
 have p14:w.cell? ⟨pb,k*17+10+4,none⟩=some (.string rdata):=q 14 (by decide)
 have p15:w.cell? ⟨pb,k*17+10+5,none⟩=some (.slice none 0 0):=q 15 (by decide)
 clear h ha q hr he
 go_enter Tryz.func20,Tryz.ntmps20
 go_wp2_with (first
  | (go_at_call 28;refine HC.out.mono ?_;rintro e w' ⟨rfl,hww⟩;subst hww)
  | (go_at_call 42;refine(clone_nil _).mono ?_;rintro e w' ⟨rfl,hww⟩;subst hww))
 (try simp only[Exit.inBlock,Exit.then])
 refine bodyPost_ret (v:=.tuple #[.agg #[.int .i64 rcode,.int .i64 rfd,.int .i64 rnum,.bool rdir,.string rdata,.slice none 0 0],.bool true]) ?_ rfl ⟨rfl,((Below.refl _ _).alloc (Nat.le_refl _) _).alloc (by simp) _⟩
 simp[results,Tryz.results20,go_sem]
set_option maxRecDepth 1000000 in
theorem ftrace_ok{L:Nat->Prop}{w:World}{fb s pb:Nat}{M:Mem}{m:Nat}{ps:List PV}(h:FsAt L w fb s pb M ps)(hok:M.ok m)(hm:m<=1000000000){k:Nat}(hk:k<ps.length){t:List Acc}(ht:tr M.ts k=t):
  Calls Tryz.prog 11 #[.pointer (some ⟨fb,0,none⟩),.int .i64 k] w fun e w'=>(∃v,e= .returned v/\w'.ownsRow w.heap.size 149 2 v t.length (encAccs t))/\Below w.heap.size w w':=by
 have h8:=h.tsl
 have htl:=h.tl
 obtain⟨a,hsa⟩:=h.arena
 obtain⟨a',L1,h0,har,-⟩:=h.m.lend
 have e:a'=a:=by
  rw[h0]at hsa
  injection hsa with ha
  injection ha with ha
  injection ha with ha
  injection ha
 subst e
 have HT:=lhi (trace_to har (Room.of hok.sh (by omega)) (c:=(k:Int)) ⟨by omega,by omega⟩ ht)
 have f0:w.cell? ⟨fb,0,none⟩=some (.pointer (some ⟨s,0,none⟩)):=h.f.cell 0
 have HC:=lhi (fcore_ok h (c:=k) ⟨by omega,by omega⟩)
 clear h hok htl har ht hsa
 go_enter Tryz.func11,Tryz.ntmps11
 go_wp2_with (first
  | (go_at_call 28;refine HC.out.mono ?_;rintro e w' ⟨rfl,hww⟩;subst hww)
  | (go_at_call 29;refine HT.out.mono ?_;rintro e w1 ⟨v,rfl,hr,hb⟩))
 go_ret
 exact⟨⟨_,rfl,hr⟩,hb⟩
end
end Go.Proofs.YtkebjgebkneijaaGreat
