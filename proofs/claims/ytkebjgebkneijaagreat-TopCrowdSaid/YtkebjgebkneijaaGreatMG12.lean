/- Texts of one's own that a claim's last text rests on: Mf17. -/
import Derived.Test.YtkebjgebkneijaaGreatMG11
set_option linter.unusedVariables false
set_option linter.unusedSimpArgs false
namespace Go.Proofs.YtkebjgebkneijaaGreat
open Go.RowKit
set_option maxHeartbeats 1000000
structure PV where
 c:CallV
 at_:Value
 ended : Bool
 r:ResV
 tc:Int
def noCall:CallV:=⟨0,0,0,0,0,⟨#[]⟩,⟨#[]⟩,⟨#[]⟩⟩
def idleP:PV:=⟨noCall,.nilIface,false,noRes,0⟩
def PV.cs(p:PV):List Value:=[.int .i64 p.c.kind,.int .i64 p.c.core,.int .i64 p.c.fd,.int .i64 p.c.off,.int .i64 p.c.num,.string p.c.path,.string p.c.path2,.string p.c.data,p.at_,.bool p.ended,.int .i64 p.r.code,.int .i64 p.r.fd,.int .i64 p.r.num,.bool p.r.dir,.string p.r.data,.slice p.r.na p.r.nl p.r.nc,.int .i64 p.tc]
theorem PV.len(p:PV):p.cs.length=17:=rfl
theorem flat_get{α:Type}: ∀(l:List (List α)) (_: ∀x∈l,x.length=17) (i j:Nat) (_:j<17) (hi:i<l.length),l.flatten[i*17+j]? =l[i][j]?
 | x::l,h,0,j,hj,_=>by
  have:=h x (by simp)
  simp[List.getElem?_append_left (show j<x.length by omega)]
 | x::l,h,i+1,j,hj,hi=>by
  have hx:=h x (by simp)
  simp only[List.flatten_cons,List.getElem_cons_succ]
  rw[List.getElem?_append_right (by omega),show(i+1)*17+j - x.length=i*17+j by omega]
  exact flat_get l (fun y hy=>h y (by simp[hy])) i j hj (by simpa using hi)
theorem flat_set{α:Type}(v:α): ∀(l:List (List α)) (_: ∀x∈l,x.length=17) (i j:Nat) (_:j<17) (hi:i<l.length),l.flatten.set (i*17+j) v=(l.set i (l[i].set j v)).flatten
 | x::l,h,0,j,hj,_=>by
  have:=h x (by simp)
  simp[List.set_append_left _ _ (show j<x.length by omega)]
 | x::l,h,i+1,j,hj,hi=>by
  have hx:=h x (by simp)
  simp only[List.flatten_cons,List.getElem_cons_succ,List.set_cons_succ]
  rw[List.set_append_right _ _ (by omega),show(i+1)*17+j - x.length=i*17+j by omega]
  rw[flat_set v l (fun y hy=>h y (by simp[hy])) i j hj (by simpa using hi)]
def PsB(w:World)(pb:Nat)(l:List (List Value)):Prop:=Blk w pb 97 l.flatten.toArray/\ ∀x∈l,x.length=17
theorem PsB.cell{w:World}{pb:Nat}{l:List (List Value)}(h:PsB w pb l){i j:Nat}(hj:j<17)(hi:i<l.length):w.cell? ⟨pb,i*17+j,none⟩=l[i][j]?:=by
 rw[h.1.cell,List.getElem?_toArray,flat_get l h.2 i j hj hi]
theorem PsB.set_{w:World}{pb:Nat}{l:List (List Value)}(h:PsB w pb l){i j:Nat}(hj:j<17)(hi:i<l.length)(v:Value):PsB (w.setCell ⟨pb,i*17+j,none⟩ v) pb (l.set i (l[i].set j v)):=by
 refine⟨?_,?_⟩
 ·have:=h.1.set_ (i*17+j) v
  rwa [List.setIfInBounds_toArray,flat_set v l h.2 i j hj hi]at this
 ·intro x hx
  rcases List.mem_or_eq_of_mem_set hx with hx | rfl
  ·exact h.2 x hx
  ·rw[List.length_set]
   exact h.2 _ (List.getElem_mem ..)
structure FsR (L:Nat->Prop) (w:World) (fb s pb:Nat) (M:Mem) (l:List (List Value)):Prop where
 m:MemAt (fun b=>L b∨b=fb∨b=pb) w s M
 f:Blk w fb 70 #[.pointer (some ⟨s,0,none⟩),.slice (some ⟨pb,0,none⟩) l.length l.length]
 p:PsB w pb l
 nf: ¬ L fb
 np: ¬ L pb
 tl:l.length=M.ts.length
def setF(x:List Value):Nat->List Value->List Value
 | _,[]=>x
 | j,v::r=>setF (x.set j v) (j+1) r
theorem FsR.set1{L:Nat->Prop}{w w':World}{fb s pb:Nat}{M:Mem}{l:List (List Value)}(h:FsR L w' fb s pb M l)(k:Kp L w w'){i j:Nat}(hj:j<17)(hi:i<l.length)(v:Value):
  FsR L (w'.setCell ⟨pb,i*17+j,none⟩ v) fb s pb M (l.set i (l[i].set j v))/\Kp L w (w'.setCell ⟨pb,i*17+j,none⟩ v):=by
 refine⟨⟨h.m.set h.p.1 (.inr (.inr rfl)) _ _,?_,h.p.set_ hj hi v,h.nf,h.np,by simpa using h.tl⟩,⟨k.k.setCell (p:=⟨pb,i*17+j,none⟩) h.np v,k.i.trans (KI.set h.p.1 (by unfold still;decide) _ _)⟩⟩
 have:=h.f.far (p:=⟨pb,i*17+j,none⟩) (Blk.ne_ h.f h.p.1 (by decide)) v
 simpa using this
theorem FsR.sets{L:Nat->Prop}{w:World}{fb s pb:Nat}{M:Mem}{i:Nat}: ∀(vs:List Value) (j:Nat) {w':World} {l:List (List Value)} (_:FsR L w' fb s pb M l) (_:Kp L w w') (_:j+vs.length<=17) (hi:i<l.length),
  FsR L (w'.setCells pb (i*17+j) vs) fb s pb M (l.set i (setF l[i] j vs))/\Kp L w (w'.setCells pb (i*17+j) vs)
 | [],j,w',l,h,k,_,hi=>by simpa[setF,World.setCells]using⟨h,k⟩
 | v::r,j,w',l,h,k,hl,hi=>by
  have hl':j+ (r.length+1)<=17:=hl
  obtain⟨h1,k1⟩:=h.set1 k (j:=j) (by omega) hi v
  have:=FsR.sets (i:=i) r (j+1) h1 k1 (by omega) (by simpa using hi)
  simp only[List.set_set,List.getElem_set_self]at this
  exact this
def FsAt(L:Nat->Prop)(w:World)(fb s pb:Nat)(M:Mem)(ps:List PV):Prop:=FsR L w fb s pb M (ps.map PV.cs)
theorem FsAt.sets{L:Nat->Prop}{w w':World}{fb s pb:Nat}{M:Mem}{ps:List PV}(h:FsAt L w' fb s pb M ps)(k:Kp L w w'){i:Nat}(hi:i<ps.length)(vs:List Value)(j:Nat)(hj:j+vs.length<=17){p:PV}(hp:setF ps[i].cs j vs=p.cs):
  FsAt L (w'.setCells pb (i*17+j) vs) fb s pb M (ps.set i p)/\Kp L w (w'.setCells pb (i*17+j) vs):=by
 have:=FsR.sets (i:=i) vs j h k hj (by simpa using hi)
 rw[List.getElem_map,hp,<-List.map_set]at this
 exact this
theorem FsR.drew{L:Nat->Prop}{w:World}{fb s pb:Nat}{M:Mem}{l:List (List Value)}(h:FsR L w fb s pb M l):FsR L w.drew fb s pb M l:=⟨h.m.drew,h.f,h.p,h.nf,h.np,h.tl⟩
theorem FsAt.drew{L:Nat->Prop}{w:World}{fb s pb:Nat}{M:Mem}{ps:List PV}(h:FsAt L w fb s pb M ps):FsAt L w.drew fb s pb M ps:=FsR.drew h
theorem FsAt.f{L:Nat->Prop}{w:World}{fb s pb:Nat}{M:Mem}{ps:List PV}(h:FsAt L w fb s pb M ps):Blk w fb 70 #[.pointer (some ⟨s,0,none⟩),.slice (some ⟨pb,0,none⟩) ps.length ps.length]:=by simpa using FsR.f h
theorem FsAt.m{L:Nat->Prop}{w:World}{fb s pb:Nat}{M:Mem}{ps:List PV}(h:FsAt L w fb s pb M ps):MemAt (fun b=>L b∨b=fb∨b=pb) w s M:=FsR.m h
theorem FsAt.p{L:Nat->Prop}{w:World}{fb s pb:Nat}{M:Mem}{ps:List PV}(h:FsAt L w fb s pb M ps):PsB w pb (ps.map PV.cs):=FsR.p h
theorem FsAt.tl{L:Nat->Prop}{w:World}{fb s pb:Nat}{M:Mem}{ps:List PV}(h:FsAt L w fb s pb M ps):ps.length=M.ts.length:=by simpa using FsR.tl h
theorem FsAt.alloc{L:Nat->Prop}{w:World}{fb s pb:Nat}{M:Mem}{ps:List PV}(h:FsAt L w fb s pb M ps)(o:Obj):FsAt L (w.alloc o) fb s pb M ps:=⟨h.m.alloc o,(FsR.f h).alloc o,⟨(FsR.p h).1.alloc o,(FsR.p h).2⟩,FsR.nf h,FsR.np h,FsR.tl h⟩
theorem FsAt.allocIns{L:Nat->Prop}{w:World}{fb s pb:Nat}{M:Mem}{ps:List PV}(h:FsAt L w fb s pb M ps)(o:Obj):FsAt (ins L w.heap.size) (w.alloc o) fb s pb M ps:=
 ⟨(h.m.allocIns o).sub fun b hb=>by
  rcases hb with(hb | hb) | hb
  ·exact .inl (.inl hb)
  ·exact .inr hb
  ·exact .inl (.inr hb),(FsR.f h).alloc o,⟨(FsR.p h).1.alloc o,(FsR.p h).2⟩,fun hb=>by
   rcases hb with hb | hb
   ·exact FsR.nf h hb
   ·have:=(FsR.f h).lt;omega,fun hb=>by
   rcases hb with hb | hb
   ·exact FsR.np h hb
   ·have:=(FsR.p h).1.lt;omega,FsR.tl h⟩
theorem FsAt.sub{L L':Nat->Prop}{w:World}{fb s pb:Nat}{M:Mem}{ps:List PV}(h:FsAt L w fb s pb M ps)(hs: ∀b,L' b->L b):FsAt L' w fb s pb M ps:=
 ⟨h.m.sub fun b hb=>by
  rcases hb with hb | hb
  ·exact .inl (hs b hb)
  ·exact .inr hb,FsR.f h,FsR.p h,fun hb=>FsR.nf h (hs _ hb),fun hb=>FsR.np h (hs _ hb),FsR.tl h⟩
theorem Kp.draws{L:Nat->Prop}{w w':World}(h:Kp L w w'):Kp L w w'.drew:=⟨⟨h.k.os,h.k.tape,h.k.output,h.k.size,h.k.block⟩,h.i⟩
theorem FsAt.sets_drew{L:Nat->Prop}{w w':World}{fb s pb:Nat}{M:Mem}{ps:List PV}(h:FsAt L w' fb s pb M ps)(k:Kp L w w'){i:Nat}(hi:i<ps.length)(vs:List Value)(j:Nat)(hj:j+vs.length<=17){p:PV}(hp:setF ps[i].cs j vs=p.cs):
  FsAt L (w'.setCells pb (i*17+j) vs).drew fb s pb M (ps.set i p)/\Kp L w (w'.setCells pb (i*17+j) vs).drew:=by
 have:=h.sets k hi vs j hj hp
 exact⟨this.1.drew,this.2.draws⟩
theorem FsAt.back{L:Nat->Prop}{w w':World}{fb s pb:Nat}{M M':Mem}{ps:List PV}(h:FsAt L w fb s pb M ps)(hm:MemAt (fun b=>L b∨b=fb∨b=pb) w' s M')(hk:Kp (fun b=>L b∨b=fb∨b=pb) w w')(hl:M'.ts.length=M.ts.length):FsAt L w' fb s pb M' ps/\Kp L w w':=
 ⟨⟨hm,hk.blk (FsR.f h) (.inr (.inl rfl)),⟨hk.blk (FsR.p h).1 (.inr (.inr rfl)),(FsR.p h).2⟩,FsR.nf h,FsR.np h,(FsR.tl h).trans hl.symm⟩,hk.sub fun _ hb=>.inl hb⟩
theorem FsAt.ne{L:Nat->Prop}{w:World}{fb s pb:Nat}{M:Mem}{ps:List PV}(h:FsAt L w fb s pb M ps):fb≠pb:=Blk.ne_ h.f h.p.1 (by decide)
theorem FsAt.tsl{L:Nat->Prop}{w:World}{fb s pb:Nat}{M:Mem}{ps:List PV}(h:FsAt L w fb s pb M ps):ps.length<=8:=h.tl▸h.m.tsl
theorem FsAt.at_{L:Nat->Prop}{w:World}{fb s pb:Nat}{M:Mem}{ps:List PV}(h:FsAt L w fb s pb M ps){i j:Nat}(hj:j<17)(hi:i<ps.length):w.cell? ⟨pb,i*17+j,none⟩=ps[i].cs[j]?:=by
 rw[h.p.cell hj (by simpa using hi)];simp
set_option maxRecDepth 1000000 in
theorem fcore_ok{L:Nat->Prop}{w:World}{fb s pb:Nat}{M:Mem}{ps:List PV}(h:FsAt L w fb s pb M ps){c:Int}(hc:0<=c/\c<ps.length):
  Calls Tryz.prog 28 #[.pointer (some ⟨fb,0,none⟩),.int .i64 c] w fun e w'=>e= .returned (.int .i64 0)/\w'=w:=by
 have h8:=h.tsl
 have c1:w.cell? ⟨fb,1,none⟩=some (.slice (some ⟨pb,0,none⟩) ps.length ps.length):=h.f.cell 1
 have d1:decide (c<0)=false:=by simp;omega
 have d2:decide ((ps.length:Int)<=c)=false:=by simp;omega
 have d3:(if(ps.length:Int)<=c then true else false)=false:=by simp;omega
 clear h
 go_enter Tryz.func28,Tryz.ntmps28
 go_wp2_with (fail)
 go_ret
 exact⟨rfl,rfl⟩
set_option maxRecDepth 1000000 in
theorem busy_no{L:Nat->Prop}{w:World}{fb s pb:Nat}{M:Mem}{ps:List PV}(h:FsAt L w fb s pb M ps){c:Nat}(hc:c<ps.length)(hv:ps[c].at_= .nilIface):
  Calls Tryz.prog 40 #[.pointer (some ⟨fb,0,none⟩),.int .i64 c] w fun e w'=>e= .returned (.bool false)/\w'=w:=by
 have h8:=h.tsl
 have HC:=lhi (fcore_ok h (c:=c) ⟨by omega,by omega⟩)
 have c1:w.cell? ⟨fb,1,none⟩=some (.slice (some ⟨pb,0,none⟩) ps.length ps.length):=h.f.cell 1
 have c2:w.cell? ⟨pb,c*17+8,none⟩=some (.nilIface):=by rw[h.at_ (by decide) hc,<-hv];rfl
 have d1:decide ((c:Int)<0)=false:=by simp
 have d2:decide ((c:Int)<ps.length)=true:=by simp;omega
 clear h hv
 go_enter Tryz.func40,Tryz.ntmps40
 go_wp2_with (go_at_call 28;refine HC.out.mono ?_;rintro e w' ⟨rfl,rfl⟩)
 go_ret
 exact⟨rfl,rfl⟩
set_option maxRecDepth 1000000 in
theorem busy_yes{L:Nat->Prop}{w:World}{fb s pb:Nat}{M:Mem}{ps:List PV}(h:FsAt L w fb s pb M ps){c:Nat}(hc:c<ps.length){ty:TypeId}{x:Value}(hv:ps[c].at_= .iface ty x):
  Calls Tryz.prog 40 #[.pointer (some ⟨fb,0,none⟩),.int .i64 c] w fun e w'=>e= .returned (.bool true)/\w'=w:=by
 have h8:=h.tsl
 have HC:=lhi (fcore_ok h (c:=c) ⟨by omega,by omega⟩)
 have c1:w.cell? ⟨fb,1,none⟩=some (.slice (some ⟨pb,0,none⟩) ps.length ps.length):=h.f.cell 1
 have c2:w.cell? ⟨pb,c*17+8,none⟩=some (.iface ty x):=by rw[h.at_ (by decide) hc,<-hv];rfl
 have d1:decide ((c:Int)<0)=false:=by simp
 have d2:decide ((c:Int)<ps.length)=true:=by simp;omega
 clear h hv
 go_enter Tryz.func40,Tryz.ntmps40
 go_wp2_with (go_at_call 28;refine HC.out.mono ?_;rintro e w' ⟨rfl,rfl⟩)
 go_ret
 exact⟨rfl,rfl⟩
def Mem.clear(M:Mem)(c:Int):Mem:=⟨M.ws,M.ts.set c.toNat [],M.nm⟩
theorem Mem.ok.clear{M:Mem}{m:Nat}(h:M.ok m)(c:Int):(M.clear c).ok m:=⟨h.wl,fun t ht=>by
 rcases List.mem_or_eq_of_mem_set ht with ht | rfl
 ·exact h.sh t ht
 ·simp,h.nl⟩
theorem clear_m{L:Nat->Prop}{w:World}{s:Nat}{M:Mem}(h:MemAt L w s M){c:Int}(hc:0<=c/\c<M.ts.length){a:Nat}(ha:w.cell? ⟨s,0,none⟩=some (.pointer (some ⟨a,0,none⟩))):
  Calls Tryz.prog 37 #[.pointer (some ⟨a,0,none⟩),.int .i64 c] w fun e w'=>(e= .returned (.int .i64 0)/\w'.cell? ⟨s,0,none⟩=w.cell? ⟨s,0,none⟩)/\MemAt L w' s (M.clear c)/\Kp L w w':=by
 obtain⟨a',L1,h0,har,hback⟩:=h.lend
 have e:a'=a:=by
  rw[h0]at ha
  injection ha with ha
  injection ha with ha
  injection ha with ha
  injection ha
 subst e
 refine(clear_to har hc rfl).mono ?_
 rintro e w' ⟨rfl,hA,hK⟩
 obtain⟨h1,h2,h3,h4⟩:=hback w' _ _ (by simp) hA hK
 exact⟨⟨rfl,h4.trans h0.symm⟩,h1,h2,h3⟩
set_option maxRecDepth 1000000 in
theorem begin_ok{L:Nat->Prop}{w:World}{fb s pb:Nat}{M:Mem}{ps:List PV}(h:FsAt L w fb s pb M ps){k:Nat}(hk:k<ps.length){c:CallV}(hc:c.core=k)(hkind:0<=c.kind/\c.kind<=16)(hat:ps[k].at_= .nilIface):
  Calls Tryz.prog 17 #[.pointer (some ⟨fb,0,none⟩),.agg c.cs] w fun e w'=>e= .returned (.int .i64 0)/\FsAt L w' fb s pb (M.clear k) (ps.set k ⟨c,begunV,false,noRes,0⟩)/\Kp L w w':=by
 have h8:=h.tsl
 have htl:=h.tl
 obtain⟨kind,core,fd,off,num,path,path2,data⟩:=c
 simp only at hc hkind
 subst hc
 have d1:decide (kind<0)=false:=by simp;omega
 have d2:decide (16<kind)=false:=by simp;omega
 have d3:decide ((k:Int)<0)=false:=by simp
 have d4:decide ((k:Int)<ps.length)=true:=by simp;omega
 have hlt:=h.m.bd
 have ha:=h.allocIns (.cells #[Value.int IntKind.i64 kind,Value.int IntKind.i64 (k:Int),Value.int IntKind.i64 fd,Value.int IntKind.i64 off,Value.int IntKind.i64 num,Value.string path,Value.string path2,Value.string data] 24)
 have q0:(w.alloc (.cells #[Value.int IntKind.i64 kind,Value.int IntKind.i64 (k:Int),Value.int IntKind.i64 fd,Value.int IntKind.i64 off,Value.int IntKind.i64 num,Value.string path,Value.string path2,Value.string data] 24)).cell? ⟨w.heap.size,0,none⟩=some (Value.int IntKind.i64 kind):=by simp[go_sem]
 have q1:(w.alloc (.cells #[Value.int IntKind.i64 kind,Value.int IntKind.i64 (k:Int),Value.int IntKind.i64 fd,Value.int IntKind.i64 off,Value.int IntKind.i64 num,Value.string path,Value.string path2,Value.string data] 24)).cell? ⟨w.heap.size,1,none⟩=some (Value.int IntKind.i64 (k:Int)):=by simp[go_sem]
 have q2:(w.alloc (.cells #[Value.int IntKind.i64 kind,Value.int IntKind.i64 (k:Int),Value.int IntKind.i64 fd,Value.int IntKind.i64 off,Value.int IntKind.i64 num,Value.string path,Value.string path2,Value.string data] 24)).cell? ⟨w.heap.size,2,none⟩=some (Value.int IntKind.i64 fd):=by simp[go_sem]
 have q3:(w.alloc (.cells #[Value.int IntKind.i64 kind,Value.int IntKind.i64 (k:Int),Value.int IntKind.i64 fd,Value.int IntKind.i64 off,Value.int IntKind.i64 num,Value.string path,Value.string path2,Value.string data] 24)).cell? ⟨w.heap.size,3,none⟩=some (Value.int IntKind.i64 off):=by simp[go_sem]
 have q4:(w.alloc (.cells #[Value.int IntKind.i64 kind,Value.int IntKind.i64 (k:Int),Value.int IntKind.i64 fd,Value.int IntKind.i64 off,Value.int IntKind.i64 num,Value.string path,Value.string path2,Value.string data] 24)).cell? ⟨w.heap.size,4,none⟩=some (Value.int IntKind.i64 num):=by simp[go_sem]
 have q5:(w.alloc (.cells #[Value.int IntKind.i64 kind,Value.int IntKind.i64 (k:Int),Value.int IntKind.i64 fd,Value.int IntKind.i64 off,Value.int IntKind.i64 num,Value.string path,Value.string path2,Value.string data] 24)).cell? ⟨w.heap.size,5,none⟩=some (Value.string path):=by simp[go_sem]
 have q6:(w.alloc (.cells #[Value.int IntKind.i64 kind,Value.int IntKind.i64 (k:Int),Value.int IntKind.i64 fd,Value.int IntKind.i64 off,Value.int IntKind.i64 num,Value.string path,Value.string path2,Value.string data] 24)).cell? ⟨w.heap.size,6,none⟩=some (Value.string path2):=by simp[go_sem]
 have q7:(w.alloc (.cells #[Value.int IntKind.i64 kind,Value.int IntKind.i64 (k:Int),Value.int IntKind.i64 fd,Value.int IntKind.i64 off,Value.int IntKind.i64 num,Value.string path,Value.string path2,Value.string data] 24)).cell? ⟨w.heap.size,7,none⟩=some (Value.string data):=by simp[go_sem]
 have qb:Blk (w.alloc (.cells #[Value.int IntKind.i64 kind,Value.int IntKind.i64 (k:Int),Value.int IntKind.i64 fd,Value.int IntKind.i64 off,Value.int IntKind.i64 num,Value.string path,Value.string path2,Value.string data] 24)) w.heap.size 24 #[Value.int IntKind.i64 kind,Value.int IntKind.i64 (k:Int),Value.int IntKind.i64 fd,Value.int IntKind.i64 off,Value.int IntKind.i64 num,Value.string path,Value.string path2,Value.string data]:=Blk.new ..
 have hkp:Kp L w (w.alloc (.cells #[Value.int IntKind.i64 kind,Value.int IntKind.i64 (k:Int),Value.int IntKind.i64 fd,Value.int IntKind.i64 off,Value.int IntKind.i64 num,Value.string path,Value.string path2,Value.string data] 24)):=Kp.below (h.m.bd.sub fun _ hb=>.inl hb) ((Below.refl _ _).alloc (Nat.le_refl _) _)
 have HC:=lhi (fcore_ok ha (c:=k) ⟨by omega,by omega⟩)
 have hat1:(w.alloc (.cells #[Value.int IntKind.i64 kind,Value.int IntKind.i64 (k:Int),Value.int IntKind.i64 fd,Value.int IntKind.i64 off,Value.int IntKind.i64 num,Value.string path,Value.string path2,Value.string data] 24)).cell? ⟨pb,k*17+8,none⟩=some .nilIface:=by rw[ha.at_ (by decide) hk,<-hat];rfl
 obtain⟨a,hsa⟩: ∃a,(w.alloc (.cells #[Value.int IntKind.i64 kind,Value.int IntKind.i64 (k:Int),Value.int IntKind.i64 fd,Value.int IntKind.i64 off,Value.int IntKind.i64 num,Value.string path,Value.string path2,Value.string data] 24)).cell? ⟨s,0,none⟩=some (.pointer (some ⟨a,0,none⟩)):=by obtain⟨a,L1,h0,-⟩:=ha.m.lend;exact⟨a,h0⟩
 have f0:(w.alloc (.cells #[Value.int IntKind.i64 kind,Value.int IntKind.i64 (k:Int),Value.int IntKind.i64 fd,Value.int IntKind.i64 off,Value.int IntKind.i64 num,Value.string path,Value.string path2,Value.string data] 24)).cell? ⟨fb,0,none⟩=some (.pointer (some ⟨s,0,none⟩)):=ha.f.cell 0
 have f1:(w.alloc (.cells #[Value.int IntKind.i64 kind,Value.int IntKind.i64 (k:Int),Value.int IntKind.i64 fd,Value.int IntKind.i64 off,Value.int IntKind.i64 num,Value.string path,Value.string path2,Value.string data] 24)).cell? ⟨fb,1,none⟩=some (.slice (some ⟨pb,0,none⟩) ps.length ps.length):=ha.f.cell 1
 have HA:=lhi ha
 have HK:=lhi hkp
 have HB:=lhi qb
 have HTL:=lhi htl
 clear h hlt ha hkp qb hat htl
 simp only[CallV.cs]
 go_enter Tryz.func17,Tryz.ntmps17
 generalize hW:(w.alloc (.cells #[Value.int IntKind.i64 kind,Value.int IntKind.i64 (k:Int),Value.int IntKind.i64 fd,Value.int IntKind.i64 off,Value.int IntKind.i64 num,Value.string path,Value.string path2,Value.string data] 24))=w1 at*
 go_wp2_with (go_at_call 28;refine HC.out.mono ?_;rintro e w' ⟨rfl,rfl⟩)
 go_region
 go_wp2_with (fail)
 have HPD:=lhi (show w'.drew.drew.cell? ⟨fb,0,none⟩=some (.pointer (some ⟨s,0,none⟩))/\w'.drew.drew.cell? ⟨s,0,none⟩=some (.pointer (some ⟨a,0,none⟩))/\w'.drew.drew.cell? ⟨w.heap.size,1,none⟩=some (.int .i64 (k:Int))from⟨f0,hsa,q1⟩)
 have HM:=lhi (HA.out.m.drew.drew)
 have HCL:=lhi (clear_m HM.out (c:=k) ⟨by omega,by rw[<-HTL.out];omega⟩ hsa)
 go_region_held3 (fun w'=>w'.cell? ⟨fb,0,none⟩=some (.pointer (some ⟨s,0,none⟩))/\w'.cell? ⟨s,0,none⟩=some (.pointer (some ⟨a,0,none⟩))/\w'.cell? ⟨w.heap.size,1,none⟩=some (.int .i64 (k:Int)))
  (with_reducible first | exact HPD.out | exact⟨z0,z1,z2⟩)
  ((go_at_call 37;refine HCL.out.mono ?_;rintro e w1 ⟨⟨rfl,hc0⟩,hM,hK⟩;have HM1:=lhi hM;have HK1:=lhi hK;have z0:=hK.cellOf (p:=⟨fb,0,none⟩) (.inr (.inl rfl)) HPD.out.1;have z1:=hc0.trans HPD.out.2.1;have z2:=hK.cellOf (p:=⟨w.heap.size,1,none⟩) (.inl (.inr rfl)) HPD.out.2.2;clear hM hK hc0))
 obtain⟨hf1,hk1⟩:=(HA.out.drew.drew).back HM1.out HK1.out (by simp[Mem.clear])
 have hb1:Blk w1 w.heap.size 24 #[Value.int IntKind.i64 kind,Value.int IntKind.i64 (k:Int),Value.int IntKind.i64 fd,Value.int IntKind.i64 off,Value.int IntKind.i64 num,Value.string path,Value.string path2,Value.string data]:=HK1.out.blk HB.out (.inl (.inr rfl))
 have u0:w1.cell? ⟨w.heap.size,0,none⟩=some (Value.int IntKind.i64 kind):=hb1.cell 0
 have u1:w1.cell? ⟨w.heap.size,1,none⟩=some (Value.int IntKind.i64 (k:Int)):=hb1.cell 1
 have u2:w1.cell? ⟨w.heap.size,2,none⟩=some (Value.int IntKind.i64 fd):=hb1.cell 2
 have u3:w1.cell? ⟨w.heap.size,3,none⟩=some (Value.int IntKind.i64 off):=hb1.cell 3
 have u4:w1.cell? ⟨w.heap.size,4,none⟩=some (Value.int IntKind.i64 num):=hb1.cell 4
 have u5:w1.cell? ⟨w.heap.size,5,none⟩=some (Value.string path):=hb1.cell 5
 have u6:w1.cell? ⟨w.heap.size,6,none⟩=some (Value.string path2):=hb1.cell 6
 have u7:w1.cell? ⟨w.heap.size,7,none⟩=some (Value.string data):=hb1.cell 7
 have r1:w1.cell? ⟨fb,1,none⟩=some (.slice (some ⟨pb,0,none⟩) ps.length ps.length):=hf1.f.cell 1
 have p0:w1.cell? ⟨pb,k*17,none⟩=some _:=hf1.at_ (j:=0) (by decide) hk
 have g0:w1.frozen? ⟨pb,k*17,none⟩=false:=hf1.p.1.frozen _
 have p1:w1.cell? ⟨pb,k*17+1,none⟩=some _:=hf1.at_ (by decide) hk
 have g1:w1.frozen? ⟨pb,k*17+1,none⟩=false:=hf1.p.1.frozen _
 have p2:w1.cell? ⟨pb,k*17+2,none⟩=some _:=hf1.at_ (by decide) hk
 have g2:w1.frozen? ⟨pb,k*17+2,none⟩=false:=hf1.p.1.frozen _
 have p3:w1.cell? ⟨pb,k*17+3,none⟩=some _:=hf1.at_ (by decide) hk
 have g3:w1.frozen? ⟨pb,k*17+3,none⟩=false:=hf1.p.1.frozen _
 have p4:w1.cell? ⟨pb,k*17+4,none⟩=some _:=hf1.at_ (by decide) hk
 have g4:w1.frozen? ⟨pb,k*17+4,none⟩=false:=hf1.p.1.frozen _
 have p5:w1.cell? ⟨pb,k*17+5,none⟩=some _:=hf1.at_ (by decide) hk
 have g5:w1.frozen? ⟨pb,k*17+5,none⟩=false:=hf1.p.1.frozen _
 have p6:w1.cell? ⟨pb,k*17+6,none⟩=some _:=hf1.at_ (by decide) hk
 have g6:w1.frozen? ⟨pb,k*17+6,none⟩=false:=hf1.p.1.frozen _
 have p7:w1.cell? ⟨pb,k*17+7,none⟩=some _:=hf1.at_ (by decide) hk
 have g7:w1.frozen? ⟨pb,k*17+7,none⟩=false:=hf1.p.1.frozen _
 have p8:w1.cell? ⟨pb,k*17+8,none⟩=some _:=hf1.at_ (by decide) hk
 have g8:w1.frozen? ⟨pb,k*17+8,none⟩=false:=hf1.p.1.frozen _
 have p9:w1.cell? ⟨pb,k*17+9,none⟩=some _:=hf1.at_ (by decide) hk
 have g9:w1.frozen? ⟨pb,k*17+9,none⟩=false:=hf1.p.1.frozen _
 have p10:w1.cell? ⟨pb,k*17+10,none⟩=some _:=hf1.at_ (by decide) hk
 have g10:w1.frozen? ⟨pb,k*17+10,none⟩=false:=hf1.p.1.frozen _
 have p11:w1.cell? ⟨pb,k*17+11,none⟩=some _:=hf1.at_ (by decide) hk
 have g11:w1.frozen? ⟨pb,k*17+11,none⟩=false:=hf1.p.1.frozen _
 have p12:w1.cell? ⟨pb,k*17+12,none⟩=some _:=hf1.at_ (by decide) hk
 have g12:w1.frozen? ⟨pb,k*17+12,none⟩=false:=hf1.p.1.frozen _
 have p13:w1.cell? ⟨pb,k*17+13,none⟩=some _:=hf1.at_ (by decide) hk
 have g13:w1.frozen? ⟨pb,k*17+13,none⟩=false:=hf1.p.1.frozen _
 have p14:w1.cell? ⟨pb,k*17+14,none⟩=some _:=hf1.at_ (by decide) hk
 have g14:w1.frozen? ⟨pb,k*17+14,none⟩=false:=hf1.p.1.frozen _
 have p15:w1.cell? ⟨pb,k*17+15,none⟩=some _:=hf1.at_ (by decide) hk
 have g15:w1.frozen? ⟨pb,k*17+15,none⟩=false:=hf1.p.1.frozen _
 have p16:w1.cell? ⟨pb,k*17+16,none⟩=some _:=hf1.at_ (by decide) hk
 have g16:w1.frozen? ⟨pb,k*17+16,none⟩=false:=hf1.p.1.frozen _
 have HF1:=lhi hf1
 have HKP:=lhi (show Kp L w w1 from HK.out.trans (hk1.sub fun _ hb=>.inl hb).undrew'.undrew')
 have HE:=lhi (FsAt.sets_drew (HF1.out.sub fun _ hb=>.inl hb) HKP.out hk [Value.int IntKind.i64 kind,Value.int IntKind.i64 (k:Int),Value.int IntKind.i64 fd,Value.int IntKind.i64 off,Value.int IntKind.i64 num,Value.string path,Value.string path2,Value.string data,begunV,Value.bool false,Value.int IntKind.i64 0,Value.int IntKind.i64 0,Value.int IntKind.i64 0,Value.bool false,Value.string ⟨#[]⟩,Value.slice none 0 0,Value.int IntKind.i64 0] 0 (by simp) (p:=⟨⟨kind,k,fd,off,num,path,path2,data⟩,begunV,false,noRes,0⟩) rfl)
 clear q0 q1 q2 q3 q4 q5 q6 q7 f0 f1 hsa hat1 hf1 hk1 hb1 z0 z1 z2 HPD HM HCL HC HA HK
 go_wp2_with (fail)
 go_region
 go_wp2_with (fail)
 go_ret
 exact⟨rfl,HE.out⟩
end Go.Proofs.YtkebjgebkneijaaGreat
