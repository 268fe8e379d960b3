/- Texts of one's own that a claim's last text rests on: Mf17 Mf18 Mf19 Mf20 Ml5 Ml6 Ml8 Ml9 Ml10. -/
import Derived.Test.YtkebjgebkneijaaGreatMG8
import Derived.Test.YtkebjgebkneijaaGreatMG9
import Derived.Maps.OwnSet
import Derived.Test.YtkebjgebkneijaaGreatMG6
import Derived.Test.YtkebjgebkneijaaGreatMG10
import Derived.Test.YtkebjgebkneijaaGreatMG4
import Derived.BigQuiet
set_option linter.unusedVariables false
set_option linter.unusedSimpArgs false
namespace Go.Proofs.YtkebjgebkneijaaGreat
open Go.RowKit
set_option maxHeartbeats 16000000
set_option maxRecDepth 1000000
structure PV where
 c:Ad
 at_:Value
 ended : Bool
 r:ResV
 tc:Int
def Vx:Ad:=⟨0,0,0,0,0,⟨#[]⟩,⟨#[]⟩,⟨#[]⟩⟩
def Bx:PV:=⟨Vx,.nilIface,false,Aq,0⟩
def PV.cs(p:PV):List Value:=[.int .i64 p.c.kind,.int .i64 p.c.core,.int .i64 p.c.fd,.int .i64 p.c.off,.int .i64 p.c.num,.string p.c.path,.string p.c.path2,.string p.c.data,p.at_,.bool p.ended,.int .i64 p.r.code,.int .i64 p.r.fd,.int .i64 p.r.num,.bool p.r.dir,.string p.r.data,.slice p.r.na p.r.nl p.r.nc,.int .i64 p.tc]
theorem PV.len(p:PV):p.cs.length=17:=rfl
theorem Sm{α:Type}: ∀(l:List (List α)) (_: ∀x∈l,x.length=17) (i j:Nat) (_:j<17) (hi:i<l.length),l.flatten[i*17+j]? =l[i][j]?
 | x::l,h,0,j,hj,_=>by
  have:=h x (by simp)
  simp[List.getElem?_append_left (show j<x.length by omega)]
 | x::l,h,i+1,j,hj,hi=>by
  have hx:=h x (by simp)
  simp only[List.flatten_cons,List.getElem_cons_succ]
  rw[List.getElem?_append_right (by omega),show(i+1)*17+j - x.length=i*17+j by omega]
  exact Sm l (fun y hy=>h y (by simp[hy])) i j hj (by simpa using hi)
theorem Zs{α:Type}(v:α): ∀(l:List (List α)) (_: ∀x∈l,x.length=17) (i j:Nat) (_:j<17) (hi:i<l.length),l.flatten.set (i*17+j) v=(l.set i (l[i].set j v)).flatten
 | x::l,h,0,j,hj,_=>by
  have:=h x (by simp)
  simp[List.set_append_left _ _ (show j<x.length by omega)]
 | x::l,h,i+1,j,hj,hi=>by
  have hx:=h x (by simp)
  simp only[List.flatten_cons,List.getElem_cons_succ,List.set_cons_succ]
  rw[List.set_append_right _ _ (by omega),show(i+1)*17+j - x.length=i*17+j by omega]
  rw[Zs v l (fun y hy=>h y (by simp[hy])) i j hj (by simpa using hi)]
def PsB(w:World)(pb:Nat)(l:List (List Value)):Prop:=Blk w pb 97 l.flatten.toArray/\ ∀x∈l,x.length=17
theorem PsB.cell{w:World}{pb:Nat}{l:List (List Value)}(h:PsB w pb l){i j:Nat}(hj:j<17)(hi:i<l.length):w.cell? ⟨pb,i*17+j,none⟩=l[i][j]?:=by
 rw[h.1.cell,List.getElem?_toArray,Sm l h.2 i j hj hi]
theorem PsB.set_{w:World}{pb:Nat}{l:List (List Value)}(h:PsB w pb l){i j:Nat}(hj:j<17)(hi:i<l.length)(v:Value):PsB (w.setCell ⟨pb,i*17+j,none⟩ v) pb (l.set i (l[i].set j v)):=by
 refine⟨?_,?_⟩
 ·have:=h.1.set_ (i*17+j) v
  rwa [List.setIfInBounds_toArray,Zs v l h.2 i j hj hi]at this
 ·intro x hx
  rcases List.mem_or_eq_of_mem_set hx with hx | rfl
  ·exact h.2 x hx
  ·rw[List.length_set]
   exact h.2 _ (List.getElem_mem ..)
structure FsR (L:Nat->Prop) (w:World) (fb s pb:Nat) (M:Mem) (l:List (List Value)):Prop where
 m:Ab (fun b=>L b∨b=fb∨b=pb) w s M
 f:Blk w fb 70 #[.pointer (some ⟨s,0,none⟩),.slice (some ⟨pb,0,none⟩) l.length l.length]
 p:PsB w pb l
 nf: ¬ L fb
 np: ¬ L pb
 tl:l.length=M.ts.length
def setF(x:List Value):Nat->List Value->List Value
 | _,[]=>x
 | j,v::r=>setF (x.set j v) (j+1) r
theorem FsR.set1{L:Nat->Prop}{w w':World}{fb s pb:Nat}{M:Mem}{l:List (List Value)}(h:FsR L w' fb s pb M l)(k:Kp L w w'){i j:Nat}(hj:j<17)(hi:i<l.length)(v:Value):
  FsR L (w'.setCell ⟨pb,i*17+j,none⟩ v) fb s pb M (l.set i (l[i].set j v))/\Kp L w (w'.setCell ⟨pb,i*17+j,none⟩ v):=by
 refine⟨⟨h.m.set h.p.1 (.inr (.inr rfl)) _ _,?_,h.p.set_ hj hi v,h.nf,h.np,by simpa using h.tl⟩,⟨k.k.setCell (p:=⟨pb,i*17+j,none⟩) h.np v,k.i.trans (KI.set h.p.1 (by unfold Dg;decide) _ _)⟩⟩
 have:=h.f.far (p:=⟨pb,i*17+j,none⟩) (Blk.ne_ h.f h.p.1 (by decide)) v
 simpa using this
theorem FsR.sets{L:Nat->Prop}{w:World}{fb s pb:Nat}{M:Mem}{i:Nat}: ∀(vs:List Value) (j:Nat) {w':World} {l:List (List Value)} (_:FsR L w' fb s pb M l) (_:Kp L w w') (_:j+vs.length<=17) (hi:i<l.length),
  FsR L (w'.setCells pb (i*17+j) vs) fb s pb M (l.set i (setF l[i] j vs))/\Kp L w (w'.setCells pb (i*17+j) vs)
 | [],j,w',l,h,k,_,hi=>by simpa[setF,World.setCells]using⟨h,k⟩
 | v::r,j,w',l,h,k,hl,hi=>by
  have hl':j+ (r.length+1)<=17:=hl
  obtain⟨h1,k1⟩:=h.set1 k (j:=j) (by omega) hi v
  have:=FsR.sets (i:=i) r (j+1) h1 k1 (by omega) (by simpa using hi)
  simp only[List.set_set,List.getElem_set_self]at this
  exact this
def FsAt(L:Nat->Prop)(w:World)(fb s pb:Nat)(M:Mem)(ps:List PV):Prop:=FsR L w fb s pb M (ps.map PV.cs)
theorem FsAt.sets{L:Nat->Prop}{w w':World}{fb s pb:Nat}{M:Mem}{ps:List PV}(h:FsAt L w' fb s pb M ps)(k:Kp L w w'){i:Nat}(hi:i<ps.length)(vs:List Value)(j:Nat)(hj:j+vs.length<=17){p:PV}(hp:setF ps[i].cs j vs=p.cs):
  FsAt L (w'.setCells pb (i*17+j) vs) fb s pb M (ps.set i p)/\Kp L w (w'.setCells pb (i*17+j) vs):=by
 have:=FsR.sets (i:=i) vs j h k hj (by simpa using hi)
 rw[List.getElem_map,hp,<-List.map_set]at this
 exact this
theorem FsR.drew{L:Nat->Prop}{w:World}{fb s pb:Nat}{M:Mem}{l:List (List Value)}(h:FsR L w fb s pb M l):FsR L w.drew fb s pb M l:=⟨h.m.drew,h.f,h.p,h.nf,h.np,h.tl⟩
theorem FsAt.drew{L:Nat->Prop}{w:World}{fb s pb:Nat}{M:Mem}{ps:List PV}(h:FsAt L w fb s pb M ps):FsAt L w.drew fb s pb M ps:=FsR.drew h
theorem FsAt.f{L:Nat->Prop}{w:World}{fb s pb:Nat}{M:Mem}{ps:List PV}(h:FsAt L w fb s pb M ps):Blk w fb 70 #[.pointer (some ⟨s,0,none⟩),.slice (some ⟨pb,0,none⟩) ps.length ps.length]:=by simpa using FsR.f h
theorem FsAt.m{L:Nat->Prop}{w:World}{fb s pb:Nat}{M:Mem}{ps:List PV}(h:FsAt L w fb s pb M ps):Ab (fun b=>L b∨b=fb∨b=pb) w s M:=FsR.m h
theorem FsAt.p{L:Nat->Prop}{w:World}{fb s pb:Nat}{M:Mem}{ps:List PV}(h:FsAt L w fb s pb M ps):PsB w pb (ps.map PV.cs):=FsR.p h
theorem FsAt.tl{L:Nat->Prop}{w:World}{fb s pb:Nat}{M:Mem}{ps:List PV}(h:FsAt L w fb s pb M ps):ps.length=M.ts.length:=by simpa using FsR.tl h
theorem FsAt.alloc{L:Nat->Prop}{w:World}{fb s pb:Nat}{M:Mem}{ps:List PV}(h:FsAt L w fb s pb M ps)(o:Obj):FsAt L (w.alloc o) fb s pb M ps:=⟨h.m.alloc o,(FsR.f h).alloc o,⟨(FsR.p h).1.alloc o,(FsR.p h).2⟩,FsR.nf h,FsR.np h,FsR.tl h⟩
theorem FsAt.allocIns{L:Nat->Prop}{w:World}{fb s pb:Nat}{M:Mem}{ps:List PV}(h:FsAt L w fb s pb M ps)(o:Obj):FsAt (ins L w.heap.size) (w.alloc o) fb s pb M ps:=
 ⟨(h.m.allocIns o).sub fun b hb=>by
  rcases hb with(hb | hb) | hb
  ·exact .inl (.inl hb)
  ·exact .inr hb
  ·exact .inl (.inr hb),(FsR.f h).alloc o,⟨(FsR.p h).1.alloc o,(FsR.p h).2⟩,fun hb=>by
   rcases hb with hb | hb
   ·exact FsR.nf h hb
   ·have:=(FsR.f h).lt;omega,fun hb=>by
   rcases hb with hb | hb
   ·exact FsR.np h hb
   ·have:=(FsR.p h).1.lt;omega,FsR.tl h⟩
theorem FsAt.sub{L L':Nat->Prop}{w:World}{fb s pb:Nat}{M:Mem}{ps:List PV}(h:FsAt L w fb s pb M ps)(hs: ∀b,L' b->L b):FsAt L' w fb s pb M ps:=
 ⟨h.m.sub fun b hb=>by
  rcases hb with hb | hb
  ·exact .inl (hs b hb)
  ·exact .inr hb,FsR.f h,FsR.p h,fun hb=>FsR.nf h (hs _ hb),fun hb=>FsR.np h (hs _ hb),FsR.tl h⟩
theorem Kp.draws{L:Nat->Prop}{w w':World}(h:Kp L w w'):Kp L w w'.drew:=⟨⟨h.k.os,h.k.tape,h.k.output,h.k.size,h.k.block⟩,h.i⟩
theorem FsAt.sets_drew{L:Nat->Prop}{w w':World}{fb s pb:Nat}{M:Mem}{ps:List PV}(h:FsAt L w' fb s pb M ps)(k:Kp L w w'){i:Nat}(hi:i<ps.length)(vs:List Value)(j:Nat)(hj:j+vs.length<=17){p:PV}(hp:setF ps[i].cs j vs=p.cs):
  FsAt L (w'.setCells pb (i*17+j) vs).drew fb s pb M (ps.set i p)/\Kp L w (w'.setCells pb (i*17+j) vs).drew:=by
 have:=h.sets k hi vs j hj hp
 exact⟨this.1.drew,this.2.draws⟩
theorem FsAt.back{L:Nat->Prop}{w w':World}{fb s pb:Nat}{M M':Mem}{ps:List PV}(h:FsAt L w fb s pb M ps)(hm:Ab (fun b=>L b∨b=fb∨b=pb) w' s M')(hk:Kp (fun b=>L b∨b=fb∨b=pb) w w')(hl:M'.ts.length=M.ts.length):FsAt L w' fb s pb M' ps/\Kp L w w':=
 ⟨⟨hm,hk.blk (FsR.f h) (.inr (.inl rfl)),⟨hk.blk (FsR.p h).1 (.inr (.inr rfl)),(FsR.p h).2⟩,FsR.nf h,FsR.np h,(FsR.tl h).trans hl.symm⟩,hk.sub fun _ hb=>.inl hb⟩
theorem FsAt.ne{L:Nat->Prop}{w:World}{fb s pb:Nat}{M:Mem}{ps:List PV}(h:FsAt L w fb s pb M ps):fb≠pb:=Blk.ne_ h.f h.p.1 (by decide)
theorem FsAt.tsl{L:Nat->Prop}{w:World}{fb s pb:Nat}{M:Mem}{ps:List PV}(h:FsAt L w fb s pb M ps):ps.length<=8:=h.tl▸h.m.tsl
theorem FsAt.at_{L:Nat->Prop}{w:World}{fb s pb:Nat}{M:Mem}{ps:List PV}(h:FsAt L w fb s pb M ps){i j:Nat}(hj:j<17)(hi:i<ps.length):w.cell? ⟨pb,i*17+j,none⟩=ps[i].cs[j]?:=by
 rw[h.p.cell hj (by simpa using hi)];simp
theorem Kt{L:Nat->Prop}{w:World}{fb s pb:Nat}{M:Mem}{ps:List PV}(h:FsAt L w fb s pb M ps){c:Int}(hc:0<=c/\c<ps.length):
  Calls Tryz.prog 28 #[.pointer (some ⟨fb,0,none⟩),.int .i64 c] w fun e w'=>e= .returned (.int .i64 0)/\w'=w:=by
 have h8:=h.tsl
 have c1:w.cell? ⟨fb,1,none⟩=some (.slice (some ⟨pb,0,none⟩) ps.length ps.length):=h.f.cell 1
 have d1:decide (c<0)=false:=by simp;omega
 have d2:decide ((ps.length:Int)<=c)=false:=by simp;omega
 have d3:(if(ps.length:Int)<=c then true else false)=false:=by simp;omega
 clear h
 go_enter Tryz.func28,Tryz.ntmps28
 go_wp2_with (fail)
 go_ret
 exact⟨rfl,rfl⟩
theorem Aj1{L:Nat->Prop}{w:World}{fb s pb:Nat}{M:Mem}{ps:List PV}(h:FsAt L w fb s pb M ps){c:Nat}(hc:c<ps.length)(hv:ps[c].at_= .nilIface):
  Calls Tryz.prog 40 #[.pointer (some ⟨fb,0,none⟩),.int .i64 c] w fun e w'=>e= .returned (.bool false)/\w'=w:=by
 have h8:=h.tsl
 have HC:=lhi (Kt h (c:=c) ⟨by omega,by omega⟩)
 have c1:w.cell? ⟨fb,1,none⟩=some (.slice (some ⟨pb,0,none⟩) ps.length ps.length):=h.f.cell 1
 have c2:w.cell? ⟨pb,c*17+8,none⟩=some (.nilIface):=by rw[h.at_ (by decide) hc,<-hv];rfl
 have d1:decide ((c:Int)<0)=false:=by simp
 have d2:decide ((c:Int)<ps.length)=true:=by simp;omega
 clear h hv
 go_enter Tryz.func40,Tryz.ntmps40
 go_wp2_with (go_at_call 28;refine HC.out.mono ?_;rintro e w' ⟨rfl,rfl⟩)
 go_ret
 exact⟨rfl,rfl⟩
def Mem.clear(M:Mem)(c:Int):Mem:=⟨M.ws,M.ts.set c.toNat [],M.nm⟩
theorem Mem.ok.clear{M:Mem}{m:Nat}(h:M.ok m)(c:Int):(M.clear c).ok m:=⟨h.wl,fun t ht=>by
 rcases List.mem_or_eq_of_mem_set ht with ht | rfl
 ·exact h.sh t ht
 ·simp,h.nl⟩
theorem Ajy{L:Nat->Prop}{w:World}{s:Nat}{M:Mem}(h:Ab L w s M){c:Int}(hc:0<=c/\c<M.ts.length){a:Nat}(ha:w.cell? ⟨s,0,none⟩=some (.pointer (some ⟨a,0,none⟩))):
  Calls Tryz.prog 37 #[.pointer (some ⟨a,0,none⟩),.int .i64 c] w fun e w'=>(e= .returned (.int .i64 0)/\w'.cell? ⟨s,0,none⟩=w.cell? ⟨s,0,none⟩)/\Ab L w' s (M.clear c)/\Kp L w w':=by
 obtain⟨a',L1,h0,har,hback⟩:=h.lend
 have e:a'=a:=by
  rw[h0]at ha
  injection ha with ha
  injection ha with ha
  injection ha with ha
  injection ha
 subst e
 refine(Ah4 har hc rfl).mono ?_
 rintro e w' ⟨rfl,hA,hK⟩
 obtain⟨h1,h2,h3,h4⟩:=hback w' _ _ (by simp) hA hK
 exact⟨⟨rfl,h4.trans h0.symm⟩,h1,h2,h3⟩
theorem Aid{L:Nat->Prop}{w:World}{fb s pb:Nat}{M:Mem}{ps:List PV}(h:FsAt L w fb s pb M ps){k:Nat}(hk:k<ps.length){c:Ad}(hc:c.core=k)(hkind:0<=c.kind/\c.kind<=16)(hat:ps[k].at_= .nilIface):
  Calls Tryz.prog 17 #[.pointer (some ⟨fb,0,none⟩),.agg c.cs] w fun e w'=>e= .returned (.int .i64 0)/\FsAt L w' fb s pb (M.clear k) (ps.set k ⟨c,Ik,false,Aq,0⟩)/\Kp L w w':=by
 have h8:=h.tsl
 have htl:=h.tl
 obtain⟨kind,core,fd,off,num,path,path2,data⟩:=c
 simp only at hc hkind
 subst hc
 have d1:decide (kind<0)=false:=by simp;omega
 have d2:decide (16<kind)=false:=by simp;omega
 have d3:decide ((k:Int)<0)=false:=by simp
 have d4:decide ((k:Int)<ps.length)=true:=by simp;omega
 have hlt:=h.m.bd
 have ha:=h.allocIns (.cells #[Value.int IntKind.i64 kind,Value.int IntKind.i64 (k:Int),Value.int IntKind.i64 fd,Value.int IntKind.i64 off,Value.int IntKind.i64 num,Value.string path,Value.string path2,Value.string data] 24)
 have q0:(w.alloc (.cells #[Value.int IntKind.i64 kind,Value.int IntKind.i64 (k:Int),Value.int IntKind.i64 fd,Value.int IntKind.i64 off,Value.int IntKind.i64 num,Value.string path,Value.string path2,Value.string data] 24)).cell? ⟨w.heap.size,0,none⟩=some (Value.int IntKind.i64 kind):=by simp[go_sem]
 have q1:(w.alloc (.cells #[Value.int IntKind.i64 kind,Value.int IntKind.i64 (k:Int),Value.int IntKind.i64 fd,Value.int IntKind.i64 off,Value.int IntKind.i64 num,Value.string path,Value.string path2,Value.string data] 24)).cell? ⟨w.heap.size,1,none⟩=some (Value.int IntKind.i64 (k:Int)):=by simp[go_sem]
 have q2:(w.alloc (.cells #[Value.int IntKind.i64 kind,Value.int IntKind.i64 (k:Int),Value.int IntKind.i64 fd,Value.int IntKind.i64 off,Value.int IntKind.i64 num,Value.string path,Value.string path2,Value.string data] 24)).cell? ⟨w.heap.size,2,none⟩=some (Value.int IntKind.i64 fd):=by simp[go_sem]
 have q3:(w.alloc (.cells #[Value.int IntKind.i64 kind,Value.int IntKind.i64 (k:Int),Value.int IntKind.i64 fd,Value.int IntKind.i64 off,Value.int IntKind.i64 num,Value.string path,Value.string path2,Value.string data] 24)).cell? ⟨w.heap.size,3,none⟩=some (Value.int IntKind.i64 off):=by simp[go_sem]
 have q4:(w.alloc (.cells #[Value.int IntKind.i64 kind,Value.int IntKind.i64 (k:Int),Value.int IntKind.i64 fd,Value.int IntKind.i64 off,Value.int IntKind.i64 num,Value.string path,Value.string path2,Value.string data] 24)).cell? ⟨w.heap.size,4,none⟩=some (Value.int IntKind.i64 num):=by simp[go_sem]
 have q5:(w.alloc (.cells #[Value.int IntKind.i64 kind,Value.int IntKind.i64 (k:Int),Value.int IntKind.i64 fd,Value.int IntKind.i64 off,Value.int IntKind.i64 num,Value.string path,Value.string path2,Value.string data] 24)).cell? ⟨w.heap.size,5,none⟩=some (Value.string path):=by simp[go_sem]
 have q6:(w.alloc (.cells #[Value.int IntKind.i64 kind,Value.int IntKind.i64 (k:Int),Value.int IntKind.i64 fd,Value.int IntKind.i64 off,Value.int IntKind.i64 num,Value.string path,Value.string path2,Value.string data] 24)).cell? ⟨w.heap.size,6,none⟩=some (Value.string path2):=by simp[go_sem]
 have q7:(w.alloc (.cells #[Value.int IntKind.i64 kind,Value.int IntKind.i64 (k:Int),Value.int IntKind.i64 fd,Value.int IntKind.i64 off,Value.int IntKind.i64 num,Value.string path,Value.string path2,Value.string data] 24)).cell? ⟨w.heap.size,7,none⟩=some (Value.string data):=by simp[go_sem]
 have qb:Blk (w.alloc (.cells #[Value.int IntKind.i64 kind,Value.int IntKind.i64 (k:Int),Value.int IntKind.i64 fd,Value.int IntKind.i64 off,Value.int IntKind.i64 num,Value.string path,Value.string path2,Value.string data] 24)) w.heap.size 24 #[Value.int IntKind.i64 kind,Value.int IntKind.i64 (k:Int),Value.int IntKind.i64 fd,Value.int IntKind.i64 off,Value.int IntKind.i64 num,Value.string path,Value.string path2,Value.string data]:=Blk.new ..
 have hkp:Kp L w (w.alloc (.cells #[Value.int IntKind.i64 kind,Value.int IntKind.i64 (k:Int),Value.int IntKind.i64 fd,Value.int IntKind.i64 off,Value.int IntKind.i64 num,Value.string path,Value.string path2,Value.string data] 24)):=Kp.below (h.m.bd.sub fun _ hb=>.inl hb) ((Amf _ _).alloc (Ama _) _)
 have HC:=lhi (Kt ha (c:=k) ⟨by omega,by omega⟩)
 have hat1:(w.alloc (.cells #[Value.int IntKind.i64 kind,Value.int IntKind.i64 (k:Int),Value.int IntKind.i64 fd,Value.int IntKind.i64 off,Value.int IntKind.i64 num,Value.string path,Value.string path2,Value.string data] 24)).cell? ⟨pb,k*17+8,none⟩=some .nilIface:=by rw[ha.at_ (by decide) hk,<-hat];rfl
 obtain⟨a,hsa⟩: ∃a,(w.alloc (.cells #[Value.int IntKind.i64 kind,Value.int IntKind.i64 (k:Int),Value.int IntKind.i64 fd,Value.int IntKind.i64 off,Value.int IntKind.i64 num,Value.string path,Value.string path2,Value.string data] 24)).cell? ⟨s,0,none⟩=some (.pointer (some ⟨a,0,none⟩)):=by obtain⟨a,L1,h0,-⟩:=ha.m.lend;exact⟨a,h0⟩
 have f0:(w.alloc (.cells #[Value.int IntKind.i64 kind,Value.int IntKind.i64 (k:Int),Value.int IntKind.i64 fd,Value.int IntKind.i64 off,Value.int IntKind.i64 num,Value.string path,Value.string path2,Value.string data] 24)).cell? ⟨fb,0,none⟩=some (.pointer (some ⟨s,0,none⟩)):=ha.f.cell 0
 have f1:(w.alloc (.cells #[Value.int IntKind.i64 kind,Value.int IntKind.i64 (k:Int),Value.int IntKind.i64 fd,Value.int IntKind.i64 off,Value.int IntKind.i64 num,Value.string path,Value.string path2,Value.string data] 24)).cell? ⟨fb,1,none⟩=some (.slice (some ⟨pb,0,none⟩) ps.length ps.length):=ha.f.cell 1
 have HA:=lhi ha
 have HK:=lhi hkp
 have HB:=lhi qb
 have HTL:=lhi htl
 clear h hlt ha hkp qb hat htl
 simp only[Ad.cs]
 go_enter Tryz.func17,Tryz.ntmps17
 generalize hW:(w.alloc (.cells #[Value.int IntKind.i64 kind,Value.int IntKind.i64 (k:Int),Value.int IntKind.i64 fd,Value.int IntKind.i64 off,Value.int IntKind.i64 num,Value.string path,Value.string path2,Value.string data] 24))=w1 at*
 go_wp2_with (go_at_call 28;refine HC.out.mono ?_;rintro e w' ⟨rfl,rfl⟩)
 go_region
 go_wp2_with (fail)
 have HPD:=lhi (show w'.drew.drew.cell? ⟨fb,0,none⟩=some (.pointer (some ⟨s,0,none⟩))/\w'.drew.drew.cell? ⟨s,0,none⟩=some (.pointer (some ⟨a,0,none⟩))/\w'.drew.drew.cell? ⟨w.heap.size,1,none⟩=some (.int .i64 (k:Int))from⟨f0,hsa,q1⟩)
 have HM:=lhi (HA.out.m.drew.drew)
 have HCL:=lhi (Ajy HM.out (c:=k) ⟨by omega,by rw[<-HTL.out];omega⟩ hsa)
 go_region_held3 (fun w'=>w'.cell? ⟨fb,0,none⟩=some (.pointer (some ⟨s,0,none⟩))/\w'.cell? ⟨s,0,none⟩=some (.pointer (some ⟨a,0,none⟩))/\w'.cell? ⟨w.heap.size,1,none⟩=some (.int .i64 (k:Int)))
  (with_reducible first | exact HPD.out | exact⟨z0,z1,z2⟩)
  ((go_at_call 37;refine HCL.out.mono ?_;rintro e w1 ⟨⟨rfl,hc0⟩,hM,hK⟩;have HM1:=lhi hM;have HK1:=lhi hK;have z0:=hK.cellOf (p:=⟨fb,0,none⟩) (.inr (.inl rfl)) HPD.out.1;have z1:=hc0.trans HPD.out.2.1;have z2:=hK.cellOf (p:=⟨w.heap.size,1,none⟩) (.inl (.inr rfl)) HPD.out.2.2;clear hM hK hc0))
 obtain⟨hf1,hk1⟩:=(HA.out.drew.drew).back HM1.out HK1.out (by simp[Mem.clear])
 have hb1:Blk w1 w.heap.size 24 #[Value.int IntKind.i64 kind,Value.int IntKind.i64 (k:Int),Value.int IntKind.i64 fd,Value.int IntKind.i64 off,Value.int IntKind.i64 num,Value.string path,Value.string path2,Value.string data]:=HK1.out.blk HB.out (.inl (.inr rfl))
 have u0:w1.cell? ⟨w.heap.size,0,none⟩=some (Value.int IntKind.i64 kind):=hb1.cell 0
 have u1:w1.cell? ⟨w.heap.size,1,none⟩=some (Value.int IntKind.i64 (k:Int)):=hb1.cell 1
 have u2:w1.cell? ⟨w.heap.size,2,none⟩=some (Value.int IntKind.i64 fd):=hb1.cell 2
 have u3:w1.cell? ⟨w.heap.size,3,none⟩=some (Value.int IntKind.i64 off):=hb1.cell 3
 have u4:w1.cell? ⟨w.heap.size,4,none⟩=some (Value.int IntKind.i64 num):=hb1.cell 4
 have u5:w1.cell? ⟨w.heap.size,5,none⟩=some (Value.string path):=hb1.cell 5
 have u6:w1.cell? ⟨w.heap.size,6,none⟩=some (Value.string path2):=hb1.cell 6
 have u7:w1.cell? ⟨w.heap.size,7,none⟩=some (Value.string data):=hb1.cell 7
 have r1:w1.cell? ⟨fb,1,none⟩=some (.slice (some ⟨pb,0,none⟩) ps.length ps.length):=hf1.f.cell 1
 have p0:w1.cell? ⟨pb,k*17,none⟩=some _:=hf1.at_ (j:=0) (by decide) hk
 have g0:w1.frozen? ⟨pb,k*17,none⟩=false:=hf1.p.1.frozen _
 have p1:w1.cell? ⟨pb,k*17+1,none⟩=some _:=hf1.at_ (by decide) hk
 have g1:w1.frozen? ⟨pb,k*17+1,none⟩=false:=hf1.p.1.frozen _
 have p2:w1.cell? ⟨pb,k*17+2,none⟩=some _:=hf1.at_ (by decide) hk
 have g2:w1.frozen? ⟨pb,k*17+2,none⟩=false:=hf1.p.1.frozen _
 have p3:w1.cell? ⟨pb,k*17+3,none⟩=some _:=hf1.at_ (by decide) hk
 have g3:w1.frozen? ⟨pb,k*17+3,none⟩=false:=hf1.p.1.frozen _
 have p4:w1.cell? ⟨pb,k*17+4,none⟩=some _:=hf1.at_ (by decide) hk
 have g4:w1.frozen? ⟨pb,k*17+4,none⟩=false:=hf1.p.1.frozen _
 have p5:w1.cell? ⟨pb,k*17+5,none⟩=some _:=hf1.at_ (by decide) hk
 have g5:w1.frozen? ⟨pb,k*17+5,none⟩=false:=hf1.p.1.frozen _
 have p6:w1.cell? ⟨pb,k*17+6,none⟩=some _:=hf1.at_ (by decide) hk
 have g6:w1.frozen? ⟨pb,k*17+6,none⟩=false:=hf1.p.1.frozen _
 have p7:w1.cell? ⟨pb,k*17+7,none⟩=some _:=hf1.at_ (by decide) hk
 have g7:w1.frozen? ⟨pb,k*17+7,none⟩=false:=hf1.p.1.frozen _
 have p8:w1.cell? ⟨pb,k*17+8,none⟩=some _:=hf1.at_ (by decide) hk
 have g8:w1.frozen? ⟨pb,k*17+8,none⟩=false:=hf1.p.1.frozen _
 have p9:w1.cell? ⟨pb,k*17+9,none⟩=some _:=hf1.at_ (by decide) hk
 have g9:w1.frozen? ⟨pb,k*17+9,none⟩=false:=hf1.p.1.frozen _
 have p10:w1.cell? ⟨pb,k*17+10,none⟩=some _:=hf1.at_ (by decide) hk
 have g10:w1.frozen? ⟨pb,k*17+10,none⟩=false:=hf1.p.1.frozen _
 have p11:w1.cell? ⟨pb,k*17+11,none⟩=some _:=hf1.at_ (by decide) hk
 have g11:w1.frozen? ⟨pb,k*17+11,none⟩=false:=hf1.p.1.frozen _
 have p12:w1.cell? ⟨pb,k*17+12,none⟩=some _:=hf1.at_ (by decide) hk
 have g12:w1.frozen? ⟨pb,k*17+12,none⟩=false:=hf1.p.1.frozen _
 have p13:w1.cell? ⟨pb,k*17+13,none⟩=some _:=hf1.at_ (by decide) hk
 have g13:w1.frozen? ⟨pb,k*17+13,none⟩=false:=hf1.p.1.frozen _
 have p14:w1.cell? ⟨pb,k*17+14,none⟩=some _:=hf1.at_ (by decide) hk
 have g14:w1.frozen? ⟨pb,k*17+14,none⟩=false:=hf1.p.1.frozen _
 have p15:w1.cell? ⟨pb,k*17+15,none⟩=some _:=hf1.at_ (by decide) hk
 have g15:w1.frozen? ⟨pb,k*17+15,none⟩=false:=hf1.p.1.frozen _
 have p16:w1.cell? ⟨pb,k*17+16,none⟩=some _:=hf1.at_ (by decide) hk
 have g16:w1.frozen? ⟨pb,k*17+16,none⟩=false:=hf1.p.1.frozen _
 have HF1:=lhi hf1
 have HKP:=lhi (show Kp L w w1 from HK.out.trans (hk1.sub fun _ hb=>.inl hb).undrew'.undrew')
 have HE:=lhi (FsAt.sets_drew (HF1.out.sub fun _ hb=>.inl hb) HKP.out hk [Value.int IntKind.i64 kind,Value.int IntKind.i64 (k:Int),Value.int IntKind.i64 fd,Value.int IntKind.i64 off,Value.int IntKind.i64 num,Value.string path,Value.string path2,Value.string data,Ik,Value.bool false,Value.int IntKind.i64 0,Value.int IntKind.i64 0,Value.int IntKind.i64 0,Value.bool false,Value.string ⟨#[]⟩,Value.slice none 0 0,Value.int IntKind.i64 0] 0 (by simp) (p:=⟨⟨kind,k,fd,off,num,path,path2,data⟩,Ik,false,Aq,0⟩) rfl)
 clear q0 q1 q2 q3 q4 q5 q6 q7 f0 f1 hsa hat1 hf1 hk1 hb1 z0 z1 z2 HPD HM HCL HC HA HK
 go_wp2_with (fail)
 go_region
 go_wp2_with (fail)
 go_ret
 exact⟨rfl,HE.out⟩
set_option linter.unusedSimpArgs false
def AccV(w:World)(v:Value)(t:List Acc):Prop:=(v= .slice none 0 0/\t=[])∨ ∃g cap,v= .slice (some ⟨g,0,none⟩) t.length cap/\t.length<=cap/\cap<=9223372036854775807/\ ∀j u,(Bq t)[j]? =some u->w.cell? ⟨g,j,none⟩=some u
theorem AccV.ofOwn{w:World}{base:Nat}{e:TypeId}{v:Value}{t:List Acc}(h:w.ownsRow base e 2 v t.length (Bq t)):AccV w v t:=by
 have hr:=h
 rcases h.2 with⟨rfl,h0⟩ | ⟨g,cap,cur,rfl,hb,hg,hnc,hmax,_⟩
 ·exact .inl ⟨rfl,List.length_eq_zero_iff.1 h0⟩
 ·refine .inr ⟨g,cap,rfl,hnc,by unfold maxLen at hmax;omega,fun j u hu=>?_⟩
  have:=hr.cells (g:=g) rfl j u hu
  rwa [Addr.add_lit,Nat.zero_add]at this
theorem Aco{L:Nat->Prop}{w:World}{s:Nat}{M:Mem}{m:Nat}(h:Ab L w s M)(hok:M.ok m)(hm:m<=1000000000){c:Int}(hc:0<=c/\c<M.ts.length){a:Nat}(ha:w.cell? ⟨s,0,none⟩=some (.pointer (some ⟨a,0,none⟩))){t:List Acc}(ht:tr M.ts c=t):
  Calls Tryz.prog 29 #[.pointer (some ⟨a,0,none⟩),.int .i64 c] w fun e w'=>(∃v A cap,v= .slice A t.length cap/\e= .returned v/\AccV w' v t)/\Below w.heap.size w w':=by
 obtain⟨a',L1,h0,har,-⟩:=h.lend
 have e:a'=a:=by
  rw[h0]at ha
  injection ha with ha
  injection ha with ha
  injection ha with ha
  injection ha
 subst e
 refine(Xl har (Room.of hok.sh (by omega)) hc ht).mono ?_
 rintro e w' ⟨v,rfl,hr,hb⟩
 obtain⟨-,A,cap,hv,-⟩:=Sl.ofOwn hr
 exact⟨⟨v,A,cap,hv,rfl,AccV.ofOwn hr⟩,hb⟩
theorem FsAt.below{L:Nat->Prop}{w w':World}{fb s pb:Nat}{M:Mem}{ps:List PV}(h:FsAt L w fb s pb M ps)(hb:Below w.heap.size w w'):FsAt L w' fb s pb M ps:=
 ⟨h.m.below hb,Blk.of_heap (hb.block _ (FsR.f h).lt) (FsR.f h),⟨Blk.of_heap (hb.block _ (FsR.p h).1.lt) (FsR.p h).1,(FsR.p h).2⟩,FsR.nf h,FsR.np h,FsR.tl h⟩
theorem FsAt.arena{L:Nat->Prop}{w:World}{fb s pb:Nat}{M:Mem}{ps:List PV}(h:FsAt L w fb s pb M ps): ∃a,w.cell? ⟨s,0,none⟩=some (.pointer (some ⟨a,0,none⟩)):=by
 obtain⟨a,L1,h0,-⟩:=h.m.lend
 exact⟨a,h0⟩
def Akj(w:World)(fb s:Nat)(M M':Mem)(k:Nat)(c:Ad)(ty:TypeId)(x:Value)(r:ResV):Prop:=
 ∀(K:Nat->Prop) (W:World),w.heap.size<=W.heap.size->Ab K W s M->W.cell? ⟨fb,0,none⟩=some (.pointer (some ⟨s,0,none⟩))->
  Calls Tryz.prog 71 #[.pointer (some ⟨fb,0,none⟩),.int .i64 k,.agg c.cs,.iface ty x] W fun e w'=>e= .returned (.tuple #[.agg r.cs,.nilIface])/\Ab K w' s M'/\Kp K W w'
theorem FsAt.own1{L:Nat->Prop}{w:World}{fb s pb:Nat}{M:Mem}{ps:List PV}(h:FsAt L w fb s pb M ps){g:Nat}{t:TypeId}{cs:Array Value}(hg:Blk w g t cs)(hl:L g)(i:Nat)(u:Value):FsAt L (w.setCell ⟨g,i,none⟩ u) fb s pb M ps:=
 ⟨h.m.set hg (.inl hl) i u,(FsR.f h).far (p:=⟨g,i,none⟩) (fun e=>FsR.nf h ((show fb=g from e)▸hl)) u,⟨(FsR.p h).1.far (p:=⟨g,i,none⟩) (fun e=>FsR.np h ((show pb=g from e)▸hl)) u,(FsR.p h).2⟩,FsR.nf h,FsR.np h,FsR.tl h⟩
theorem FsAt.sets'{L:Nat->Prop}{w w':World}{fb s pb:Nat}{M:Mem}{ps:List PV}{i:Nat}{p0:PV}(h:FsAt L w' fb s pb M (ps.set i p0))(k:Kp L w w')(hi:i<ps.length)(vs:List Value)(j:Nat)(hj:j+vs.length<=17){p:PV}(hp:setF p0.cs j vs=p.cs):
  FsAt L (w'.setCells pb (i*17+j) vs) fb s pb M (ps.set i p)/\Kp L w (w'.setCells pb (i*17+j) vs):=by
 have:=h.sets k (i:=i) (by simpa using hi) vs j hj (p:=p) (by simpa using hp)
 simpa using this
structure FsO (L:Nat->Prop) (w:World) (fb s pb:Nat) (M:Mem) (ps:List PV) (q:Nat) (t:TypeId) (cs:Array Value) (W:World):Prop where
 f:FsAt (ins L q) W fb s pb M ps
 k:Kp L w W
 b:Blk W q t cs
 n:w.heap.size<=q
theorem FsO.set{L:Nat->Prop}{w W:World}{fb s pb:Nat}{M:Mem}{ps:List PV}{q:Nat}{t:TypeId}{cs:Array Value}(h:FsO L w fb s pb M ps q t cs W)(hl:Bd L w)(i:Nat)(u:Value):FsO L w fb s pb M ps q t (cs.setIfInBounds i u) (W.setCell ⟨q,i,none⟩ u):=
 ⟨h.f.own1 h.b (.inr rfl) i u,⟨h.k.k.setCell (p:=⟨q,i,none⟩) (fun hb=>by have:=hl q hb;have:=h.n;omega) u,h.k.i.setNew h.n i u⟩,h.b.set_ i u,h.n⟩
theorem FsO.sets{L:Nat->Prop}{w:World}{fb s pb:Nat}{M:Mem}{ps:List PV}{q:Nat}{t:TypeId}(hl:Bd L w): ∀(us:List Value) (i:Nat) {cs:Array Value} {W:World},FsO L w fb s pb M ps q t cs W->FsO L w fb s pb M ps q t (Ux cs i us) (W.setCells q i us)
 | [],_,_,_,h=>h
 | u::us,i,_,_,h=>FsO.sets hl us (i+1) (h.set hl i u)
structure FsM (L:Nat->Prop) (w:World) (fb s pb:Nat) (M:Mem) (ps:List PV) (q:Nat) (t:TypeId) (cs:Array Value) (mb n g:Nat) (xs:List Acc) (W:World):Prop where
 f:FsAt (ins (ins L q) mb) W fb s pb M ps
 k:Kp L w W
 b:Blk W q t cs
 mp: ∃f,MapB W mb n f
 nq:w.heap.size<=q
 nm:w.heap.size<=mb
 hc: ∀(j:Nat) (u:Value),(Bq xs)[j]? =some u->W.cell? ⟨g,j,none⟩=some u
namespace FsM
variable{L:Nat->Prop}{w W W':World}{fb s pb:Nat}{M:Mem}{ps:List PV}{q:Nat}{t:TypeId}{cs:Array Value}{mb n g:Nat}{xs:List Acc}
theorem alloc(h:FsM L w fb s pb M ps q t cs mb n g xs W)(hl:Bd L w)(o:Obj):FsM L w fb s pb M ps q t cs mb n g xs (W.alloc o):=by
 obtain⟨f,hf⟩:=h.mp
 refine⟨h.f.alloc o,h.k.trans (Kp.below (h.k.bd hl) ((Amf _ _).alloc (Ama _) _)),h.b.alloc o,⟨f,hf.alloc o⟩,h.nq,h.nm,fun j u hu=>?_⟩
 have hc:=h.hc j u hu
 rw[Amj _ _ _ (Amd W _ hc)]
 exact hc
theorem turn(h:FsM L w fb s pb M ps q t cs mb n g xs W)(hl:Bd L w){n':Nat}{f:Int->Bool}(hm:MapB W' mb n' f)(hg:W.grownBy W' (some mb)):FsM L w fb s pb M ps q t cs mb n' g xs W':=by
 obtain⟨f0,hf0⟩:=h.mp
 obtain⟨es,cl,hob⟩:=hf0.obj
 have hne: ∀{x:Nat} {t:TypeId} {cs:Array Value},Blk W x t cs->some x≠some mb:=fun hq e=>by
  injection e with e
  subst e
  rw[show W.heap[_]? =_ from hq]at hob
  injection hob with hob
  cases hob
 have hbd:Bd L W:=h.k.bd hl
 refine⟨⟨h.f.m.move (fun b hb=>Amk (h.f.m.bd b hb) hg.size) hg.size (fun _ hb _=>hb) (fun b hb hn=>hg.block b hb (fun e=>hn (by injection e with e;exact .inl (.inr e)))),Blk.of_heap (hg.block _ (FsR.f h.f).lt (hne (FsR.f h.f))) (FsR.f h.f),⟨Blk.of_heap (hg.block _ (FsR.p h.f).1.lt (hne (FsR.p h.f).1)) (FsR.p h.f).1,(FsR.p h.f).2⟩,FsR.nf h.f,FsR.np h.f,FsR.tl h.f⟩,
  ⟨h.k.k.grown hg hbd (fun k hk hL=>?_),fun b t cs ht hb=>?_⟩,Blk.of_heap (hg.block _ h.b.lt (hne h.b)) h.b,⟨f,hm⟩,h.nq,h.nm,fun j u hu=>?_⟩
 ·injection hk with hk
  have:=hl k hL
  have:=h.nm
  omega
 ·have hb':=h.k.i b t cs ht hb
  exact Blk.of_heap (hg.block _ hb'.lt (hne hb')) hb'
 ·have hc:=h.hc j u hu
  refine(World.cell?_of_block (hg.block _ (Amd W _ hc) (fun e=>?_))).trans hc
  injection e with e
  have e:g=mb:=e
  subst e
  simp[World.cell?,hob]at hc
theorem start(h:FsO L w fb s pb M ps q t cs W)(hl:Bd L w)(hb:Below (W.alloc (.map #[] 0)).heap.size (W.alloc (.map #[] 0)) W')(hc: ∀(j:Nat) (u:Value),(Bq xs)[j]? =some u->W'.cell? ⟨g,j,none⟩=some u):FsM L w fb s pb M ps q t cs W.heap.size 0 g xs W':=by
 have ha:Below W.heap.size W (W.alloc (.map #[] 0)):=(Amf _ _).alloc (Ama _) _
 have hm:MapB W' W.heap.size 0 (fun _=>false):=(MapB.made W).kept (row:=none) ⟨hb.os,hb.tape,hb.output,hb.size,fun k hk _=>hb.block k hk⟩ (by simp)
 exact⟨(h.f.allocIns _).below hb,h.k.trans ((Kp.below (h.k.bd hl) ha).trans (Kp.below (fun b hb=>Amk (h.k.bd hl b hb) ha.size) hb)),Blk.of_heap (hb.block _ (by have:=h.b.lt;simp;omega)) (h.b.alloc _),⟨_,hm⟩,h.n,h.k.k.size,hc⟩
end FsM
theorem Ur{L:Nat->Prop}{w:World}{fb s pb:Nat}{M:Mem}{m:Nat}{ps:List PV}(h:FsAt L w fb s pb M ps)(hok:M.ok m)(hm:m<=1000000000){k:Nat}(hk:k<ps.length){t:List Acc}(ht:tr M.ts k=t):
  Calls Tryz.prog 11 #[.pointer (some ⟨fb,0,none⟩),.int .i64 k] w fun e w'=>(∃v,e= .returned v/\w'.ownsRow w.heap.size 149 2 v t.length (Bq t))/\Below w.heap.size w w':=by
 have h8:=h.tsl
 have htl:=h.tl
 obtain⟨a,hsa⟩:=h.arena
 obtain⟨a',L1,h0,har,-⟩:=h.m.lend
 have e:a'=a:=by
  rw[h0]at hsa
  injection hsa with ha
  injection ha with ha
  injection ha with ha
  injection ha
 subst e
 have HT:=lhi (Xl har (Room.of hok.sh (by omega)) (c:=(k:Int)) ⟨by omega,by omega⟩ ht)
 have f0:w.cell? ⟨fb,0,none⟩=some (.pointer (some ⟨s,0,none⟩)):=h.f.cell 0
 have HC:=lhi (Kt h (c:=k) ⟨by omega,by omega⟩)
 clear h hok htl har ht hsa
 go_enter Tryz.func11,Tryz.ntmps11
 go_wp2_with (first
  | (go_at_call 28;refine HC.out.mono ?_;rintro e w' ⟨rfl,hww⟩;subst hww)
  | (go_at_call 29;refine HT.out.mono ?_;rintro e w1 ⟨v,rfl,hr,hb⟩))
 go_ret
 exact⟨⟨_,rfl,hr⟩,hb⟩
def Jj:List Int:=List.replicate 9549 0
theorem Hf:Jj.length=9549:=List.length_replicate
def Mem.new(k:Nat):Mem:=⟨Jj,List.replicate k [],List.replicate k []⟩
theorem Mem.new_ok(k:Nat):(Mem.new k).ok 0:=⟨Hf,fun t ht=>by
 simp only[Mem.new,List.mem_replicate]at ht
 rw[ht.2];simp,fun c=>by
 simp only[Mem.new,Ame,List.getElem?_replicate]
 split <;> simp⟩
theorem Ai6{L:Nat->Prop}{w w1:World}{a k:Nat}(hb:Bd L w)(hk:1<=k/\k<=8)(h:ArAt (fun b=>b<w.heap.size) w1 a Jj (List.replicate k []))(hle:w.heap.size<=w1.heap.size):
  Ab L ((w1.alloc (.cells (Array.replicate k (.slice none 0 0)) 150)).alloc (.cells #[.pointer (some ⟨a,0,none⟩),.slice (some ⟨w1.heap.size,0,none⟩) k k] 78)) (w1.heap.size+1) (Mem.new k):=by
 have b1:Below w1.heap.size w1 ((w1.alloc (.cells (Array.replicate k (.slice none 0 0)) 150)).alloc (.cells #[.pointer (some ⟨a,0,none⟩),.slice (some ⟨w1.heap.size,0,none⟩) k k] 78)):=((Amf _ _).alloc (Ama _) _).alloc (by simp) _
 refine⟨a,w1.heap.size,fun b=>b=w1.heap.size∨b=w1.heap.size+1,List.replicate k (.slice none 0 0),List.replicate k [],⟨fun b hl=>Amk (hb b hl) (Aml hle b1.size),fun b hK hl=>?_,(h.belowNew b1).sub fun b hl=>?_,⟨fun b hK=>?_,.inr rfl,.inl rfl,?_,?_,by simp,fun c hc=>?_,fun c hc b hq=>?_,fun c c' hc hc' hne b hq=>?_⟩,⟨by simp[Mem.new],fun c hc=>?_⟩,by simp[Mem.new]⟩⟩
 ·have:=hb b hl;omega
 ·rcases hl with hl | hl
  ·exact .inl (hb b hl)
  ·exact .inr ⟨by omega,by simp;omega⟩
 ·simp;omega
 ·have:=Blk.newAt (w1.alloc (.cells (Array.replicate k (.slice none 0 0)) 150)) 78 #[.pointer (some ⟨a,0,none⟩),.slice (some ⟨w1.heap.size,0,none⟩) k k] (n:=w1.heap.size+1) (by simp)
  simpa using this
 ·rw[List.toArray_replicate];exact(Blk.new w1 _ _).alloc _
 ·have hc:c<k:=by simpa using hc
  simp only[Ame,List.getElem?_replicate,if_pos hc,Option.getD_some]
  exact⟨rfl,.inl ⟨rfl,rfl⟩⟩
 ·have hc:c<k:=by simpa using hc
  simp[Ame,hc,Value.ownBlock]at hq
 ·have hc:c<k:=by simpa using hc
  simp[Ame,hc,Value.ownBlock]at hq
 ·have hc:c<k:=by simpa[Mem.new]using hc
  simp[Mem.new,Ame,hc]
theorem Yo{L:Nat->Prop}{w:World}(hb:Bd L w){k:Nat}(hk:1<=k/\k<=8):
  Calls Tryz.prog 25 #[.int .i64 k] w fun e w'=>∃s,e= .returned (.pointer (some ⟨s,0,none⟩))/\Ab L w' s (Mem.new k)/\Below w.heap.size w w'/\w.heap.size<=s:=by
 obtain⟨i2,hi2,hz20,hz21,hz22⟩:=info_parts Uo
 have hm2:=Ci (P:=Tryz.prog) 76 150 i2 _ Tryz.underlying76 hi2 hz20 .i64 .i64 k k (Ama _) (by rw[hz22];omega) (by omega)
 simp only[hz21,Nat.mul_one,Value.cells,Dl]at hm2
 have HN:=lhi (Ak3 (L:=fun b=>b<w.heap.size) (fun b hb=>hb) (n:=9549) (k:=(k:Int)) (by decide) (by omega) rfl rfl)
 have HM:=lhi fun(w1:World) (a:Nat) h hle=>Ai6 (w1:=w1) (a:=a) hb hk h hle
 clear hi2 hz20 hz21 hz22
 go_enter Tryz.func25,Tryz.ntmps25
 go_wp2_with (go_at_call 61;refine HN.out.mono ?_;rintro e w1 ⟨a,rfl,har,hkp⟩;have HA:=lhi har;have HK:=lhi hkp;clear har hkp)
 go_ret
 exact⟨_,rfl,HM.out w1 a HA.out HK.out.size,(⟨HK.out.os,HK.out.tape,HK.out.output,HK.out.size,HK.out.block⟩:Below w.heap.size w w1).trans (((Amf _ _).alloc HK.out.size _).alloc (by have:=HK.out.size;simp;omega) _),by have:=HK.out.size;omega⟩
def Qo(n:Nat):Array Value:=(List.replicate n (Value.int .i64 0)).toArray
theorem Sd(n:Nat)(h1:1<=n)(h8:n<=8)(w:World):Calls Tryz.prog 15 #[.int .i64 n] w fun e w'=>∃g gm,e= .returned (.tuple #[.agg #[.slice (some ⟨g,0,none⟩) 1 1,.slice none 0 0,.slice (some ⟨gm,0,none⟩) n n],.int .i64 0])/\Below w.heap.size w w'/\w.heap.size<=g/\w.heap.size<=gm/\Blk w' g 93 #[.int .i64 1,.bool true,.slice none 0 0,.string ⟨#[]⟩]/\Blk w' gm 3 (Qo n):=by
 obtain⟨i0,hi,hz0,hz1,hz2⟩:=info_parts Zp
 have hmk: ∀W:World,(Instr.makeSlice 28 (.int .i64 n) (.int .i64 n)).run Tryz.prog W= .ok (.slice (some ⟨W.heap.size,0,none⟩) n n) (W.alloc (.cells (Qo n) 3)):=by
  intro W
  have h:=Ci (P:=Tryz.prog) (w:=W) 28 3 i0 _ Tryz.underlying28 hi hz0 .i64 .i64 n n (Ama _) (by rw[hz2];omega) (by omega)
  simp only[hz1,Nat.mul_one,Value.cells,Dl]at h
  exact h
 have HMK:=lhi hmk
 clear hmk hi hz0 hz1 hz2
 have hn1: ¬ (n:Int)<1:=by omega
 have hn8: ¬ (8:Int)< (n:Int):=by omega
 have hmk:=HMK.out ((w.alloc (.cells #[.slice none 0 0,.slice none 0 0,.slice none 0 0] 30)).alloc (.cells #[.int .i64 1,.bool true,.slice none 0 0,.string ⟨#[]⟩] 93))
 go_enter Tryz.func15,Tryz.ntmps15
 go_wp2_with (fail)
 refine bodyPost_ret (v:=.tuple #[.agg #[.slice (some ⟨w.heap.size+1,0,none⟩) 1 1,.slice none 0 0,.slice (some ⟨w.heap.size+1+1,0,none⟩) n n],.int .i64 0]) (by simp[results,Tryz.results15,go_sem]) rfl ⟨_,_,rfl,?_⟩
 exact⟨(((Amf _ _).alloc (Ama _) _).alloc (by simp) _).alloc (by simp;omega) _,by omega,by omega,(Blk.newAt _ _ _ (by simp)).alloc _,Blk.newAt _ _ _ (by simp)⟩
structure Ord (S:St):Prop where
 n:S.inodes.length<=1000
 rise: ∀i j,i<j->j<S.inodes.length->S.num i<S.num j
 ents: ∀i,i<S.inodes.length->(S.ino i).ents.length<=1000/\Ky (S.ino i).ents
 goal: ∀i k,i<S.inodes.length->k< (S.ino i).ents.length-> ∃g:Nat,g<S.inodes.length/\Bh S (S.enu i k)=g
def entF(l:List (ByteArray×Int))(x:ByteArray):Option Nat:=(List.range l.length).find? fun i=>decide (enmL l i=x)
theorem Zx{l:List (ByteArray×Int)}{x:ByteArray}{k:Nat}(hk:k<l.length)(h:enmL l k=x)(hb: ∀i,i<k->nlt (enmL l i) x=true):entF l x=some k:=by
 unfold entF
 rw[List.find?_eq_some_iff_getElem]
 refine⟨by simpa using h,k,by simpa using hk,by simp,fun j hj=>?_⟩
 have:=hb j hj
 simp only[List.getElem_range,Bool.not_eq_true',decide_eq_false_iff_not]
 rintro rfl
 rw[Ct]at this
 cases this
theorem Ajn{l:List (ByteArray×Int)}{x:ByteArray}{k:Nat}(hr:Ky l)(h1: ∀i,i<k->nlt (enmL l i) x=true)(h2: ∀i,k<=i->i<l.length->nlt (enmL l i) x=false)(h:(decide (k<l.length)&&decide (enmL l k=x))=false):entF l x=none:=by
 unfold entF
 rw[List.find?_eq_none]
 intro i hi hx
 have hi:i<l.length:=by simpa using hi
 have hx:enmL l i=x:=by simpa using hx
 by_cases e:i<k
 ·have:=h1 i e
  rw[hx,Ct]at this
  cases this
 ·by_cases e2:i=k
  ·subst e2
   simp[hi,hx]at h
  ·have h3:=hr k i (by omega) hi
   have h4:=h2 k (Ama _) (by omega)
   rw[hx]at h3
   rw[h3]at h4
   cases h4
theorem Je{w:World}{iv:Value}{l:List (ByteArray×Int)}(hS:Ak w iv l.length 2 (entL l))(hn:l.length<=1000)(x:ByteArray)(hlt:Ky l)(he:entF l x=none):
  Calls Tryz.prog 93 #[iv,.string x] w fun e w'=>(∃k:Nat,e= .returned (.tuple #[.int .i64 k,.bool false]))/\Below w.heap.size w w':=by
 refine(Ku hS hn x hlt).mono ?_
 rintro e w' ⟨⟨k,hk,h1,h2,rfl⟩,hb⟩
 cases hx:(decide (k<l.length)&&decide (enmL l k=x))with
 | false=>exact⟨⟨k,rfl⟩,hb⟩
 | true=>
  simp only[Bool.and_eq_true,decide_eq_true_eq]at hx
  rw[Zx hx.1 hx.2 h1]at he
  cases he
theorem Hc{w:World}{iv:Value}{l:List (ByteArray×Int)}(hS:Ak w iv l.length 2 (entL l))(hn:l.length<=1000)(x:ByteArray)(hlt:Ky l){k:Nat}(he:entF l x=some k):
  Calls Tryz.prog 93 #[iv,.string x] w fun e w'=>e= .returned (.tuple #[.int .i64 k,.bool true])/\Below w.heap.size w w':=by
 refine(Ku hS hn x hlt).mono ?_
 rintro e w' ⟨⟨k',hk,h1,h2,rfl⟩,hb⟩
 cases hx:(decide (k'<l.length)&&decide (enmL l k'=x))with
 | false=>
  rw[Ajn hlt h1 h2 hx]at he
  cases he
 | true=>
  simp only[Bool.and_eq_true,decide_eq_true_eq]at hx
  rw[Zx hx.1 hx.2 h1]at he
  injection he with he
  subst he
  exact⟨rfl,hb⟩
theorem Dp{l:List (ByteArray×Int)}{x:ByteArray}{k:Nat}(h:entF l x=some k):k<l.length:=by
 have:=List.mem_of_find?_eq_some h
 simpa using this
def Ao(S:St):List ByteArray->Nat->Int×Int
 | [],a=>(a,0)
 | x::l,a=>if S.dir a then match entF (S.ino a).ents x with
  | some k=>Ao S l (Bh S (S.enu a k)).toNat
  | none=>(0,1)else(0,7)
theorem Gb{w:World}{sp:Nat}{iv ov mv:Value}{ev:Nat->Value}{S:St}(hS:StM w iv ov mv ev S)(hO:Ord S)(h1:0<S.inodes.length)(h0:w.cell? ⟨sp,0,none⟩=some iv){v:Value}{ns:List ByteArray}(hv:Ak w v ns.length 1 (nmC ns))(hn:ns.length<=1000):
  Calls Tryz.prog 45 #[.pointer (some ⟨sp,0,none⟩),v] w fun e w'=>e= .returned (.tuple #[.int .i64 (Ao S ns 0).1,.int .i64 (Ao S ns 0).2])/\Below w.heap.size w w':=by
 have HS:=lhi hS
 have HV:=lhi hv
 obtain⟨A,cap,rfl,-,-⟩:=hv
 obtain⟨IA,icap,rfl,-,-⟩:=hS.ino
 obtain⟨n,hnn⟩:=xx ns.length
 rw[hnn]at hn HV
 rw[hnn]
 obtain⟨RES,hres⟩: ∃r,Ao S ns 0=r:=⟨_,rfl⟩
 have HNN:=lhi hnn
 have HO:=lhi hO
 have HRES:=lhi hres
 rw[hres]
 clear hS hnn hO hres
 go_enter Tryz.func45,Tryz.ntmps45
 go_wp2_with (fail)
 go_loopw [6,13] (fun a i wr=>∃k p:Nat,i= .int .i64 k/\a= .int .i64 p/\k<=n/\p<S.inodes.length/\Ao S (ns.drop k) p=RES/\Below w.heap.size w wr) (fun _ i _=>n - (intOf i).toNat)
 case atStart=>exact⟨0,0,rfl,rfl,by omega,h1,by rw[List.drop_zero];exact HRES.out,Amf _ _⟩
 case round=>
  obtain⟨k,p,rfl,rfl,hk,hp,hw,hB⟩:=hrel
  have HB:=lhi hB
  have HW:=lhi hw
  have f0:wr.cell? ⟨sp,0,none⟩=some (.slice IA S.inodes.length icap):=(hB.cell (Amd _ _ h0)).trans h0
  have hp1:(p:Int)<S.inodes.length:=by omega
  have hSm:=(HO.out).n
  clear hB hw
  by_cases hq:k<n
  ·have hq1:(k:Int)<n:=by omega
   obtain⟨-,-,ng,noff,rfl,ncell⟩:=(HV.out.keep HB.out).at_ hq
   have n0:wr.cell? ⟨ng,noff+k,none⟩=some (.string (ns.getD k ByteArray.empty)):=by have:=ncell 0 (by omega);simpa[nmC]using this
   have hdrop:ns.drop k=ns.getD k ByteArray.empty::ns.drop (k+1):=by
    have hl:k<ns.length:=by rw[HNN.out];exact hq
    rw[List.drop_eq_getElem_cons hl,Ame,Amh hl];rfl
   rw[hdrop]at HW
   obtain⟨x,hx⟩:=xx (ns.getD k ByteArray.empty)
   rw[hx]at n0 HW
   obtain⟨-,-,ig,ioff,rfl,icell⟩:=(HS.out.ino.keep HB.out).at_ hp
   have q1:wr.cell? ⟨ig,ioff+p*4+1,none⟩=some (.bool (S.dir p)):=icell 1 (by omega)
   have q2:wr.cell? ⟨ig,ioff+p*4+2,none⟩=some (ev p):=icell 2 (by omega)
   clear ncell icell hdrop hx
   by_cases hd:S.dir p=true
   ·rw[hd]at q1
    have hW2:=HW.out
    unfold Ao at hW2
    rw[hd,if_pos rfl]at hW2
    have HEN:=lhi (show Ak wr (ev p) (S.ino p).ents.length 2 (entL (S.ino p).ents)from(HS.out.ent p hp).keep HB.out)
    have HEO:=lhi ((HO.out).ents p hp)
    obtain⟨EA,ecap,hev,-,-⟩:=HEN.out
    rw[hev]at q2 HEN
    obtain⟨m,hm⟩:=xx ((S.ino p).ents.length)
    cases hE:entF (S.ino p).ents x with
    | none=>
     rw[hE]at hW2
     have HC:=lhi (Je HEN.out HEO.out.1 x HEO.out.2 hE)
     rw[hm]at q2 HC
     clear hev hE
     go_wp2_with (go_at_call 93;refine HC.out.mono ?_;rintro e w1 ⟨⟨k1,rfl⟩,hb1⟩)
     go_ret2
     exact⟨by rw[<-hW2];rfl,HB.out.trans (hb1.mono HB.out.size)⟩
    | some k1=>
     have hk1:=Dp hE
     rw[hE]at hW2
     have HC:=lhi (Hc HEN.out HEO.out.1 x HEO.out.2 hE)
     obtain⟨g,hg,hgo⟩:=(HO.out).goal p k1 hp hk1
     have hgo:=hgo
     rw[hm]at q2 HC hk1
     have hm1:(k1:Int)<m:=by omega
     obtain⟨-,-,eg,eoff,rfl,ecell⟩:=(show Ak wr (.slice EA m ecap) m 2 (entL (S.ino p).ents)from hm▸HEN.out).at_ hk1
     have e1:wr.cell? ⟨eg,eoff+k1*2+1,none⟩=some (.int .i64 (S.enu p k1)):=ecell 1 (by omega)
     have HFI:=lhi (fun(w1:World) (hb1:Below wr.heap.size wr w1)=>Ia (sp:=sp) (HS.out.keep (HB.out.trans (hb1.mono HB.out.size))) (HO.out).n (S.enu p k1) (HO.out).rise ((hb1.cell (Amd _ _ f0)).trans f0))
     obtain⟨eu,heu⟩: ∃y,S.enu p k1=y:=⟨_,rfl⟩
     have hW3:Ao S (ns.drop (k+1)) g=RES:=by
      have:Ao S (ns.drop (k+1)) (Bh S (S.enu p k1)).toNat=RES:=hW2
      rwa [hgo,Int.toNat_natCast]at this
     rw[heu]at e1 HFI hgo
     have HGO:=lhi hgo
     have HW3:=lhi hW3
     clear hev hE hW2 ecell heu hgo hW3
     go_wp2_with (first
      | (go_at_call 93;refine HC.out.mono ?_;rintro e w1 ⟨rfl,hb1⟩;have e2:=(hb1.cell (Amd _ _ e1)).trans e1;have f2:=(hb1.cell (Amd _ _ f0)).trans f0;have q3:=(hb1.cell (Amd _ _ q2)).trans q2;have HB1:=lhi hb1;clear hb1)
      | (go_at_call 94;refine(HFI.out _ HB1.out).mono ?_;rintro e w2 ⟨rfl,hb2⟩;rw[HGO.out]))
     go_roundw
     case rel=>exact⟨k+1,g,by simp,rfl,by omega,hg,HW3.out,(HB.out.trans (HB1.out.mono HB.out.size)).trans (hb2.mono (Aml HB.out.size HB1.out.size))⟩
     case measure=>
      simp only[intOf]
      omega
   ·have hd:S.dir p=false:=by simpa using hd
    rw[hd]at q1
    have hW2:=HW.out
    unfold Ao at hW2
    rw[hd,if_neg (by decide)]at hW2
    go_wp2_with (fail)
    go_ret2
    exact⟨by rw[<-hW2];rfl,HB.out⟩
  ·have e:k=n:=by omega
   subst e
   have hW2:=HW.out
   rw[<-HNN.out,List.drop_length]at hW2
   go_wp2_with (fail)
   go_ret2
   exact⟨by rw[<-hW2];rfl,HB.out⟩
theorem Nj{S:St}{i:Nat}(h:i<S.inodes.length):S.num i=S.inodes[i].num:=by
 unfold St.num St.ino
 rw[An h]
theorem Fu{S:St}{i:Nat}(h:i<S.inodes.length):S.ino i=S.inodes[i]:=by
 unfold St.ino
 rw[An h]
theorem Ir{S:St}(hr: ∀i j,i<j->j<S.inodes.length->S.num i<S.num j){y:Ino}(hy:y∈S.inodes): ∃g:Nat,g<S.inodes.length/\S.inodes[g]? =some y/\Bh S y.num=g:=by
 obtain⟨g,hg,e⟩:=List.mem_iff_getElem.1 hy
 refine⟨g,hg,by rw[Amh hg,e],Gw hg (by rw[Nj hg,e]) fun i hi=>?_⟩
 have:=hr i g hi hg
 rw[Nj hg,e]at this
 omega
theorem Inv.ord{S:St}(h:Inv S):Ord S:=by
 have hsm:=h.small
 have hr: ∀i j,i<j->j<S.inodes.length->S.num i<S.num j:=fun i j hij hj=>by
  rw[Nj hj,Nj (by omega:i<S.inodes.length)]
  exact List.pairwise_iff_getElem.1 h.rise i j (by omega) hj hij
 refine⟨hsm.ni,hr,fun i hi=>⟨hsm.en i,fun a b hab hb=>?_⟩,fun i k hi hk=>?_⟩
 ·have hp:=h.up _ (List.getElem_mem hi)
  rw[<-Fu hi]at hp
  have:=List.pairwise_iff_getElem.1 hp a b (by omega) hb hab
  unfold enmL
  rw[An hb,An (by omega:a< (S.ino i).ents.length)]
  exact this
 ·have hk':k<S.inodes[i].ents.length:=by rw[<-Fu hi];exact hk
  obtain⟨-,y,hy,e⟩:=h.goal _ (List.getElem_mem hi) _ (List.getElem_mem hk')
  obtain⟨g,hg,-,hp⟩:=Ir hr hy
  refine⟨g,hg,?_⟩
  have:S.enu i k=y.num:=by
   unfold St.enu
   rw[An hk]
   rw[e]
   congr 1
   simp[Fu hi]
  rw[this]
  exact hp
theorem Yv(x:Int)(hx:0<=x/\x<=32)(w:World):Calls Tryz.prog 96 #[.int .i64 x] w fun e w'=>e= .returned (.bool false)/\w'=w:=by
 have h1: ¬ x<0:=by omega
 have h2: ¬ 32<x:=by omega
 go_enter Tryz.func96,Tryz.ntmps96
 go_wp2
 go_ret
 exact⟨by simp[h2],rfl⟩
theorem Wd{w:World}{v:Value}{S:St}(hv:Ak w v S.made.length 1 (madC S))(hn:S.made.length<=1000)(hm: ∀i,i<S.made.length->0<=S.mad i/\S.mad i<=32):
  Calls Tryz.prog 147 #[v,.func (.func 96) #[] #[]] w fun e w'=>e= .returned (.int .i64 (-1))/\Below w.heap.size w w':=by
 have HV:=lhi hv
 obtain⟨A,cap,rfl,-,-⟩:=hv
 obtain⟨n,hnn⟩:=xx S.made.length
 rw[hnn]at hn HV hm
 rw[hnn]
 have HM:=lhi hm
 clear hnn hm
 go_enter Tryz.func147,Tryz.ntmps147
 go_wp2_with (fail)
 go_loopw [8] (fun i wr=>∃k:Nat,i= .int .i64 k/\k<=n/\Below w.heap.size w wr) (fun i _=>n - (intOf i).toNat)
 case atStart=>exact⟨0,rfl,by omega,Amf _ _⟩
 case round=>
  obtain⟨k,rfl,hk,hB⟩:=hrel
  have HB:=lhi hB
  by_cases hq:k<n
  ·have hq1:(k:Int)<n:=by omega
   obtain⟨-,-,g,off,rfl,hcell⟩:=(HV.out.keep hB).at_ hq
   have n0:wr.cell? ⟨g,off+k,none⟩=some (.int .i64 (S.mad k)):=by have:=hcell 0 (by omega);simpa[madC]using this
   have HC:=lhi (Yv (S.mad k) (HM.out k hq))
   clear hcell hB
   go_wp2_with (go_at_call 96;refine(HC.out _).mono ?_;rintro e w1 ⟨rfl,h⟩;have h:=h.symm;subst h)
   go_roundw
   case rel=>exact⟨k+1,by simp,by omega,HB.out⟩
   case measure=>
    simp only[intOf]
    omega
  ·have e:k=n:=by omega
   subst e
   clear hB
   go_wp2_with (fail)
   go_ret
   exact⟨rfl,HB.out⟩
theorem Aci{w:World}{v:Value}{S:St}(hv:Ak w v S.made.length 1 (madC S))(hn:S.made.length<=1000)(hm: ∀i,i<S.made.length->0<=S.mad i/\S.mad i<=32):
  Calls Tryz.prog 95 #[v,.func (.func 96) #[] #[]] w fun e w'=>e= .returned (.bool false)/\Below w.heap.size w w':=by
 have HC:=lhi (Wd hv hn hm)
 clear hv hm
 go_enter Tryz.func95,Tryz.ntmps95
 go_wp2_with (go_at_call 147;refine HC.out.mono ?_;rintro e w1 ⟨rfl,hb1⟩)
 go_ret
 exact⟨rfl,hb1⟩
theorem Yw{w:World}{sp:Nat}{iv ov mv:Value}{ev:Nat->Value}{S:St}(hS:StM w iv ov mv ev S)(hI:Inv S)(h2:w.cell? ⟨sp,2,none⟩=some mv):
  Calls Tryz.prog 46 #[.pointer (some ⟨sp,0,none⟩)] w fun e w'=>e= .returned (.bool true)/\Below w.heap.size w w':=by
 have HC:=lhi (Aci hS.mad (by have:=hI.m8;omega) fun i hi=>by
  have:=hI.mb _ (List.getElem_mem hi)
  unfold St.mad
  rw[An hi]
  exact this)
 have h1:=hI.m1
 have h8:=hI.m8
 obtain⟨A,cap,rfl,-,-⟩:=hS.mad
 have e1: ¬ ((S.made.length:Int)<1):=by omega
 have e2: ¬ ((8:Int)<S.made.length):=by omega
 clear hS hI
 go_enter Tryz.func46,Tryz.ntmps46
 go_wp2_with (go_at_call 95;refine HC.out.mono ?_;rintro e w1 ⟨rfl,hb1⟩)
 go_ret
 exact⟨rfl,hb1⟩
theorem Abo{w:World}{sp:Nat}{iv ov mv:Value}{ev:Nat->Value}{S:St}(hS:StM w iv ov mv ev S)(hI:Inv S)(h2:w.cell? ⟨sp,2,none⟩=some mv){x:Int}(hx:Vj S.made x)(hb:x<=1000000):
  Calls Tryz.prog 97 #[.pointer (some ⟨sp,0,none⟩),.int .i64 x] w fun e w'=>e= .returned (.bool true)/\Below w.heap.size w w':=by
 obtain⟨g1,g2,g3⟩:=hx
 have hC:=Mt x ⟨by omega,hb⟩
 have hM:=Sb x ⟨g1,hb⟩
 have e1:Nz x=(x - 2) % 8:=by unfold Nz;rw[if_neg (by omega)]
 obtain⟨c,hc⟩: ∃c:Nat,(x - 2) % 8=c:=⟨((x - 2) % 8).toNat,by omega⟩
 rw[e1,hc]at hC
 rw[hc]at g2 g3
 have hcl:c<S.made.length:=by omega
 have h8:=hI.m8
 obtain⟨A,cap,rfl,-,hcell⟩:=hS.mad
 obtain⟨g,off,rfl,hcel⟩:=hcell (by omega)
 clear hcell
 have q0:w.cell? ⟨g,off+c,none⟩=some (.int .i64 (S.mad c)):=by have:=hcel c 0 hcl (by omega);simpa[madC]using this
 have e3:Uk x<S.mad c:=by unfold Uk St.mad;simpa using g3
 obtain⟨y,hy⟩:=xx (Uk x)
 obtain⟨z,hz⟩:=xx (S.mad c)
 rw[hy]at hM e3
 rw[hz]at q0 e3
 have d1:decide ((0:Int)<=c)=true:=by simp
 have d2:decide ((c:Int)<S.made.length)=true:=by simp;omega
 have d3:decide (y<z)=true:=by simpa using e3
 have HC:=lhi hC
 have HM:=lhi hM
 clear hS hI hcel hC hM e1 hc g1 g2 g3 hy hz e3
 go_enter Tryz.func97,Tryz.ntmps97
 go_wp2_with (go_at_call 102;refine(HC.out _).mono ?_;rintro e w' ⟨rfl,h⟩;have h:=h.symm;subst h)
 go_quiet ((go_at_call 103;exact Calls.quiet_of_same (HM.out _)))
 go_wp2_with (fail)
 go_ret
 exact⟨rfl,⟨rfl,rfl,rfl,Ama _,fun _ _=>rfl⟩⟩
end Go.Proofs.YtkebjgebkneijaaGreat
