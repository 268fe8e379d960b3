/- Texts of one's own that a claim's last text rests on: Rp5 Lk20 Rp6. -/
import Derived.Test.YtkebjgebkneijaaGreatMG23
import Derived.Test.YtkebjgebkneijaaGreatMG27
import Derived.Test.YtkebjgebkneijaaGreatMG29
import Derived.Test.YtkebjgebkneijaaGreatMG22
set_option linter.unusedVariables false
set_option linter.unusedSimpArgs false
namespace Go.Proofs.YtkebjgebkneijaaGreat
open Go.RowKit
set_option maxHeartbeats 16000000
set_option maxRecDepth 1000000
def MR(S:St)(cv:Ad)(code num:Int)(data:ByteArray)(ns:List ByteArray):Prop:=∀W r,outR W r (doX S cv)->r.code=code/\r.num=num/\r.data=data/\NmB W (.slice r.na r.nl r.nc) ns
def Fin(S:St)(cv:Ad):Oc->Prop
 | .ret num _ data ns=>ns.length<=90000/\MR S cv 0 num data ns
 | .bad k=>MR S cv k 0 ⟨#[]⟩ []
 | _=>False
theorem Vy(w:World):NmB w (.slice none 0 0) []:=⟨none,0,rfl,Ama _,fun h=>by cases h⟩
structure RdG (M:Mem) (k:Int) (cv:Ad) (num:Int) (o j f cu u:Nat):Prop where
 hn:fdN M k cv.fd=num
 hz:num≠0
 hk:cv.kind=4
 hfd:0<=cv.fd/\cv.fd<4
 ho:cv.off=o
 hj:cv.num=j
 o2:o<=256
 j2:j<=256
 hs:Fo o j (M.bas num).2.1.size=(f,cu,u)
 hu:u≠0
section
variable{S:St}{M:Mem}{cv:Ad}
theorem Adf(hm:mayB S cv=true):doX S cv=runS S cv:=by unfold doX;rw[if_pos hm]
theorem Mj{k:Int}(h:doX S cv= .error k):MR S cv k 0 ⟨#[]⟩ []:=fun W r hr=>by
 rw[h]at hr
 have hr:r=Py k:=hr
 subst hr
 exact⟨rfl,rfl,rfl,Vy W⟩
theorem Akd{S':St}{num:Int}{data:ByteArray}{r':ResV}(h:doX S cv= .ok (S',fun _ r=>r=r'))(h1:r'.code=0)(h2:r'.num=num)(h3:r'.data=data)(h4:r'.na=none/\r'.nl=0/\r'.nc=0):MR S cv 0 num data []:=fun W r hr=>by
 rw[h]at hr
 have hr:r=r':=hr
 subst hr
 obtain⟨e1,e2,e3⟩:=h4
 exact⟨h1,h2,h3,by rw[e1,e2,e3];exact Vy W⟩
theorem Vb(hm:mayB S cv=true)(hk:cv.kind=4∨cv.kind=7):doX S cv=toX (Kx S cv Aq):=by
 rw[Adf hm]
 unfold runS
 rcases hk with hk | hk <;> simp[hk]
theorem Aht(hm:mayB S cv=true)(hk:cv.kind=12∨cv.kind=13∨cv.kind=14):doX S cv=Ra S (Ub S cv):=by
 rw[Adf hm]
 unfold runS
 rcases hk with hk | hk | hk <;> simp[hk]
theorem Ln(hI:Inv S)(hm:mayB S cv=true):0<=cv.core/\cv.core<8:=by
 obtain⟨-,-,h1,h2⟩:=Nl hm
 have:=hI.m8
 omega
theorem Zu(hI:Inv S)(hF:Fils S M)(hm:mayB S cv=true)(hk:cv.kind=4):Fin S cv (Nf (fdN M cv.core cv.fd) (M.bas (fdN M cv.core cv.fd)) cv.off cv.num):=by
 have hc:=Ln hI hm
 have hX:=Vb hm (.inl hk)
 unfold Kx at hX
 cases hf:Ej S cv with
 | error k=>
  obtain⟨rfl,h0⟩:=Qk hF hc hf
  rw[hf]at hX
  rw[h0,Nf,if_pos rfl]
  exact Mj hX
 | ok q=>
  obtain⟨a,i⟩:=q
  obtain⟨ha,hd,hn⟩:=Qj hI hF hc hf
  obtain⟨hfa,⟨v,hb⟩,-⟩:=hF.f a ha hd
  rw[hf]at hX
  dsimp only at hX
  rw[if_pos hk]at hX
  rw[hn,Nf,if_neg (by have:=hfa.n;omega),hb]
  have hs:=hfa.s
  rw[hb]at hs
  by_cases hin:(0<=cv.off/\cv.off<=256)/\0<=cv.num/\cv.num<=256
  ·rw[if_pos hin]
   rw[if_pos (by simp only[inB,Bool.and_eq_true,decide_eq_true_eq];exact hin)]at hX
   have hm2:MR S cv 0 0 (Cx (S.dat a) cv.off.toNat cv.num.toNat) []:=Akd hX rfl rfl rfl ⟨rfl,rfl,rfl⟩
   obtain⟨f,c,u,hsp⟩: ∃f c u,Fo cv.off.toNat cv.num.toNat (S.dat a).size=(f,c,u):=⟨_,_,_,rfl⟩
   obtain⟨h1,h2⟩:=Ae7 (b:=(v,S.dat a,false)) hs hsp
   rw[hsp]
   dsimp only
   by_cases hu:u=0
   ·rw[if_pos hu]
    rw[h1 hu]at hm2
    exact⟨Nat.zero_le _,hm2⟩
   ·rw[if_neg hu,h2 hu]
    exact⟨Nat.zero_le _,hm2⟩
  ·rw[if_neg hin]
   rw[if_neg (by simp only[inB,Bool.and_eq_true,decide_eq_true_eq];exact hin)]at hX
   exact Mj hX
theorem Aho(hI:Inv S)(hF:Fils S M)(hm:mayB S cv=true)(hk:cv.kind=7):Fin S cv (if fdN M cv.core cv.fd=0 then .bad 4 else .ret ((M.bas (fdN M cv.core cv.fd)).2.1.size:Int) false ⟨#[]⟩ []):=by
 have hc:=Ln hI hm
 have hX:=Vb hm (.inr hk)
 unfold Kx at hX
 cases hf:Ej S cv with
 | error k=>
  obtain⟨rfl,h0⟩:=Qk hF hc hf
  rw[hf]at hX
  rw[h0,if_pos rfl]
  exact Mj hX
 | ok q=>
  obtain⟨a,i⟩:=q
  obtain⟨ha,hd,hn⟩:=Qj hI hF hc hf
  obtain⟨hfa,⟨v,hb⟩,-⟩:=hF.f a ha hd
  rw[hf]at hX
  dsimp only at hX
  rw[if_neg (by omega),if_neg (by omega),if_neg (by omega)]at hX
  rw[hn,if_neg (by have:=hfa.n;omega),hb]
  exact⟨Nat.zero_le _,Akd hX rfl rfl rfl ⟨rfl,rfl,rfl⟩⟩
theorem Ue(hI:Inv S):Av.num=S.num 0/\Av.dir=S.dir 0:=by
 obtain⟨x,hx,h1,h2⟩:=hI.root
 have:S.ino 0=x:=by
  unfold St.ino
  rw[Ame,hx];rfl
 unfold St.num St.dir
 rw[this]
 exact⟨h1.symm,h2.symm⟩
theorem Vz{num:Int}{d:Bool}{ns:List ByteArray}(h:doX S cv=Ra S (.ok (num,d,ns))):MR S cv 0 num ⟨#[]⟩ ns:=fun W r hr=>by
 rw[h]at hr
 obtain⟨na,nc,rfl,hn⟩: ∃na nc,r=resT num d na ns.length nc/\NmB W (.slice na ns.length nc) ns:=hr
 exact⟨rfl,rfl,rfl,hn⟩
theorem Ahn(hI:Inv S)(hD:Bks S M)(hF:Fils S M)(hm:mayB S cv=true)(hk:cv.kind=12∨cv.kind=13∨cv.kind=14){o:Oc}(ho:Ji M cv.core cv o):Fin S cv o:=by
 have hX:=Aht hm hk
 obtain⟨r1,r2⟩:=Ue hI
 unfold Ji at ho
 unfold Ub atS at hX
 cases hp:Au cv.path with
 | err k=>
  rw[hp]at ho hX
  dsimp only at ho
  subst ho
  exact Mj hX
 | ok ns=>
  rw[hp]at ho hX
  dsimp only at ho hX
  rcases Me hI hD cv.core ns 0 hI.pos Av r1 r2 with⟨k,k0,h1,h2⟩ | ⟨a,it,ha,h1,h2,h3,h4⟩
  ·rw[h1]at ho
   dsimp only at ho
   subst ho
   rw[if_neg (by rw[h2];exact k0),h2]at hX
   exact Mj hX
  ·rw[h1]at ho
   dsimp only at ho
   rw[if_pos (by rw[h2]),h2]at hX
   dsimp only[Int.toNat_natCast]at hX
   unfold Ack at ho
   rw[h3,h4]at ho
   rcases hk with hk | hk | hk
   ·rw[if_pos hk]at ho hX
    by_cases hd:S.dir a=true
    ·rw[if_pos hd]at ho hX
     obtain⟨l,hl1,hl2,rfl⟩:=ho
     have e:=Ai4 hI hD ha hl1 hl2
     subst e
     refine⟨?_,Vz hX⟩
     have:=hI.small.en a
     rw[List.length_map]
     exact Aml this (by decide)
    ·rw[if_neg hd]at ho hX
     subst ho
     exact Mj hX
   ·rw[if_neg (by omega),if_pos hk]at ho hX
    subst ho
    refine⟨Nat.zero_le _,?_⟩
    have:=Vz hX
    by_cases hd:S.dir a=true
    ·rw[if_pos hd]at this⊢
     exact this
    ·rw[if_neg hd]at this⊢
     obtain⟨-,⟨v,hb⟩,-⟩:=hF.f a ha (by simpa using hd)
     rw[hb]
     exact this
   ·rw[if_neg (by omega),if_neg (by omega)]at ho hX
    by_cases hd:S.dir a=true
    ·rw[if_pos hd]at ho hX
     subst ho
     exact Mj hX
    ·rw[if_neg hd]at ho hX
     subst ho
     obtain⟨-,-,h8⟩:=hF.f a ha (by simpa using hd)
     rw[h8]
     exact⟨Nat.zero_le _,Vz hX⟩
theorem Aj2(hI:Inv S)(hD:Bks S M)(hF:Fils S M)(hm:mayB S cv=true)(hk:Lu cv.kind){o:Oc}(ho:BegO M cv.core cv o):
  Fin S cv o∨ ∃num o' j f cu u,RdG M cv.core cv num o' j f cu u/\cu≠u/\o= .wait (M.bas num) (wN f (cu - f)) (pgs (M.bas num) f cu) ⟨#[]⟩ false:=by
 unfold BegO at ho
 rcases hk with hk | hk | hk
 ·rw[if_pos hk]at ho
  have hfin:=Zu hI hF hm hk
  obtain⟨num,hn⟩: ∃x,fdN M cv.core cv.fd=x:=⟨_,rfl⟩
  rw[hn]at ho hfin
  unfold Uf at ho
  unfold Nf at hfin
  by_cases h0:num=0
  ·rw[if_pos h0]at ho hfin
   subst ho
   exact .inl hfin
  rw[if_neg h0]at ho hfin
  by_cases hin:(0<=cv.off/\cv.off<=256)/\0<=cv.num/\cv.num<=256
  ·rw[if_pos hin]at ho hfin
   obtain⟨f,c,u,hsp⟩: ∃f c u,Fo cv.off.toNat cv.num.toNat (M.bas num).2.1.size=(f,c,u):=⟨_,_,_,rfl⟩
   rw[hsp]at ho hfin
   dsimp only at ho hfin
   by_cases hu:u=0
   ·rw[if_pos hu]at ho hfin
    subst ho
    exact .inl hfin
   rw[if_neg hu]at ho hfin
   by_cases hcu:c=u
   ·rw[if_pos hcu]at ho
    subst ho
    exact .inl hfin
   ·rw[if_neg hcu]at ho
    refine .inr ⟨num,cv.off.toNat,cv.num.toNat,f,c,u,⟨hn,h0,hk,?_,by omega,by omega,by omega,by omega,hsp,hu⟩,hcu,ho⟩
    unfold fdN at hn
    split at hn
    ·assumption
    ·exact absurd hn.symm h0
  ·rw[if_neg hin]at ho hfin
   subst ho
   exact .inl hfin
 ·rw[if_neg (by omega),if_pos hk]at ho
  subst ho
  exact .inl (Aho hI hF hm hk)
 ·rw[if_neg (by omega),if_neg (by omega)]at ho
  exact .inl (Ahn hI hD hF hm hk ho)
end
theorem Qc.mono{L L':Nat->Prop}{w:World}{fb s:Nat}{M:Mem}{m k:Nat}{c:Ad}{x:Value}{Z:ResV->Value->Mem->(Nat->Prop)->World->Prop}(h:Qc L w fb s M m k c x Z)(hs: ∀b,L b->L' b):Qc L' w fb s M m k c x Z:=
 fun K W hb hK=>h K W hb fun b q=>hK b (hs b q)
structure AlT (fb s m k:Nat) (cv:Ad) (T:Nat->Value->Mem->(Nat->Prop)->World->Prop) (F:ResV->List ByteArray->Mem->Prop):Prop where
 le: ∀{i x M G W},T i x M G W->i<=9/\M.ok m/\ ∃ty y,x= .iface ty y
 step: ∀{i x M G W},T i x M G W-> ∃Z:ResV->Value->Mem->(Nat->Prop)->World->Prop,(∀r nx M' G w1 w2,Z r nx M' G w1->Kp G w1 w2->Z r nx M' G w2)/\Qc G W fb s M m k cv x Z/\
  ∀r nx M' G' W',Z r nx M' G' W'->Kp G W W'->(nx= .nilIface-> ∃ns,F r ns M'/\r.nl=ns.length/\ns.length<=90000/\Ak W' (.slice r.na r.nl r.nc) ns.length 1 (nmC ns))/\ ((∃ty y,nx= .iface ty y)->T (i+1) nx M' (By G G') W')
theorem FsP.flag{L:Nat->Prop}{w w':World}{fb s pb:Nat}{M:Mem}{m:Nat}{ps:List PV}{k:Nat}{c:Ad}{Z:ResV->Value->Mem->(Nat->Prop)->World->Prop}{e:Ending}(h:FsP L w fb s pb M m ps k c Z e w'):
  ∃b r nx M' G tc,e= .returned (.tuple #[.bool b,.int .i64 0])/\ (b=true->nx= .nilIface/\FsAt (By L G) w' fb s pb M' (ps.set k ⟨c,.nilIface,true,r,tc⟩))/\ (b=false->(∃ty y,nx= .iface ty y)/\FsAt (By L G) w' fb s pb M' (ps.set k {ps.getD k Bx with at_:=nx,tc:=tc}))/\Z r nx M' G w'/\Kp L w w':=by
 obtain⟨r,nx,M',G,tc,⟨h1,h2,h3⟩ | ⟨h1,h2,h3⟩,-,h4,h5,-⟩:=h
 ·exact⟨true,r,nx,M',G,tc,h2,fun _=>⟨h1,h3⟩,fun q=>(by cases q),h4,h5⟩
 ·exact⟨false,r,nx,M',G,tc,h2,fun q=>(by cases q),fun _=>⟨h1,h3⟩,h4,h5⟩
def upP(L:Nat->Prop)(n m:Nat)(b:Nat):Prop:=L b∨n<=b/\b<m
theorem FsAt.fresh{L:Nat->Prop}{w W:World}{fb s pb:Nat}{M:Mem}{ps:List PV}(h:FsAt L w fb s pb M ps)(hb:Below w.heap.size w W):FsAt (upP L w.heap.size W.heap.size) W fb s pb M ps:=
 ⟨h.m.move (fun b q=>by
  rcases q with(q | q) | q
  ·exact Amk (h.m.bd b (.inl q)) hb.size
  ·exact q.2
  ·exact Amk (h.m.bd b (.inr q)) hb.size) hb.size (fun b q hlt=>by
  rcases q with(q | q) | q
  ·exact .inl q
  ·omega
  ·exact .inr q) (fun b hlt _=>hb.block b hlt),Blk.of_heap (hb.block _ (FsR.f h).lt) (FsR.f h),⟨Blk.of_heap (hb.block _ (FsR.p h).1.lt) (FsR.p h).1,(FsR.p h).2⟩,fun q=>q.elim (FsR.nf h) fun q=>by have:=(FsR.f h).lt;omega,fun q=>q.elim (FsR.np h) fun q=>by have:=(FsR.p h).1.lt;omega,FsR.tl h⟩
def Aln(L:Nat->Prop)(w:World)(fb s pb:Nat)(ps:List PV)(k:Nat)(cv:Ad)(F:ResV->List ByteArray->Mem->Prop)(e:Ending)(w':World):Prop:=∃r ns M' na nc tc G,F r ns M'/\e= .returned (.tuple #[.agg (ResV.mk r.code r.fd r.num r.dir r.data na ns.length nc).cs,.bool true])/\w'.ownsRow w.heap.size 9 1 (.slice na ns.length nc) ns.length (ns.map .string)/\
 FsAt (By L G) w' fb s pb M' (ps.set k ⟨cv,.nilIface,true,r,tc⟩)/\Kp L w w'/\ (∀q,(Value.slice na ns.length nc).ownBlock=some q->G q)/\ns.length<=90000
theorem Xc{L:Nat->Prop}{w:World}{fb s pb:Nat}{M:Mem}{m:Nat}{ps:List PV}{k:Nat}(h:FsAt L w fb s pb M ps)(hm:m<=1000000000)(hk:k<ps.length){cv:Ad}(hc:cv.core=k)(hkind:0<=cv.kind/\cv.kind<=16)(hat:ps[k].at_= .nilIface)
  {T:Nat->Value->Mem->(Nat->Prop)->World->Prop} {F:ResV->List ByteArray->Mem->Prop} (hT:AlT fb s m k cv T F) (h0: ∀W,T 0 Ik (M.clear k) (fun _=>False) W):
  Calls Tryz.prog 10 #[.pointer (some ⟨fb,0,none⟩),.agg cv.cs] w fun e w'=>Aln L w fb s pb ps k cv F e w':=by
 have h8:=h.tsl
 have hL:Bd L w:=fun b hb=>h.m.bd b (.inl hb)
 obtain⟨kind,core,fd,off,num,path,path2,data⟩:=cv
 obtain rfl:core=k:=hc
 obtain⟨w2,hw2⟩: ∃x,x=(w.alloc (.cells #[.int .i64 kind,.int .i64 k,.int .i64 fd,.int .i64 off,.int .i64 num,.string path,.string path2,.string data] 24)).alloc (.cells #[.int .i64 0,.int .i64 0,.int .i64 0,.bool false,.string ⟨#[]⟩,.slice none 0 0] 41):=⟨_,rfl⟩
 obtain⟨hC,hR,hB⟩:=Lp hw2
 have HA:=lhi (show FsAt (ins (ins L w.heap.size) (w.heap.size+1)) w2 fb s pb M ps by
  rw[hw2]
  have:=(h.allocIns (.cells #[.int .i64 kind,.int .i64 k,.int .i64 fd,.int .i64 off,.int .i64 num,.string path,.string path2,.string data] 24)).allocIns (.cells #[.int .i64 0,.int .i64 0,.int .i64 0,.bool false,.string ⟨#[]⟩,.slice none 0 0] 41)
  simpa using this)
 have HBG:=lhi (Aid HA.out hk (c:=⟨kind,k,fd,off,num,path,path2,data⟩) rfl hkind hat)
 have HC:=lhi hC
 have HR:=lhi hR
 have HB:=lhi hB
 have HT:=lhi hT
 have HT0:=lhi h0
 have HL:=lhi hL
 clear hL h hC hR hB hT h0 hat hkind
 simp only[Ad.cs]at HBG⊢
 go_enter Tryz.func10,Tryz.ntmps10
 go_upto_region 1 with(fail)
 rw[<-hw2]
 obtain⟨p0,hp0⟩: ∃x,x=w.heap.size:=⟨_,rfl⟩
 rw[<-hp0]at HA HC HR HBG⊢
 have HP0:=lhi hp0
 clear hw2 hp0
 obtain⟨b0,b1,b2,b3,b4,b5,b6,b7⟩:=HC.out.d8
 go_wp2_with (first
  | (go_at_call 17;refine HBG.out.mono ?_;rintro e w3 ⟨rfl,hf3,hk3⟩;have HF3:=lhi hf3;have HK3:=lhi hk3;clear hf3 hk3 HBG)
  | (go_at_call 9;refine(Gx _ _).mono ?_;rintro e w' ⟨rfl,rfl⟩))
 clear b0 b1 b2 b3 b4 b5 b6 b7
 have hL2: ∀q,q=p0∨q=p0+1->(ins (ins L p0) (p0+1)) q:=fun q hq=>by
  rcases hq with rfl | rfl
  ·exact ins.old (ins.new _ _)
  ·exact ins.new _ _
 go_loopw [7] (fun i wr=>∃(j:Nat) (x:Value) (M':Mem) (G:Nat->Prop) (tc:Int),i= .int .i64 j/\T j x M' G wr/\FsAt (By (ins (ins L p0) (p0+1)) G) wr fb s pb M' (ps.set k ⟨⟨kind,k,fd,off,num,path,path2,data⟩,x,false,Aq,tc⟩)/\Kp (ins (ins L p0) (p0+1)) w3 wr) (fun i _=>10 - (intOf i).toNat)
 case atStart=>exact⟨0,_,_,_,0,rfl,HT0.out _,HF3.out.sub fun b hb=>hb.elim id False.elim,Kp.refl _ _⟩
 case round=>
  obtain⟨j,x,M1,G,tc,rfl,ht,hf,hkp⟩:=hrel
  obtain⟨hj,hok,ty,y,rfl⟩:=HT.out.le ht
  obtain⟨Z,hZ,hst,hnx⟩:=HT.out.step ht
  have HC3:=lhi (Blk.of_heap (hkp.k.block p0 (hL2 _ (.inl rfl))) (Blk.of_heap (HK3.out.k.block p0 (hL2 _ (.inl rfl))) HC.out))
  have b1:wr.cell? ⟨p0,1,none⟩=some (.int .i64 k):=HC3.out.cell 1
  have hkl:k< (ps.set k ⟨⟨kind,k,fd,off,num,path,path2,data⟩,.iface ty y,false,Aq,tc⟩).length:=by simpa using hk
  have HST:=lhi (Aji hf hok hm hkl (c:=⟨kind,k,fd,off,num,path,path2,data⟩) (by simp) (ty:=ty) (x:=y) (by simp) hZ (hst.mono fun b hb=>.inr hb))
  have HNX:=lhi hnx
  have HKP:=lhi hkp
  have hji:(j:Int)<400:=by omega
  clear ht hf hok hZ hst hnx hkp
  go_upto_region 10 with(first
   | (go_at_call 27;refine HST.out.mono ?_;rintro e w4 hfp;obtain⟨b,r,nx,M2,G2,tc2,rfl,hb1,hb2,hz,hk4⟩:=hfp.flag;rw[List.set_set]at hb1;have HB1:=lhi hb1;have HB2:=lhi hb2;have HN4:=lhi (HNX.out _ _ _ _ _ hz (hk4.sub fun _ q=>.inr q));have HK4:=lhi (show Kp (ins (ins L p0) (p0+1)) wr w4 from hk4.sub fun _ q=>.inl q);clear hfp hb1 hb2 hz hk4 HST HNX)
   | (go_at_call 9;refine(Gx _ _).mono ?_;rintro e w' ⟨rfl,rfl⟩))
  clear b1
  cases b
  ·obtain⟨hif,hf4⟩:=HB2.out rfl
   go_wp2_with (fail)
   go_roundw
   case rel=>
    refine⟨j+1,nx,M2,By G G2,tc2,by simp,HN4.out.2 hif,?_,HKP.out.trans HK4.out⟩
    rw[List.set_set,Ame,List.getElem?_set_self hk]at hf4
    exact hf4.sub fun b q=>by
     rcases q with q | q | q
     ·exact .inl (.inl q)
     ·exact .inl (.inr q)
     ·exact .inr q
   case measure=>simp only[intOf];omega
  ·obtain⟨rfl,hf4⟩:=HB1.out rfl
   obtain⟨ns,hF,hnl,hn9,hrow⟩:=HN4.out.1 rfl
   have HRS:=lhi (Agd hf4 (k:=k) (by simpa using hk) (by simp) (r:=r) (by simp) hnl hn9 hrow)
   obtain⟨rcode,rfd,rnum,rdir,rdata,rna,rnl,rnc⟩:=r
   obtain rfl:rnl=ns.length:=hnl
   have HF:=lhi hF
   have HF4:=lhi hf4
   have HC4:=lhi (Blk.of_heap (HK4.out.k.block p0 (hL2 _ (.inl rfl))) HC3.out)
   have HR4:=lhi (Blk.of_heap (HK4.out.k.block (p0+1) (hL2 _ (.inr rfl))) (Blk.of_heap (HKP.out.k.block (p0+1) (hL2 _ (.inr rfl))) (Blk.of_heap (HK3.out.k.block (p0+1) (hL2 _ (.inr rfl))) HR.out)))
   have b1:w4.cell? ⟨p0,1,none⟩=some (.int .i64 k):=HC4.out.cell 1
   simp only[ResV.cs]at HRS
   clear hF hf4 hrow HN4 HB1 HB2
   go_wp2_with (go_at_call 20;refine HRS.out.mono ?_;rintro e w5 ⟨⟨na,nc,rfl,ho⟩,hb5⟩;have HO:=lhi ho;have HB5:=lhi hb5;have HR5:=lhi (Blk.of_heap (hb5.block _ HR4.out.lt) HR4.out);clear ho hb5 HRS;obtain⟨r0,r1,r2,r3,r4,r5⟩:=HR5.out.d6;obtain⟨f0,f1,f2,f3,f4,f5⟩:=HR5.out.f6)
   have HP:=lhi (HR5.out.put6 (.int .i64 rcode) (.int .i64 rfd) (.int .i64 rnum) (.bool rdir) (.string rdata) (.slice na ns.length nc))
   obtain⟨q0,q1,q2,q3,q4,q5⟩:=Blk.d6 HP.out.1
   refine bodyPost_ret (v:=.tuple #[.agg #[.int .i64 rcode,.int .i64 rfd,.int .i64 rnum,.bool rdir,.string rdata,.slice na ns.length nc],.bool true]) (by simp[results,Tryz.results10,go_sem,q0,q1,q2,q3,q4,q5]) rfl ?_
   have hs: ∀b,L b->(ins (ins L p0) (p0+1)) b:=fun b hb=>ins.old (ins.old hb)
   have hk4:Kp L w w4:=(Kp.below HL.out HB.out).trans ((HK3.out.trans (HKP.out.trans HK4.out)).sub hs)
   have hk5:Kp L w w5:=hk4.trans (Kp.below (hk4.bd HL.out) HB5.out)
   have hw4:=hk4.size
   have hnL: ¬ L (p0+1):=fun q=>by have:=HL.out _ q;have:=HP0.out;omega
   have hO:=HO.out
   have hfr:=FsAt.owns (L:=upP _ w4.heap.size w5.heap.size) (.inl (.inl (.inl (hL2 _ (.inr rfl))))) [Value.int IntKind.i64 rcode,Value.int IntKind.i64 rfd,Value.int IntKind.i64 rnum,Value.bool rdir,Value.string rdata,Value.slice na ns.length nc] 0 (HF4.out.fresh HB5.out) HR5.out
   have hkp:=Wb hnL (by unfold Dg;decide) [Value.int IntKind.i64 rcode,Value.int IntKind.i64 rfd,Value.int IntKind.i64 rnum,Value.bool rdir,Value.string rdata,Value.slice na ns.length nc] 0 HR5.out
   exact⟨⟨rcode,rfd,rnum,rdir,rdata,rna,ns.length,rnc⟩,ns,M2,na,nc,tc2,fun b=>w4.heap.size<=b/\b<w5.heap.size,HF.out,rfl,Dr (Dq hO HP.out.2 fun q hq e=>Ah hO HR5.out (by decide) (hq.trans e.symm)) hw4,
    hfr.1.sub fun b hb=>by
     rcases hb with hb | hb
     ·exact .inl (.inl (.inl (hs b hb)))
     ·exact .inr hb,hk5.trans hkp,fun q hq=>hO.lt q hq,hn9⟩
structure Lo (S:St) (m:Nat) (M:Mem):Prop where
 b:Bks S M
 f:Fils S M
 ok:M.ok m
theorem Lo.same{S:St}{m m':Nat}{M M':Mem}(h:Lo S m M)(hs:M.same M')(hok:M'.ok m'):Lo S m' M':=⟨h.b.same hs,h.f.same hs,hok⟩
def RdT(M0:Mem)(k:Nat)(cv:Ad)(i:Nat)(x:Value)(M:Mem)(G:Nat->Prop)(W:World):Prop:=Seen k (300*i) M0 M/\ (i=0/\x=Ik∨
 ∃num o j f cu u A cap,RdG M0 k cv num o j f cu u/\Ak W (.slice A (wN f (cu - f)) cap) (wN f (cu - f)) 1 zC/\ (∀q,Es (.slice A (wN f (cu - f)) cap) q->G q)/\
  (i=1/\x=Ff (M0.bas num) (.slice A (wN f (cu - f)) cap) (pgs (M0.bas num) f cu) ⟨#[]⟩ false∨i=2/\x=Ff (M0.bas num) (.slice A (wN f (cu - f)) cap) (pgs (M0.bas num) f cu) (pgs (M0.bas num) cu u) true))
def RdF(S:St)(M0:Mem)(k:Nat)(cv:Ad)(r:ResV)(ns:List ByteArray)(M:Mem):Prop:=Seen k 900 M0 M/\MR S cv r.code r.num r.data ns
section
variable{S:St}{M0:Mem}{cv:Ad}{k m:Nat}
theorem Adc{M M':Mem}{n:Nat}(h0:Seen k n M0 M)(hn:n<=600){o:Oc}(hf:Fin S cv o){r:ResV}{nx:Value}{G:Nat->Prop}{W:World}(ho:OutZ k M o r nx M' G W):nx= .nilIface/\ ∃ns,RdF S M0 k cv r ns M'/\r.nl=ns.length/\ns.length<=90000/\Ak W (.slice r.na r.nl r.nc) ns.length 1 (nmC ns):=by
 obtain⟨h1,h2⟩:=ho
 have h3:=(h0.trans h1).mono (show n+300<=900 by omega)
 cases o with
 | ret num dir data ns=>
  obtain⟨na,nc,h4,rfl,h5,-⟩:=h2
  exact⟨h4,ns,⟨h3,hf.2⟩,rfl,hf.1,h5⟩
 | bad c=>
  obtain⟨h4,rfl⟩:=h2
  exact⟨h4,[],⟨h3,hf⟩,rfl,Nat.zero_le _,(Vy W).at'⟩
 | wait=>exact hf.elim
 | again=>exact hf.elim
theorem Aaw(hI:Inv S)(hL:Lo S m M0)(hm:m<=100000)(hmy:mayB S cv=true)(hc:cv.core=k)(hk:Lu cv.kind)(hp:cv.path.size<=4611686018427387904)(ht:Go.Proofs.YtkebjgebkneijaaGreat.tr M0.ts k=[]){fb s:Nat}:AlT fb s 200000 k cv (RdT M0 k cv) (RdF S M0 k cv):=by
 have hcb:(k:Int)<M0.ts.length:=by
  obtain⟨-,-,h1,h2⟩:=Nl hmy
  rw[hL.f.tl,<-hc]
  exact h2
 have hle: ∀{i x M G W},RdT M0 k cv i x M G W->i<=2:=fun {i x M G W} h=>by
  rcases h.2 with⟨rfl,-⟩ | ⟨_,_,_,_,_,_,_,_,-,-,-,⟨rfl,-⟩ | ⟨rfl,-⟩⟩ <;> omega
 have hgen: ∀{i x M G W},RdT M0 k cv i x M G W->M.ok (m+300*i)/\Ok M k/\Lo S (m+300*i) M/\ ∀y∈Go.Proofs.YtkebjgebkneijaaGreat.tr M.ts k,0<=y.1/\y.1<=1000000:=fun {i x M G W} h=>by
  have h1:=h.1.ok hL.ok
  have h2:=hle h
  have h3:=h.1.same
  refine⟨h1,⟨h1.mono (by omega),by omega,by rw[h3.ts];exact hcb⟩,hL.same h3 h1,fun y hy=>?_⟩
  obtain⟨l,-,q2,q3⟩:=h.1.tr ⟨by omega,hcb⟩
  rw[q3 k (by omega),if_pos rfl,ht,List.nil_append]at hy
  obtain⟨i,hi,rfl⟩:=List.mem_map.1 hy
  have:=q2 i hi
  exact⟨this.1,by show i<=_;omega⟩
 refine⟨fun {i x M G W} h=>⟨by have:=hle h;omega,(hgen h).1.mono (by have:=hle h;omega),?_⟩,fun {i x M G W} h=>?_⟩
 ·rcases h.2 with⟨-,rfl⟩ | ⟨_,_,_,_,_,_,_,_,-,-,-,⟨-,rfl⟩ | ⟨-,rfl⟩⟩
  ·exact⟨_,_,rfl⟩
  ·exact⟨_,_,rfl⟩
  ·exact⟨_,_,rfl⟩
 ·have hi2:=hle h
  obtain⟨hok,hOk,hLo,hw⟩:=hgen h
  have hsm:=h.1.same
  rcases h.2 with⟨rfl,rfl⟩ | ⟨num,o,j,f,cu,u,A,cap,hg,hrow,hG,hx⟩
  ·refine⟨_,fun r nx M' G w1 w2 ⟨o,h1,h2⟩ hkp=>⟨o,h1,h2.kp hkp⟩,Adw hOk hok (by omega) hw hp hk hLo.b.1 (fun hne=>?_) (fun ns it hpr hwk hd=>?_),fun r nx M' G' W' ⟨o,h1,h2⟩ hkp=>?_⟩
   ·cases hfs:Ej S cv with
    | error q=>
     have:=(Qk hLo.f (Ln hI hmy) hfs).2
     rw[hc]at this
     exact absurd this hne
    | ok q=>
     obtain⟨a,i⟩:=q
     obtain⟨ha,hd,hn⟩:=Qj hI hLo.f (Ln hI hmy) hfs
     rw[hc]at hn
     rw[hn]
     exact(hLo.f.f a ha hd).1
   ·obtain⟨r1,r2⟩:=Ue hI
    rcases Me hI hLo.b k ns 0 hI.pos Av r1 r2 with⟨q,-,e,-⟩ | ⟨a,it',ha,e,-,e3,e4⟩
    ·rw[hwk]at e
     cases e
    ·rw[hwk]at e
     injection e with e
     subst e
     rw[e3]
     exact(hLo.f.f a ha (by rw[<-e4];exact hd)).1
   ·rcases Aj2 hI hLo.b hLo.f hmy hk (by rw[hc];exact h1)with hfin | ⟨num,o',j,f,cu,u,hg,hcu,rfl⟩
    ·obtain⟨e,hq⟩:=Adc h.1 (by omega) hfin h2
     exact⟨fun _=>hq,fun⟨ty,y,q⟩=>by rw[e]at q;cases q⟩
    ·obtain⟨h3,A,cap,h4,h5,h6,h7⟩:=h2
     rw[hc]at hg
     refine⟨fun q=>(by rw[h4]at q;cases q),fun _=>⟨(h.1.trans h3).mono (by omega),.inr ⟨num,o',j,f,cu,u,A,cap,⟨by have:=hg.hn;unfold fdN at this⊢;rw[hsm.ws]at this;exact this,hg.hz,hg.hk,hg.hfd,hg.ho,hg.hj,hg.o2,hg.j2,by rw[<-hsm.bas];exact hg.hs,hg.hu⟩,h6,fun q hq=>.inr (h7 q hq),.inl ⟨rfl,?_⟩⟩⟩⟩
     rw[h4,hsm.bas]
  ·have hfd:fdN M k cv.fd=num:=by have:=hg.hn;unfold fdN at this⊢;rw[hsm.ws];exact this
   have hbas:=hsm.bas num
   have hfa:Fs M num:=by
    cases hfs:Ej S cv with
    | error q=>
     have:=(Qk hLo.f (Ln hI hmy) hfs).2
     rw[hc,hfd]at this
     exact absurd this hg.hz
    | ok q=>
     obtain⟨a,i⟩:=q
     obtain⟨ha,hd,hn⟩:=Qj hI hLo.f (Ln hI hmy) hfs
     rw[hc,hfd]at hn
     rw[hn]
     exact(hLo.f.f a ha hd).1
   have hspec:=Jl (show(M0.bas num).2.1.size<=256 by rw[<-hbas];exact hfa.s) hg.hs
   have hz:=hg.hu
   obtain⟨-,-,-,s4,s5,-,-⟩:=hspec.resolve_left fun e=>hz e.2.2
   rcases hx with⟨rfl,rfl⟩ | ⟨rfl,rfl⟩
   ·refine⟨fun r nx M' G w'=>OutZ k M (Nm (M.bas num) o j f cu u A (wN f (cu - f)) cap (pgs (M0.bas num) f cu) ⟨#[]⟩ false) r nx M' G w',fun r nx M' G w1 w2 h2 hkp=>OutZ.kp h2 hkp,by
     rw[<-hbas]
     exact Rg hOk hok (by omega) hw hg.hfd hfd hfa hg.ho hg.hj hg.o2 hg.j2 (by rw[hbas];exact hg.hs) hg.hu rfl hrow hG (fun q=>by cases q),fun r nx M' G' W' h2 hkp=>?_⟩
    obtain⟨h3,h4,-⟩:=h2
    refine⟨fun q=>(by rw[h4]at q;cases q),fun _=>⟨(h.1.trans h3).mono (by omega),.inr ⟨num,o,j,f,cu,u,A,cap,hg,Nc hrow hG hkp,fun q hq=>.inl (hG q hq),.inr ⟨rfl,?_⟩⟩⟩⟩
    rw[h4,hbas]
   ·refine⟨fun r nx M' G w'=>OutZ k M (Nm (M.bas num) o j f cu u A (wN f (cu - f)) cap (pgs (M0.bas num) f cu) (pgs (M0.bas num) cu u) true) r nx M' G w',fun r nx M' G w1 w2 h2 hkp=>OutZ.kp h2 hkp,by
     rw[<-hbas]
     exact Rg hOk hok (by omega) hw hg.hfd hfd hfa hg.ho hg.hj hg.o2 hg.j2 (by rw[hbas];exact hg.hs) hg.hu rfl hrow hG (fun _=>by rw[Qf,Qf];omega),fun r nx M' G' W' h2 hkp=>?_⟩
    have hfin:Fin S cv (Nm (M.bas num) o j f cu u A (wN f (cu - f)) cap (pgs (M0.bas num) f cu) (pgs (M0.bas num) cu u) true):=by
     have:=Zu hI hLo.f hmy hg.hk
     rw[hc,hfd]at this
     unfold Nf at this
     rw[if_neg hg.hz,if_pos ⟨⟨by rw[hg.ho];omega,by rw[hg.ho];have:=hg.o2;omega⟩,by rw[hg.hj];omega,by rw[hg.hj];have:=hg.j2;omega⟩,hg.ho,hg.hj,Int.toNat_natCast,Int.toNat_natCast,hbas,hg.hs]at this
     dsimp only at this
     rw[if_neg hg.hu]at this
     show Fin S cv (.ret 0 false (cutD _ o j f (_++_)) [])
     rw[Ai1 _ s4 s5,hbas]
     exact this
    obtain⟨e,hq⟩:=Adc h.1 (by omega) hfin h2
    exact⟨fun _=>hq,fun⟨ty,y,q⟩=>by rw[e]at q;cases q⟩
end
end Go.Proofs.YtkebjgebkneijaaGreat
