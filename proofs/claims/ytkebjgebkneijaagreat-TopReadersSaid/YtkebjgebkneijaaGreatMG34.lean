/- Texts of one's own that a claim's last text rests on: Mr7 Dd Ints WordsP Words Out Spoil Trc. -/
import Derived.Test.YtkebjgebkneijaaGreatMG33
import Derived.Test.YtkebjgebkneijaaGreatMG30
import Derived.Test.YtkebjgebkneijaaGreatMG1
import Derived.Below
import Derived.Laws.OwnMore
import Derived.Deep.AppendLies
import Derived.Deep.Draws
import Derived.Maps.AppendAt
import Derived.RegionTactic
import Derived.OwnWalk
import Derived.Deep.Slices
import Derived.Test.YtkebjgebkneijaaGreatMG22
import Derived.Handy
set_option linter.unusedVariables false
set_option linter.unusedSimpArgs false
namespace Go.Proofs.YtkebjgebkneijaaGreat
open Go.RowKit
set_option maxHeartbeats 16000000
set_option maxRecDepth 1000000
def Vg:Ad:=⟨0,0,0,0,0,Acw,⟨#[]⟩,⟨#[]⟩⟩
theorem Afq:M1A.ts.length=2/\ ∀y∈tr M1A.ts 0,0<=y.1/\y.1<=1000000:=by
 have h:=Adp (M:=M0A.see 0 (wd 1 (Aa nmA:Nat))) (c:=0) (it:=Av) (nm:=nmA) (kind:=0) (n:=0) ⟨by omega,by rw[Vp,Qy];omega⟩
 refine⟨h.2.trans (by rw[Vp,Qy]),fun y hy=>?_⟩
 have hy:y∈tr (M0A.see 0 (wd 1 (Aa nmA:Nat))).ts 0++accC 0 Av.num (Aa nmA:Nat) 0 0:=by rw[<-h.1];exact hy
 rw[Afs ⟨by omega,by rw[Qy];omega⟩]at hy
 have h0:tr M0A.ts 0=[]:=by
  unfold M0A Mem.clear tr
  simp only
  rw[Da _ _ _ _ _ (by rw[Ix];simp[newS]),if_pos rfl]
 rw[h0]at hy
 have hb:=Yp nmA
 rcases List.mem_append.1 hy with hy | hy
 ·simp at hy
  rw[hy]
  simp only[wd];omega
 ·exact Aif ⟨by omega,by omega⟩ (by decide) hb ⟨by omega,by omega⟩ y hy
theorem Aku(w1:World)(fb s:Nat):Akj w1 fb s M0A M1A 0 Vg 99 (.agg #[]) Aq:=by
 have h:=Vm (w:=w1) (fb:=fb) (s:=s) (M:=M0A) (M1:=M0A) Rt (by omega) (k:=0) (by rw[Qy];omega) Ab4.fit (cv:=Vg) (.inl rfl) (by decide) (ns:=[]) (nm:=nmA) Acx (by simp) (it:=Av) rfl rfl (by
  rw[Ab4.bkt (by decide) (Yp nmA)];rfl) (n:=0) (Oi.1 0 (by omega)) ⟨by omega,by omega⟩
 exact h
theorem Akq:tr M0A.ts 0=[]:=by
 unfold M0A Mem.clear tr
 simp only
 rw[Da _ _ _ _ _ (by rw[Ix];simp[newS]),if_pos rfl]
theorem Alz(fb s:Nat):AlT fb s 9100 0 Vg (fun i x M _ _=>i=0/\x=Ik/\M=M0A) (fun r ns M=>r=Aq/\ns=[]/\M=M1A):=by
 refine⟨fun {i x M G W} h=>?_,fun {i x M G W} h=>?_⟩
 ·obtain⟨rfl,rfl,rfl⟩:=h
  exact⟨by omega,Rt.mono (by omega),_,_,rfl⟩
 ·obtain⟨rfl,rfl,rfl⟩:=h
  refine⟨fun r nx M' _ _=>r=Aq/\nx= .nilIface/\M'=M1A,fun _ _ _ _ _ _ q _=>q,fun K W' hb hK hM hf=>?_,fun r nx M' G' W' h _=>?_⟩
  ·refine(Aku W fb s K W' hb.size hM hf).mono ?_
   rintro e w' ⟨rfl,h1,h2⟩
   exact⟨Aq,_,M1A,fun _=>False,rfl,.inl rfl,⟨Abi.mono (by omega),Afq.1.trans Qy.symm,by rw[show((0:Nat):Int)=0 from rfl,Akq];exact Nat.zero_le _,Afq.2⟩,⟨rfl,rfl,rfl⟩,fun _ q=>q.elim,h1.sub fun b q=>q.elim id False.elim,h2⟩
  ·obtain⟨rfl,rfl,rfl⟩:=h
   exact⟨fun _=>⟨[],⟨rfl,rfl,rfl⟩,rfl,Nat.zero_le _,(RowT.nil_ W' 0 9 1 (nmC [])).at'⟩,fun⟨_,_,q⟩=>by cases q⟩
theorem Aj3{L:Nat->Prop}{w:World}{fb s pb:Nat}(h:FsAt L w fb s pb (Cu (newS 2)) (List.replicate 2 Bx)):Calls Tryz.prog 10 #[.pointer (some ⟨fb,0,none⟩),.agg #[.int .i64 0,.int .i64 0,.int .i64 0,.int .i64 0,.int .i64 0,.string ⟨#[47,97]⟩,.string ⟨#[]⟩,.string ⟨#[]⟩]] w fun e w'=>
  ∃na nc tc,e= .returned (.tuple #[.agg #[.int .i64 0,.int .i64 0,.int .i64 0,.bool false,.string ⟨#[]⟩,.slice na 0 nc],.bool true])/\FsAt L w' fb s pb M1A ((List.replicate 2 Bx).set 0 ⟨Vg,.nilIface,true,Aq,tc⟩)/\Kp L w w':=by
 refine(Xc h (by omega) (k:=0) (by simp) (cv:=Vg) rfl ⟨by decide,by decide⟩ (by simp[Bx]) (Alz fb s) fun _=>⟨rfl,rfl,rfl⟩).mono ?_
 rintro e w' ⟨r,ns,M',na,nc,tc,G,⟨rfl,rfl,rfl⟩,rfl,-,hf,hk,-,-⟩
 exact⟨na,nc,tc,rfl,hf.sub fun b q=>.inl q,hk⟩
theorem Ale(s:Nat):Adn M1A s (fun i=>(Bb [2] (Bj M1A 2) i).isSome=true) (fun _=>⟨#[]⟩):=by
 intro K W num hn hM
 have hn:(Bb [2] (Bj M1A 2) num).isSome=true:=hn
 rw[Akb]at hn
 have e:num=2:=by
  unfold Bb at hn
  split at hn
  ·rename_i q
   simpa using q
  ·cases hn
 subst e
 obtain⟨h1,h2,h3⟩:=Alg.base (num:=2) ⟨by omega,by omega⟩
 exact Ae6 hM Abi (by omega) ⟨by omega,by omega⟩ h1 h2 h3
theorem Aat(w:World):Calls Tryz.prog 6 #[] w fun e w'=>e= .returned (.bool true)/\Below w.heap.size w w':=by
 have HN:=lhi (Ahl (L:=fun b=>b<w.heap.size) (w:=w) (fun b hb=>hb) (n:=2) (by omega) (by omega))
 go_enter Tryz.func6,Tryz.ntmps6
 go_upto_region 4 with(first
  | (go_at_call 23;refine HN.out.mono ?_;rintro e w1 ⟨fb,s,pb,rfl,hf1,hb1⟩;have HF1:=lhi hf1;have HB1:=lhi hb1;clear hf1 hb1 HN)
  | (go_at_call 9;refine(Gx _ _).mono ?_;rintro e w' ⟨rfl,rfl⟩))
 have HAL:=lhi (Aj3 HF1.out)
 go_upto_region 5 with(go_at_call 10;refine HAL.out.mono ?_;rintro e w2 ⟨na,nc,tc,rfl,hf2,hk2⟩;have HF2:=lhi hf2;have HK2:=lhi hk2;clear hf2 hk2 HAL)
 have HF3:=lhi (HF2.out.allocIns (.cells #[.int .i64 0,.int .i64 0,.int .i64 0,.bool false,.string ⟨#[]⟩,.slice na 0 nc] 41))
 have HR3:=lhi (Blk.new w2 41 #[.int .i64 0,.int .i64 0,.int .i64 0,.bool false,.string ⟨#[]⟩,.slice na 0 nc])
 have HB3:=lhi ((Amf w2.heap.size w2).alloc (Ama _) (.cells #[.int .i64 0,.int .i64 0,.int .i64 0,.bool false,.string ⟨#[]⟩,.slice na 0 nc] 41))
 obtain⟨P,hP⟩: ∃P:PV,P=⟨Vg,.nilIface,true,Aq,tc⟩:=⟨_,rfl⟩
 rw[<-hP]at HF3
 obtain⟨ps,hps⟩:=yy ((List.replicate 2 Bx).set 0 P)
 rw[<-hps]at HF3
 have hpl:ps.length=2:=by rw[hps];simp
 have HPL:=lhi hpl
 have HST:=lhi (Aig HF3.out (fun c hc=>by
  rw[hpl]at hc
  subst hps
  rcases(by omega:c=0∨c=1)with rfl | rfl
  ·simp[hP]
  ·simp[Bx]) Abi (by omega) Ahv.fit Ahj (by decide) Ald (fun _=>⟨#[]⟩) (fun c k hc hk=>by
   rw[Oh.2 c k (by omega) hk];omega) (fun i hi=>by
   rw[List.mem_singleton.1 hi];omega) (by rw[hpl];exact Ale s))
 clear hP hps hpl
 go_upto_region 6 with(go_at_call 19;refine HST.out.mono ?_;rintro e w4 ⟨⟨iv,ov,mv,ev,S,rfl,hst,his⟩,hf4,hk4⟩;rw[HPL.out]at his;obtain rfl:=Air his;have HS4:=lhi hst.stm;have HK4:=lhi hk4;obtain⟨iA,icap,rfl,-⟩:=hst.ino;obtain⟨oA,ocap,rfl,-⟩:=hst.opn;obtain⟨mA,mcap,rfl,-⟩:=hst.mad;clear hst his hf4 hk4 HST)
 obtain⟨rb,hrb⟩: ∃x,x=w2.heap.size:=⟨_,rfl⟩
 have HR4:=lhi (Blk.of_heap (HK4.out.k.k.block rb (by rw[hrb];exact ins.new _ _)) (show Blk _ rb _ _ by rw[hrb];exact HR3.out))
 rw[<-hrb]
 clear hrb
 obtain⟨sb,hsb⟩: ∃x,x=w4.heap.size:=⟨_,rfl⟩
 obtain⟨w5,hw5⟩: ∃x,x=w4.alloc (.cells #[.slice iA SA.inodes.length icap,.slice oA SA.opens.length ocap,.slice mA SA.made.length mcap] 30):=⟨_,rfl⟩
 have HB5:=lhi (show Below w4.heap.size w4 w5 by rw[hw5];exact(Amf _ _).alloc (Ama _) _)
 have HS5:=lhi (HS4.out.keep HB5.out)
 have HX5:=lhi (show Blk w5 sb 30 _ by rw[hw5,hsb];exact Blk.new w4 30 #[.slice iA SA.inodes.length icap,.slice oA SA.opens.length ocap,.slice mA SA.made.length mcap])
 have HR5:=lhi (Blk.of_heap (HB5.out.block _ HR4.out.lt) HR4.out)
 rw[<-hsb,<-hw5]
 clear hw5 hsb
 have HFD:=lhi (show Calls Tryz.prog 21 #[.agg #[.slice iA SA.inodes.length icap,.slice oA SA.opens.length ocap,.slice mA SA.made.length mcap],.string ⟨#[47,97]⟩] w5 fun e w'=>e= .returned (.tuple #[.int .i64 2,.int .i64 0])/\Below w5.heap.size w5 w' from by
  have h:=Acl HS5.out Ahd (path:=Acw) (by decide)
  rw[Alb]at h
  exact h)
 have s0:w5.cell? ⟨sb,0,none⟩=some (.slice iA SA.inodes.length icap):=HX5.out.cell 0
 have s1:w5.cell? ⟨sb,1,none⟩=some (.slice oA SA.opens.length ocap):=HX5.out.cell 1
 have s2:w5.cell? ⟨sb,2,none⟩=some (.slice mA SA.made.length mcap):=HX5.out.cell 2
 go_upto_region 7 with(go_at_call 21;refine HFD.out.mono ?_;rintro e w6 ⟨rfl,hb6⟩;have HB6:=lhi hb6;clear hb6 HFD)
 clear s0 s1 s2
 have HS6:=lhi (HS5.out.keep HB6.out)
 have HX6:=lhi (Blk.of_heap (HB6.out.block _ HX5.out.lt) HX5.out)
 have HR6:=lhi (Blk.of_heap (HB6.out.block _ HR5.out.lt) HR5.out)
 have HMY:=lhi (Of HS6.out Ahd)
 have r0:w6.cell? ⟨rb,0,none⟩=some (.int .i64 0):=HR6.out.cell 0
 have s0:w6.cell? ⟨sb,0,none⟩=some (.slice iA SA.inodes.length icap):=HX6.out.cell 0
 have s1:w6.cell? ⟨sb,1,none⟩=some (.slice oA SA.opens.length ocap):=HX6.out.cell 1
 have s2:w6.cell? ⟨sb,2,none⟩=some (.slice mA SA.made.length mcap):=HX6.out.cell 2
 go_wp2_with (first
  | (go_at_call 9;refine(Gx _ _).mono ?_;rintro e w' ⟨rfl,rfl⟩)
  | (go_at_call 22;refine HMY.out.mono ?_;rintro e w7 ⟨rfl,hb7⟩;have HB7:=lhi hb7;have HX7:=lhi (Blk.of_heap (hb7.block _ HX6.out.lt) HX6.out);have HC7:=lhi (Akv (HS6.out.keep hb7));clear hb7 HMY;have t0:w7.cell? ⟨sb,0,none⟩=some (.slice iA SA.inodes.length icap):=HX7.out.cell 0;have t1:w7.cell? ⟨sb,1,none⟩=some (.slice oA SA.opens.length ocap):=HX7.out.cell 1;have t2:w7.cell? ⟨sb,2,none⟩=some (.slice mA SA.made.length mcap):=HX7.out.cell 2)
  | (go_at_call 24;refine HC7.out.mono ?_;rintro e w8 ⟨rfl,hb8⟩;have HB8:=lhi hb8;clear hb8))
 go_ret
 have k2:Below w.heap.size w1 w2:=⟨HK2.out.k.os,HK2.out.k.tape,HK2.out.k.output,HK2.out.k.size,fun b hb=>HK2.out.k.block b hb⟩
 have z1:=HB1.out.size
 have z2:=k2.size
 have k3:=HB3.out.mono (show w.heap.size<=w2.heap.size by omega)
 have k4:Below w.heap.size (w2.alloc (.cells #[.int .i64 0,.int .i64 0,.int .i64 0,.bool false,.string ⟨#[]⟩,.slice na 0 nc] 41)) w4:=⟨HK4.out.k.k.os,HK4.out.k.k.tape,HK4.out.k.k.output,HK4.out.size,fun b hb=>HK4.out.k.k.block b (ins.old hb)⟩
 have z3:=k3.size
 have z4:=k4.size
 have z5:=HB5.out.size
 have z6:=HB6.out.size
 have z7:=HB7.out.size
 exact⟨rfl,HB1.out.trans (k2.trans (k3.trans (k4.trans ((HB5.out.mono (by omega)).trans ((HB6.out.mono (by omega)).trans ((HB7.out.mono (by omega)).trans (HB8.out.mono (by omega))))))))⟩
theorem Oa(a:Addr)(n:Nat):(a.add n).block=a.block:=by unfold Addr.add;split <;> rfl
theorem Acj(a:Addr)(i j:Nat):(a.add i).add j=a.add (i+j):=by
 unfold Addr.add
 by_cases hi:i=0 <;> by_cases hj:j=0 <;> simp[hi,hj,Nat.add_assoc]
def Dd(w:World)(B size:Nat)(A:Option Addr)(n:Nat)(xs:List Value):Prop:=
 xs.length=n*size/\ (0<n-> ∃ad,A=some ad/\ad.block<B/\ ∀j u,xs[j]? =some u->w.cell? (ad.add j)=some u)
section
variable{w w':World}{B B' size n:Nat}{A:Option Addr}{xs:List Value}
theorem Dd.at_{k:Nat}(h:Dd w B 1 A n xs)(hk:k<n): ∃ad u,A=some ad/\ad.block<B/\xs[k]? =some u/\w.cell? (ad.add k)=some u:=by
 obtain⟨ad,e,hb,hc⟩:=h.2 (by omega)
 have hl:k<xs.length:=by have:=h.1;omega
 exact⟨ad,xs[k],e,hb,Amh hl,hc k _ (Amh hl)⟩
theorem Dd.keep(h:Dd w B size A n xs)(hk: ∀p:Addr,p.block<B->w'.cell? p=w.cell? p):Dd w' B size A n xs:=
 ⟨h.1,fun hn=>by
  obtain⟨ad,e,hb,hc⟩:=h.2 hn
  exact⟨ad,e,hb,fun j u hu=>(hk _ (by rw[Oa];exact hb)).trans (hc j u hu)⟩⟩
theorem Dd.more(h:Dd w B size A n xs)(hB:B<=B'):Dd w B' size A n xs:=
 ⟨h.1,fun hn=>by
  obtain⟨ad,e,hb,hc⟩:=h.2 hn
  exact⟨ad,e,by omega,hc⟩⟩
theorem Dd.below(h:Dd w B size A n xs)(hb:Below B w w'):Dd w' B size A n xs:=h.keep fun _ hp=>hb.cell hp
theorem Dd.drew(h:Dd w B size A n xs):Dd w.drew B size A n xs:=h
theorem Dd.drewN(h:Dd w B size A n xs)(k:Nat):Dd (w.drewN k) B size A n xs:=h
theorem Dd.alloc(h:Dd w B size A n xs)(hB:B<=w.heap.size)(o:Obj):Dd (w.alloc o) B size A n xs:=h.keep fun p hp=>World.cell?_alloc_lt w o p (by omega)
theorem Dd.setCell(h:Dd w B size A n xs){p:Addr}(hB:B<=p.block)(u:Value):Dd (w.setCell p u) B size A n xs:=
 h.keep fun q hq=>World.cell?_setCell_other w p q u (fun e=>by subst e;omega)
theorem Dd.grown(h:Dd w B size A n xs){row:Option Nat}(hg:w.grownBy w' row)(hB:B<=w.heap.size)(hr: ∀g,row=some g->B<=g):Dd w' B size A n xs:=
 h.keep fun p hp=>World.cell?_of_block (hg.block p.block (by omega) (fun e=>by have:=hr _ e.symm;omega))
theorem Dd.cut(h:Dd w B size A n xs){k cap:Nat}(hk:k<=n)(hc:n<=cap):
  Dd w B size (if cap=k then A else A.map (·.add (k*size))) (n - k) (xs.drop (k*size)):=by
 refine⟨by rw[List.length_drop,h.1,Nat.sub_mul],fun hn=>?_⟩
 obtain⟨ad,rfl,hb,hcell⟩:=h.2 (by omega)
 rw[if_neg (by omega)]
 refine⟨ad.add (k*size),rfl,by rw[Oa];exact hb,fun j u hu=>?_⟩
 rw[Acj]
 exact hcell _ u (by rw[<-hu,List.getElem?_drop])
end
section
variable{P:Program}(w:World)
end
section
variable{w w':World}{B size n k:Nat}{A:Option Addr}{xs:List Value}
end
def nth(xs:List Int)(k:Nat):Int:=xs.getD k 0
def Ints(w:World)(A:Option Addr)(len cap:Nat)(xs:List Int):Prop:=
 xs.length=len/\len<=cap/\cap<=maxLen/\ (∀x∈xs,-9223372036854775808<=x/\x<=9223372036854775807)/\
 (0<len-> ∃g off,A=some ⟨g,off,none⟩/\ ∀j,j<len->w.cell? ⟨g,off+j,none⟩=some (.int .i64 (nth xs j)))
theorem Ints.nil_(w:World):Ints w none 0 0 []:=⟨rfl,Ama _,Nat.zero_le _,by simp,fun h=>absurd h (by omega)⟩
theorem Ints.at_{w wr:World}{A:Option Addr}{len cap k:Nat}{xs:List Int}(h:Ints w A len cap xs)(hk:k<len)(hb:Below w.heap.size w wr):
  ∃g off,A=some ⟨g,off,none⟩/\wr.cell? ⟨g,off+k,none⟩=some (.int .i64 (nth xs k))/\ -9223372036854775808<=nth xs k/\nth xs k<=9223372036854775807:=by
 obtain⟨h1,_,_,h3,h4⟩:=h
 obtain⟨g,off,hA,hc⟩:=h4 (by omega)
 have hc':=hc k hk
 refine⟨g,off,hA,(hb.cell (Amd w _ hc')).trans hc',?_⟩
 have hm:nth xs k∈xs:=by
  unfold nth
  rw[Ame,Amh (by omega)]
  exact List.getElem_mem _
 exact h3 _ hm
def Dn(xs:List Int):Prop:=xs.Pairwise (· < ·)
theorem Ov{xs:List Int}{j:Nat}(h:j<xs.length):nth xs j=xs[j]:=by
 unfold nth
 rw[Ame,Amh h];rfl
theorem Dn.lt{xs:List Int}(h:Dn xs){i j:Nat}(hij:i<j)(hj:j<xs.length):nth xs i<nth xs j:=by
 rw[Ov (by omega),Ov hj]
 exact List.pairwise_iff_getElem.1 h i j (by omega) hj hij
theorem Dn.nil:Dn []:=List.Pairwise.nil
def Hi(xs:List Int)(x:Int)(j:Nat):Prop:=∀i,j<=i->i<xs.length->x<nth xs i
theorem Hi.down{xs:List Int}{x:Int}{j:Nat}(h:Hi xs x (j+1))(hj:x<nth xs j):Hi xs x j:=fun i h1 h2=>by
 by_cases e:i=j
 ·subst e;exact hj
 ·exact h i (by omega) h2
def put(xs:List Int)(x:Int)(j:Nat):List Int:=xs.take j++x::xs.drop j
theorem Rm{xs:List Int}{x:Int}{j:Nat}(hj:j<=xs.length):(put xs x j).length=xs.length+1:=by
 simp[put];omega
theorem Ai5{xs:List Int}{x:Int}{j:Nat}(y:Int):y∈put xs x j↔y=x∨y∈xs:=by
 unfold put
 rw[List.mem_append,List.mem_cons]
 have h:=List.take_append_drop j xs
 constructor
 ·rintro(h1 | h1 | h1)
  ·exact .inr (List.mem_of_mem_take h1)
  ·exact .inl h1
  ·exact .inr (List.mem_of_mem_drop h1)
 ·rintro(h1 | h1)
  ·exact .inr (.inl h1)
  ·rw[<-h,List.mem_append]at h1
   rcases h1 with h1 | h1
   ·exact .inl h1
   ·exact .inr (.inr h1)
theorem Dn.put{xs:List Int}{x:Int}{j:Nat}(h:Dn xs)(hj:j<=xs.length)(hlo:0<j->nth xs (j - 1)<x)(hhi:Hi xs x j):Dn (put xs x j):=by
 have lo: ∀y∈xs.take j,y<x:=by
  intro y hy
  obtain⟨i,hi,rfl⟩:=List.getElem_of_mem hy
  rw[List.length_take]at hi
  rw[List.getElem_take]
  by_cases e:i=j - 1
  ·have:=hlo (by omega)
   rw[Ov (by omega)]at this
   subst e;exact this
  ·have h1:=h.lt (i:=i) (j:=j - 1) (by omega) (by omega)
   have h2:=hlo (by omega)
   rw[Ov (by omega)]at h1
   omega
 have hi: ∀y∈xs.drop j,x<y:=by
  intro y hy
  obtain⟨i,hi,rfl⟩:=List.getElem_of_mem hy
  rw[List.length_drop]at hi
  rw[List.getElem_drop,<-Ov (by omega)]
  exact hhi (j+i) (by omega) (by omega)
 unfold Proofs.YtkebjgebkneijaaGreat.put
 refine List.pairwise_append.2 ⟨List.Pairwise.sublist (List.take_sublist _ _) h,List.pairwise_cons.2 ⟨hi,List.Pairwise.sublist (List.drop_sublist _ _) h⟩,?_⟩
 intro y hy z hz
 rcases List.mem_cons.1 hz with rfl | hz
 ·exact lo y hy
 ·have h1:=lo y hy
  have h2:=hi z hz
  omega
theorem Dn.ext{xs ys:List Int}(h:Dn xs)(h':Dn ys)(hm: ∀y,y∈xs↔y∈ys):xs=ys:=by
 induction xs generalizing ys with
 | nil=>
  cases ys with
  | nil=>rfl
  | cons y ys=>exact absurd ((hm y).2 (Amb ..)) (by simp)
 | cons x xs ih=>
  cases ys with
  | nil=>exact absurd ((hm x).1 (Amb ..)) (by simp)
  | cons y ys=>
   obtain⟨hx,hxs⟩:=List.pairwise_cons.1 h
   obtain⟨hy,hys⟩:=List.pairwise_cons.1 h'
   have e:x=y:=by
    rcases List.mem_cons.1 ((hm x).1 (Amb ..))with e | e
    ·exact e
    ·rcases List.mem_cons.1 ((hm y).2 (Amb ..))with e2 | e2
     ·exact e2.symm
     ·have:=hx y e2
      have:=hy x e
      omega
   subst e
   congr 1
   refine ih hxs hys fun z=>⟨fun hz=>?_,fun hz=>?_⟩
   ·rcases List.mem_cons.1 ((hm z).1 (Amc _ hz))with e | e
    ·have:=hx z hz;omega
    ·exact e
   ·rcases List.mem_cons.1 ((hm z).2 (Amc _ hz))with e | e
    ·have:=hy z hz;omega
    ·exact e
structure WSt (t:List (Int×Bool)) (b:Bool) (us:List Int):Prop where
 len:us.length<=t.length
 up:Dn us
 mem: ∀y,y∈us↔ ∃x∈t,(b=true->x.2=true)/\x.1=y
theorem WSt.nil(b:Bool):WSt [] b []:=⟨Nat.le_refl _,Dn.nil,by simp⟩
theorem WSt.skip{t:List (Int×Bool)}{b:Bool}{us:List Int}(h:WSt t b us){x:Int×Bool}(hb:b=true)(hx:x.2=false):WSt (t++[x]) b us:=by
 refine⟨by have:=h.len;simp;omega,h.up,fun y=>?_⟩
 rw[h.mem]
 constructor
 ·rintro⟨z,h1,h2⟩;exact⟨z,List.mem_append_left _ h1,h2⟩
 ·rintro⟨z,h1,h2,h3⟩
  rcases List.mem_append.1 h1 with h1 | h1
  ·exact⟨z,h1,h2,h3⟩
  ·rw[List.mem_singleton.1 h1,hx]at h2
   exact absurd (h2 hb) (by simp)
theorem WSt.same{t:List (Int×Bool)}{b:Bool}{us:List Int}(h:WSt t b us){x:Int×Bool}(hx:x.1∈us):WSt (t++[x]) b us:=by
 refine⟨by have:=h.len;simp;omega,h.up,fun y=>?_⟩
 constructor
 ·intro hy
  obtain⟨z,h1,h2⟩:=(h.mem y).1 hy
  exact⟨z,List.mem_append_left _ h1,h2⟩
 ·rintro⟨z,h1,h2,h3⟩
  rcases List.mem_append.1 h1 with h1 | h1
  ·exact(h.mem y).2 ⟨z,h1,h2,h3⟩
  ·rw[List.mem_singleton.1 h1]at h3
   rw[<-h3];exact hx
theorem WSt.put{t:List (Int×Bool)}{b:Bool}{us:List Int}(h:WSt t b us){x:Int×Bool}(hb:b=true->x.2=true){j:Nat}(hj:j<=us.length)(hlo:0<j->nth us (j - 1)<x.1)(hhi:Hi us x.1 j):WSt (t++[x]) b (put us x.1 j):=by
 refine⟨by have:=h.len;rw[Rm hj];simp;omega,h.up.put hj hlo hhi,fun y=>?_⟩
 rw[Ai5,h.mem]
 constructor
 ·rintro(e | ⟨z,h1,h2⟩)
  ·exact⟨x,by simp,hb,e.symm⟩
  ·exact⟨z,List.mem_append_left _ h1,h2⟩
 ·rintro⟨z,h1,h2,h3⟩
  rcases List.mem_append.1 h1 with h1 | h1
  ·exact .inr ⟨z,h1,h2,h3⟩
  ·rw[List.mem_singleton.1 h1]at h3
   exact .inl h3.symm
theorem Aer:(Tryz.prog.info? 3).map (fun i=>(i.zero,i.size,i.bytes))=some (some (.int .i64 0),1,8):=by kernel_rfl
theorem Ajf{xs:List Int}{k:Nat}(h:k<xs.length):(xs.map (Value.int .i64))[k]? =some (.int .i64 (nth xs k)):=by
 rw[List.getElem?_map,Amh h,Ov h];rfl
def Cq(w:World)(B:Nat)(v:Value)(us:List Int):Prop:=w.ownsRow B 3 1 v us.length (us.map (Value.int .i64))
theorem Cq.nil(w:World)(B:Nat):Cq w B (.slice none 0 0) []:=World.ownsRow_nil _ _ _ _
theorem Cq.form{w:World}{B:Nat}{v:Value}{us:List Int}(h:Cq w B v us): ∃A cap,v= .slice A us.length cap/\us.length<=cap/\cap<=maxLen/\ (0<us.length-> ∃g,A=some ⟨g,0,none⟩/\B<=g/\ ∀j,j<us.length->w.cell? ⟨g,j,none⟩=some (.int .i64 (nth us j))/\w.frozen? ⟨g,j,none⟩=false):=by
 have h':=h
 rcases h.2 with⟨rfl,h0⟩ | ⟨g,cap,cur,rfl,hb,hg,hnc,hcm,_⟩
 ·exact⟨none,0,by rw[h0],by omega,by simp[maxLen],fun h=>absurd h (by omega)⟩
 ·refine⟨some ⟨g,0,none⟩,cap,rfl,hnc,hcm,fun _=>⟨g,rfl,hb,fun j hj=>⟨?_,Blk.frozen (t:=3) hg j⟩⟩⟩
  have:=h.cells (g:=g) rfl j _ (Ajf hj)
  rw[Addr.add_lit,Nat.zero_add]at this
  exact this
theorem Cq.sl{w:World}{B:Nat}{v:Value}{us:List Int}(h:Cq w B v us):Sl w 1 v us.length (us.map (Value.int .i64)):=Sl.ofOwn h
theorem Cq.drewN{w:World}{B:Nat}{v:Value}{us:List Int}(h:Cq w B v us)(d:Nat):Cq (w.drewN d) B v us:=h
structure WdAt (t:List Acc) (b:Bool) (w:World) (v:Value) (k:Nat) (wr:World) (us:List Int):Prop where
 st:WSt (t.take k) b us
 own:Cq wr w.heap.size v us
 keeps:Below w.heap.size w wr
theorem WdAt.start(t:List Acc)(b:Bool)(w:World):WdAt t b w (.slice none 0 0) 0 w []:=⟨WSt.nil b,Cq.nil _ _,Amf _ _⟩
theorem Hg{t:List Acc}{k:Nat}(h:k<t.length):t.take (k+1)=t.take k++[t[k]]:=List.take_succ_eq_append_getElem h
theorem Gv{B:Nat}{a w:World}(h:Below B a w)(n:Nat):Below B a (w.drewN n):=⟨h.os,h.tape,h.output,h.size,h.block⟩
theorem WdAt.skip{t:List Acc}{b:Bool}{w wr:World}{v:Value}{k:Nat}{us:List Int}(h:WdAt t b w v k wr us)(hk:k<t.length)(hb:b=true)(hx:t[k].2=false)(d:Nat):WdAt t b w v (k+1) (wr.drewN d) us:=
 ⟨by rw[Hg hk];exact h.st.skip hb hx,h.own,Gv h.keeps d⟩
theorem WdAt.same{t:List Acc}{b:Bool}{w wr:World}{v:Value}{k:Nat}{us:List Int}(h:WdAt t b w v k wr us)(hk:k<t.length)(hx:t[k].1∈us)(d:Nat):WdAt t b w v (k+1) (wr.drewN d) us:=
 ⟨by rw[Hg hk];exact h.st.same hx,h.own,Gv h.keeps d⟩
theorem WdAt.put{t:List Acc}{b:Bool}{w wr w':World}{v v':Value}{k j n:Nat}{us:List Int}(h:WdAt t b w v k wr us)(hk:k<t.length)(hb:b=true->t[k].2=true)(hj:j<=us.length)(hlo:0<j->nth us (j - 1)<t[k].1)(hhi:Hi us t[k].1 j)
  (hown:w'.ownsRow w.heap.size 3 1 v' n ((us.take j).map (Value.int .i64)++[.int .i64 t[k].1]++(us.drop j).map (Value.int .i64))) (hn:n=us.length+1) (hB:Below w.heap.size w w'):WdAt t b w v' (k+1) w' (put us t[k].1 j):=by
 refine⟨by rw[Hg hk];exact h.st.put hb hj hlo hhi,?_,hB⟩
 unfold Cq
 rw[Rm hj,<-hn]
 simpa[Proofs.YtkebjgebkneijaaGreat.put]using hown
def lo(L:Nat->Prop)(v:Value):Nat->Prop:=fun b=>L b∨v.ownBlock=some b
section
variable{L:Nat->Prop}{w w':World}{a:Nat}{ws:List Int}{n m:Nat}{P:List (List Acc)->Prop}
theorem ArP.grown{v v':Value}(h:ArP (lo L v) w a ws n m P)(hg:w.grownBy w' v.ownBlock)(hv: ∀g,v'.ownBlock=some g->(v.ownBlock=some g∨w.heap.size<=g)/\g<w'.heap.size):ArP (lo L v') w' a ws n m P:=
 h.map fun _ h=>h.move (fun b hb=>by
  rcases hb with hb | hb
  ·exact Amk (h.bd b (.inl hb)) hg.size
  ·exact(hv b hb).2) (fun b hb hlt=>by
  rcases hb with hb | hb
  ·exact .inl hb
  ·rcases(hv b hb).1 with e | e
   ·exact .inr e
   ·omega) (fun b hlt hn=>hg.block b hlt (fun e=>hn (.inr e.symm)))
end
def Own(w:World)(g k:Nat):Prop:=∃cur:Array Value,Blk w g 3 cur/\k<=cur.size/\ ∀j,j<k-> ∃x:Int,cur[j]? =some (.int .i64 x)
theorem Own.cell{w:World}{g k:Nat}(h:Own w g k){j:Nat}(hj:j<k): ∃x:Int,w.cell? ⟨g,j,none⟩=some (.int .i64 x):=by
 obtain⟨cur,hb,_,hc⟩:=h
 obtain⟨x,hx⟩:=hc j hj
 exact⟨x,(hb.cell j).trans hx⟩
theorem Own.frozen{w:World}{g k:Nat}(h:Own w g k)(j:Nat):w.frozen? ⟨g,j,none⟩=false:=by
 obtain⟨cur,hb,_⟩:=h
 exact hb.frozen j
theorem Own.set{w:World}{g k:Nat}(h:Own w g k){j:Nat}(hj:j<k)(x:Int):Own (w.setCell ⟨g,j,none⟩ (.int .i64 x)) g k:=by
 obtain⟨cur,hb,hs,hc⟩:=h
 refine⟨_,hb.set_ j _,by simpa using hs,fun i hi=>?_⟩
 by_cases e:j=i
 ·subst e
  exact⟨x,by simp[show j<cur.size by omega]⟩
 ·obtain⟨y,hy⟩:=hc i hi
  exact⟨y,by rw[Array.getElem?_setIfInBounds,if_neg e];exact hy⟩
def Dm(xs ys:List Int):Bool:=xs.any fun x=>ys.any fun y=>x==y
theorem Er{xs ys:List Int}:Dm xs ys=true↔ ∃x,x∈xs/\x∈ys:=by
 unfold Dm
 rw[List.any_eq_true]
 constructor
 ·rintro⟨x,hx,h⟩
  obtain⟨y,hy,e⟩:=List.any_eq_true.1 h
  obtain rfl:x=y:=by simpa using e
  exact⟨x,hx,hy⟩
 ·rintro⟨x,hx,hy⟩
  exact⟨x,hx,List.any_eq_true.2 ⟨x,hy,by simp⟩⟩
theorem Aei(xs:List Int):Dm xs []=false:=by
 rcases Bool.eq_false_or_eq_true (Dm xs [])with h | h
 ·obtain⟨x,_,hx⟩:=Er.1 h;cases hx
 ·exact h
theorem Abn(x:Int)(xs ys:List Int):Dm (x::xs) (x::ys)=true:=Er.2 ⟨x,Amb ..,Amb ..⟩
theorem Rv{x y:Int}{xs ys:List Int}(h:x<y)(hy:Dn (y::ys)):Dm (x::xs) (y::ys)=Dm xs (y::ys):=by
 rw[Bool.eq_iff_iff,Er,Er]
 constructor
 ·rintro⟨z,hz,hz2⟩
  rcases List.mem_cons.1 hz with rfl | hz
  ·rcases List.mem_cons.1 hz2 with e | hz2
   ·omega
   ·have:=(List.pairwise_cons.1 hy).1 z hz2
    omega
  ·exact⟨z,hz,hz2⟩
 ·rintro⟨z,hz,hz2⟩
  exact⟨z,Amc _ hz,hz2⟩
theorem Rx(xs ys:List Int):Dm xs ys=Dm ys xs:=by
 rw[Bool.eq_iff_iff,Er,Er]
 exact⟨fun⟨x,h1,h2⟩=>⟨x,h2,h1⟩,fun⟨x,h1,h2⟩=>⟨x,h2,h1⟩⟩
theorem Yt{x y:Int}{xs ys:List Int}(h:y<x)(hx:Dn (x::xs)):Dm (x::xs) (y::ys)=Dm (x::xs) ys:=by
 rw[Rx,Rv h hx,Rx]
theorem Kl{a b:Bool}(h:a=b):Ending.returned (.bool a)= .returned (.bool b):=by rw[h]
def slen:Value->Nat
 | .slice _ n _=>n
 | _=>0
theorem Sl.tail{w:World}{x:Int}{xs:List Int}{g off cap:Nat}(h: ∀j u,((x::xs).map (Value.int .i64))[j]? =some u->w.cell? ⟨g,off+j,none⟩=some u)(hc:xs.length+1<=cap):
  Sl w 1 (.slice (some ⟨g,off+1,none⟩) xs.length (cap - 1)) xs.length (xs.map (Value.int .i64)):=by
 refine⟨by simp,_,_,rfl,by omega,fun _=>⟨g,off+1,rfl,fun j u hu=>?_⟩⟩
 have:=h (j+1) u (by simpa using hu)
 rw[show off+1+j=off+ (j+1)by omega]
 exact this
theorem Sl.empty{w:World}(A:Option Addr)(cap:Nat):Sl w 1 (.slice A 0 cap) 0 []:=⟨rfl,A,cap,rfl,by omega,fun h=>absurd h (by omega)⟩
theorem Wo(us vs:List Int)(v v':Value)(w:World)(h:Sl w 1 v us.length (us.map (Value.int .i64)))(h':Sl w 1 v' vs.length (vs.map (Value.int .i64)))(hu:Dn us)(hv:Dn vs)(hcp: ∀A n c,v= .slice A n c->c<=9223372036854775807)(hcp': ∀A n c,v'= .slice A n c->c<=9223372036854775807):
  Calls Tryz.prog 34 #[v,v'] w fun e w'=>e= .returned (.bool (Dm us vs))/\ ∃d,w'=w.drewN d:=by
 have H:=lhi (show∃xs ys:List Int,Sl w 1 v xs.length (xs.map (Value.int .i64))/\Sl w 1 v' ys.length (ys.map (Value.int .i64))/\Dn xs/\Dn ys/\Dm xs ys=Dm us vs/\xs.length<=us.length/\ys.length<=vs.length/\ (∀A n c,v= .slice A n c->c<=9223372036854775807)/\ (∀A n c,v'= .slice A n c->c<=9223372036854775807)from⟨us,vs,h,h',hu,hv,rfl,Ama _,Ama _,hcp,hcp'⟩)
 clear h h' hu hv hcp hcp'
 go_enter Tryz.func34,Tryz.ntmps34
 go_wp2
 go_loopw [0,1] (fun a b wr=>(∃xs ys:List Int,Sl w 1 a xs.length (xs.map (Value.int .i64))/\Sl w 1 b ys.length (ys.map (Value.int .i64))/\Dn xs/\Dn ys/\Dm xs ys=Dm us vs/\xs.length<=us.length/\ys.length<=vs.length/\ (∀A n c,a= .slice A n c->c<=9223372036854775807)/\ (∀A n c,b= .slice A n c->c<=9223372036854775807))/\ ∃d,wr=w.drewN d) (fun a b _=>slen a+slen b)
 case atStart=>exact⟨H.out,0,rfl⟩
 case round=>
  obtain⟨⟨xs,ys,⟨_,A,cap,rfl,hc,hx⟩,⟨_,A',cap',rfl,hc',hy⟩,rx,ry,hm,lx,ly,cx,cy⟩,d,rfl⟩:=hrel
  have kx:=cx _ _ _ rfl
  have ky:=cy _ _ _ rfl
  clear cx cy
  have HX:=lhi hx
  have HY:=lhi hy
  have RX:=lhi rx
  have RY:=lhi ry
  have HM:=lhi hm
  clear hx hy rx ry hm H
  rcases xs with _ | ⟨x,xs⟩
  ·have HM:=lhi (show false=Dm us vs from HM.out)
   go_wp2
   go_ret
   exact⟨Kl HM.out,_,rfl⟩
  rcases ys with _ | ⟨y,ys⟩
  ·have HM:=lhi (show false=Dm us vs by rw[<-HM.out,Aei])
   simp only[List.length_cons]at*
   go_wp2
   go_ret
   exact⟨Kl HM.out,_,rfl⟩
  ·simp only[List.length_cons]at*
   obtain⟨g,off,rfl,hcx⟩:=HX.out (by omega)
   obtain⟨g',off',rfl,hcy⟩:=HY.out (by omega)
   have q1:w.cell? ⟨g,off,none⟩=some (.int .i64 x):=hcx 0 _ rfl
   have q2:w.cell? ⟨g',off',none⟩=some (.int .i64 y):=hcy 0 _ rfl
   have HCX:=lhi hcx
   have HCY:=lhi hcy
   clear HX HY hcx hcy
   by_cases e:x=y
   ·have HM:=lhi (show true=Dm us vs by rw[<-HM.out,e,Abn])
    have e1:(x==y)=true:=by simpa using e
    clear e
    go_wp2
    go_quiet (fail)
    go_wp2
    go_ret
    exact⟨Kl HM.out,_,World.drewN_drewN _ _ _⟩
   ·have e1:(x==y)=false:=by simpa using e
    by_cases e2:x<y
    ·have HM:=lhi (show Dm xs (y::ys)=Dm us vs by rw[<-HM.out,Rv e2 RY.out])
     have HR:=lhi (List.pairwise_cons.1 RX.out).2
     have HYY:=lhi (show Sl w 1 (.slice (some ⟨g',off',none⟩) (ys.length+1) cap') (y::ys).length ((y::ys).map (Value.int .i64))from⟨by simp,_,_,rfl,hc',fun _=>⟨g',off',rfl,HCY.out⟩⟩)
     clear e
     by_cases ec:cap=1
     ·obtain rfl:xs=[]:=List.eq_nil_of_length_eq_zero (by omega)
      subst ec
      go_wp2
      go_quiet (fail)
      go_wp2
      go_quiet (fail)
      go_wp2
      go_roundw
      case rel=>exact⟨⟨[],y::ys,Sl.empty _ _,HYY.out,Dn.nil,RY.out,HM.out,by simp,ly,fun A n c h=>by cases h;omega,fun A n c h=>by cases h;exact ky⟩,_,rfl⟩
      case measure=>simp[slen]
     ·have HXX:=lhi (Sl.tail (cap:=cap) HCX.out (by omega))
      have hcc:1<cap:=by omega
      go_wp2
      go_quiet (fail)
      go_wp2
      go_quiet (fail)
      go_wp2
      go_roundw
      case rel=>exact⟨⟨xs,y::ys,HXX.out,HYY.out,HR.out,RY.out,HM.out,by omega,ly,fun A n c h=>by cases h;omega,fun A n c h=>by cases h;exact ky⟩,_,rfl⟩
      case measure=>simp[slen]
    ·have e3:y<x:=by omega
     have HM:=lhi (show Dm (x::xs) ys=Dm us vs by rw[<-HM.out,Yt e3 RX.out])
     have HR:=lhi (List.pairwise_cons.1 RY.out).2
     have HXX:=lhi (show Sl w 1 (.slice (some ⟨g,off,none⟩) (xs.length+1) cap) (x::xs).length ((x::xs).map (Value.int .i64))from⟨by simp,_,_,rfl,hc,fun _=>⟨g,off,rfl,HCX.out⟩⟩)
     clear e e3
     by_cases ec:cap'=1
     ·obtain rfl:ys=[]:=List.eq_nil_of_length_eq_zero (by omega)
      subst ec
      go_wp2
      go_quiet (fail)
      go_wp2
      go_quiet (fail)
      go_wp2
      go_roundw
      case rel=>exact⟨⟨x::xs,[],HXX.out,Sl.empty _ _,RX.out,Dn.nil,HM.out,lx,by simp,fun A n c h=>by cases h;exact kx,fun A n c h=>by cases h;omega⟩,_,rfl⟩
      case measure=>simp[slen]
     ·have HYY:=lhi (Sl.tail (cap:=cap') HCY.out (by omega))
      have hcc:1<cap':=by omega
      go_wp2
      go_quiet (fail)
      go_wp2
      go_quiet (fail)
      go_wp2
      go_roundw
      case rel=>exact⟨⟨x::xs,ys,HXX.out,HYY.out,RX.out,HR.out,HM.out,lx,by omega,fun A n c h=>by cases h;exact kx,fun A n c h=>by cases h;omega⟩,_,rfl⟩
      case measure=>simp[slen]
end Go.Proofs.YtkebjgebkneijaaGreat
