/- Texts of one's own that a claim's last text rests on: Mq1 Mr4 Mr5 Mr6 Pk Mr7 Bz Rnd Tm2. -/
import Derived.Test.YtkebjgebkneijaaGreatMG30
import Derived.Test.YtkebjgebkneijaaGreatMG16
import Derived.Test.YtkebjgebkneijaaGreatMG27
import Derived.Test.YtkebjgebkneijaaGreatMG29
import Derived.Test.YtkebjgebkneijaaGreatMG24
import Derived.Test.YtkebjgebkneijaaGreatMG5
import Derived.Test.YtkebjgebkneijaaGreatMG7
import Derived.Test.YtkebjgebkneijaaGreatMG6
set_option linter.unusedVariables false
set_option linter.unusedSimpArgs false
namespace Go.Proofs.YtkebjgebkneijaaGreat
section
open Go.RowKit
set_option maxHeartbeats 2000000
theorem Kp.setNew{L:Nat->Prop}{w W:World}(h:Kp L w W)(hL:Bd L w){q:Nat}(hq:w.heap.size<=q)(i:Nat)(v:Value):Kp L w (W.setCell ⟨q,i,none⟩ v):=
 ⟨h.k.setCell (p:=⟨q,i,none⟩) (fun hb=>by have:=hL q hb;omega) v,h.i.setNew hq i v⟩
set_option maxRecDepth 1000000 in
theorem alone_ok{L:Nat->Prop}{w:World}{fb s pb:Nat}{M M':Mem}{m:Nat}{ps:List PV}{k:Nat}(h:FsAt L w fb s pb M ps)(hok:(M.clear k).ok m)(hok':M'.ok m)(hm:m<=1000000000)(hk:k<ps.length){cv:CallV}(hc:cv.core=k)(hkind:0<=cv.kind/\cv.kind<=16)(hat:ps[k].at_= .nilIface){r:ResV}(hr:r.na=none/\r.nl=0/\r.nc=0)
  (hl':M'.ts.length=(M.clear k).ts.length) (hle:(tr (M.clear k).ts k).length<= (tr M'.ts k).length) (hwd: ∀y∈tr M'.ts k,0<=y.1/\y.1<=1000000) (hstep: ∀w1,StepC w1 fb s (M.clear k) M' k cv 99 (.agg #[]) r):
  Calls Tryz.prog 10 #[.pointer (some ⟨fb,0,none⟩),.agg cv.cs] w fun e w'=>e= .returned (.tuple #[.agg r.cs,.bool true])/\ (∃tc,FsAt L w' fb s pb M' (ps.set k ⟨cv,.nilIface,true,r,tc⟩))/\Kp L w w':=by
 have h8:=h.tsl
 have hL:Bd L w:=fun b hb=>h.m.bd b (.inl hb)
 obtain⟨kind,core,fd,off,num,path,path2,data⟩:=cv
 have hc:core=k:=hc
 have hkind:0<=kind/\kind<=16:=hkind
 subst hc
 obtain⟨rcode,rfd,rnum,rdir,rdata,rna,rnl,rnc⟩:=r
 obtain⟨rfl,rfl,rfl⟩:rna=none/\rnl=0/\rnc=0:=hr
 obtain⟨w2,hw2⟩: ∃x,x=(w.alloc (.cells #[.int .i64 kind,.int .i64 k,.int .i64 fd,.int .i64 off,.int .i64 num,.string path,.string path2,.string data] 24)).alloc (.cells #[.int .i64 0,.int .i64 0,.int .i64 0,.bool false,.string ⟨#[]⟩,.slice none 0 0] 41):=⟨_,rfl⟩
 have HW:=lhi (show Below w.heap.size w w2 by rw[hw2];exact((Below.refl _ _).alloc (Nat.le_refl _) _).alloc (by simp) _)
 have HA:=lhi (show FsAt (ins (ins L w.heap.size) (w.heap.size+1)) w2 fb s pb M ps by
  rw[hw2]
  have:=(h.allocIns (.cells #[.int .i64 kind,.int .i64 k,.int .i64 fd,.int .i64 off,.int .i64 num,.string path,.string path2,.string data] 24)).allocIns (.cells #[.int .i64 0,.int .i64 0,.int .i64 0,.bool false,.string ⟨#[]⟩,.slice none 0 0] 41)
  simpa using this)
 have HC:=lhi (show Blk w2 w.heap.size 24 #[.int .i64 kind,.int .i64 k,.int .i64 fd,.int .i64 off,.int .i64 num,.string path,.string path2,.string data]by rw[hw2];exact(Blk.new _ _ _).alloc _)
 have HR:=lhi (show Blk w2 (w.heap.size+1) 41 #[.int .i64 0,.int .i64 0,.int .i64 0,.bool false,.string ⟨#[]⟩,.slice none 0 0]by rw[hw2];exact Blk.newAt _ _ _ (by simp))
 have HBG:=lhi (begin_ok HA.out hk (c:=⟨kind,k,fd,off,num,path,path2,data⟩) rfl hkind hat)
 have HLE:=lhi hle
 have HOK:=lhi hok
 have HOK':=lhi hok'
 have HWD:=lhi hwd
 have HSC:=lhi hstep
 have HLT:=lhi hl'
 have HL:=lhi hL
 have HAT:=lhi hat
 have HNF:=lhi (FsR.nf h)
 clear hle hok hok' hwd hstep hl' hL hat h
 simp only[CallV.cs,ResV.cs]at HBG⊢
 go_enter Tryz.func10,Tryz.ntmps10
 go_upto_region 1 with(fail)
 rw[<-hw2]
 obtain⟨p0,hp0⟩: ∃x,x=w.heap.size:=⟨_,rfl⟩
 rw[<-hp0]at HA HC HR HBG⊢
 have HP0:=lhi hp0
 clear hw2 hp0
 have b0:w2.cell? ⟨p0,0,none⟩=some (.int .i64 kind):=HC.out.cell 0
 have b1:w2.cell? ⟨p0,1,none⟩=some (.int .i64 k):=HC.out.cell 1
 have b2:w2.cell? ⟨p0,2,none⟩=some (.int .i64 fd):=HC.out.cell 2
 have b3:w2.cell? ⟨p0,3,none⟩=some (.int .i64 off):=HC.out.cell 3
 have b4:w2.cell? ⟨p0,4,none⟩=some (.int .i64 num):=HC.out.cell 4
 have b5:w2.cell? ⟨p0,5,none⟩=some (.string path):=HC.out.cell 5
 have b6:w2.cell? ⟨p0,6,none⟩=some (.string path2):=HC.out.cell 6
 have b7:w2.cell? ⟨p0,7,none⟩=some (.string data):=HC.out.cell 7
 go_wp2_with (first
  | (go_at_call 17;refine HBG.out.mono ?_;rintro e w3 ⟨rfl,hf3,hk3⟩;have HF3:=lhi hf3;have HK3:=lhi hk3;clear hf3 hk3 HBG)
  | (go_at_call 9;refine(num_calls _ _).mono ?_;rintro e w' ⟨rfl,rfl⟩))
 clear b0 b1 b2 b3 b4 b5 b6 b7
 go_loopw [7] (fun i wr=>i= .int .i64 0/\wr=w3) (fun _ _=>0)
 case atStart=>exact⟨rfl,rfl⟩
 case round=>
  obtain⟨rfl,rfl⟩:=hrel
  have HC3:=lhi (Blk.of_heap (HK3.out.k.block p0 (by rw[HP0.out];exact ins.old (ins.new _ _))) HC.out)
  have b1:wr.cell? ⟨p0,1,none⟩=some (.int .i64 k):=HC3.out.cell 1
  have hkl:k< (ps.set k ⟨⟨kind,k,fd,off,num,path,path2,data⟩,begunV,false,noRes,0⟩).length:=by simpa using hk
  have HST:=lhi (fstep_ok HF3.out HOK.out HOK'.out hm hkl (c:=⟨kind,k,fd,off,num,path,path2,data⟩) (by simp) (ty:=99) (x:=.agg #[]) (by simp[begunV]) (r:=⟨rcode,rfd,rnum,rdir,rdata,none,0,0⟩) HLT.out HLE.out HWD.out (HSC.out wr))
  go_upto_region 11 with(first
   | (go_at_call 27;refine HST.out.mono ?_;rintro e w4 ⟨rfl,tc,hf4,hk4⟩;have HF4:=lhi (show FsAt _ w4 fb s pb M' (ps.set k ⟨⟨kind,k,fd,off,num,path,path2,data⟩,.nilIface,true,⟨rcode,rfd,rnum,rdir,rdata,none,0,0⟩,tc⟩)by rw[List.set_set]at hf4;exact hf4);have HK4:=lhi hk4;clear hf4 hk4 HST)
   | (go_at_call 9;refine(num_calls _ _).mono ?_;rintro e w' ⟨rfl,rfl⟩))
  clear b1
  have hkl2:k< (ps.set k ⟨⟨kind,k,fd,off,num,path,path2,data⟩,.nilIface,true,⟨rcode,rfd,rnum,rdir,rdata,none,0,0⟩,tc⟩).length:=by simpa using hk
  have HRS:=lhi (result_ok HF4.out hkl2 (by simp) (r:=⟨rcode,rfd,rnum,rdir,rdata,none,0,0⟩) (by simp) ⟨rfl,rfl,rfl⟩)
  simp only[ResV.cs]at HRS
  have hL2: ∀q,q=p0∨q=p0+1->(ins (ins L p0) (p0+1)) q:=fun q hq=>by
   rcases hq with rfl | rfl
   ·exact ins.old (ins.new _ _)
   ·exact ins.new _ _
  have HC4:=lhi (Blk.of_heap (HK4.out.k.block p0 (hL2 _ (.inl rfl))) HC3.out)
  have HR4:=lhi (Blk.of_heap (HK4.out.k.block (p0+1) (hL2 _ (.inr rfl))) (Blk.of_heap (HK3.out.k.block (p0+1) (hL2 _ (.inr rfl))) (show Blk w2 (p0+1) _ _ from HR.out)))
  have b1:w4.cell? ⟨p0,1,none⟩=some (.int .i64 k):=HC4.out.cell 1
  go_wp2_with (go_at_call 20;refine HRS.out.mono ?_;rintro e w5 ⟨rfl,hb5⟩;have HB5:=lhi hb5;have HR5:=lhi (Blk.of_heap (hb5.block _ HR4.out.lt) HR4.out);clear hb5 HRS;have r0:w5.cell? ⟨p0+1,0,none⟩=some (.int .i64 0):=HR5.out.cell 0;have f0:=HR5.out.frozen 0;have r1:w5.cell? ⟨p0+1,1,none⟩=some (.int .i64 0):=HR5.out.cell 1;have f1:=HR5.out.frozen 1;have r2:w5.cell? ⟨p0+1,2,none⟩=some (.int .i64 0):=HR5.out.cell 2;have f2:=HR5.out.frozen 2;have r3:w5.cell? ⟨p0+1,3,none⟩=some (.bool false):=HR5.out.cell 3;have f3:=HR5.out.frozen 3;have r4:w5.cell? ⟨p0+1,4,none⟩=some (.string ⟨#[]⟩):=HR5.out.cell 4;have f4:=HR5.out.frozen 4;have r5:w5.cell? ⟨p0+1,5,none⟩=some (.slice none 0 0):=HR5.out.cell 5;have f5:=HR5.out.frozen 5)
  have B0:=HR5.out
  have B1:=B0.set_ 0 (.int .i64 rcode)
  have B2:=B1.set_ 1 (.int .i64 rfd)
  have B3:=B2.set_ 2 (.int .i64 rnum)
  have B4:=B3.set_ 3 (.bool rdir)
  have B5:=B4.set_ 4 (.string rdata)
  have hf5:=HF4.out.below HB5.out
  have hf6:=(((((hf5.own1 B0 (hL2 _ (.inr rfl)) 0 (.int .i64 rcode)).own1 B1 (hL2 _ (.inr rfl)) 1 (.int .i64 rfd)).own1 B2 (hL2 _ (.inr rfl)) 2 (.int .i64 rnum)).own1 B3 (hL2 _ (.inr rfl)) 3 (.bool rdir)).own1 B4 (hL2 _ (.inr rfl)) 4 (.string rdata)).own1 B5 (hL2 _ (.inr rfl)) 5 (.slice none 0 0)
  have hk0:Kp L w w2:=Kp.below HL.out HW.out
  have hs: ∀b,L b->(ins (ins L p0) (p0+1)) b:=fun b hb=>ins.old (ins.old hb)
  have hk4:Kp L w w4:=hk0.trans ((HK3.out.trans HK4.out).sub hs)
  have hk5:Kp L w w5:=hk4.trans (Kp.below (hk4.bd HL.out) HB5.out)
  have hq:w.heap.size<=p0+1:=by have:=HP0.out;omega
  have hk6:=(((((hk5.setNew HL.out hq 0 (.int .i64 rcode)).setNew HL.out hq 1 (.int .i64 rfd)).setNew HL.out hq 2 (.int .i64 rnum)).setNew HL.out hq 3 (.bool rdir)).setNew HL.out hq 4 (.string rdata)).setNew HL.out hq 5 (.slice none 0 0)
  refine bodyPost_ret (v:=.tuple #[.agg #[.int .i64 rcode,.int .i64 rfd,.int .i64 rnum,.bool rdir,.string rdata,.slice none 0 0],.bool true]) ?_ rfl ⟨rfl,⟨tc,hf6.sub hs⟩,hk6⟩
  simp[results,Tryz.results10,go_sem,r0,r1,r2,r3,r4,r5]
end
section
open Go.RowKit
set_option maxHeartbeats 1000000
theorem itsM_dk{M:Mem}{D:DkT}(h:Dk M D){num:Int}(hn:1<=num/\num<=257):itsM M num=(List.range 8).flatMap fun q=>D num (q:Nat):=by
 unfold itsM itsTo
 have: ∀l:List Nat,(∀q∈l,q<8)->(l.flatMap fun q=>M.bkt num (q:Nat))=l.flatMap fun q=>D num (q:Nat):=by
  intro l
  induction l with
  | nil=>exact fun _=>rfl
  | cons a l ih=>
   intro hl
   rw[List.flatMap_cons,List.flatMap_cons,ih fun q hq=>hl q (List.mem_cons_of_mem _ hq),h.bkt hn ⟨by omega,by have:=hl a (List.mem_cons_self);omega⟩]
 exact this _ fun q hq=>List.mem_range.1 hq
def nmA:ByteArray:=⟨#[97]⟩
def pathA:ByteArray:=⟨#[47,97]⟩
def M0A:Mem:=(loadM (newS 2)).clear 0
def M1A:Mem:=createM (M0A.see 0 (wd 1 (nbucket nmA:Nat))) 0 rootItem nmA 0 0
def SA:St:=⟨[⟨1,true,[(nmA,2)],⟨#[]⟩⟩,⟨2,false,[],⟨#[]⟩⟩],[],[1,0]⟩
def DA:DkT:=fun n b=>if n=1/\b=(nbucket nmA:Nat)then [⟨nmA,2,false⟩]else []
theorem parse_A:parseF pathA= .ok [nmA]:=by kernel_rfl
theorem inv2:Inv (newS 2):=inv_newS (by omega) (by omega)
theorem dk_new2:Dk (loadM (newS 2)) (fun _ _=>[]):=by
 refine(dk_load inv2 (fun i hi b hb=>?_)).congr fun num b _ _=>?_
 ·have:i=0:=by
   have:i<1:=hi
   omega
  subst this
  exact⟨by simp[bkItems,St.ino,newS],fun x hx=>by simp[bkItems,St.ino,newS]at hx⟩
 ·show dB (newS 2) 0 (fun _ _=>[]) 8 num b=[]
  unfold dB
  rw[if_neg (fun q=>q.2.2 (by simp[bkItems,St.ino,newS]))]
theorem ok_M0A:M0A.ok 9000:=(loadM_ok (S:=newS 2) (by simp[newS])).clear 0
theorem dk_M0A:Dk M0A (fun _ _=>[]):=dk_new2.clear 0
theorem bz_M0A:Bz M0A:=(bz_load inv2 rfl (fun i hi=>by
 have:i<1:=hi
 obtain rfl:i=0:=by omega
 rfl)).clear 0
theorem loadMade_nm(S:St)(M:Mem): ∀k,(loadMade S M k).nm=M.nm
 | 0=>rfl
 | k+1=>loadMade_nm S M k
theorem loadOpen_nm(S:St)(M:Mem): ∀k,(loadOpen S M k).nm=M.nm
 | 0=>rfl
 | k+1=>loadOpen_nm S M k
theorem loadM_nm(S:St):(loadM S).nm.length=S.made.length:=by
 unfold loadM
 rw[loadOpen_nm,loadMade_nm,loadIs_nm]
 simp[Mem.new]
theorem clear_nm(M:Mem)(c:Int):(M.clear c).nm=M.nm:=rfl
theorem nm_M0A:M0A.nm.length=2:=by
 unfold M0A
 rw[clear_nm,loadM_nm]
 simp[newS]
theorem ts_M0A:M0A.ts.length=2:=by
 show((loadM (newS 2)).ts.set _ []).length=2
 rw[List.length_set,loadM_ts];simp[newS]
theorem words_M0A:(∀c:Nat,c<2->rd M0A.ws (mdw (c:Nat))=0)/\ ∀c k:Nat,c<8->k<4->rd M0A.ws (fdw (c:Nat) (k:Nat))=0:=by
 obtain⟨h1,h2⟩:=load_words inv2 rfl
 refine⟨fun c hc=>?_,h2⟩
 rw[show M0A.ws=(loadM (newS 2)).ws from rfl,h1 c hc]
 have:c=0∨c=1:=by omega
 rcases this with rfl | rfl <;> rfl
theorem dk_M1A:Dk M1A DA:=by
 have h:=dk_create (M:=M0A.see 0 (wd 1 (nbucket nmA:Nat))) (c:=0) (n:=0) (kind:=0) (it:=rootItem) (nm:=nmA) (dk_M0A.see _ _) (ok_M0A.see _ _) (by omega) ⟨by omega,by rw[see_nm,nm_M0A];omega⟩ (by omega) ⟨by omega,by omega⟩ (by decide) (by simp)
 exact h.congr fun num b _ _=>rfl
theorem ok_M1A:M1A.ok 9007:=ok_create (ok_M0A.see _ _)
theorem bz_M1A:Bz M1A:=bz_create (bz_M0A.see _ _) ⟨by omega,by omega⟩ ⟨by omega,by omega⟩ (by decide)
theorem its_A:itsM M1A 1=[⟨nmA,2,false⟩]:=by
 rw[itsM_dk dk_M1A ⟨by omega,by omega⟩]
 kernel_rfl
theorem gather_A:gDir M1A 1 1 ⟨[],[]⟩=⟨[2],[1]⟩:=by
 unfold gDir
 rw[its_A]
 rfl
theorem deep_A:Deep M1A 1 1:=⟨⟨by omega,by omega⟩,fun i hi hd=>by
 rw[its_A]at hi
 rw[List.mem_singleton.1 hi]at hd
 cases hd⟩
theorem words_M1A:madeTo M1A 2=[1,0]/\ ∀c k:Nat,c<8->k<4->rd M1A.ws (fdw (c:Nat) (k:Nat))=0:=by
 have hr: ∀j,9509<=j->rd M1A.ws j=if j=mdw 0 then 0+1 else rd M0A.ws j:=fun j hj=>by
  have h:=rd_create (M:=M0A.see 0 (wd 1 (nbucket nmA:Nat))) (c:=0) (n:=0) (kind:=0) (it:=rootItem) (nm:=nmA) (ok_M0A.see _ _) ⟨by omega,by omega⟩ ⟨by omega,by omega⟩ (by decide) hj
  rw[see_ws]at h
  exact h
 refine⟨?_,fun c k hc hk=>?_⟩
 ·show [rd M1A.ws (mdw (0:Nat)),rd M1A.ws (mdw (1:Nat))]=_
  rw[hr _ (by decide),hr _ (by decide),if_pos (show mdw ((0:Nat):Int)=mdw 0 from rfl),if_neg (by decide),words_M0A.1 1 (by omega)]
  rfl
 ·rw[hr _ (by unfold fdw;omega),if_neg (by unfold fdw mdw;omega),words_M0A.2 c k hc hk]
theorem ops_A:opsTo M1A 2=[]:=by
 have: ∀c,c<8->opsC M1A c 4=[]:=fun c hc=>by
  unfold opsC
  rw[List.filterMap_eq_nil_iff]
  intro k hk
  rw[if_pos (words_M1A.2 c k hc (List.mem_range.1 hk))]
 unfold opsTo
 rw[List.flatMap_eq_nil_iff]
 intro q hq
 exact this q (by have:=List.mem_range.1 hq;omega)
end
section
open Go.RowKit
set_option maxHeartbeats 1000000
theorem inv_SA:Inv SA:=by
 have h:=inv2.make (x0:=⟨1,true,[],⟨#[]⟩⟩) (d:=1) (by simp[newS]) rfl rfl (c:=0) (by simp[newS]) (by simp[newS,St.mad]) (nm:=nmA) (num:=2) (by simp[newS,St.mad]) (by kernel_rfl) (fun e he=>by cases he) (by simp) false
 have e:makeS (newS 2) 0 1 (insE (nmA,2) []) ⟨2,false,[],nm0⟩=SA:=by
  rfl
 rw[<-e]
 exact h
theorem filter_two{f:Nat->Option Ino}{x y:Ino}(h0:f 0=some x)(h1:f 1=some y)(h2: ∀j,2<=j->f j=none): ∀m,(List.range (m+2)).filterMap f=[x,y]
 | 0=>by simp[List.range_succ,h0,h1]
 | m+1=>by
  rw[show m+1+2=(m+2)+1 from rfl,List.range_succ,List.filterMap_append,filter_two h0 h1 h2 m]
  simp[h2 (m+2) (by omega)]
theorem state_A{S:St}(h:IsState M1A ⟨[2],[1]⟩ (fun _=>⟨#[]⟩) 2 S):S=SA:=by
 obtain⟨h1,h2,A,h3,h4⟩:=h
 rw[ops_A]at h2 h4
 rw[words_M1A.1]at h1
 have hf: ∀i:Int,(filesO [2] [] i).isSome=true↔i=2:=fun i=>by
  unfold filesO
  by_cases e:i=2 <;> simp[e]
 have a2:A 2=some ⟨2,false,[],⟨#[]⟩⟩:=(h4 2).1 ((hf 2).2 rfl)
 have a1:A 1=some ⟨1,true,[(nmA,2)],⟨#[]⟩⟩:=by
  obtain⟨q1,q2⟩:=(h4 1).2 (fun q=>by have:=(hf 1).1 q;omega)
  obtain⟨p,hp⟩:=Option.isSome_iff_exists.1 (show(A 1).isSome=true by rw[q1];rfl)
  obtain⟨r1,r2,r3,r4,-⟩:=q2 p hp
  rw[hp]
  obtain⟨pn,pd,pe,pdat⟩:=p
  simp only at r1 r2 r3 r4
  subst r1 r2 r3
  rw[its_A]at r4
  have r5:pe=[(nmA,2)]:=List.perm_singleton.1 r4
  rw[r5]
 have aN: ∀j:Nat,2<=j->A ((j:Int)+1)=none:=fun j hj=>by
  obtain⟨q1,-⟩:=(h4 ((j:Int)+1)).2 (fun q=>by have:=(hf _).1 q;omega)
  cases hA:A ((j:Int)+1)with
  | none=>rfl
  | some p=>
   rw[hA]at q1
   simp at q1
   omega
 have hi:S.inodes=SA.inodes:=by
  rw[h3]
  exact filter_two (f:=fun(j:Nat)=>A ((j:Int)+1)) (by simpa using a1) (by simpa using a2) aN 255
 obtain⟨S1,S2,S3⟩:=S
 simp only at h1 h2 hi
 subst h1 h2 hi
 rfl
theorem find_A:findS SA (parseF pathA)=(2,0):=by
 rw[parse_A]
 kernel_rfl
end
section
open Go.RowKit
set_option maxHeartbeats 1000000
theorem tr_note{M:Mem}{c:Int}(hc:0<=c/\c<M.ts.length)(x:Acc):tr (M.note c x).ts c=tr M.ts c++[x]:=by
 unfold tr Mem.note noted
 simp only
 rw[getD_set _ _ _ _ _ (by omega),if_pos rfl]
 rfl
theorem note_len(M:Mem)(c:Int)(x:Acc):(M.note c x).ts.length=M.ts.length:=by simp[Mem.note,noted]
theorem tr_see{M:Mem}{c:Int}(hc:0<=c/\c<M.ts.length)(i:Int):tr (M.see c i).ts c=tr M.ts c++[(i,false)]:=by
 unfold Mem.see
 rw[if_neg (by omega)]
 exact tr_note hc _
theorem see_len(M:Mem)(c i:Int):(M.see c i).ts.length=M.ts.length:=by
 unfold Mem.see
 split
 ·rfl
 ·exact note_len _ _ _
def accC(c:Int)(num:Int)(b:Int)(kind n:Int):List Acc:=[(mdw c,false),(mdw c,true),(wd num b,true)]++if kind=0 then [(wd (2+c+8*n) (8+c),true)]else []
theorem tr_create{M:Mem}{c:Int}{it:Item}{nm:ByteArray}{kind n:Int}(hc:0<=c/\c<M.ts.length):tr (createM M c it nm kind n).ts c=tr M.ts c++accC c it.num (nbucket nm:Nat) kind n/\ (createM M c it nm kind n).ts.length=M.ts.length:=by
 have h1:=tr_see hc (mdw c)
 have l1:=see_len M c (mdw c)
 have h2:tr (((M.see c (mdw c)).put (mdw c) (n+1)).note c (mdw c,true)).ts c=tr M.ts c++[(mdw c,false)]++[(mdw c,true)]:=by
  rw[tr_note (M:=(M.see c (mdw c)).put (mdw c) (n+1)) ⟨hc.1,by show c< (M.see c (mdw c)).ts.length;rw[l1];exact hc.2⟩]
  show tr (M.see c (mdw c)).ts c++_=_
  rw[h1]
 have l2:(((M.see c (mdw c)).put (mdw c) (n+1)).note c (mdw c,true)).ts.length=M.ts.length:=by
  rw[note_len]
  exact l1
 have h3: ∀t,tr ((((M.see c (mdw c)).put (mdw c) (n+1)).note c (mdw c,true)).setW c (wd it.num (nbucket nm:Nat)) t).ts c=tr M.ts c++[(mdw c,false)]++[(mdw c,true)]++[(wd it.num (nbucket nm:Nat),true)]:=fun t=>by
  unfold Mem.setW
  rw[tr_note ⟨hc.1,by show c< (((M.see c (mdw c)).put (mdw c) (n+1)).note c (mdw c,true)).ts.length;rw[l2];exact hc.2⟩]
  show tr (((M.see c (mdw c)).put (mdw c) (n+1)).note c (mdw c,true)).ts c++_=_
  rw[h2]
 have l3: ∀t,((((M.see c (mdw c)).put (mdw c) (n+1)).note c (mdw c,true)).setW c (wd it.num (nbucket nm:Nat)) t).ts.length=M.ts.length:=fun t=>by
  unfold Mem.setW
  rw[note_len]
  exact l2
 unfold createM accC
 simp only
 split
 ·refine⟨?_,?_⟩
  ·rw[tr_note ⟨hc.1,by show c< (Mem.setW _ _ _ _).ts.length;rw[l3];exact hc.2⟩]
   show tr (Mem.setW _ _ _ _).ts c++_=_
   rw[h3]
   simp
  ·rw[note_len]
   exact l3 _
 ·refine⟨?_,l3 _⟩
  rw[h3]
  simp
theorem accC_num{c num b kind n:Int}(hc:0<=c/\c<8)(hn:1<=num/\num<=257)(hb:0<=b/\b<8)(h:0<=n/\n<32): ∀y∈accC c num b kind n,0<=y.1/\y.1<=1000000:=by
 intro y hy
 unfold accC at hy
 rcases List.mem_append.1 hy with hy | hy
 ·simp at hy
  rcases hy with rfl | rfl | rfl <;> simp only[mdw,wd] <;> omega
 ·split at hy
  ·rw[List.mem_singleton.1 hy]
   simp only[wd];omega
  ·cases hy
end
section
open Go.RowKit
set_option maxHeartbeats 2000000
def cntT(r:Nat->Bool):Nat->Nat
 | 0=>0
 | k+1=>cntT r k+if r k then 1 else 0
theorem cntT_le(r:Nat->Bool): ∀k,cntT r k<=k
 | 0=>Nat.le_refl _
 | k+1=>by have:=cntT_le r k;unfold cntT;split <;> omega
theorem cntT_zero{r:Nat->Bool}: ∀{n},cntT r n=0-> ∀c,c<n->r c=false
 | n+1,h,c,hc=>by
  unfold cntT at h
  by_cases e:c=n
  ·subst e
   cases hr:r c with
   | false=>rfl
   | true=>rw[hr]at h;simp at h
  ·exact cntT_zero (n:=n) (by omega) c (by omega)
def PickR(r:Nat->Bool)(n:Nat)(e:Ending):Prop:=(∃c:Nat,e= .returned (.tuple #[.int .i64 c,.bool true])/\c<n/\r c=true)∨(e= .returned (.tuple #[.int .i64 0,.bool false])/\ ∀c,c<n->r c=false)
set_option maxRecDepth 1000000 in
theorem Pick_calls{w:World}{v:Value}{n:Nat}{r:Nat->Bool}(h:RowAt w v n 1 (fun i _=>.bool (r i)))(hn:n<=1000){p:Int}(hp: -9223372036854775808<=p/\p<=9223372036854775807):
  Calls Tryz.prog 38 #[v,.int .i64 p] w fun e w'=>PickR r n e/\w'=w:=by
 have HR:=lhi h
 obtain⟨A,cap,rfl,hcap,-⟩:=h
 go_enter Tryz.func38,Tryz.ntmps38
 go_wp2_with (fail)
 go_loopw [14,6] (fun i c wr=>∃k:Nat,i= .int .i64 k/\c= .int .i64 (cntT r k)/\k<=n/\wr=w) (fun i _ _=>n - (intOf i).toNat)
 case atStart=>exact⟨0,rfl,rfl,by omega,rfl⟩
 case round=>
  obtain⟨k,rfl,rfl,hk,rfl⟩:=hrel
  have hck:=cntT_le r k
  by_cases hkn:k<n
  ·have hk1:(k:Int)<n:=by omega
   obtain⟨-,-,g,off,rfl,hcell⟩:=HR.out.at_ hkn
   have c0:wr.cell? ⟨g,off+k*1,none⟩=some (.bool (r k)):=hcell 0 (by omega)
   rw[Nat.mul_one]at c0
   have HS:=lhi (show cntT r (k+1)=cntT r k+if r k then 1 else 0 from rfl)
   clear hcell
   generalize r k=b at*
   generalize cntT r k=ck at*
   cases b
   ·go_wp2_with (fail)
    go_roundw
    case rel=>exact⟨k+1,by go_num,by rw[HS.out];rfl,by omega,by trivial⟩
    case measure=>
     simp only[intOf]
     omega
   ·go_wp2_with (fail)
    go_roundw
    case rel=>exact⟨k+1,by go_num,by rw[HS.out];go_num,by omega,by trivial⟩
    case measure=>
     simp only[intOf]
     omega
  ·have e:k=n:=by omega
   subst e
   obtain⟨N,hN⟩: ∃N,cntT r k=N:=⟨_,rfl⟩
   have HNN:=lhi hN
   rw[hN]at hck
   rw[hN]
   clear hN
   by_cases h0:N=0
   ·subst h0
    go_wp2_with (fail)
    go_ret2
    exact⟨.inr ⟨rfl,cntT_zero HNN.out⟩,rfl⟩
   ·have h1:(N:Int)≠0:=by omega
    go_wp2_with (fail)
    obtain⟨K,hK,hKN⟩:=u64_tmod p N (by omega)
    have hw:wrap64 (K:Int)=K:=by unfold wrap64;omega
    rw[hK,hw]
    clear hK hw h1
    obtain⟨wq,rfl⟩: ∃wq:World,wq=wr:=⟨_,rfl⟩
    go_loopw [32,9] (fun i q wr=>∃j:Nat,i= .int .i64 j/\j<=k/\cntT r j<=K/\q= .int .i64 ((K:Int) - (cntT r j:Nat))/\wr=wq) (fun i _ _=>k - (intOf i).toNat)
    case atStart=>exact⟨0,rfl,by omega,Nat.zero_le _,by show _=Value.int .i64 ((K:Int) - ((0:Nat):Int));simp,by trivial⟩
    case round=>
     obtain⟨j,rfl,hj,hcj,rfl,rfl⟩:=hrel
     by_cases hjk:j<k
     ·have hj1:(j:Int)<k:=by omega
      obtain⟨-,-,g,off,rfl,hcell⟩:=HR.out.at_ hjk
      have c0:wr.cell? ⟨g,off+j*1,none⟩=some (.bool (r j)):=hcell 0 (by omega)
      rw[Nat.mul_one]at c0
      have HS:=lhi (show cntT r (j+1)=cntT r j+if r j then 1 else 0 from rfl)
      have HRJ:=lhi (show r j=r j from rfl)
      clear hcell
      obtain⟨b,hb⟩: ∃b,r j=b:=⟨_,rfl⟩
      have HBE:=lhi hb
      rw[hb]at c0 HS
      clear hb HRJ
      obtain⟨ck,hck2⟩: ∃ck,cntT r j=ck:=⟨_,rfl⟩
      rw[hck2]at HS hcj
      rw[hck2]
      clear hck2
      cases b
      ·go_wp2_with (fail)
       go_roundw
       case rel=>exact⟨j+1,by go_num,by omega,by rw[HS.out];simpa using hcj,by rw[HS.out];rfl,by trivial⟩
       case measure=>
        simp only[intOf]
        omega
      ·by_cases hq:ck=K
       ·subst hq
        have hz:(ck:Int) - ck=0:=by omega
        rw[hz]
        go_wp2_with (fail)
        go_ret2
        exact⟨.inl ⟨j,rfl,hjk,HBE.out⟩,rfl⟩
       ·have hz: ¬ ((K:Int) - ck=0):=by omega
        go_wp2_with (fail)
        go_roundw
        case rel=>exact⟨j+1,by go_num,by omega,by rw[HS.out];simp;omega,by rw[HS.out];go_num,by trivial⟩
        case measure=>
         simp only[intOf]
         omega
     ·have e:j=k:=by omega
      subst e
      exfalso
      have:=HNN.out
      omega
end
section
open Go.RowKit
set_option maxHeartbeats 2000000
def callA:CallV:=⟨0,0,0,0,0,pathA,⟨#[]⟩,⟨#[]⟩⟩
theorem ts_M1A:M1A.ts.length=2/\ ∀y∈tr M1A.ts 0,0<=y.1/\y.1<=1000000:=by
 have h:=tr_create (M:=M0A.see 0 (wd 1 (nbucket nmA:Nat))) (c:=0) (it:=rootItem) (nm:=nmA) (kind:=0) (n:=0) ⟨by omega,by rw[see_len,ts_M0A];omega⟩
 refine⟨h.2.trans (by rw[see_len,ts_M0A]),fun y hy=>?_⟩
 have hy:y∈tr (M0A.see 0 (wd 1 (nbucket nmA:Nat))).ts 0++accC 0 rootItem.num (nbucket nmA:Nat) 0 0:=by rw[<-h.1];exact hy
 rw[tr_see ⟨by omega,by rw[ts_M0A];omega⟩]at hy
 have h0:tr M0A.ts 0=[]:=by
  unfold M0A Mem.clear tr
  simp only
  rw[getD_set _ _ _ _ _ (by rw[loadM_ts];simp[newS]),if_pos rfl]
 rw[h0]at hy
 have hb:=nb_lt nmA
 rcases List.mem_append.1 hy with hy | hy
 ·simp at hy
  rw[hy]
  simp only[wd];omega
 ·exact accC_num ⟨by omega,by omega⟩ (by decide) hb ⟨by omega,by omega⟩ y hy
theorem step_A(w1:World)(fb s:Nat):StepC w1 fb s M0A M1A 0 callA 99 (.agg #[]) noRes:=by
 have h:=stepC_create (w:=w1) (fb:=fb) (s:=s) (M:=M0A) (M1:=M0A) ok_M0A (by omega) (k:=0) (by rw[ts_M0A];omega) dk_M0A.fit (cv:=callA) (.inl rfl) (by decide) (ns:=[]) (nm:=nmA) parse_A (by simp) (it:=rootItem) rfl rfl (by
  rw[dk_M0A.bkt (by decide) (nb_lt nmA)];rfl) (n:=0) (words_M0A.1 0 (by omega)) ⟨by omega,by omega⟩
 exact h
theorem data_A(s:Nat):DataC M1A s (fun i=>(filesO [2] (opsTo M1A 2) i).isSome=true) (fun _=>⟨#[]⟩):=by
 intro K W num hn hM
 have hn:(filesO [2] (opsTo M1A 2) num).isSome=true:=hn
 rw[ops_A]at hn
 have e:num=2:=by
  unfold filesO at hn
  split at hn
  ·rename_i q
   simpa using q
  ·cases hn
 subst e
 obtain⟨h1,h2,h3⟩:=bz_M1A.base (num:=2) ⟨by omega,by omega⟩
 exact data_none hM ok_M1A (by omega) ⟨by omega,by omega⟩ h1 h2 h3
set_option maxRecDepth 1000000 in
theorem awake_calls(w:World):Calls Tryz.prog 6 #[] w fun e w'=>e= .returned (.bool true)/\Below w.heap.size w w':=by
 have HN:=lhi (fsNew_ok (L:=fun b=>b<w.heap.size) (w:=w) (fun b hb=>hb) (n:=2) (by omega) (by omega))
 have hraw:=inv_SA.raw_nil
 have HCK:=lhi (fun(W:World) (iv ov mv:Value) (ev:Nat->Value) (hS:StM W iv ov mv ev SA)=>State_calls hS inv_SA.small (E:=[]) List.Pairwise.nil (by rw[hraw]))
 clear hraw
 go_enter Tryz.func6,Tryz.ntmps6
 go_upto_region 4 with(first
  | (go_at_call 23;refine HN.out.mono ?_;rintro e w1 ⟨fb,s,pb,rfl,hf1,hb1⟩;have HF1:=lhi hf1;have HB1:=lhi hb1;clear hf1 hb1 HN)
  | (go_at_call 9;refine(num_calls _ _).mono ?_;rintro e w' ⟨rfl,rfl⟩))
 have HAL:=lhi (alone_ok HF1.out (M':=M1A) (ok_M0A.mono (by omega)) ok_M1A (by omega) (k:=0) (by simp) (cv:=callA) rfl ⟨by decide,by decide⟩ (by simp[idleP]) (r:=noRes) ⟨rfl,rfl,rfl⟩ (by rw[ts_M1A.1];exact ts_M0A.symm) (by
  show(tr M0A.ts 0).length<=_
  have h0:tr M0A.ts 0=[]:=by
   unfold M0A Mem.clear tr
   simp only
   rw[getD_set _ _ _ _ _ (by rw[loadM_ts];simp[newS]),if_pos rfl]
  rw[h0];exact Nat.zero_le _) ts_M1A.2 (fun w1=>step_A w1 fb s))
 simp only[CallV.cs,ResV.cs,callA,noRes,pathA]at HAL
 go_upto_region 5 with(go_at_call 10;refine HAL.out.mono ?_;rintro e w2 ⟨rfl,⟨tc,hf2⟩,hk2⟩;have HF2:=lhi hf2;have HK2:=lhi hk2;clear hf2 hk2 HAL)
 have HF3:=lhi (HF2.out.allocIns (.cells #[.int .i64 0,.int .i64 0,.int .i64 0,.bool false,.string ⟨#[]⟩,.slice none 0 0] 41))
 have HR3:=lhi (Blk.new w2 41 #[.int .i64 0,.int .i64 0,.int .i64 0,.bool false,.string ⟨#[]⟩,.slice none 0 0])
 have HB3:=lhi ((Below.refl w2.heap.size w2).alloc (Nat.le_refl _) (.cells #[.int .i64 0,.int .i64 0,.int .i64 0,.bool false,.string ⟨#[]⟩,.slice none 0 0] 41))
 obtain⟨P,hP⟩: ∃P:PV,P=⟨⟨0,0,0,0,0,⟨#[47,97]⟩,⟨#[]⟩,⟨#[]⟩⟩,.nilIface,true,⟨0,0,0,false,⟨#[]⟩,none,0,0⟩,tc⟩:=⟨_,rfl⟩
 rw[<-hP]at HF3
 obtain⟨ps,hps⟩: ∃ps,ps=(List.replicate 2 idleP).set 0 P:=⟨_,rfl⟩
 rw[<-hps]at HF3
 have hpl:ps.length=2:=by rw[hps];simp
 have HPL:=lhi hpl
 have HST:=lhi (State_ok HF3.out (fun c hc=>by
  rw[hpl]at hc
  subst hps
  rcases(by omega:c=0∨c=1)with rfl | rfl
  ·simp[hP]
  ·simp[idleP]) ok_M1A (by omega) dk_M1A.fit gather_A (by decide) deep_A (fun _=>⟨#[]⟩) (fun c k hc hk=>by
   rw[words_M1A.2 c k (by omega) hk];omega) (fun i hi=>by
   rw[List.mem_singleton.1 hi];omega) (by rw[hpl];exact data_A s))
 clear hP hps hpl
 go_upto_region 6 with(go_at_call 19;refine HST.out.mono ?_;rintro e w4 ⟨⟨iv,ov,mv,ev,S,rfl,hst,his⟩,hf4,hk4⟩;rw[HPL.out]at his;obtain rfl:=state_A his;have HS4:=lhi hst.stm;have HK4:=lhi hk4;obtain⟨iA,icap,rfl,-⟩:=hst.ino;obtain⟨oA,ocap,rfl,-⟩:=hst.opn;obtain⟨mA,mcap,rfl,-⟩:=hst.mad;clear hst his hf4 hk4 HST)
 obtain⟨rb,hrb⟩: ∃x,x=w2.heap.size:=⟨_,rfl⟩
 have HR4:=lhi (Blk.of_heap (HK4.out.k.k.block rb (by rw[hrb];exact ins.new _ _)) (show Blk _ rb _ _ by rw[hrb];exact HR3.out))
 rw[<-hrb]
 clear hrb
 obtain⟨sb,hsb⟩: ∃x,x=w4.heap.size:=⟨_,rfl⟩
 obtain⟨w5,hw5⟩: ∃x,x=w4.alloc (.cells #[.slice iA SA.inodes.length icap,.slice oA SA.opens.length ocap,.slice mA SA.made.length mcap] 30):=⟨_,rfl⟩
 have HB5:=lhi (show Below w4.heap.size w4 w5 by rw[hw5];exact(Below.refl _ _).alloc (Nat.le_refl _) _)
 have HS5:=lhi (HS4.out.keep HB5.out)
 have HX5:=lhi (show Blk w5 sb 30 _ by rw[hw5,hsb];exact Blk.new w4 30 #[.slice iA SA.inodes.length icap,.slice oA SA.opens.length ocap,.slice mA SA.made.length mcap])
 have HR5:=lhi (Blk.of_heap (HB5.out.block _ HR4.out.lt) HR4.out)
 rw[<-hsb,<-hw5]
 clear hw5 hsb
 have HFD:=lhi (show Calls Tryz.prog 21 #[.agg #[.slice iA SA.inodes.length icap,.slice oA SA.opens.length ocap,.slice mA SA.made.length mcap],.string ⟨#[47,97]⟩] w5 fun e w'=>e= .returned (.tuple #[.int .i64 2,.int .i64 0])/\Below w5.heap.size w5 w' from by
  have h:=Find_calls HS5.out inv_SA (path:=pathA) (by decide)
  rw[find_A]at h
  exact h)
 have s0:w5.cell? ⟨sb,0,none⟩=some (.slice iA SA.inodes.length icap):=HX5.out.cell 0
 have s1:w5.cell? ⟨sb,1,none⟩=some (.slice oA SA.opens.length ocap):=HX5.out.cell 1
 have s2:w5.cell? ⟨sb,2,none⟩=some (.slice mA SA.made.length mcap):=HX5.out.cell 2
 go_upto_region 7 with(go_at_call 21;refine HFD.out.mono ?_;rintro e w6 ⟨rfl,hb6⟩;have HB6:=lhi hb6;clear hb6 HFD)
 clear s0 s1 s2
 have HS6:=lhi (HS5.out.keep HB6.out)
 have HX6:=lhi (Blk.of_heap (HB6.out.block _ HX5.out.lt) HX5.out)
 have HR6:=lhi (Blk.of_heap (HB6.out.block _ HR5.out.lt) HR5.out)
 have HMY:=lhi (May_yes HS6.out inv_SA)
 have r0:w6.cell? ⟨rb,0,none⟩=some (.int .i64 0):=HR6.out.cell 0
 have s0:w6.cell? ⟨sb,0,none⟩=some (.slice iA SA.inodes.length icap):=HX6.out.cell 0
 have s1:w6.cell? ⟨sb,1,none⟩=some (.slice oA SA.opens.length ocap):=HX6.out.cell 1
 have s2:w6.cell? ⟨sb,2,none⟩=some (.slice mA SA.made.length mcap):=HX6.out.cell 2
 go_wp2_with (first
  | (go_at_call 9;refine(num_calls _ _).mono ?_;rintro e w' ⟨rfl,rfl⟩)
  | (go_at_call 22;refine HMY.out.mono ?_;rintro e w7 ⟨rfl,hb7⟩;have HB7:=lhi hb7;have HX7:=lhi (Blk.of_heap (hb7.block _ HX6.out.lt) HX6.out);have HC7:=lhi (HCK.out w7 _ _ _ _ (HS6.out.keep hb7));clear hb7 HMY;have t0:w7.cell? ⟨sb,0,none⟩=some (.slice iA SA.inodes.length icap):=HX7.out.cell 0;have t1:w7.cell? ⟨sb,1,none⟩=some (.slice oA SA.opens.length ocap):=HX7.out.cell 1;have t2:w7.cell? ⟨sb,2,none⟩=some (.slice mA SA.made.length mcap):=HX7.out.cell 2)
  | (go_at_call 24;refine HC7.out.mono ?_;rintro e w8 ⟨v,rfl,hb8,hown⟩;have HB8:=lhi hb8;obtain⟨fA,fcap,rfl,-⟩:=own_form hown;clear hb8 hown))
 go_ret
 have k2:Below w.heap.size w1 w2:=⟨HK2.out.k.os,HK2.out.k.tape,HK2.out.k.output,HK2.out.k.size,fun b hb=>HK2.out.k.block b hb⟩
 have z1:=HB1.out.size
 have z2:=k2.size
 have k3:=HB3.out.mono (show w.heap.size<=w2.heap.size by omega)
 have k4:Below w.heap.size (w2.alloc (.cells #[.int .i64 0,.int .i64 0,.int .i64 0,.bool false,.string ⟨#[]⟩,.slice none 0 0] 41)) w4:=⟨HK4.out.k.k.os,HK4.out.k.k.tape,HK4.out.k.k.output,HK4.out.size,fun b hb=>HK4.out.k.k.block b (ins.old hb)⟩
 have z3:=k3.size
 have z4:=k4.size
 have z5:=HB5.out.size
 have z6:=HB6.out.size
 have z7:=HB7.out.size
 exact⟨rfl,HB1.out.trans (k2.trans (k3.trans (k4.trans ((HB5.out.mono (by omega)).trans ((HB6.out.mono (by omega)).trans ((HB7.out.mono (by omega)).trans (HB8.out.mono (by omega))))))))⟩
end
section
open Go.RowKit
set_option maxHeartbeats 2000000
theorem info_bool1:(Tryz.prog.info? 4).map (fun i=>(i.zero,i.size,i.bytes))=some (some (.bool false),1,1):=by kernel_rfl
theorem make_bools{n:Nat}(hn:n<=1000)(W:World):(Instr.makeSlice 102 (.int .i64 n) (.int .i64 n)).run Tryz.prog W= .ok (.slice (some ⟨W.heap.size,0,none⟩) n n) (W.alloc (.cells (Array.replicate n (.bool false)) 4)):=by
 obtain⟨i0,hi,hz⟩:=Option.map_eq_some_iff.1 info_bool1
 have hz0:i0.zero=some (.bool false):=congrArg (fun p=>p.1) hz
 have hz1:i0.size=1:=congrArg (fun p=>p.2.1) hz
 have hz2:i0.bytes=1:=congrArg (fun p=>p.2.2) hz
 have h:=run_make_rowN (P:=Tryz.prog) (w:=W) 102 4 i0 _ Tryz.underlying102 hi hz0 .i64 .i64 n n (Nat.le_refl _) (by rw[hz2];omega) (by omega)
 simp only[hz1,Nat.mul_one,Value.cells,madeCells_one]at h
 simpa using h
def BusyP(ps:List PV)(b:Nat->Bool):Prop:=∀c (hc:c<ps.length),(b c=false/\ps[c].at_= .nilIface)∨(b c=true/\ ∃ty x,ps[c].at_= .iface ty x)
theorem busy_b{L:Nat->Prop}{w:World}{fb s pb:Nat}{M:Mem}{ps:List PV}(h:FsAt L w fb s pb M ps){b:Nat->Bool}(hb:BusyP ps b){c:Nat}(hc:c<ps.length):
  Calls Tryz.prog 40 #[.pointer (some ⟨fb,0,none⟩),.int .i64 c] w fun e w'=>e= .returned (.bool (b c))/\w'=w:=by
 rcases hb c hc with⟨h1,h2⟩ | ⟨h1,ty,x,h2⟩
 ·rw[h1];exact busy_no h hc h2
 ·rw[h1];exact busy_yes h hc h2
set_option maxRecDepth 1000000 in
theorem busy_calls{L:Nat->Prop}{w:World}{fb s pb:Nat}{M:Mem}{ps:List PV}(h:FsAt L w fb s pb M ps){b:Nat->Bool}(hb:BusyP ps b){n:Nat}(hn:ps.length=n):
  Calls Tryz.prog 39 #[.pointer (some ⟨fb,0,none⟩),.int .i64 n] w fun e w'=>(∃v,e= .returned v/\RowAt w' v n 1 (fun i _=>.bool (b i)))/\Below w.heap.size w w':=by
 have h8:=h.tsl
 have HF:=lhi h
 have HBB:=lhi hb
 have HN:=lhi hn
 have hn8:n<=8:=by omega
 have HB0:=lhi ((Below.refl w.heap.size w).alloc (Nat.le_refl _) (.cells (Array.replicate n (.bool false)) 4))
 have HR0:=lhi (RowB.made w 4 n (.bool false))
 clear h hb hn
 go_enter Tryz.func39,Tryz.ntmps39
 have hmk:=make_bools (n:=n) (by omega)
 go_upto_region 3 with(fail)
 obtain⟨g,hg⟩: ∃x,x=w.heap.size:=⟨_,rfl⟩
 obtain⟨w1,hw1⟩: ∃x,x=w.alloc (.cells (Array.replicate n (.bool false)) 4):=⟨_,rfl⟩
 rw[<-hw1]at HB0 HR0
 rw[<-hg]at HR0
 try rw[<-hw1]
 try rw[<-hg]
 have HGE:=lhi hg
 clear hw1 hg hmk
 go_loopw [6] (fun i wr=>∃c:Nat,i= .int .i64 c/\c<=n/\Below w.heap.size w wr/\RowB wr g 4 n (fun j=>.bool (if j<c then b j else false))) (fun i _=>n - (intOf i).toNat)
 case atStart=>exact⟨0,rfl,by omega,HB0.out,HR0.out.congr fun j _=>by simp⟩
 case round=>
  obtain⟨c,rfl,hc,hbl,hr⟩:=hrel
  have HBR:=lhi hbl
  have HRR:=lhi hr
  clear hbl hr HB0 HR0
  by_cases hp:c<n
  ·have hp1:(c:Int)<n:=by omega
   have HBC:=lhi (busy_b (HF.out.below HBR.out) HBB.out (c:=c) (by rw[HN.out];exact hp))
   have c0:wr.cell? ⟨g,c,none⟩=some (.bool (if c<c then b c else false)):=HRR.out.cell hp
   have f0:wr.frozen? ⟨g,c,none⟩=false:=by obtain⟨cs,q1,-,-⟩:=HRR.out;exact q1.frozen _
   rw[if_neg (by omega)]at c0
   go_wp2_with (go_at_call 40;refine HBC.out.mono ?_;rintro e w' ⟨rfl,rfl⟩)
   go_roundw
   case rel=>exact⟨c+1,by go_num,by omega,HBR.out.setCell (p:=⟨g,c,none⟩) (by rw[HGE.out];exact Nat.le_refl _) _,HRR.out.set _ fun j hj=>by
    by_cases e:j=c
    ·subst e;simp
    ·rw[if_neg e]
     by_cases q:j<c
     ·rw[if_pos q,if_pos (by omega)]
     ·rw[if_neg q,if_neg (by omega)]⟩
   case measure=>
    simp only[intOf]
    omega
  ·have e:c=n:=by omega
   subst e
   go_wp2_with (fail)
   go_ret
   exact⟨⟨_,rfl,_,_,rfl,Nat.le_refl _,fun _=>⟨g,0,rfl,fun i j hi hj=>by
    obtain rfl:j=0:=by omega
    have:=HRR.out.cell hi
    rw[if_pos hi]at this
    simpa using this⟩⟩,HBR.out⟩
end
section
open Go.RowKit
set_option maxHeartbeats 2000000
def less(b:Nat->Bool)(c:Nat):Nat->Bool:=fun j=>b j&&!decide (j=c)
theorem cntT_less_far{b:Nat->Bool}{c:Nat}: ∀{n},n<=c->cntT (less b c) n=cntT b n
 | 0,_=>rfl
 | n+1,h=>by
  unfold cntT
  rw[cntT_less_far (n:=n) (by omega)]
  unfold less
  rw[decide_eq_false (by omega)]
  simp
theorem cntT_less{b:Nat->Bool}{c:Nat}(hb:b c=true): ∀{n},c<n->cntT (less b c) n+1=cntT b n
 | n+1,h=>by
  unfold cntT
  by_cases e:n=c
  ·subst e
   rw[cntT_less_far (Nat.le_refl _)]
   unfold less
   simp[hb]
  ·have ih:=cntT_less hb (n:=n) (by omega)
   unfold less at ih⊢
   rw[decide_eq_false (show ¬ n=c from e)]
   simp only[Bool.not_false,Bool.and_true]
   omega
theorem PickR.form{r:Nat->Bool}{n:Nat}{e:Ending}(h:PickR r n e): ∃(c:Int) (ok:Bool),e= .returned (.tuple #[.int .i64 c,.bool ok])/\ (ok=true-> ∃c':Nat,c=c'/\c'<n/\r c'=true)/\ (ok=false-> ∀c,c<n->r c=false):=by
 rcases h with⟨c,rfl,h1,h2⟩ | ⟨rfl,h1⟩
 ·exact⟨c,true,rfl,fun _=>⟨c,rfl,h1,h2⟩,fun h=>by cases h⟩
 ·exact⟨0,false,rfl,(fun h=>by cases h),fun _=>h1⟩
set_option maxRecDepth 1000000 in
theorem round_calls{L:Nat->Prop}{w:World}{fb s pb:Nat}{n:Nat}(hn:n<=8)(hL:Bd L w)(Q:(Nat->Bool)->World->Prop)
  (hfs: ∀b W,Q b W-> ∃M ps,FsAt L W fb s pb M ps/\BusyP ps b/\ps.length=n) (hbl: ∀b W W',Q b W->Below W.heap.size W W'->Q b W')
  (hst: ∀b W c,c<n->b c=true->Q b W->Calls Tryz.prog 27 #[.pointer (some ⟨fb,0,none⟩),.int .i64 (c:Nat)] W fun e w'=>e= .returned (.tuple #[.bool true,.int .i64 0])/\Q (less b c) w'/\Kp L W w')
  {pv:Value} {np:Nat} (hnp:np<=9223372036854775807) {pk:Nat->Int} (hpk: ∀W,Kp L w W->RowAt W pv np 1 (fun i _=>.int .i64 (pk i))) (hpr: ∀i,i<np-> -9223372036854775808<=pk i/\pk i<=9223372036854775807) {most:Int} (hmost:100<=most/\most<=1000000) {b0:Nat->Bool} (h0:Q b0 w):
  Calls Tryz.prog 18 #[.pointer (some ⟨fb,0,none⟩),.int .i64 n,pv,.int .i64 most] w fun e w'=>e= .returned (.bool true)/\ (∃b,Q b w'/\ ∀c,c<n->b c=false)/\Kp L w w':=by
 have HL:=lhi hL
 have HFS:=lhi hfs
 have HBL:=lhi hbl
 have HSTP:=lhi hst
 have HPK:=lhi hpk
 have HPR:=lhi hpr
 have H0:=lhi h0
 obtain⟨A,cap,rfl,hcap,-⟩:=hpk w (Kp.refl _ _)
 clear hL hfs hbl hst hpk hpr h0
 go_enter Tryz.func18,Tryz.ntmps18
 go_wp2_with (fail)
 go_loopw [9] (fun i wr=>∃(k:Nat) (b:Nat->Bool),i= .int .i64 k/\k+cntT b n<=n/\Q b wr/\Kp L w wr) (fun i _=>10 - (intOf i).toNat)
 case atStart=>exact⟨0,b0,rfl,by have:=cntT_le b0 n;omega,H0.out,Kp.refl _ _⟩
 case round=>
  obtain⟨k,b,rfl,hk,hq,hkp⟩:=hrel
  have HQ:=lhi hq
  have HKP:=lhi hkp
  clear hq hkp
  have hk1:(k:Int)<most:=by omega
  obtain⟨M,ps,hf,hbp,hpl⟩:=HFS.out b wr HQ.out
  have HBS:=lhi (busy_calls hf hbp hpl)
  clear hf hbp hpl
  have HGO:=lhi (show∀(p:Int),-9223372036854775808<=p/\p<=9223372036854775807->True from fun _ _=>trivial)
  by_cases hkp:k<np
  ·have hk2:(k:Int)<np:=by omega
   obtain⟨-,-,g,off,rfl,hcell⟩:=(HPK.out wr HKP.out).at_ hkp
   have c0:wr.cell? ⟨g,off+k*1,none⟩=some (.int .i64 (pk k)):=hcell 0 (by omega)
   rw[Nat.mul_one]at c0
   have hpp:=HPR.out k hkp
   clear hcell
   generalize pk k=p at*
   go_upto_region 8 with(first
    | (go_at_call 39;refine HBS.out.mono ?_;rintro e w1 ⟨⟨v,rfl,hrow⟩,hb1⟩;have HB1:=lhi hb1;have HPI:=lhi (Pick_calls hrow (by omega) hpp);clear hb1 hrow)
    | (go_at_call 38;refine HPI.out.mono ?_;rintro e w' ⟨hpick,hw⟩;subst hw;obtain⟨cv,bv,rfl,hp1,hp2⟩:=hpick.form;have HP1:=lhi hp1;have HP2:=lhi hp2;clear hpick hp1 hp2 HPI))
   have HQ1:=lhi (HBL.out _ _ _ HQ.out HB1.out)
   have HK1:=lhi (HKP.out.trans (Kp.below (HKP.out.bd HL.out) HB1.out))
   cases bv
   ·go_wp2_with (fail)
    go_ret
    exact⟨rfl,⟨b,HQ1.out,HP2.out trivial⟩,HK1.out⟩
   ·obtain⟨c,rfl,hc,hbc⟩:=HP1.out rfl
    have HSS:=lhi (HSTP.out b _ c hc hbc HQ1.out)
    have hcl:=cntT_less hbc hc
    go_wp2_with (first
     | (go_at_call 27;refine HSS.out.mono ?_;rintro e w3 ⟨rfl,hq3,hk3⟩;have HQ3:=lhi hq3;have HK3:=lhi hk3;clear hq3 hk3 HSS)
     | (go_at_call 9;refine(num_calls _ _).mono ?_;rintro e w' ⟨rfl,rfl⟩))
    go_roundw
    case rel=>exact⟨k+1,less b c,by go_num,by omega,HQ3.out,HK1.out.trans HK3.out⟩
    case measure=>
     simp only[intOf]
     omega
  ·have hpp: -9223372036854775808<= (k:Int)/\ (k:Int)<=9223372036854775807:=by omega
   go_upto_region 8 with(first
    | (go_at_call 39;refine HBS.out.mono ?_;rintro e w1 ⟨⟨v,rfl,hrow⟩,hb1⟩;have HB1:=lhi hb1;have HPI:=lhi (Pick_calls hrow (by omega) hpp);clear hb1 hrow)
    | (go_at_call 38;refine HPI.out.mono ?_;rintro e w' ⟨hpick,hw⟩;subst hw;obtain⟨cv,bv,rfl,hp1,hp2⟩:=hpick.form;have HP1:=lhi hp1;have HP2:=lhi hp2;clear hpick hp1 hp2 HPI))
   have HQ1:=lhi (HBL.out _ _ _ HQ.out HB1.out)
   have HK1:=lhi (HKP.out.trans (Kp.below (HKP.out.bd HL.out) HB1.out))
   cases bv
   ·go_wp2_with (fail)
    go_ret
    exact⟨rfl,⟨b,HQ1.out,HP2.out trivial⟩,HK1.out⟩
   ·obtain⟨c,rfl,hc,hbc⟩:=HP1.out rfl
    have HSS:=lhi (HSTP.out b _ c hc hbc HQ1.out)
    have hcl:=cntT_less hbc hc
    go_wp2_with (first
     | (go_at_call 27;refine HSS.out.mono ?_;rintro e w3 ⟨rfl,hq3,hk3⟩;have HQ3:=lhi hq3;have HK3:=lhi hk3;clear hq3 hk3 HSS)
     | (go_at_call 9;refine(num_calls _ _).mono ?_;rintro e w' ⟨rfl,rfl⟩))
    go_roundw
    case rel=>exact⟨k+1,less b c,by go_num,by omega,HQ3.out,HK1.out.trans HK3.out⟩
    case measure=>
     simp only[intOf]
     omega
end
section
open Go.RowKit
set_option maxHeartbeats 1000000
theorem tr_note_far{M:Mem}{c c':Int}(hc:0<=c)(hc':0<=c')(h:c'≠c)(x:Acc):tr (M.note c x).ts c'=tr M.ts c':=by
 unfold tr Mem.note noted
 simp only
 rw[List.getD_eq_getElem?_getD,List.getElem?_set_ne (by omega),<-List.getD_eq_getElem?_getD]
theorem tr_see_far{M:Mem}{c c':Int}(hc:0<=c)(hc':0<=c')(h:c'≠c)(i:Int):tr (M.see c i).ts c'=tr M.ts c':=by
 unfold Mem.see
 split
 ·rfl
 ·exact tr_note_far hc hc' h _
theorem tr_setW_far{M:Mem}{c c':Int}(hc:0<=c)(hc':0<=c')(h:c'≠c)(i:Int)(t:Thing):tr (M.setW c i t).ts c'=tr M.ts c':=by
 unfold Mem.setW
 rw[tr_note_far hc hc' h]
 rfl
theorem tr_create_far{M:Mem}{c c':Int}(hc:0<=c)(hc':0<=c')(h:c'≠c){it:Item}{nm:ByteArray}{kind n:Int}:tr (createM M c it nm kind n).ts c'=tr M.ts c':=by
 have h1:tr (((M.see c (mdw c)).put (mdw c) (n+1)).note c (mdw c,true)).ts c'=tr M.ts c':=by
  rw[tr_note_far hc hc' h]
  exact tr_see_far hc hc' h _
 unfold createM
 simp only
 split
 ·rw[tr_note_far hc hc' h]
  show tr (Mem.setW _ _ _ _).ts c'=_
  rw[tr_setW_far hc hc' h,h1]
 ·rw[tr_setW_far hc hc' h,h1]
def dmRoot(k:Nat)(bb:Int):List Item:=((List.range k).filter fun(i:Nat)=>((nbucket (nmW i):Nat):Int)==bb).map fun(i:Nat)=>⟨nmW i,2+8* (i:Int),true⟩
def Dm(k:Nat)(dirs:Bool)(b:Nat->Bool):DkT:=fun num bb=>if num=1 then dmRoot k bb else if 2<=num/\ (num - 2) % 8=0/\ (num - 2) / 8<k/\bb=(nbucket nmSame:Nat)/\b ((num - 2) / 8).toNat=false then [⟨nmSame,newN k ((num - 2) / 8).toNat,dirs⟩]else []
theorem dm_empty{k:Nat}{dirs:Bool}{b:Nat->Bool}{c:Nat}(hb:b c=true):Dm k dirs b (2+8* (c:Int)) (nbucket nmSame:Nat)=[]:=by
 unfold Dm
 have e:((2+8* (c:Int) - 2) / 8).toNat=c:=by omega
 rw[if_neg (by omega),if_neg]
 rintro⟨-,-,-,-,h⟩
 rw[e,hb]at h
 cases h
theorem dm_less{k:Nat}{dirs:Bool}{b:Nat->Bool}{c:Nat}(hc:c<k)(hb:b c=true)(num bb:Int):(if num=2+8* (c:Int)/\bb=(nbucket nmSame:Nat)then Dm k dirs b (2+8* (c:Int)) (nbucket nmSame:Nat)++[⟨nmSame,newN k c,dirs⟩]else Dm k dirs b num bb)=Dm k dirs (less b c) num bb:=by
 by_cases e:num=2+8* (c:Int)/\bb=(nbucket nmSame:Nat)
 ·rw[if_pos e,dm_empty hb]
  obtain⟨rfl,rfl⟩:=e
  have e1:((2+8* (c:Int) - 2) / 8).toNat=c:=by omega
  unfold Dm
  rw[if_neg (by omega),e1,if_pos ⟨by omega,by omega,by omega,rfl,by simp[less]⟩]
  rfl
 ·rw[if_neg e]
  unfold Dm
  by_cases e1:num=1
  ·rw[if_pos e1,if_pos e1]
  ·rw[if_neg e1,if_neg e1]
   have:(2<=num/\ (num - 2) % 8=0/\ (num - 2) / 8<k/\bb=(nbucket nmSame:Nat)/\b ((num - 2) / 8).toNat=false)↔(2<=num/\ (num - 2) % 8=0/\ (num - 2) / 8<k/\bb=(nbucket nmSame:Nat)/\less b c ((num - 2) / 8).toNat=false):=by
    constructor
    ·rintro⟨h1,h2,h3,h4,h5⟩
     exact⟨h1,h2,h3,h4,by simp[less,h5]⟩
    ·rintro⟨h1,h2,h3,h4,h5⟩
     refine⟨h1,h2,h3,h4,?_⟩
     have hne:((num - 2) / 8).toNat≠c:=fun q=>e ⟨by omega,h4⟩
     simpa[less,hne]using h5
   simp only[this]
def madeN(k c:Nat):Int:=if c=0 then(k:Int)else 0
def kindM(dirs:Bool):Int:=if dirs then 1 else 0
def accM(k:Nat)(dirs:Bool)(c:Nat):List Acc:=[(wd 1 (nbucket (nmW c):Nat),false),(wd (2+8* (c:Int)) (nbucket nmSame:Nat),false)]++accC (c:Nat) (2+8* (c:Int)) (nbucket nmSame:Nat) (kindM dirs) (madeN k c)
structure Qm (k:Nat) (dirs:Bool) (b:Nat->Bool) (M:Mem):Prop where
 ok:M.ok (20000 - 10*cntT b k)
 dk:Dk M (Dm k dirs b)
 bz:Bz M
 nl:M.nm.length=k
 tl:M.ts.length=k
 md: ∀c,c<k->rd M.ws (mdw (c:Nat))=madeN k c+if b c then 0 else 1
 fd: ∀c q:Nat,c<8->q<4->rd M.ws (fdw (c:Nat) (q:Nat))=0
 tr: ∀c,c<k->tr M.ts (c:Nat)=if b c then []else accM k dirs c
def itW(c:Nat):Item:=⟨nmW c,2+8* (c:Int),true⟩
def M1m(M:Mem)(c:Nat):Mem:=(M.see (c:Nat) (wd 1 (nbucket (nmW c):Nat))).see (c:Nat) (wd (2+8* (c:Int)) (nbucket nmSame:Nat))
def stepM(k:Nat)(dirs:Bool)(c:Nat)(M:Mem):Mem:=createM (M1m M c) (c:Nat) (itW c) nmSame (kindM dirs) (madeN k c)
theorem root_all:((List.range 4).all fun q=>(List.range (q+2)).all fun c=>match(dmRoot (q+2) (nbucket (nmW c):Nat)).find? (Item.is (nmW c))with
 | none=>false
 | some i=>decide (i.name=nmW c)&&decide (i.num=2+8* (c:Int))&&i.dir)=true:=by kernel_rfl
theorem root_find{k c:Nat}(hk:2<=k/\k<=5)(hc:c<k):(dmRoot k (nbucket (nmW c):Nat)).find? (Item.is (nmW c))=some (itW c):=by
 have h:=all_range root_all (i:=k - 2) (by omega)
 have e:k - 2+2=k:=by omega
 simp only[e]at h
 have h:=all_range h hc
 split at h
 ·cases h
 ·rename_i i hi
  simp only[Bool.and_eq_true,decide_eq_true_eq]at h
  rw[hi]
  obtain⟨a,x,d⟩:=i
  simp only at h
  obtain⟨⟨rfl,rfl⟩,rfl⟩:=h
  rfl
namespace Qm
variable{k c:Nat}{dirs:Bool}{b:Nat->Bool}{M:Mem}
theorem walk(h:Qm k dirs b M)(hk:2<=k/\k<=5)(hc:c<k):walkM (c:Nat) [nmW c] M rootItem=(.at_ (itW c),M.see (c:Nat) (wd 1 (nbucket (nmW c):Nat))):=by
 unfold walkM
 rw[if_neg (by decide)]
 have hb:=nb_lt (nmW c)
 have e:(M.bkt rootItem.num (nbucket (nmW c):Nat)).find? (Item.is (nmW c))=some (itW c):=by
  rw[show rootItem.num=1 from rfl,h.dk.bkt ⟨by omega,by omega⟩ hb]
  show(Dm k dirs b 1 _).find? _=_
  unfold Dm
  rw[if_pos rfl]
  exact root_find hk hc
 rw[e]
 rfl
theorem fresh(h:Qm k dirs b M)(hk:2<=k/\k<=5)(hc:c<k)(hb:b c=true):freshC (M.bkt (itW c).num (nbucket nmSame:Nat)) nmSame=0:=by
 have hnb:=nb_lt nmSame
 rw[h.dk.bkt (show 1<= (itW c).num/\ (itW c).num<=257 by unfold itW;simp only;omega) hnb]
 show freshC (Dm k dirs b (2+8* (c:Int)) _) _=0
 rw[dm_empty hb]
 rfl
theorem acc_le(hk:2<=k/\k<=5)(hc:c<k): ∀y∈accM k dirs c,0<=y.1/\y.1<=1000000:=by
 have h1:=nb_lt (nmW c)
 have h2:=nb_lt nmSame
 intro y hy
 unfold accM at hy
 rcases List.mem_append.1 hy with hy | hy
 ·simp at hy
  rcases hy with rfl | rfl <;> simp only[wd] <;> omega
 ·exact accC_num ⟨by omega,by omega⟩ (by omega) h2 (by unfold madeN;split <;> omega) y hy
theorem step(h:Qm k dirs b M)(hk:2<=k/\k<=5)(hc:c<k)(hb:b c=true):Qm k dirs (less b c) (stepM k dirs c M):=by
 have hcnt:=cntT_less hb hc
 have hle:=cntT_le b k
 have hm:0<=madeN k c/\madeN k c<32:=by unfold madeN;split <;> omega
 have h1:=nb_lt (nmW c)
 have h2:=nb_lt nmSame
 have hit:1<= (itW c).num/\ (itW c).num<=257:=by unfold itW;simp only;omega
 have hok1:=(h.ok.see (c:Nat) (wd 1 (nbucket (nmW c):Nat))).see (c:Nat) (wd (2+8* (c:Int)) (nbucket nmSame:Nat))
 have hdk1:=(h.dk.see (c:Nat) (wd 1 (nbucket (nmW c):Nat))).see (c:Nat) (wd (2+8* (c:Int)) (nbucket nmSame:Nat))
 have hbz1:=(h.bz.see (c:Nat) (wd 1 (nbucket (nmW c):Nat))).see (c:Nat) (wd (2+8* (c:Int)) (nbucket nmSame:Nat))
 have hn1:(M1m M c).nm.length=k:=by unfold M1m;rw[see_nm,see_nm];exact h.nl
 have ht1:(M1m M c).ts.length=k:=by unfold M1m;rw[see_len,see_len];exact h.tl
 have hw1:(M1m M c).ws=M.ws:=by unfold M1m;rw[see_ws,see_ws]
 have hrd: ∀j,9509<=j->rd (stepM k dirs c M).ws j=if j=mdw (c:Nat)then madeN k c+1 else rd M.ws j:=fun j hj=>by
  have:=rd_create (M:=M1m M c) (c:=(c:Nat)) (n:=madeN k c) (kind:=kindM dirs) (it:=itW c) (nm:=nmSame) hok1 ⟨by omega,by omega⟩ hm hit hj
  rw[hw1]at this
  exact this
 have htr:=tr_create (M:=M1m M c) (c:=(c:Nat)) (it:=itW c) (nm:=nmSame) (kind:=kindM dirs) (n:=madeN k c) ⟨by omega,by rw[ht1];omega⟩
 refine⟨(ok_create hok1).mono (by omega),?_,bz_create hbz1 ⟨by omega,by omega⟩ hm hit,?_,htr.2.trans ht1,fun c' hc'=>?_,fun c' q hc' hq=>?_,fun c' hc'=>?_⟩
 ·have hd:=dk_create (M:=M1m M c) (c:=(c:Nat)) (n:=madeN k c) (kind:=kindM dirs) (it:=itW c) (nm:=nmSame) hdk1 hok1 (by omega) ⟨by omega,by rw[hn1];omega⟩ (by omega) hm hit (by
   show(Dm k dirs b (2+8* (c:Int)) _).length<1000
   rw[dm_empty hb];simp)
  refine hd.congr fun num bb _ _=>?_
  rw[<-dm_less hc hb num bb]
  have e1:(kindM dirs==1)=dirs:=by cases dirs <;> rfl
  have e2:(2+ (c:Int)+8*madeN k c)=newN k c:=by unfold newN madeN;rfl
  simp only[e1,e2]
  rfl
 ·have e:(stepM k dirs c M).nm.length=(M1m M c).nm.length:=by
   unfold stepM createM
   simp only
   split <;> simp[Mem.setW,Mem.note,Mem.put,Mem.give,see_nm]
  rw[e,hn1]
 ·rw[hrd _ (by unfold mdw;omega)]
  by_cases e:c'=c
  ·subst e
   rw[if_pos rfl]
   simp[less]
  ·rw[if_neg (by unfold mdw;omega),h.md c' hc']
   simp[less,e]
 ·rw[hrd _ (by unfold fdw;omega),if_neg (by unfold fdw mdw;omega)]
  exact h.fd c' q hc' hq
 ·by_cases e:c'=c
  ·subst e
   rw[show(stepM k dirs c' M).ts=(createM (M1m M c') (c':Nat) (itW c') nmSame (kindM dirs) (madeN k c')).ts from rfl,htr.1]
   have e1:YtkebjgebkneijaaGreat.tr (M1m M c').ts (c':Nat)=[(wd 1 (nbucket (nmW c'):Nat),false),(wd (2+8* (c':Int)) (nbucket nmSame:Nat),false)]:=by
    unfold M1m
    rw[tr_see ⟨by omega,by rw[see_len,h.tl];omega⟩,tr_see ⟨by omega,by rw[h.tl];omega⟩,h.tr c' hc',hb]
    rfl
   rw[e1]
   simp only[less,decide_true,Bool.not_true,Bool.and_false]
   rfl
  ·rw[show(stepM k dirs c M).ts=(createM (M1m M c) (c:Nat) (itW c) nmSame (kindM dirs) (madeN k c)).ts from rfl,tr_create_far (by omega) (by omega) (by omega)]
   unfold M1m
   rw[tr_see_far (by omega) (by omega) (by omega),tr_see_far (by omega) (by omega) (by omega),h.tr c' hc']
   simp[less,e]
end Qm
end
end Go.Proofs.YtkebjgebkneijaaGreat
