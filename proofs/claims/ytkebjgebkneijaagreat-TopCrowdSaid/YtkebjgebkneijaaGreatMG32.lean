/- Texts of one's own that a claim's last text rests on: Cr2 Cr3 Dr9 Dr8. -/
import Derived.Test.YtkebjgebkneijaaGreatMG29
import Derived.Test.YtkebjgebkneijaaGreatMG30
import Derived.Test.YtkebjgebkneijaaGreatMG31
import Derived.Test.YtkebjgebkneijaaGreatMG25
import Derived.Test.YtkebjgebkneijaaGreatMG26
import Derived.Defers
import Derived.Recover
import Derived.Laws.Pointers
set_option linter.unusedVariables false
set_option linter.unusedSimpArgs false
namespace Go.Proofs.YtkebjgebkneijaaGreat
section
open Go.RowKit
set_option maxHeartbeats 1000000
def DK:DkT:=fun n b=>if n=1/\b=(nbucket nmF:Nat)then [⟨nmF,2,false⟩]else []
def accW(c:Nat):List Acc:=[(fdw (c:Nat) 0,false),(wd 2 16,false),(wd 2 17,false),(wd 2 (21+c),true)]
structure Qc (v:Int) (d:ByteArray) (b:Nat->Bool) (M:Mem):Prop where
 ok:M.ok (20000 - 10*cntT b 4)
 dk:Dk M DK
 bs:Says M (wd 2 16) (some (.base v D64 false))
 nl:M.nm.length=4
 tl:M.ts.length=4
 md: ∀c:Nat,c<4->rd M.ws (mdw (c:Nat))=if c=0 then 1 else 0
 fd: ∀c q:Nat,c<8->q<4->rd M.ws (fdw (c:Nat) (q:Nat))=if c<4/\q=0 then 2 else 0
 qz: ∀q:Nat,q<4->rd M.ws (wd 2 (17+q))=0
 pg: ∀p:Nat,p<4->Says M (wd 2 (21+p)) (if b p=true then none else some (.page v 0 d))
 tr: ∀c:Nat,c<4->tr M.ts (c:Nat)=if b c=true then []else accW c
namespace Qc
variable{v:Int}{d:ByteArray}{b:Nat->Bool}{M:Mem}{c:Nat}
theorem bas(h:Qc v d b M):M.bas 2=(v,D64,false):=by unfold Mem.bas;rw[h.bs.a]
theorem isBase(h:Qc v d b M):M.isBase 2:=⟨h.bs.f,fun t ht=>by rw[h.bs.a]at ht;exact⟨v,D64,false,(Option.some.inj ht).symm⟩⟩
theorem next(h:Qc v d b M)(hc:c<4):writeM M c 0 2 c d=((((M.see c (fdw c 0)).see c (wd 2 16)).see c (wd 2 17)).setW c (wd 2 (21+c)) (.page v 0 d)):=by
 unfold writeM layM
 rw[h.bas,show c / 4=0 by omega]
 rfl
theorem step(h:Qc v d b M)(hc:c<4)(hb:b c=true):Qc v d (less b c) (writeM M c 0 2 c d):=by
 have hcnt:=cntT_less (n:=4) hb hc
 have hle:=cntT_le b 4
 rw[h.next hc]
 obtain⟨M1,hM1⟩: ∃x,((M.see c (fdw c 0)).see c (wd 2 16)).see c (wd 2 17)=x:=⟨_,rfl⟩
 rw[hM1]
 have hsame:M.same M1:=by rw[<-hM1];exact((Mem.same.see M c _).trans (Mem.same.see _ c _)).trans (Mem.same.see _ c _)
 have hok1:M1.ok (20000 - 10*cntT b 4+3):=by rw[<-hM1];exact((h.ok.see _ _).see _ _).see _ _
 have hsay: ∀{i o},Says M i o->Says M1 i o:=fun q=>by rw[<-hM1];exact((q.see _ _).see _ _).see _ _
 have hdk1:Dk M1 DK:=by rw[<-hM1];exact((h.dk.see _ _).see _ _).see _ _
 have hnl1:M1.nm.length=4:=by rw[hsame.nm];exact h.nl
 have htl1:M1.ts.length=4:=by rw[hsame.ts];exact h.tl
 have hwl:M1.ws.length=9549:=hok1.wl
 have hi:0<=wd 2 (21+ (c:Int))/\wd 2 (21+ (c:Int))<9549:=by unfold wd;omega
 have hrd: ∀j:Int,0<=j->j≠wd 2 (21+ (c:Int))->rd (M1.setW c (wd 2 (21+c)) (.page v 0 d)).ws j=rd M.ws j:=fun j h0 hj=>by
  rw[setW_ws,rd_put hwl hi h0,if_neg hj,hsame.ws]
 have htr1: ∀c':Nat,c'<4->YtkebjgebkneijaaGreat.tr M1.ts (c':Nat)=YtkebjgebkneijaaGreat.tr M.ts (c':Nat)++if c'=c then [(fdw (c:Nat) 0,false),(wd 2 16,false),(wd 2 17,false)]else []:=fun c' hc'=>by
  rw[<-hM1]
  by_cases e:c'=c
  ·subst e
   rw[if_pos rfl,tr_see ⟨by omega,by rw[see_len,see_len,h.tl];omega⟩,tr_see ⟨by omega,by rw[see_len,h.tl];omega⟩,tr_see ⟨by omega,by rw[h.tl];omega⟩]
   simp
  ·rw[if_neg e,tr_see_far (by omega) (by omega) (by omega),tr_see_far (by omega) (by omega) (by omega),tr_see_far (by omega) (by omega) (by omega)]
   simp
 refine⟨(hok1.setW _ _ _).mono (by omega),?_,?_,?_,?_,fun c' hc'=>?_,fun c' q hc' hq=>?_,fun q hq=>?_,fun p hp=>?_,fun c' hc'=>?_⟩
 ·exact((hdk1.give _ _).put (fun num bb hn hb'=>Dk.wd_ne hn ⟨hb'.1,by omega⟩ (show 1<= (2:Int)/\ (2:Int)<=257 by omega) (show 0<=21+ (c:Int)/\21+ (c:Int)<37 by omega) (fun e=>by omega)) _).note _ _
 ·exact Says.setW_other (hsay h.bs) (by unfold wd;omega) _
 ·simp[Mem.setW,Mem.note,Mem.put,Mem.give,hnl1]
 ·unfold Mem.setW
  rw[note_len]
  exact htl1
 ·rw[hrd _ (by unfold mdw;omega) (by unfold mdw wd;omega)];exact h.md c' hc'
 ·rw[hrd _ (by unfold fdw;omega) (by unfold fdw wd;omega)];exact h.fd c' q hc' hq
 ·rw[hrd _ (by unfold wd;omega) (by unfold wd;omega)];exact h.qz q hq
 ·by_cases e:p=c
  ·subst e
   have:less b p p=false:=by simp[less]
   rw[this]
   exact Says.setW_self hok1 (by omega) ⟨by omega,by rw[hnl1];omega⟩ (by omega) hi
  ·have:less b c p=b p:=by simp[less,e]
   rw[this]
   exact Says.setW_other (hsay (h.pg p hp)) (by unfold wd;omega) _
 ·by_cases e:c'=c
  ·subst e
   have:less b c' c'=false:=by simp[less]
   rw[this]
   unfold Mem.setW
   rw[tr_note ⟨by omega,by show(c':Int)<M1.ts.length;rw[htl1];omega⟩]
   show YtkebjgebkneijaaGreat.tr M1.ts (c':Nat)++_=_
   rw[htr1 c' hc',if_pos rfl,h.tr c' hc',hb]
   rfl
  ·have:less b c c'=b c':=by simp[less,e]
   rw[this,tr_setW_far (by omega) (by omega) (by omega),htr1 c' hc',if_neg e,h.tr c' hc']
   simp
theorem acc_le(hc:c<4): ∀y∈accW c,0<=y.1/\y.1<=1000000:=by
 intro y hy
 unfold accW at hy
 simp at hy
 rcases hy with rfl | rfl | rfl | rfl <;> simp only[wd,fdw] <;> omega
theorem clear(h:Qc v d b M)(hb:b c=true)(hc:c<4):Qc v d b (M.clear c):=by
 refine⟨h.ok.clear c,h.dk.clear c,⟨h.bs.f,h.bs.a,h.bs.z⟩,h.nl,by simpa[Mem.clear]using h.tl,h.md,h.fd,h.qz,fun p hp=>⟨(h.pg p hp).f,(h.pg p hp).a,(h.pg p hp).z⟩,fun c' hc'=>?_⟩
 have ht:YtkebjgebkneijaaGreat.tr (M.clear c).ts (c':Nat)=if c'=c then []else YtkebjgebkneijaaGreat.tr M.ts (c':Nat):=by
  unfold Mem.clear YtkebjgebkneijaaGreat.tr
  simp only
  rw[getD_set _ _ _ _ _ (by rw[h.tl];omega)]
  by_cases e:c'=c
  ·rw[if_pos (by omega),if_pos e]
  ·rw[if_neg (by omega),if_neg e]
 rw[ht]
 by_cases e:c'=c
 ·subst e
  rw[if_pos rfl,hb,if_pos rfl]
 ·rw[if_neg e]
  exact h.tr c' hc'
end Qc
theorem says_zero{M:Mem}{i:Int}(h:rd M.ws i=0):Says M i none:=⟨.inl h,by unfold Mem.at_;rw[h];rfl,by rw[h];decide⟩
theorem fds_K:((List.range 8).all fun c=>(List.range 4).all fun q=>decide (onTo (SK D64 4) 4 (c:Nat) (q:Nat)=if c<4/\q=0 then 2 else 0))=true:=by kernel_rfl
theorem bk_K(k:Nat):bkItems (SK D64 4) [(nmF,2)] k=if nbucket nmF=k then [⟨nmF,2,false⟩]else []:=by
 have h:=bkItems_snoc (SK D64 4) [] (nmF,2) k
 rw[List.nil_append]at h
 rw[h]
 by_cases e:nbucket nmF=k
 ·rw[if_pos e,if_pos e]
  show [itOf (SK D64 4) (nmF,2)]=_
  rfl
 ·rw[if_neg e,if_neg e];rfl
theorem qc_load(d:ByteArray): ∃v,Qc v d (fun _=>true) (loadM (SK D64 4)):=by
 have h:=ld_load inv_D4
 obtain⟨⟨v,hv⟩,-⟩:=h.p.y 2 D64 ⟨by omega,by omega⟩ rfl
 refine⟨v,h.ok.mono (by decide),?_,hv,h.nl,h.tl,fun c hc=>?_,fun c q hc hq=>?_,fun q hq=>h.p.z 2 _ ⟨by omega,by omega⟩ (by omega) (by omega) (by omega),fun p hp=>?_,fun c hc=>by rw[h.tr];rfl⟩
 ·refine(dk_load inv_D4 (fun i hi b hb=>?_)).congr fun num b hn hb=>?_
  ·have:i<2:=hi
   rcases(by omega:i=0∨i=1)with rfl | rfl
   ·refine⟨Nat.le_trans (bkItems_le _ _ _) (by decide),fun x hx=>?_⟩
    unfold bkItems at hx
    obtain⟨e,he,rfl⟩:=List.mem_map.1 hx
    have he:=(List.mem_filter.1 he).1
    have he:e=(nmF,2):=List.mem_singleton.1 he
    subst he
    exact⟨by decide,by decide⟩
   ·exact⟨Nat.zero_le _,fun x hx=>by cases hx⟩
  ·show dB (SK D64 4) 1 (dB (SK D64 4) 0 (fun _ _=>[]) 8) 8 num b=_
   unfold dB
   rw[if_neg (fun q=>q.2.2 rfl)]
   rw[show((SK D64 4).ino 0).ents=[(nmF,2)]from rfl,bk_K,show(SK D64 4).num 0=1 from rfl]
   unfold DK
   by_cases e:num=1/\b=(nbucket nmF:Nat)
   ·obtain⟨rfl,rfl⟩:=e
    have hb8:=nb_lt nmF
    rw[Int.toNat_natCast,if_pos rfl,if_pos ⟨rfl,by omega,by simp⟩,if_pos ⟨rfl,rfl⟩]
   ·rw[if_neg e]
    by_cases q:nbucket nmF=b.toNat
    ·rw[if_neg]
     rintro⟨q1,q2,-⟩
     exact e ⟨q1,by omega⟩
    ·rw[if_neg q,if_neg]
     rintro⟨-,-,q3⟩
     exact q3 rfl
 ·rw[h.md c hc]
  rcases(by omega:c=0∨c=1∨c=2∨c=3)with rfl | rfl | rfl | rfl <;> rfl
 ·rw[h.fd _ _ ⟨by omega,by omega⟩ ⟨by omega,by omega⟩]
  have:=all_range (all_range fds_K hc) hq
  exact of_decide_eq_true this
 ·rw[if_pos rfl]
  exact says_zero (h.p.z 2 _ ⟨by omega,by omega⟩ (by omega) (by omega) (by omega))
end
section
open Go.RowKit
set_option maxHeartbeats 1000000
set_option maxRecDepth 1000000 in
theorem run_write{w:World}{sp:Nat}(s2:w.cell? ⟨sp,2,none⟩=some (.int .i64 5)){P:World->Prop}
  (hC: ∀W,Below w.heap.size w W->Calls Tryz.prog 165 #[.pointer (some ⟨sp,0,none⟩)] W fun e w'=>e= .returned (.tuple #[])/\P w'):
  Calls Tryz.prog 114 #[.pointer (some ⟨sp,0,none⟩),begunV] w fun e w'=>e= .returned (.tuple #[])/\P w':=by
 have hsl:=World.block_lt_of_cell? w _ s2
 have h1:=ta_looked
 have h2:=ta_holds
 have HC:=lhi (hC ((w.alloc (.cells #[.int .i64 0,.string ⟨#[]⟩,.bool false,.slice none 0 0,.string ⟨#[]⟩,.string ⟨#[]⟩,.bool false] 239)).alloc (.cells #[.int .i64 0,.string ⟨#[]⟩,.bool false,.string ⟨#[]⟩,.int .i64 0] 243)) (((Below.refl _ _).alloc (Nat.le_refl _) _).alloc (by simp) _))
 clear hC
 go_enter Tryz.func114,Tryz.ntmps114
 go_wp2_with (go_at_call 165;refine HC.out.mono ?_;rintro e w' ⟨rfl,hp⟩;have HP:=lhi hp;clear hp)
 go_end0
 exact⟨rfl,HP.out⟩
def cWrite(c:Nat)(d:ByteArray):CallV:=⟨5,c,0,16* (c:Int),0,⟨#[]⟩,⟨#[]⟩,d⟩
theorem D64_len:D64.size=64:=cutF_len nm0 64
theorem stepC_write{w:World}{fb s:Nat}{v:Int}{d:ByteArray}(hd:d.size=16){b:Nat->Bool}{M:Mem}(h:Qc v d b M){c:Nat}(hc:c<4):
  StepC w fb s M (writeM M c 0 2 c d) c (cWrite c d) 99 (.agg #[]) (numR 16):=by
 intro K W _ hM hfb
 have hle:=cntT_le b 4
 have hb:=h.bas
 refine step_ret hM hfb (core:=(c:Int)) (c:=cWrite c d) (at_:=begunV) (r:=numR 16) fun W1 h1=>?_
 have hbk:=h1.blk (x:=⟨W.heap.size+3,193,stepCs s c (cWrite c d) noRes⟩) (by simp[stepBs])
 refine run_write (hbk.cell 2) (P:=fun w'=>Wk K W s (writeM M c 0 2 c d) (stepBs W.heap.size s c (cWrite c d) (numR 16)) [] w') fun W2 hb2=>?_
 exact write_ok (h1.below hb2 hM.bd) hM.bd h.ok (by omega) ⟨by omega,by rw[h.tl];omega⟩ (i:=c) (by omega) (k:=0) rfl ⟨by omega,by omega⟩ rfl rfl hd (num:=2) (by
  have:=h.fd c 0 (by omega) (by omega)
  rw[if_pos ⟨hc,rfl⟩]at this
  exact this) ⟨by omega,by omega⟩ h.isBase h.bs.z (by rw[hb]) (by rw[hb];show 16*c+16<=D64.size;rw[D64_len];omega) (by rw[hb];show D64.size<=256;rw[D64_len];omega) (h.qz _ (by omega))
def DD(d:ByteArray):ByteArray:=fileD (0,D64,false) (fun _=>d)
theorem its_DK{M:Mem}(h:Dk M DK):itsM M 1=[⟨nmF,2,false⟩]:=by
 rw[itsM_dk h ⟨by omega,by omega⟩]
 have hb:nbucket nmF<8:=by have:=nb_lt nmF;omega
 have: ∀k,((List.range k).flatMap fun q=>DK 1 (q:Nat))=if nbucket nmF<k then [⟨nmF,2,false⟩]else []:=by
  intro k
  induction k with
  | zero=>rfl
  | succ k ih=>
   rw[List.range_succ,List.flatMap_append,ih]
   simp only[List.flatMap_cons,List.flatMap_nil,List.append_nil,DK]
   by_cases e:nbucket nmF=k
   ·rw[if_neg (by omega),if_pos ⟨trivial,by omega⟩,if_pos (by omega)];rfl
   ·rw[if_neg (show ¬(True/\ (k:Int)=(nbucket nmF:Nat))by omega),List.append_nil]
    by_cases q:nbucket nmF<k
    ·rw[if_pos q,if_pos (by omega)]
    ·rw[if_neg q,if_neg (by omega)]
 rw[this 8,if_pos hb]
namespace Qc
variable{v:Int}{d:ByteArray}{b:Nat->Bool}{M:Mem}
theorem gather(h:Qc v d b M):gDir M 1 1 ⟨[],[]⟩=⟨[2],[1]⟩:=by
 unfold gDir
 rw[its_DK h.dk]
 rfl
theorem deep(h:Qc v d b M):Deep M 1 1:=⟨⟨by omega,by omega⟩,fun y hy hd=>by
 rw[its_DK h.dk]at hy
 rw[List.mem_singleton.1 hy]at hd
 cases hd⟩
theorem ops(h:Qc v d b M):opsTo M 4=[(0,0,2),(1,0,2),(2,0,2),(3,0,2)]:=by
 have hC: ∀c:Nat,c<4->opsC M c 4=[((c:Int),0,2)]:=fun c hc=>by
  have h0:=h.fd c 0 (by omega) (by omega)
  have h1:=h.fd c 1 (by omega) (by omega)
  have h2:=h.fd c 2 (by omega) (by omega)
  have h3:=h.fd c 3 (by omega) (by omega)
  rw[if_pos ⟨hc,rfl⟩]at h0
  rw[if_neg (by omega)]at h1 h2 h3
  unfold opsC
  simp only[List.range_succ,List.range_zero,List.nil_append,List.filterMap_append,List.filterMap_cons,List.filterMap_nil,List.append_assoc]
  rw[h0,h1,h2,h3]
  rfl
 unfold opsTo
 simp only[List.range_succ,List.range_zero,List.nil_append,List.flatMap_append,List.flatMap_cons,List.flatMap_nil,List.append_nil,List.append_assoc]
 rw[hC 0 (by omega),hC 1 (by omega),hC 2 (by omega),hC 3 (by omega)]
 rfl
theorem mades(h:Qc v d b M):madeTo M 4=[1,0,0,0]:=by
 have h0:=h.md 0 (by omega)
 have h1:=h.md 1 (by omega)
 have h2:=h.md 2 (by omega)
 have h3:=h.md 3 (by omega)
 show [rd M.ws (mdw (0:Nat)),rd M.ws (mdw (1:Nat)),rd M.ws (mdw (2:Nat)),rd M.ws (mdw (3:Nat))]=_
 rw[h0,h1,h2,h3]
 rfl
theorem is2(i:Int):(filesO [2] [(0,0,2),(1,0,2),(2,0,2),(3,0,2)] i).isSome=true↔i=2:=by
 unfold filesO
 by_cases e:i=2 <;> simp[e]
theorem data(h:Qc v d b M)(hd:d.size=16)(hb: ∀c,c<4->b c=false)(s:Nat):DataC M s (fun i=>(filesO [2] (opsTo M 4) i).isSome=true) (fun _=>DD d):=by
 intro K W num hn hM
 have hn:(filesO [2] (opsTo M 4) num).isSome=true:=hn
 rw[h.ops]at hn
 obtain rfl:=(is2 num).1 hn
 have hle:=cntT_le b 4
 have hbs:=h.bas
 have:=data_ok hM h.ok (by omega) (num:=2) ⟨by omega,by omega⟩ h.isBase h.bs.z (by rw[hbs];show D64.size<=256;rw[D64_len];omega) h.qz (pg:=fun _=>d) (fun p _ hp=>by
  rw[hbs]at hp⊢
  have hp:p< (D64.size+15) / 16:=hp
  rw[D64_len]at hp
  have hs:=h.pg p (by omega)
  rw[hb p (by omega),if_neg (by decide)]at hs
  exact .inr ⟨hd,hs.z,hs.a⟩)
 rw[hbs]at this
 exact this
theorem told(h:Qc v d b M){S:St}(hs:IsState M ⟨[2],[1]⟩ (fun _=>DD d) 4 S):S=SK (DD d) 4:=by
 obtain⟨h1,h2,A,h3,h4⟩:=hs
 rw[h.ops]at h2 h4
 rw[h.mades]at h1
 have a2:A 2=some ⟨2,false,[],DD d⟩:=(h4 2).1 ((is2 2).2 rfl)
 have a1:A 1=some ⟨1,true,[(nmF,2)],nm0⟩:=by
  obtain⟨q1,q2⟩:=(h4 1).2 (fun q=>by have:=(is2 1).1 q;omega)
  obtain⟨p,hp⟩:=Option.isSome_iff_exists.1 (show(A 1).isSome=true by rw[q1];rfl)
  obtain⟨r1,r2,r3,r4,-⟩:=q2 p hp
  rw[hp]
  obtain⟨pn,pd,pe,pdat⟩:=p
  simp only at r1 r2 r3 r4
  subst r1 r2 r3
  rw[its_DK h.dk]at r4
  have r5:pe=[(nmF,2)]:=List.perm_singleton.1 r4
  rw[r5];rfl
 have aN: ∀j:Nat,2<=j->A ((j:Int)+1)=none:=fun j hj=>by
  obtain⟨q1,-⟩:=(h4 ((j:Int)+1)).2 (fun q=>by have:=(is2 _).1 q;omega)
  cases hA:A ((j:Int)+1)with
  | none=>rfl
  | some p=>
   rw[hA]at q1
   simp at q1
   omega
 have hi:S.inodes=(SK (DD d) 4).inodes:=by
  rw[h3]
  exact filter_two (f:=fun(j:Nat)=>A ((j:Int)+1)) (by simpa using a1) (by simpa using a2) aN 255
 obtain⟨S1,S2,S3⟩:=S
 simp only at h1 h2 hi
 subst h1 h2 hi
 rfl
end Qc
theorem DD_len{d:ByteArray}(hd:d.size=16):(DD d).size=64:=by
 unfold DD fileD
 rw[ByteArray.size_extract,D64_len,catP_len 4 (fun _ _ _=>hd)]
 rfl
theorem extract_all{x:ByteArray}{n:Nat}(h:x.size=n):x.extract 0 n=x:=by
 apply ByteArray.ext
 have:x.data.size=n:=h
 simp[this]
theorem four_len{d:ByteArray}(hd:d.size=16):(d++d++d++d).size=64:=by simp only[ByteArray.size_append];omega
theorem DD_eq{d:ByteArray}(hd:d.size=16):DD d=d++d++d++d:=by
 have e:(catP (fun _=>d) 0 4)=d++d++d++d:=by
  show((((⟨#[]⟩:ByteArray)++d)++d)++d)++d=_
  rw[show(⟨#[]⟩:ByteArray)++d=d from ByteArray.empty_append]
 unfold DD fileD
 show(catP (fun _=>d) 0 ((D64.size+15) / 16)).extract 0 D64.size=_
 rw[D64_len,e]
 exact extract_all (four_len hd)
theorem piece_DD{d:ByteArray}(hd:d.size=16):pieceF (DD d) 0 64=d++d++d++d:=by
 have hl:=DD_len hd
 unfold pieceF
 rw[if_neg (by omega),hl,DD_eq hd]
 exact extract_all (four_len hd)
end
section
open Go.RowKit
set_option maxHeartbeats 2000000
section
variable{W:World}{base ob db:Nat}{c:CallV}{r:ResV}{iv ov mv:Value}{Iv:List InV}{S:St}
theorem Doer.mrow(h:Doer W base ob db c r iv ov mv Iv S)(hn:0<S.made.length): ∃g cap,mv= .slice (some ⟨g,0,none⟩) S.made.length cap/\base<=g/\ ∀j,j<S.made.length->W.cell? ⟨g,j,none⟩=some (.int .i64 (S.mad j)):=by
 have hm:=h.st.mad
 rcases hm.2 with⟨-,q⟩ | ⟨g,cap,cur,rfl,hb,-⟩
 ·omega
 ·refine⟨g,cap,rfl,hb,fun j hj=>?_⟩
  rw[own_cell hm (by omega)]
  have h2:=flat_get_k (k:=1) (enc:=encM) (by decide) encM_len S.made j
  rw[Nat.div_one,Nat.mod_one]at h2
  rw[h2,List.getElem?_eq_getElem hj]
  show some (Value.int .i64 S.made[j])=some (Value.int .i64 (S.made.getD j 0))
  rw[getD_lt hj]
theorem Doer.mcell{mg mcap n:Nat}(h:Doer W base ob db c r iv ov (.slice (some ⟨mg,0,none⟩) n mcap) Iv S)(hn:n=S.made.length){j:Nat}(hj:j<S.made.length):W.cell? ⟨mg,j,none⟩=some (.int .i64 (S.mad j))/\W.frozen? ⟨mg,j,none⟩=false/\base<=mg:=by
 obtain⟨g,cap,e,hb,hc⟩:=h.mrow (by omega)
 injection e with e1 e2 e3
 injection e1 with e1
 injection e1 with e1
 subst e1
 obtain⟨-,cs,hB⟩:=own_type h.st.mad rfl
 exact⟨hc j hj,Blk.frozen hB _,hb⟩
theorem Doer.putM{mg mcap n:Nat}(h:Doer W base ob db c r iv ov (.slice (some ⟨mg,0,none⟩) n mcap) Iv S)(hn:n=S.made.length){j:Nat}(hj:j<S.made.length)(v:Int):Doer (W.setCell ⟨mg,j,none⟩ (.int .i64 v)) base ob db c r iv ov (.slice (some ⟨mg,0,none⟩) n mcap) Iv {S with made:=S.made.set j v}:=by
 obtain⟨-,cs,hB⟩:=own_type h.st.mad rfl
 exact⟨h.ob_,h.db_,h.o.far (p:=⟨mg,j,none⟩) (Blk.ne_ h.o hB (by decide)) _,h.d.far (p:=⟨mg,j,none⟩) (Blk.ne_ h.d hB (by decide)) _,h.st.putM hn hj v⟩
theorem setI_num(S:St)(k:Nat)(L:List (ByteArray×Int))(i:Nat):(S.setI k {S.ino k with ents:=L}).num i=S.num i:=by
 unfold St.num St.ino St.setI
 simp only[List.getD_eq_getElem?_getD,List.getElem?_set]
 by_cases e:k=i
 ·subst e
  by_cases h:k<S.inodes.length
  ·rw[if_pos rfl,if_pos h]
   simp[St.ino,List.getElem?_eq_getElem h]
  ·rw[if_pos rfl,if_neg h]
   simp[List.getElem?_eq_none (show S.inodes.length<=k by omega)]
 ·rw[if_neg e]
set_option maxRecDepth 1000000 in
theorem create_go(h:Doer W base ob db c r iv ov mv Iv S)(hI:Inv S)(hp:c.path.size<=4611686018427387904){cn:Nat}(hc:c.core=cn)(hcn:cn<S.made.length){k:Nat}{nm:ByteArray}(hs:parentS S c.path= .ok (k,nm))(hE:entF (S.ino k).ents nm=none):
  Calls Tryz.prog 77 #[.pointer (some ⟨db,0,none⟩)] W fun e w'=>DoneR base ob db c W e w' (if(fullS (S.ino k).ents nm ⟨#[]⟩||decide (32<=S.mad cn))=true then .error 5 else
   .ok (makeS S cn (S.num k) (insE (nm,2+ (cn:Int)+8*S.mad cn) (S.ino k).ents) ⟨2+ (cn:Int)+8*S.mad cn,c.kind==1,[],nm0⟩,r)):=by
 obtain⟨g,icap,ics,rfl,-,-,-⟩:=h.row hI.pos
 obtain⟨mg,mcap,rfl,hmb,hmc⟩:=h.mrow (by omega)
 have HPR:=lhi (parent_calls h hI hp)
 rw[hs]at HPR
 obtain⟨hk,hdir⟩:=parentS_lt hI hs
 have hl:=h.st.len'
 have hkI:k<Iv.length:=by omega
 have hino:=h.st.at_ hkI
 have hek:=h.st.ent k hkI
 have c2:=h.st.cell hl.symm hkI (show 2<4 by omega)
 have HBS:=lhi h.bs
 have H:=lhi h
 have d6:W.cell? ⟨db,6,none⟩=some (.string c.path):=h.d.cell 6
 obtain⟨q,hq⟩: ∃q,Iv[k]=q:=⟨_,rfl⟩
 rw[hq]at hino hek c2
 obtain⟨p1,ev⟩:=q
 replace hino:p1=S.ino k:=hino
 subst hino
 obtain⟨es,hes⟩: ∃es,(S.ino k).ents=es:=⟨_,rfl⟩
 replace hek:W.ownsRow base 132 2 ev es.length (es.flatMap encEn):=by rw[<-hes];exact hek
 have hen:=(hI.ord).ents k hk
 have HNE:=lhi (entF_none hE)
 rw[hes]at hE hen HNE⊢
 have HEN:=lhi (fun(V:World) (hb:Below W.heap.size W V)=>entry_no (own_rowT (by decide) encEn_len (own_below hek hb) (cl_entEn _)).at' hen.1 nm hen.2 hE)
 have HEK:=lhi hek
 have HEO:=lhi hen
 have HES:=lhi hes
 have HI:=lhi hI
 have hm:=hmc cn hcn
 obtain⟨m,hmm⟩: ∃m,S.mad cn=m:=⟨_,rfl⟩
 have HMM:=lhi hmm
 have hcc:(cn:Int)<S.made.length:=by omega
 rw[hmm]at hm⊢
 obtain⟨EA,ecap,rfl,-⟩:=own_form hek
 replace c2:W.cell? ⟨g,k*4+2,none⟩=some (.slice EA es.length ecap):=c2
 have HFU:=lhi (fun(V:World) (hb:Below W.heap.size W V)=>full_calls (W:=V) (g:=g) (o:=k*4) ((hb.cell (World.block_lt_of_cell? _ _ c2)).trans c2) (own_rowT (by decide) encEn_len (own_below hek hb) (cl_entEn _)).at' hen.1 nm ⟨#[]⟩)
 obtain⟨RES,hres⟩: ∃R:Except Int (St×ResV),(if(fullS es nm ⟨#[]⟩||decide (32<=m))=true then .error 5 else .ok (makeS S cn (S.num k) (insE (nm,2+ (cn:Int)+8*m) es) ⟨2+ (cn:Int)+8*m,c.kind==1,[],nm0⟩,r))=R:=⟨_,rfl⟩
 have HRES:=lhi hres
 rw[hres]
 have hbs:=h.bs
 clear h hI hp hs hek hes hq hen hE hkI hl hmm hmc hres
 go_enter Tryz.func77,Tryz.ntmps77
 go_upto_region 2 with(first
  | (go_at_call 115;refine HPR.out.mono ?_;rintro e w1 ⟨he,hb1⟩;have he:e= .returned (.tuple #[.pointer (some ⟨g,k*4,none⟩),.string nm]):=he;subst he;have HB1:=lhi hb1;have y2:w1.cell? ⟨g,k*4+2,none⟩=some (.slice EA es.length ecap):=(hb1.cell (World.block_lt_of_cell? _ _ c2)).trans c2;clear hb1 HPR)
  | (go_at_call 93;refine(HEN.out _ HB1.out).mono ?_;rintro e w2 ⟨⟨j,rfl⟩,hb2⟩;have HB2:=lhi (HB1.out.trans (hb2.mono HB1.out.size));clear hb2 y2))
 go_upto_region 3 with(go_at_call 116;refine(mthrow_no _ _).mono ?_;rintro e w' ⟨rfl,rfl⟩)
 have H2:=lhi (H.out.below HB2.out)
 have d0:w2.cell? ⟨db,0,none⟩=some (.pointer (some ⟨ob,0,none⟩)):=H2.out.d.cell 0
 have d2:w2.cell? ⟨db,2,none⟩=some (.int .i64 cn):=by rw[H2.out.d.cell 2,<-hc];rfl
 have o2:w2.cell? ⟨ob,2,none⟩=some (.slice (some ⟨mg,0,none⟩) S.made.length mcap):=H2.out.o.cell 2
 have m0:w2.cell? ⟨mg,cn,none⟩=some (.int .i64 m):=(HB2.out.cell (World.block_lt_of_cell? _ _ hm)).trans hm
 go_region
 have HB3:=lhi (HB2.out.trans ((below_drew w2).mono HB2.out.size))
 have H3:=lhi H2.out.drew
 obtain⟨w3,hw3⟩: ∃w3,w3=w2.drew:=⟨_,rfl⟩
 rw[<-hw3]at HB3 H3⊢
 have hmr:0<=m/\m<=32:=by
  have:=HI.out.mb _ (getD_mem (d:=0) hcn)
  rw[show S.made.getD cn 0=m from HMM.out]at this
  exact this
 clear hw3 d0 d2 o2 m0 H2 HB2 HB1
 cases hF:fullS es nm ⟨#[]⟩with
 | true=>
  obtain rfl:RES= .error 5:=by rw[<-HRES.out,hF];rfl
  rw[hF]at HFU
  go_wp2_with (first
   | (go_at_call 117;refine(HFU.out _ HB3.out).mono ?_;rintro e w4 ⟨rfl,hb4⟩)
   | (go_at_call 116;refine(mthrow_yes _ _).mono ?_;rintro e w' ⟨rfl,rfl⟩))
  exact⟨rfl,rfl,(HB3.out.mono hbs).trans (hb4.mono (Nat.le_trans hbs HB3.out.size))⟩
 | false=>
  rw[hF]at HFU
  by_cases h32:32<=m
  ·obtain rfl:RES= .error 5:=by rw[<-HRES.out,hF,decide_eq_true h32];rfl
   go_wp2_with (first
    | (go_at_call 117;refine(HFU.out _ HB3.out).mono ?_;rintro e w4 ⟨rfl,hb4⟩)
    | (go_at_call 116;refine(mthrow_yes _ _).mono ?_;rintro e w' ⟨rfl,rfl⟩))
   exact⟨rfl,rfl,(HB3.out.mono hbs).trans (hb4.mono (Nat.le_trans hbs HB3.out.size))⟩
  ·obtain⟨num,hnum⟩: ∃x,x=2+ (cn:Int)+8*m:=⟨_,rfl⟩
   obtain⟨SR,hSR⟩: ∃R,R=makeS S cn (S.num k) (insE (nm,num) es) ⟨num,c.kind==1,[],nm0⟩:=⟨_,rfl⟩
   obtain rfl:RES= .ok (SR,r):=by rw[<-HRES.out,hF,decide_eq_false h32,hSR,hnum];rfl
   have HSR:=lhi hSR
   have h8:=HI.out.m8
   have HNU:=lhi (num_in (cn:Int) m ⟨by omega,by omega⟩ ⟨by omega,by omega⟩)
   rw[<-hnum]at HNU
   have HNM:=lhi (show 0<=num/\num<=1000000 by omega)
   have hd32:decide ((32:Int)<=m)=false:=decide_eq_false h32
   have HNV:=lhi hnum
   clear HRES hSR hnum
   go_upto_region 5 with(first
    | (go_at_call 117;refine(HFU.out _ HB3.out).mono ?_;rintro e w4 ⟨rfl,hb4⟩;have HB4:=lhi (HB3.out.trans (hb4.mono HB3.out.size));have H4:=lhi (H3.out.below hb4);clear hb4)
    | (go_at_call 116;refine(mthrow_no _ _).mono ?_;rintro e w' ⟨rfl,rfl⟩))
   have d2:w4.cell? ⟨db,2,none⟩=some (.int .i64 cn):=by rw[H4.out.d.cell 2,<-hc];rfl
   have HPU:=lhi (put_calls (num:=num) H4.out hk (s:=nm) (by rw[HES.out];exact HEO.out.2) (by rw[HES.out];exact HEO.out.1) (by rw[HES.out];exact HNE.out))
   rw[HES.out]at HPU
   go_upto_region 7 with(first
    | (go_at_call 118;refine(HNU.out _).mono ?_;rintro e w' ⟨rfl,rfl⟩)
    | (go_at_call 119;refine HPU.out.mono ?_;rintro e w5 ⟨rfl,hb5,Iv5,hd5⟩;have HB5:=lhi hb5;have H5:=lhi hd5;clear hb5 hd5))
   obtain⟨m0,f0,hmg⟩:=H5.out.mcell rfl hcn
   rw[show(S.setI k {S.ino k with ents:=insE (nm,num) es}).mad cn=m from HMM.out]at m0
   have d0:w5.cell? ⟨db,0,none⟩=some (.pointer (some ⟨ob,0,none⟩)):=H5.out.d.cell 0
   have d2':w5.cell? ⟨db,2,none⟩=some (.int .i64 cn):=by rw[H5.out.d.cell 2,<-hc];rfl
   have o2:w5.cell? ⟨ob,2,none⟩=some (.slice (some ⟨mg,0,none⟩) S.made.length mcap):=H5.out.o.cell 2
   have hw1:IntKind.i64.wrap (m+1)=m+1:=by rw[IntKind.wrap_i64];omega
   clear d2
   go_region
   obtain⟨S6,hS6⟩: ∃S6,S6={S.setI k {S.ino k with ents:=insE (nm,num) es}with made:=S.made.set cn (m+1)}:=⟨_,rfl⟩
   have HS6:=lhi hS6
   have H6:=lhi (show Doer (w5.setCell ⟨mg,cn,none⟩ (.int .i64 (m+1))).drew base ob db c r (.slice (some ⟨g,0,none⟩) S.inodes.length icap) ov (.slice (some ⟨mg,0,none⟩) S.made.length mcap) Iv5 S6 by rw[hS6];exact(H5.out.putM rfl hcn (m+1)).drew)
   have HB6:=lhi (show Below base W (w5.setCell ⟨mg,cn,none⟩ (.int .i64 (m+1))).drew from by
    have h4:Below base W w4:=HB4.out.mono hbs
    have h5:=(h4.trans HB5.out).setCell (p:=⟨mg,cn,none⟩) hmg (.int .i64 (m+1))
    exact h5.trans ((below_drew _).mono (Nat.le_trans hbs h5.size)))
   obtain⟨w6,hw6⟩: ∃w6,w6=(w5.setCell ⟨mg,cn,none⟩ (.int .i64 (m+1))).drew:=⟨_,rfl⟩
   rw[<-hw6]at H6 HB6⊢
   have hn6:S6.inodes.length=S.inodes.length:=by rw[hS6];simp[St.setI]
   have hnm6: ∀i,S6.num i=S.num i:=fun i=>by rw[hS6];exact setI_num S k _ i
   obtain⟨n,hnn⟩: ∃n,S.inodes.length=n:=⟨_,rfl⟩
   have HNN:=lhi hnn
   have hni:=HI.out.small.ni
   rw[hnn]at H6 hn6
   have HBC:=lhi (bsC_calls (w:=w6) (by rw[<-hn6]at H6;exact H6.out.stm) (by omega) num HNM.out (fun i hi=>by
    rw[hnm6]
    have:=HI.out.num_bound (Inv.ino_mem (show i<S.inodes.length by omega))
    exact⟨by have:=this.1;show 0<= (S.ino i).num;omega,by have:=this.2;show(S.ino i).num<=_;omega⟩) (fun i j hij hj=>by
    rw[hnm6,hnm6]
    exact HI.out.num_lt (by omega) hij))
   rw[hn6]at HBC
   have d0:w6.cell? ⟨db,0,none⟩=some (.pointer (some ⟨ob,0,none⟩)):=H6.out.d.cell 0
   have o0:w6.cell? ⟨ob,0,none⟩=some (.slice (some ⟨g,0,none⟩) n icap):=H6.out.o.cell 0
   clear hw6 hS6 hnn m0 f0 d2' o2 hw1 HPU HNU hni
   go_upto_region 9 with(go_at_call 120;refine HBC.out.mono ?_;rintro e w7 ⟨⟨at_,hat,h1,h2,rfl⟩,hb7⟩;have HA1:=lhi h1;have HA2:=lhi h2;have HB7:=lhi (HB6.out.trans (hb7.mono (Nat.le_trans hbs HB6.out.size)));have H7:=lhi (H6.out.below hb7);clear h1 h2 hb7 HBC d0 o0)
   have HBI:=lhi (show Below w7.heap.size w7 (w7.alloc (.cells #[.int .i64 num,.bool (c.kind==1),.slice none 0 0,.string ⟨#[]⟩] 93)).drew from by
    have q:=(Below.refl w7.heap.size w7).alloc (Nat.le_refl _) (.cells #[.int .i64 num,.bool (c.kind==1),.slice none 0 0,.string ⟨#[]⟩] 93)
    exact q.trans ((below_drew _).mono q.size))
   have H8:=lhi (H7.out.below HBI.out)
   have HXB:=lhi (show Blk (w7.alloc (.cells #[.int .i64 num,.bool (c.kind==1),.slice none 0 0,.string ⟨#[]⟩] 93)).drew w7.heap.size 93 #[.int .i64 num,.bool (c.kind==1),.slice none 0 0,.string ⟨#[]⟩]from Blk.new w7 _ _)
   have HBE:=lhi (HB7.out.trans (HBI.out.mono (Nat.le_trans hbs HB7.out.size)))
   have hlI:Iv5.length=n:=by rw[H8.out.st.len',hn6]
   have hown8:=H8.out.st.ino
   rw[hlI]at hown8
   have HIN:=lhi (show Calls Tryz.prog 122 #[.slice (some ⟨g,0,none⟩) n icap,.int .i64 at_,.slice (some ⟨w7.heap.size,0,none⟩) 1 1] _ _ from by
    have q:=insertI_any (i:=at_) (x:=((⟨num,c.kind==1,[],nm0⟩:Ino),Value.slice none 0 0)) (xb:=w7.heap.size) H8.out.st.ino (by omega) HXB.out (fun q=>by have:=(H7.out.st.ino.lt _ q).2;omega) (fun y hy=>by
     rcases List.mem_cons.1 hy with rfl | hy
     ·intro u hu
      simp only[encI,List.mem_cons,List.not_mem_nil,or_false]at hu
      rcases hu with rfl | rfl | rfl | rfl <;> rfl
     ·exact H8.out.st.one y hy) (by have:=HI.out.small.ni;have:=HNN.out;omega) H8.out.bs
    exact q)
   have HNO:=lhi (own_blk_ne hown8 H8.out.o (by decide))
   have HND:=lhi (own_blk_ne hown8 H8.out.d (by decide))
   have d0:w7.drew.cell? ⟨db,0,none⟩=some (.pointer (some ⟨ob,0,none⟩)):=H7.out.d.cell 0
   have o0:w7.drew.cell? ⟨ob,0,none⟩=some (.slice (some ⟨g,0,none⟩) n icap):=H7.out.o.cell 0
   have d1:w7.drew.cell? ⟨db,1,none⟩=some (.int .i64 c.kind):=H7.out.d.cell 1
   clear hown8
   refine wp_region_E_drew (L:=24) (S:=fun w'=>w'.cell? ⟨db,0,none⟩=some (.pointer (some ⟨ob,0,none⟩))/\w'.cell? ⟨ob,0,none⟩=some (.slice (some ⟨g,0,none⟩) n icap)/\w'.cell? ⟨db,1,none⟩=some (.int .i64 c.kind)) (by kernel_rfl) (⟨d0,o0,d1⟩) (fun hHeld=>?_)
   refine wpAnyF_take (i:=0) (oi:=⟨some 92,_,_,_,_,_⟩) (v:=?ve1) rfl (by kernel_rfl) (fun _ _ _ h=>h) (Or.inl ⟨by kernel_rfl,fun w hSw=>?_⟩) (by assumption) ?_
   rotate_left
   ·(go_simp;rfl)
   simp only[Act.put,lTA,lC0,lCS]
   refine wpAnyF_take (i:=1) (oi:=⟨some 93,_,_,_,_,_⟩) (v:=?ve2) rfl (by kernel_rfl) (fun _ _ _ h=>h) (Or.inl ⟨by kernel_rfl,fun w hSw=>?_⟩) (by assumption) ?_
   rotate_left
   ·(go_simp;rfl)
   simp only[Act.put,lTA,lC0,lCS]
   refine wpAnyF_take (i:=2) (oi:=⟨some 94,_,_,_,_,_⟩) (v:=?ve3) rfl (by kernel_rfl) (fun _ _ _ h=>h) (Or.inl ⟨by kernel_rfl,fun w hSw=>?_⟩) (by assumption) ?_
   rotate_left
   ·(go_simp;rfl)
   simp only[Act.put,lTA,lC0,lCS]
   refine wpAnyF_take (i:=3) (oi:=⟨some 95,_,_,_,_,_⟩) (v:=?ve4) rfl (by kernel_rfl) (fun _ _ _ h=>h) (Or.inl ⟨by kernel_rfl,fun w hSw=>?_⟩) (by assumption) ?_
   rotate_left
   ·(go_simp;rfl)
   simp only[Act.put,lTA,lC0,lCS]
   refine wpAnyF_take (i:=4) (oi:=⟨some 96,_,_,_,_,_⟩) (v:=?ve5) rfl (by kernel_rfl) (fun _ _ _ h=>h) (Or.inl ⟨by kernel_rfl,fun w hSw=>?_⟩) (by assumption) ?_
   rotate_left
   ·(go_simp;rfl)
   simp only[Act.put,lTA,lC0,lCS]
   refine wpAnyF_take (i:=5) (oi:=⟨some 97,_,_,_,_,_⟩) (v:=?ve6) rfl (by kernel_rfl) (fun _ _ _ h=>h) (Or.inl ⟨by kernel_rfl,fun w hSw=>?_⟩) (by assumption) ?_
   rotate_left
   ·(go_simp;rfl)
   simp only[Act.put,lTA,lC0,lCS]
   refine wpAnyF_take (i:=6) (oi:=⟨some 98,_,_,_,_,_⟩) (v:=?ve7) rfl (by kernel_rfl) (fun _ _ _ h=>h) (Or.inl ⟨by kernel_rfl,fun w hSw=>?_⟩) (by assumption) ?_
   rotate_left
   ·(go_simp;rfl)
   simp only[Act.put,lTA,lC0,lCS]
   refine wpAnyF_take (i:=7) (oi:=⟨some 99,_,_,_,_,_⟩) (v:=?ve8) rfl (by kernel_rfl) (fun _ _ _ h=>h) (Or.inl ⟨by kernel_rfl,fun w hSw=>?_⟩) (by assumption) ?_
   rotate_left
   ·(go_simp;rfl)
   simp only[Act.put,lTA,lC0,lCS]
   refine wpAnyF_take (i:=8) (oi:=⟨some 100,_,_,_,_,_⟩) (v:=?ve9) rfl (by kernel_rfl) (fun _ _ _ h=>h) (Or.inl ⟨by kernel_rfl,fun w hSw=>?_⟩) (by assumption) ?_
   rotate_left
   ·(go_simp;rfl)
   simp only[Act.put,lTA,lC0,lCS]
   refine wpAnyF_take (i:=9) (oi:=⟨some 101,_,_,_,_,_⟩) (v:=?ve10) rfl (by kernel_rfl) (fun _ _ _ h=>h) (Or.inl ⟨by kernel_rfl,fun w hSw=>?_⟩) (by assumption) ?_
   rotate_left
   ·(go_simp;rfl)
   simp only[Act.put,lTA,lC0,lCS]
   refine wpAnyF_take (i:=10) (oi:=⟨some 102,_,_,_,_,_⟩) (v:=?ve11) rfl (by kernel_rfl) (fun _ _ _ h=>h) (Or.inl ⟨by kernel_rfl,fun w hSw=>?_⟩) (by assumption) ?_
   rotate_left
   ·(go_simp;rfl)
   simp only[Act.put,lTA,lC0,lCS]
   refine wpAnyF_take (i:=11) (oi:=⟨some 103,_,_,_,_,_⟩) (v:=?ve12) rfl (by kernel_rfl) (fun _ _ _ h=>h) (Or.inl ⟨by kernel_rfl,fun w hSw=>?_⟩) (by assumption) ?_
   rotate_left
   ·(go_simp;rfl)
   simp only[Act.put,lTA,lC0,lCS]
   refine wpAnyF_take (i:=12) (oi:=⟨some 104,_,_,_,_,_⟩) (v:=?ve13) rfl (by kernel_rfl) (fun _ _ _ h=>h) (Or.inl ⟨by kernel_rfl,fun w hSw=>?_⟩) (by assumption) ?_
   rotate_left
   ·(go_simp;rfl)
   simp only[Act.put,lTA,lC0,lCS]
   refine wpAnyF_take (i:=13) (oi:=⟨some 105,_,_,_,_,_⟩) (v:=?ve14) rfl (by kernel_rfl) (fun _ _ _ h=>h) (Or.inl ⟨by kernel_rfl,fun w hSw=>?_⟩) (by assumption) ?_
   rotate_left
   ·(go_simp;rfl)
   simp only[Act.put,lTA,lC0,lCS]
   refine wpAnyF_take (i:=14) (oi:=⟨some 106,_,_,_,_,_⟩) (v:=?ve15) rfl (by kernel_rfl) (fun _ _ _ h=>h) (Or.inl ⟨by kernel_rfl,fun w hSw=>?_⟩) (by assumption) ?_
   rotate_left
   ·(go_simp;rfl)
   simp only[Act.put,lTA,lC0,lCS]
   refine wpAnyF_take (i:=15) (oi:=⟨some 107,_,_,_,_,_⟩) (v:=?ve16) rfl (by kernel_rfl) (fun _ _ _ h=>h) (Or.inl ⟨by kernel_rfl,fun w hSw=>?_⟩) (by assumption) ?_
   rotate_left
   ·(go_simp;rfl)
   simp only[Act.put,lTA,lC0,lCS]
   refine wpAnyF_take (i:=16) (oi:=⟨some 108,_,_,_,_,_⟩) (v:=?ve17) rfl (by kernel_rfl) (fun _ _ _ h=>h) (Or.inl ⟨by kernel_rfl,fun w hSw=>?_⟩) (by assumption) ?_
   rotate_left
   ·(go_simp;rfl)
   simp only[Act.put,lTA,lC0,lCS]
   refine wpAnyF_take (i:=17) (oi:=⟨some 109,_,_,_,_,_⟩) (v:=?ve18) rfl (by kernel_rfl) (fun _ _ _ h=>h) (Or.inl ⟨by kernel_rfl,fun w hSw=>?_⟩) (by assumption) ?_
   rotate_left
   ·(go_simp;rfl)
   simp only[Act.put,lTA,lC0,lCS]
   refine wpAnyF_take (i:=18) (oi:=⟨some 110,_,_,_,_,_⟩) (v:=?ve19) rfl (by kernel_rfl) (fun _ _ _ h=>h) (Or.inl ⟨by kernel_rfl,fun w hSw=>?_⟩) (by assumption) ?_
   rotate_left
   ·(go_simp;rfl)
   simp only[Act.put,lTA,lC0,lCS]
   refine wpAnyF_take (i:=19) (oi:=⟨some 111,_,_,_,_,_⟩) (v:=?ve20) rfl (by kernel_rfl) (fun _ _ _ h=>h) (Or.inl ⟨by kernel_rfl,fun w hSw=>?_⟩) (by assumption) ?_
   rotate_left
   ·(go_simp;rfl)
   simp only[Act.put,lTA,lC0,lCS]
   refine wpAnyE_one (i:=20) (by kernel_rfl) rfl (fun K hK=>?_)
   go_simp
   obtain⟨w8,hw8⟩: ∃w8,w8=(w7.alloc (.cells #[.int .i64 num,.bool (c.kind==1),.slice none 0 0,.string ⟨#[]⟩] 93)).drew:=⟨_,rfl⟩
   rw[<-hw8]at HIN H8 HXB HBE HBI⊢
   clear hw8
   show K _ _
   refine hK.out _ _ (fun _=>by obtain⟨a1,a2,a3⟩:=hHeld;exact⟨H8.out.d.cell 0,H8.out.o.cell 0,H8.out.d.cell 1⟩) (fun hHeld=>?_)
   replace hHeld:=hHeld (by decide)
   clear hK K
   refine wpAnyE_one (i:=21) (by kernel_rfl) rfl (fun K hK=>?_)
   go_simp
   refine HIN.out.mono ?_
   rintro e w9 ⟨v',rfl,hown,hgr,hbl⟩
   obtain⟨NA,ncap,rfl,-⟩:=own_form hown
   have HOW:=lhi hown
   have HGR:=lhi hgr
   have H9O:=lhi (blk_grow H8.out.o HGR.out HNO.out)
   have H9D:=lhi (blk_grow H8.out.d HGR.out HND.out)
   clear hown hgr hbl HIN
   show K _ _
   refine hK.out _ _ (fun _=>⟨H9D.out.cell 0,H9O.out.cell 0,H9D.out.cell 1⟩) (fun hHeld=>?_)
   replace hHeld:=hHeld (by decide)
   clear hK K
   refine wpAnyF_take (i:=22) (oi:=⟨some 114,_,_,_,_,_⟩) (v:=?ve21) rfl (by kernel_rfl) (fun _ _ _ h=>h) (Or.inl ⟨by kernel_rfl,fun w hSw=>?_⟩) (by assumption) ?_
   rotate_left
   ·(go_simp;rfl)
   simp only[Act.put,lTA,lC0,lCS]
   refine wpAnyF_take (i:=23) (oi:=⟨some 115,_,_,_,_,_⟩) (v:=?ve22) rfl (by kernel_rfl) (fun _ _ _ h=>h) (Or.inl ⟨by kernel_rfl,fun w hSw=>?_⟩) (by assumption) ?_
   rotate_left
   ·(go_simp;rfl)
   simp only[Act.put,lTA,lC0,lCS]
   have z0:=hHeld.2.1
   have f0:w9.frozen? ⟨ob,0,none⟩=false:=H9O.out.frozen _
   refine wpAnyE_one (i:=24) (by kernel_rfl) rfl (fun K hK=>?_)
   go_simp
   show K _ _
   refine hK.out _ _ (fun h=>absurd rfl h) (fun _=>?_)
   clear hK K
   refine wpAnyE_done (by kernel_rfl) ?_ _
   go_end0
   have hst:=H8.out.st.putI (w1:=w9) HGR.out (a:=at_) (by omega) (x:=⟨num,c.kind==1,[],nm0⟩) rfl HOW.out
   have hob:=H8.out.ob_
   have hgb:base<=g:=(H7.out.st.ino.lt g rfl).1
   have hSQ:SR={S6 with inodes:=S6.inodes.take at_++⟨num,c.kind==1,[],nm0⟩::S6.inodes.drop at_}:=by
    have e1:(setE S (S.num k) (insE (nm,num) es)).inodes=S6.inodes:=by rw[setE_set HI.out hk,HS6.out];rfl
    have hget: ∀i (hi:i<S6.inodes.length),S6.inodes[i].num=S.num i:=fun i hi=>by rw[<-num_get hi];exact hnm6 i
    have e2:=insBy_at (lt:=ltN) (p:=(⟨num,c.kind==1,[],nm0⟩:Ino)) (l:=S6.inodes) (k:=at_) (by omega) (fun i hi hik=>by
     unfold ltN
     simp only[hget i hi]
     have:=HA1.out i hik
     rw[hnm6]at this
     exact decide_eq_false (by omega)) (fun i hi hik=>by
     unfold ltN
     simp only[hget i hi]
     have h1:=HA2.out i hik (by omega)
     rw[hnm6]at h1
     have h2:=HI.out.fresh hcn _ (Inv.ino_mem (show i<S.inodes.length by have:=HNN.out;omega))
     rw[HMM.out,<-HNV.out]at h2
     have h2:S.num i≠num:=h2
     exact decide_eq_true (by omega))
    rw[HSR.out]
    unfold makeS
    rw[e1,<-e2,HMM.out,HS6.out]
    rfl
   rw[hSQ]
   rw[hlI]at hst
   have hbw:Below base W (w9.setCell ⟨ob,0,none⟩ (.slice NA (n+1) ncap)):=(HBE.out.trans (below_grow HGR.out H8.out.bs (fun b hb=>by
    have e:g=b:=by injection hb
    omega))).setCell (p:=⟨ob,0,none⟩) hob _
   exact⟨rfl,hbw,.slice NA (n+1) ncap,_,_,_,H8.out.ob_,H8.out.db_,H9O.out.set_ 0 _,H9D.out.far (p:=⟨ob,0,none⟩) (Blk.ne_ H9D.out H9O.out (by decide)) _,hst.far H9O.out (by decide) (by decide) (by decide) (by decide) 0 _⟩
theorem create_calls(h:Doer W base ob db c r iv ov mv Iv S)(hI:Inv S)(hp:c.path.size<=4611686018427387904)(hc:0<=c.core/\c.core<S.made.length):
  Calls Tryz.prog 77 #[.pointer (some ⟨db,0,none⟩)] W fun e w'=>DoneR base ob db c W e w' ((createS S c.kind c.core c.path).map fun S'=>(S',r)):=by
 unfold createS
 cases hs:parentS S c.path with
 | error k=>exact(create_bad1 h hI hp hs).mono fun e w' hq=>hq
 | ok q=>
  obtain⟨k,nm⟩:=q
  cases hE:entF (S.ino k).ents nm with
  | some j=>
   simp only[hE,Option.isSome_some,if_true]
   exact(create_bad2 h hI hp hs hE).mono fun e w' hq=>hq
  | none=>
   have e:(c.core.toNat:Int)=c.core:=by omega
   have q:=create_go h hI hp (cn:=c.core.toNat) e.symm (by omega) hs hE
   simp only[hE,Option.isSome_none,Bool.false_eq_true,if_false]
   rw[e]at q
   split
   ·rename_i hx
    rw[if_pos hx]at q
    exact q
   ·rename_i hx
    rw[if_neg hx]at q
    exact q
end
end
section
open Go.RowKit
set_option maxHeartbeats 2000000
set_option maxRecDepth 1000000 in
theorem may_yes{w:World}{sp cp:Nat}{iv ov mv:Value}{ev:Nat->Value}{S:St}{c:CallV}(hS:StM w iv ov mv ev S)(hI:Inv S)(hs:Blk w sp 30 #[iv,ov,mv])(hc:Blk w cp 24 c.cs)(hk:0<=c.kind/\c.kind<=16)(hcore:0<=c.core/\c.core<S.made.length):
  Calls Tryz.prog 30 #[.pointer (some ⟨sp,0,none⟩),.pointer (some ⟨cp,0,none⟩)] w fun e w'=>e= .returned (.bool true)/\Below w.heap.size w w':=by
 have HMY:=lhi (fun(V:World) (hb:Below w.heap.size w V)=>May_yes (hS.keep hb) hI)
 obtain⟨A,cap,rfl,-,-⟩:=hS.ino
 obtain⟨OA,ocap,rfl,-,-⟩:=hS.opn
 obtain⟨MA,mcap,rfl,-,-⟩:=hS.mad
 have x0: ∀x:WIn (Bel w),x.v.cell? ⟨sp,0,none⟩=some (.slice A S.inodes.length cap):=fun x=>x.cell (hs.cell 0)
 have x1: ∀x:WIn (Bel w),x.v.cell? ⟨sp,1,none⟩=some (.slice OA S.opens.length ocap):=fun x=>x.cell (hs.cell 1)
 have x2: ∀x:WIn (Bel w),x.v.cell? ⟨sp,2,none⟩=some (.slice MA S.made.length mcap):=fun x=>x.cell (hs.cell 2)
 have y0: ∀x:WIn (Bel w),x.v.cell? ⟨cp,0,none⟩=some (.int .i64 c.kind):=fun x=>x.cell (hc.cell 0)
 have y1: ∀x:WIn (Bel w),x.v.cell? ⟨cp,1,none⟩=some (.int .i64 c.core):=fun x=>x.cell (hc.cell 1)
 obtain⟨h1,h2⟩:=hk
 obtain⟨h3,h4⟩:=hcore
 have d1:decide ((0:Int)<=c.kind)=true:=decide_eq_true h1
 have d2:decide (c.kind<= (16:Int))=true:=decide_eq_true h2
 have d3:decide ((0:Int)<=c.core)=true:=decide_eq_true h3
 have d4:decide (c.core< (S.made.length:Int))=true:=decide_eq_true h4
 clear hS hI hs hc
 go_enter Tryz.func30,Tryz.ntmps30
 go_upto_region 1 with(fail)
 refine wp_region_in (C:=Bel w) (by kernel_rfl) (by kernel_rfl) (Bel.drew w) ?_
 repeat (go_big_quiet_step (first | (go_at_call 22;exact Calls.bel _ (HMY.out _ (WIn.h _)))))
 refine wpQuiet_nil ?_
 rintro _ ⟨⟨wx,hbx⟩,rfl⟩
 have HBX:=lhi hbx
 clear hbx x0 x1 x2 y0 y1
 go_wp2_with (fail)
 go_ret
 exact⟨rfl,HBX.out⟩
theorem mcatch_idle(s p q:Addr)(w:World):
  CallsD Tryz.prog 32 #[.pointer (some s),.pointer (some p),.pointer (some q)] .returning w fun e u' w'=>e= .returned (.tuple #[])/\u'= .returning/\w'=w:=by
 refine callsD_of_wpS Tryz.func32 rfl fun c₀ cs hu=>?_
 simp only[Tryz.ntmps32,List.size_toArray,List.length_cons,List.length_nil,Nat.reduceAdd,Nat.reduceSub,Array.replicate_succ,Array.replicate_zero,List.push_toArray,List.append_toArray,List.nil_append,List.cons_append]
 apply wpS_seq
 apply wpS_region
 simp[wpOpsS,go_sem,recoverD,hu,Exit.thenS]
 refine wpS_of_wp (Code.wp_mono (Q:=DoneQ (fun w'=>w'=w)) ?_ ?_)
 ·rintro e a w' ⟨he,hd,rfl⟩
  cases c₀
  rcases he with rfl | rfl <;> simp_all [bodyPostS,results,Tryz.results32]
 ·clear hu
  go_wp2_with (fail)
  exact⟨.inl rfl,rfl,rfl⟩
theorem StO.base_le{w:World}{b b':Nat}{iv ov mv:Value}{Iv:List InV}{S:St}(h:StO w b iv ov mv Iv S)(hb:b'<=b):StO w b' iv ov mv Iv S:=⟨h.len,own_base0 h.ino hb,fun i hi=>own_base0 (h.ent i hi) hb,h.apart,own_base0 h.opn hb,own_base0 h.mad hb⟩
end
end Go.Proofs.YtkebjgebkneijaaGreat
