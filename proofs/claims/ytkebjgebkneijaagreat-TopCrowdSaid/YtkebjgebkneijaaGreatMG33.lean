/- Texts of one's own that a claim's last text rests on: Dr10 Dr11 Tm3 Reads ArP Ints WordsP Words Out Decg Tm4 Tm6 Cr4. -/
import Derived.Test.YtkebjgebkneijaaGreatMG32
import Derived.Test.YtkebjgebkneijaaGreatMG31
import Derived.Test.YtkebjgebkneijaaGreatMG1
import Derived.Below
import Derived.Laws.OwnMore
import Derived.Deep.AppendLies
import Derived.Deep.Draws
import Derived.Maps.AppendAt
import Derived.RegionTactic
import Derived.OwnWalk
import Derived.Test.YtkebjgebkneijaaGreatMG7
import Derived.Deep.RegionHeld3
import Derived.Deep.Slices
import Derived.Handy
import Derived.Deep.RegionHeldLaw
import Derived.Test.YtkebjgebkneijaaGreatMG30
set_option linter.unusedVariables false
set_option linter.unusedSimpArgs false
namespace Go.Proofs.YtkebjgebkneijaaGreat
section
open Go.RowKit
set_option maxHeartbeats 2000000
structure DoB (w:World) (n:Nat) (iv ov mv:Value) (c:CallV) (W:World):Prop where
 b:Below n w W
 s:Blk W n 30 #[iv,ov,mv]
 c:Blk W (n+1) 24 c.cs
 o:Blk W (n+2) 30 #[.slice none 0 0,.slice none 0 0,.slice none 0 0]
 r:Blk W (n+3) 41 #[.int .i64 0,.int .i64 0,.int .i64 0,.bool false,.string ⟨#[]⟩,.slice none 0 0]
theorem DoB.below{w W W':World}{n:Nat}{iv ov mv:Value}{c:CallV}{B:Nat}(h:DoB w n iv ov mv c W)(hb:Below B W W')(hB:n+4<=B):DoB w n iv ov mv c W':=
 ⟨h.b.trans (hb.mono (by omega)),Blk.of_heap (hb.block _ (by omega)) h.s,Blk.of_heap (hb.block _ (by omega)) h.c,Blk.of_heap (hb.block _ (by omega)) h.o,Blk.of_heap (hb.block _ (by omega)) h.r⟩
theorem blk_drew{w:World}{g:Nat}{t:TypeId}{cs:Array Value}(h:Blk w g t cs):Blk w.drew g t cs:=h
set_option maxRecDepth 1000000 in
theorem Do_ok{w:World}{iv ov mv:Value}{ev:Nat->Value}{S S':St}{c:CallV}{r:ResV}(hS:StV w 0 iv ov mv ev S)(hI:Inv S)(hk:0<=c.kind/\c.kind<=16)(hcore:0<=c.core/\c.core<S.made.length)
  (hrun: ∀(W:World) (base ob db:Nat) (iv' ov' mv':Value) (Iv:List InV),Doer W base ob db c noRes iv' ov' mv' Iv S->Calls Tryz.prog 33 #[.pointer (some ⟨db,0,none⟩)] W fun e w'=>DoneR base ob db c W e w' (.ok (S',r))):
  Calls Tryz.prog 12 #[.agg #[iv,ov,mv],.agg c.cs] w fun e w'=>(∃iv' ov' mv' ev',e= .returned (.tuple #[.agg #[iv',ov',mv'],.agg r.cs])/\StV w' 0 iv' ov' mv' ev' S')/\Below w.heap.size w w':=by
 have hmf: ∀(fn:Fn) (first cap:Array Value) (w:World),(Instr.makeFunc fn first cap).run Tryz.prog w= .ok (.func fn first cap) w:=fun _ _ _ _=>rfl
 obtain⟨A,cap,rfl,-⟩:=hS.ino
 obtain⟨OA,ocap,rfl,-⟩:=hS.opn
 obtain⟨MA,mcap,rfl,-⟩:=hS.mad
 obtain⟨n,hn⟩: ∃n,n=w.heap.size:=⟨_,rfl⟩
 obtain⟨w4,hw4⟩: ∃x,x=(((w.alloc (.cells #[.slice A S.inodes.length cap,.slice OA S.opens.length ocap,.slice MA S.made.length mcap] 30)).alloc (.cells c.cs 24)).alloc (.cells #[.slice none 0 0,.slice none 0 0,.slice none 0 0] 30)).alloc (.cells #[.int .i64 0,.int .i64 0,.int .i64 0,.bool false,.string ⟨#[]⟩,.slice none 0 0] 41):=⟨_,rfl⟩
 have HD:=lhi (show DoB w n (.slice A S.inodes.length cap) (.slice OA S.opens.length ocap) (.slice MA S.made.length mcap) c w4 from by
  rw[hw4,hn]
  refine⟨((((Below.refl _ _).alloc (Nat.le_refl _) _).alloc (by simp) _).alloc (by simp;omega) _).alloc (by simp;omega) _,(((Blk.new w _ _).alloc _).alloc _).alloc _,((Blk.newAt _ _ _ (by simp)).alloc _).alloc _,(Blk.newAt _ _ _ (by simp)).alloc _,Blk.newAt _ _ _ (by simp)⟩)
 have HS:=lhi (hS.below (by rw[<-hn];exact HD.out.b))
 have hsz4:w4.heap.size=n+4:=by rw[hw4,hn];simp
 have HMY:=lhi (may_yes HS.out.stm hI HD.out.s HD.out.c hk hcore)
 have HCL:=lhi (fun(V:World) (hb:Below w4.heap.size w4 V)=>mClone_calls (HS.out.below hb) hI.small)
 have HRU:=lhi hrun
 have HN:=lhi hn
 clear hS hI hrun hk hcore
 obtain⟨kind,core,fd,off,num,path,path2,data⟩:=c
 simp only[CallV.cs]at hw4⊢
 go_enter_defers Tryz.func12,Tryz.ntmps12
 go_upto_region 1 with(fail)
 rw[<-hw4]
 have e2:w.heap.size+1+1=n+2:=by omega
 have e3:w.heap.size+1+1+1=n+3:=by omega
 have e1:w.heap.size+1=n+1:=by omega
 try rw[e3]
 try rw[e2]
 try rw[e1]
 try rw[<-hn]
 clear hw4 hn e1 e2 e3
 go_upto_region 4 with(go_at_call 30;refine HMY.out.mono ?_;rintro e w5 ⟨rfl,hb5⟩;have HD5:=lhi (HD.out.below hb5 (by omega));have HB5:=lhi hb5;clear hb5)
 have s0:w5.cell? ⟨n,0,none⟩=some (.slice A S.inodes.length cap):=HD5.out.s.cell 0
 have s1:w5.cell? ⟨n,1,none⟩=some (.slice OA S.opens.length ocap):=HD5.out.s.cell 1
 have s2:w5.cell? ⟨n,2,none⟩=some (.slice MA S.made.length mcap):=HD5.out.s.cell 2
 go_upto_region 5 with(go_at_call 31;refine(HCL.out _ HB5.out).mono ?_;rintro e w6 ⟨iv',ov',mv',Iv,rfl,hst,hb6⟩;have HST:=lhi hst;have HB6:=lhi hb6;have HD6:=lhi (HD5.out.below hb6 (by have:=HB5.out.size;omega));obtain⟨A',cap',rfl,-⟩:=own_form hst.ino;obtain⟨O',ocap',rfl,-⟩:=own_form hst.opn;obtain⟨M',mcap',rfl,-⟩:=own_form hst.mad;clear hst hb6)
 obtain⟨w7,hw7⟩: ∃x,x=w6.alloc (.cells #[.slice A' Iv.length cap',.slice O' S.opens.length ocap',.slice M' S.made.length mcap'] 30):=⟨_,rfl⟩
 have hs5:=HB5.out.size
 have hs6:=HB6.out.size
 have HB7:=lhi (show Below w6.heap.size w6 w7 by rw[hw7];exact(Below.refl _ _).alloc (Nat.le_refl _) _)
 have HO7:=lhi (show Blk w7 w6.heap.size 30 _ by rw[hw7];exact Blk.new w6 30 #[.slice A' Iv.length cap',.slice O' S.opens.length ocap',.slice M' S.made.length mcap'])
 have HD7:=lhi (HD6.out.below HB7.out (by omega))
 have HST7:=lhi (HST.out.below HB7.out)
 obtain⟨ob,hob⟩: ∃x,x=w6.heap.size:=⟨_,rfl⟩
 rw[<-hob]at HO7
 rw[<-hw7,<-hob]
 have HOB:=lhi hob
 clear hw7 hob s0 s1 s2
 have c0:w7.cell? ⟨n+1,0,none⟩=some (.int .i64 kind):=HD7.out.c.cell 0
 have c1:w7.cell? ⟨n+1,1,none⟩=some (.int .i64 core):=HD7.out.c.cell 1
 have c2:w7.cell? ⟨n+1,2,none⟩=some (.int .i64 fd):=HD7.out.c.cell 2
 have c3:w7.cell? ⟨n+1,3,none⟩=some (.int .i64 off):=HD7.out.c.cell 3
 have c4:w7.cell? ⟨n+1,4,none⟩=some (.int .i64 num):=HD7.out.c.cell 4
 have c5:w7.cell? ⟨n+1,5,none⟩=some (.string path):=HD7.out.c.cell 5
 have c6:w7.cell? ⟨n+1,6,none⟩=some (.string path2):=HD7.out.c.cell 6
 have c7:w7.cell? ⟨n+1,7,none⟩=some (.string data):=HD7.out.c.cell 7
 go_upto_region 6 with(fail)
 have hs7:=HB7.out.size
 obtain⟨w8,hw8⟩: ∃x,x=w7.alloc (.cells (doerCs ob ⟨kind,core,fd,off,num,path,path2,data⟩ noRes) 88):=⟨_,rfl⟩
 have HB8:=lhi (show Below w7.heap.size w7 w8 by rw[hw8];exact(Below.refl _ _).alloc (Nat.le_refl _) _)
 have HDD:=lhi (show Blk w8 w7.heap.size 88 _ by rw[hw8];exact Blk.new w7 88 (doerCs ob ⟨kind,core,fd,off,num,path,path2,data⟩ noRes))
 have HD8:=lhi (HD7.out.below HB8.out (by omega))
 have HO8:=lhi (Blk.of_heap (HB8.out.block _ HO7.out.lt) HO7.out)
 have HST8:=lhi (HST7.out.below HB8.out)
 obtain⟨db,hdb⟩: ∃x,x=w7.heap.size:=⟨_,rfl⟩
 rw[<-hdb]at HDD
 have HDO:=lhi (show Doer w8 w5.heap.size ob db ⟨kind,core,fd,off,num,path,path2,data⟩ noRes (.slice A' Iv.length cap') (.slice O' S.opens.length ocap') (.slice M' S.made.length mcap') Iv S from⟨by rw[HOB.out];exact hs6,by omega,HO8.out,HDD.out,HST8.out⟩)
 have HR8:=lhi (HRU.out _ _ _ _ _ _ _ _ HDO.out)
 simp only[doerCs,noRes]at hw8
 rw[<-hw8,<-hdb]
 have HDB:=lhi hdb
 clear hw8 hdb c0 c1 c2 c3 c4 c5 c6 c7
 go_upto_region 7 with(go_at_call 33;refine HR8.out.mono ?_;rintro e w9 ⟨rfl,hb9,iv2,ov2,mv2,Iv2,hd9⟩;have HB9:=lhi hb9;have H9:=lhi hd9;clear hb9 hd9 HR8)
 have HD9:=lhi (HD8.out.below HB9.out (by omega))
 obtain⟨A2,n2,cap2,rfl⟩: ∃a b c,iv2= .slice a b c:=by obtain⟨a,c,h,-⟩:=own_form H9.out.st.ino;exact⟨a,_,c,h⟩
 obtain⟨O2,m2,ocap2,rfl⟩: ∃a b c,ov2= .slice a b c:=by obtain⟨a,c,h,-⟩:=own_form H9.out.st.opn;exact⟨a,_,c,h⟩
 obtain⟨M2,l2,mcap2,rfl⟩: ∃a b c,mv2= .slice a b c:=by obtain⟨a,c,h,-⟩:=own_form H9.out.st.mad;exact⟨a,_,c,h⟩
 have hs9:=HB9.out.size
 have a0:w9.drew.cell? ⟨ob,0,none⟩=some ((.slice A2 n2 cap2)):=H9.out.o.cell 0
 have a0':w9.cell? ⟨ob,0,none⟩=some ((.slice A2 n2 cap2)):=H9.out.o.cell 0
 have a1:w9.drew.cell? ⟨ob,1,none⟩=some ((.slice O2 m2 ocap2)):=H9.out.o.cell 1
 have a1':w9.cell? ⟨ob,1,none⟩=some ((.slice O2 m2 ocap2)):=H9.out.o.cell 1
 have a2:w9.drew.cell? ⟨ob,2,none⟩=some ((.slice M2 l2 mcap2)):=H9.out.o.cell 2
 have a2':w9.cell? ⟨ob,2,none⟩=some ((.slice M2 l2 mcap2)):=H9.out.o.cell 2
 have b0:w9.drew.cell? ⟨db,9,none⟩=some (.int .i64 r.code):=H9.out.d.cell 9
 have b0':w9.cell? ⟨db,9,none⟩=some (.int .i64 r.code):=H9.out.d.cell 9
 have b1:w9.drew.cell? ⟨db,10,none⟩=some (.int .i64 r.fd):=H9.out.d.cell 10
 have b1':w9.cell? ⟨db,10,none⟩=some (.int .i64 r.fd):=H9.out.d.cell 10
 have b2:w9.drew.cell? ⟨db,11,none⟩=some (.int .i64 r.num):=H9.out.d.cell 11
 have b2':w9.cell? ⟨db,11,none⟩=some (.int .i64 r.num):=H9.out.d.cell 11
 have b3:w9.drew.cell? ⟨db,12,none⟩=some (.bool r.dir):=H9.out.d.cell 12
 have b3':w9.cell? ⟨db,12,none⟩=some (.bool r.dir):=H9.out.d.cell 12
 have b4:w9.drew.cell? ⟨db,13,none⟩=some (.string r.data):=H9.out.d.cell 13
 have b4':w9.cell? ⟨db,13,none⟩=some (.string r.data):=H9.out.d.cell 13
 have b5:w9.drew.cell? ⟨db,14,none⟩=some (Value.slice r.na r.nl r.nc):=H9.out.d.cell 14
 have b5':w9.cell? ⟨db,14,none⟩=some (Value.slice r.na r.nl r.nc):=H9.out.d.cell 14
 have p0:w9.drew.cell? ⟨n+2,0,none⟩=some (.slice none 0 0):=HD9.out.o.cell 0
 have p0':w9.cell? ⟨n+2,0,none⟩=some (.slice none 0 0):=HD9.out.o.cell 0
 have f0:w9.drew.frozen? ⟨n+2,0,none⟩=false:=HD9.out.o.frozen 0
 have f0':w9.frozen? ⟨n+2,0,none⟩=false:=HD9.out.o.frozen 0
 have p1:w9.drew.cell? ⟨n+2,1,none⟩=some (.slice none 0 0):=HD9.out.o.cell 1
 have p1':w9.cell? ⟨n+2,1,none⟩=some (.slice none 0 0):=HD9.out.o.cell 1
 have f1:w9.drew.frozen? ⟨n+2,1,none⟩=false:=HD9.out.o.frozen 1
 have f1':w9.frozen? ⟨n+2,1,none⟩=false:=HD9.out.o.frozen 1
 have p2:w9.drew.cell? ⟨n+2,2,none⟩=some (.slice none 0 0):=HD9.out.o.cell 2
 have p2':w9.cell? ⟨n+2,2,none⟩=some (.slice none 0 0):=HD9.out.o.cell 2
 have f2:w9.drew.frozen? ⟨n+2,2,none⟩=false:=HD9.out.o.frozen 2
 have f2':w9.frozen? ⟨n+2,2,none⟩=false:=HD9.out.o.frozen 2
 have q0:w9.drew.cell? ⟨n+3,0,none⟩=some (.int .i64 0):=HD9.out.r.cell 0
 have q0':w9.cell? ⟨n+3,0,none⟩=some (.int .i64 0):=HD9.out.r.cell 0
 have g0:w9.drew.frozen? ⟨n+3,0,none⟩=false:=HD9.out.r.frozen 0
 have g0':w9.frozen? ⟨n+3,0,none⟩=false:=HD9.out.r.frozen 0
 have q1:w9.drew.cell? ⟨n+3,1,none⟩=some (.int .i64 0):=HD9.out.r.cell 1
 have q1':w9.cell? ⟨n+3,1,none⟩=some (.int .i64 0):=HD9.out.r.cell 1
 have g1:w9.drew.frozen? ⟨n+3,1,none⟩=false:=HD9.out.r.frozen 1
 have g1':w9.frozen? ⟨n+3,1,none⟩=false:=HD9.out.r.frozen 1
 have q2:w9.drew.cell? ⟨n+3,2,none⟩=some (.int .i64 0):=HD9.out.r.cell 2
 have q2':w9.cell? ⟨n+3,2,none⟩=some (.int .i64 0):=HD9.out.r.cell 2
 have g2:w9.drew.frozen? ⟨n+3,2,none⟩=false:=HD9.out.r.frozen 2
 have g2':w9.frozen? ⟨n+3,2,none⟩=false:=HD9.out.r.frozen 2
 have q3:w9.drew.cell? ⟨n+3,3,none⟩=some (.bool false):=HD9.out.r.cell 3
 have q3':w9.cell? ⟨n+3,3,none⟩=some (.bool false):=HD9.out.r.cell 3
 have g3:w9.drew.frozen? ⟨n+3,3,none⟩=false:=HD9.out.r.frozen 3
 have g3':w9.frozen? ⟨n+3,3,none⟩=false:=HD9.out.r.frozen 3
 have q4:w9.drew.cell? ⟨n+3,4,none⟩=some (.string ⟨#[]⟩):=HD9.out.r.cell 4
 have q4':w9.cell? ⟨n+3,4,none⟩=some (.string ⟨#[]⟩):=HD9.out.r.cell 4
 have g4:w9.drew.frozen? ⟨n+3,4,none⟩=false:=HD9.out.r.frozen 4
 have g4':w9.frozen? ⟨n+3,4,none⟩=false:=HD9.out.r.frozen 4
 have q5:w9.drew.cell? ⟨n+3,5,none⟩=some (.slice none 0 0):=HD9.out.r.cell 5
 have q5':w9.cell? ⟨n+3,5,none⟩=some (.slice none 0 0):=HD9.out.r.cell 5
 have g5:w9.drew.frozen? ⟨n+3,5,none⟩=false:=HD9.out.r.frozen 5
 have g5':w9.frozen? ⟨n+3,5,none⟩=false:=HD9.out.r.frozen 5
 have x1:n+2≠ob:=by have:=HOB.out;omega
 have x2:n+3≠ob:=by have:=HOB.out;omega
 have x3:n+2≠db:=by have:=HDB.out;omega
 have x4:n+3≠db:=by have:=HDB.out;omega
 have y1:=Ne.symm x1
 have y2:=Ne.symm x2
 have y3:=Ne.symm x3
 have y4:=Ne.symm x4
 go_region
 have h0:=HD9.out.b
 have h1:=h0.setCell (p:=⟨n+2,0,none⟩) (show n<=n+2 by omega) (.slice A2 n2 cap2)
 have P1:=HD9.out.o.set_ 0 (.slice A2 n2 cap2)
 have Q1:=HD9.out.r.far (p:=⟨n+2,0,none⟩) (show n+3≠n+2 by omega) (.slice A2 n2 cap2)
 have T1:=H9.out.st.far HD9.out.o (by decide) (by decide) (by decide) (by decide) 0 (.slice A2 n2 cap2)
 have h2:=h1.setCell (p:=⟨n+2,1,none⟩) (show n<=n+2 by omega) (.slice O2 m2 ocap2)
 have P2:=P1.set_ 1 (.slice O2 m2 ocap2)
 have Q2:=Q1.far (p:=⟨n+2,1,none⟩) (show n+3≠n+2 by omega) (.slice O2 m2 ocap2)
 have T2:=T1.far P1 (by decide) (by decide) (by decide) (by decide) 1 (.slice O2 m2 ocap2)
 have h3:=h2.setCell (p:=⟨n+2,2,none⟩) (show n<=n+2 by omega) (.slice M2 l2 mcap2)
 have P3:=P2.set_ 2 (.slice M2 l2 mcap2)
 have Q3:=Q2.far (p:=⟨n+2,2,none⟩) (show n+3≠n+2 by omega) (.slice M2 l2 mcap2)
 have T3:=T2.far P2 (by decide) (by decide) (by decide) (by decide) 2 (.slice M2 l2 mcap2)
 have h4:=h3.setCell (p:=⟨n+3,0,none⟩) (show n<=n+3 by omega) (.int .i64 r.code)
 have P4:=P3.far (p:=⟨n+3,0,none⟩) (show n+2≠n+3 by omega) (.int .i64 r.code)
 have Q4:=Q3.set_ 0 (.int .i64 r.code)
 have T4:=T3.far Q3 (by decide) (by decide) (by decide) (by decide) 0 (.int .i64 r.code)
 have h5:=h4.setCell (p:=⟨n+3,1,none⟩) (show n<=n+3 by omega) (.int .i64 r.fd)
 have P5:=P4.far (p:=⟨n+3,1,none⟩) (show n+2≠n+3 by omega) (.int .i64 r.fd)
 have Q5:=Q4.set_ 1 (.int .i64 r.fd)
 have T5:=T4.far Q4 (by decide) (by decide) (by decide) (by decide) 1 (.int .i64 r.fd)
 have h6:=h5.setCell (p:=⟨n+3,2,none⟩) (show n<=n+3 by omega) (.int .i64 r.num)
 have P6:=P5.far (p:=⟨n+3,2,none⟩) (show n+2≠n+3 by omega) (.int .i64 r.num)
 have Q6:=Q5.set_ 2 (.int .i64 r.num)
 have T6:=T5.far Q5 (by decide) (by decide) (by decide) (by decide) 2 (.int .i64 r.num)
 have h7:=h6.setCell (p:=⟨n+3,3,none⟩) (show n<=n+3 by omega) (.bool r.dir)
 have P7:=P6.far (p:=⟨n+3,3,none⟩) (show n+2≠n+3 by omega) (.bool r.dir)
 have Q7:=Q6.set_ 3 (.bool r.dir)
 have T7:=T6.far Q6 (by decide) (by decide) (by decide) (by decide) 3 (.bool r.dir)
 have h8:=h7.setCell (p:=⟨n+3,4,none⟩) (show n<=n+3 by omega) (.string r.data)
 have P8:=P7.far (p:=⟨n+3,4,none⟩) (show n+2≠n+3 by omega) (.string r.data)
 have Q8:=Q7.set_ 4 (.string r.data)
 have T8:=T7.far Q7 (by decide) (by decide) (by decide) (by decide) 4 (.string r.data)
 have h9:=h8.setCell (p:=⟨n+3,5,none⟩) (show n<=n+3 by omega) (Value.slice r.na r.nl r.nc)
 have P9:=P8.far (p:=⟨n+3,5,none⟩) (show n+2≠n+3 by omega) (Value.slice r.na r.nl r.nc)
 have Q9:=Q8.set_ 5 (Value.slice r.na r.nl r.nc)
 have T9:=T8.far Q8 (by decide) (by decide) (by decide) (by decide) 5 (Value.slice r.na r.nl r.nc)
 have HP:=lhi (blk_drew P9)
 have HQ:=lhi (blk_drew Q9)
 have HT:=lhi (T9.below (below_drew _))
 have HH:=lhi (h9.trans ((below_drew _).mono (Nat.le_trans (show n<=w.heap.size by have:=HN.out;omega) h9.size)))
 clear h0 h1 h2 h3 h4 h5 h6 h7 h8 h9 P1 P2 P3 P4 P5 P6 P7 P8 P9 Q1 Q2 Q3 Q4 Q5 Q6 Q7 Q8 Q9 T1 T2 T3 T4 T5 T6 T7 T8 T9
 obtain⟨wf,hwf⟩: ∃x,x=(((((((((w9.setCell ⟨n+2,0,none⟩ (.slice A2 n2 cap2)).setCell ⟨n+2,1,none⟩ (.slice O2 m2 ocap2)).setCell ⟨n+2,2,none⟩ (.slice M2 l2 mcap2)).setCell ⟨n+3,0,none⟩ (.int .i64 r.code)).setCell ⟨n+3,1,none⟩ (.int .i64 r.fd)).setCell ⟨n+3,2,none⟩ (.int .i64 r.num)).setCell ⟨n+3,3,none⟩ (.bool r.dir)).setCell ⟨n+3,4,none⟩ (.string r.data)).setCell ⟨n+3,5,none⟩ (Value.slice r.na r.nl r.nc)).drew:=⟨_,rfl⟩
 rw[<-hwf]at HP HQ HT HH⊢
 clear hwf
 go_wp2_with (fail)
 refine leaves_cons (f:=32) (args:=#[.pointer (some ⟨n,0,none⟩),.pointer (some ⟨n+2,0,none⟩),.pointer (some ⟨n+3,0,none⟩)]) (by simp) (by simp[go_sem]) ?_
 refine(mcatch_idle _ _ _ _).mono ?_
 rintro e u' w'' ⟨rfl,rfl,rfl⟩
 have z0:w''.cell? ⟨n+2,0,none⟩=some (.slice A2 n2 cap2):=HP.out.cell 0
 have z1:w''.cell? ⟨n+2,1,none⟩=some (.slice O2 m2 ocap2):=HP.out.cell 1
 have z2:w''.cell? ⟨n+2,2,none⟩=some (.slice M2 l2 mcap2):=HP.out.cell 2
 have u0:w''.cell? ⟨n+3,0,none⟩=some (.int .i64 r.code):=HQ.out.cell 0
 have u1:w''.cell? ⟨n+3,1,none⟩=some (.int .i64 r.fd):=HQ.out.cell 1
 have u2:w''.cell? ⟨n+3,2,none⟩=some (.int .i64 r.num):=HQ.out.cell 2
 have u3:w''.cell? ⟨n+3,3,none⟩=some (.bool r.dir):=HQ.out.cell 3
 have u4:w''.cell? ⟨n+3,4,none⟩=some (.string r.data):=HQ.out.cell 4
 have u5:w''.cell? ⟨n+3,5,none⟩=some (Value.slice r.na r.nl r.nc):=HQ.out.cell 5
 refine⟨.tuple #[.agg #[.slice A2 n2 cap2,.slice O2 m2 ocap2,.slice M2 l2 mcap2],.agg r.cs],?_,⟨.slice A2 n2 cap2,.slice O2 m2 ocap2,.slice M2 l2 mcap2,_,rfl,HT.out.stv.base_le (Nat.zero_le _)⟩,by rw[<-HN.out];exact HH.out⟩
 simp[results,Tryz.results12,go_sem,ResV.cs,z0,z1,z2,u0,u1,u2,u3,u4,u5]
end
section
open Go.RowKit
set_option maxHeartbeats 2000000
set_option maxRecDepth 1000000 in
theorem run_make{W:World}{base ob db:Nat}{c:CallV}{r:ResV}{iv ov mv:Value}{Iv:List InV}{S S':St}(h:Doer W base ob db c r iv ov mv Iv S)(hI:Inv S)(hp:c.path.size<=4611686018427387904)(hc:0<=c.core/\c.core<S.made.length)(hk:c.kind=0∨c.kind=1)(hs:createS S c.kind c.core c.path= .ok S'):
  Calls Tryz.prog 33 #[.pointer (some ⟨db,0,none⟩)] W fun e w'=>DoneR base ob db c W e w' (.ok (S',r)):=by
 have HC:=lhi (create_calls h hI hp hc)
 rw[hs]at HC
 have d1:W.cell? ⟨db,1,none⟩=some (.int .i64 c.kind):=h.d.cell 1
 clear h hI hp hc hs
 rcases hk with hk | hk
 all_goals
  rw[hk]at d1
  clear hk
  go_enter Tryz.func33,Tryz.ntmps33
  go_wp2_with (go_at_call 77;refine HC.out.mono ?_;rintro e w1 ⟨rfl,hd⟩;have HD:=lhi hd;clear hd)
  go_end0
  exact⟨rfl,HD.out⟩
theorem Do_make{w:World}{iv ov mv:Value}{ev:Nat->Value}{S S':St}{c:CallV}(hS:StV w 0 iv ov mv ev S)(hI:Inv S)(hp:c.path.size<=4611686018427387904)(hc:0<=c.core/\c.core<S.made.length)(hk:c.kind=0∨c.kind=1)(hs:createS S c.kind c.core c.path= .ok S'):
  Calls Tryz.prog 12 #[.agg #[iv,ov,mv],.agg c.cs] w fun e w'=>(∃iv' ov' mv' ev',e= .returned (.tuple #[.agg #[iv',ov',mv'],.agg noRes.cs])/\StV w' 0 iv' ov' mv' ev' S')/\Below w.heap.size w w':=
 Do_ok hS hI (by omega) hc fun W base ob db iv' ov' mv' Iv h=>run_make h hI hp hc hk hs
end
section
open Go.RowKit
set_option maxHeartbeats 1000000
section
variable{k:Nat}{dirs:Bool}{M:Mem}
end
end
section
open Go.RowKit
theorem block_of_add(a:Addr)(n:Nat):(a.add n).block=a.block:=by unfold Addr.add;split <;> rfl
def Reads(w:World)(B size:Nat)(A:Option Addr)(n:Nat)(xs:List Value):Prop:=
 xs.length=n*size/\ (0<n-> ∃ad,A=some ad/\ad.block<B/\ ∀j u,xs[j]? =some u->w.cell? (ad.add j)=some u)
section
variable{w w':World}{B B' size n:Nat}{A:Option Addr}{xs:List Value}
theorem Reads.at_{k:Nat}(h:Reads w B 1 A n xs)(hk:k<n): ∃ad u,A=some ad/\ad.block<B/\xs[k]? =some u/\w.cell? (ad.add k)=some u:=by
 obtain⟨ad,e,hb,hc⟩:=h.2 (by omega)
 have hl:k<xs.length:=by have:=h.1;omega
 exact⟨ad,xs[k],e,hb,List.getElem?_eq_getElem hl,hc k _ (List.getElem?_eq_getElem hl)⟩
theorem Reads.keep(h:Reads w B size A n xs)(hk: ∀p:Addr,p.block<B->w'.cell? p=w.cell? p):Reads w' B size A n xs:=
 ⟨h.1,fun hn=>by
  obtain⟨ad,e,hb,hc⟩:=h.2 hn
  exact⟨ad,e,hb,fun j u hu=>(hk _ (by rw[block_of_add];exact hb)).trans (hc j u hu)⟩⟩
theorem Reads.more(h:Reads w B size A n xs)(hB:B<=B'):Reads w B' size A n xs:=
 ⟨h.1,fun hn=>by
  obtain⟨ad,e,hb,hc⟩:=h.2 hn
  exact⟨ad,e,by omega,hc⟩⟩
theorem Reads.below(h:Reads w B size A n xs)(hb:Below B w w'):Reads w' B size A n xs:=h.keep fun _ hp=>hb.cell hp
theorem Reads.drew(h:Reads w B size A n xs):Reads w.drew B size A n xs:=h
theorem Reads.drewN(h:Reads w B size A n xs)(k:Nat):Reads (w.drewN k) B size A n xs:=h
theorem Reads.alloc(h:Reads w B size A n xs)(hB:B<=w.heap.size)(o:Obj):Reads (w.alloc o) B size A n xs:=h.keep fun p hp=>World.cell?_alloc_lt w o p (by omega)
theorem Reads.setCell(h:Reads w B size A n xs){p:Addr}(hB:B<=p.block)(u:Value):Reads (w.setCell p u) B size A n xs:=
 h.keep fun q hq=>World.cell?_setCell_other w p q u (fun e=>by subst e;omega)
theorem Reads.grown(h:Reads w B size A n xs){row:Option Nat}(hg:w.grownBy w' row)(hB:B<=w.heap.size)(hr: ∀g,row=some g->B<=g):Reads w' B size A n xs:=
 h.keep fun p hp=>World.cell?_of_block (hg.block p.block (by omega) (fun e=>by have:=hr _ e.symm;omega))
end
section
variable{P:Program}(w:World)
end
section
variable{w w':World}{B size n k:Nat}{A:Option Addr}{xs:List Value}
end
end
section
open Go.RowKit
set_option maxHeartbeats 400000
theorem bel_then{w w1 w2:World}(h:Below w.heap.size w w1)(k:Below w1.heap.size w1 w2):Below w.heap.size w w2:=h.trans (k.mono h.size)
def ArP(L:Nat->Prop)(w:World)(a:Nat)(ws:List Int)(n m:Nat)(P:List (List Acc)->Prop):Prop:=
 ∃ts,ts.length=n/\Short m ts/\P ts/\ArAt L w a ws ts
def Cl(n:Nat)(P:List (List Acc)->Prop)(c:Int)(S:Acc->Prop):Prop:=∀ts x,ts.length=n->P ts->S x->P (noted ts c x)
theorem Cl.sub{n:Nat}{P:List (List Acc)->Prop}{c:Int}{S S':Acc->Prop}(h:Cl n P c S)(hs: ∀x,S' x->S x):Cl n P c S':=fun ts x h1 h2 h3=>h ts x h1 h2 (hs x h3)
section
variable{L L':Nat->Prop}{w w':World}{a:Nat}{ws:List Int}{n m:Nat}{P P':List (List Acc)->Prop}
theorem ArP.of{ts:List (List Acc)}(h:ArAt L w a ws ts)(hn:ts.length=n)(hm:Short m ts)(hp:P ts):ArP L w a ws n m P:=⟨ts,hn,hm,hp,h⟩
theorem ArP.new(k:Nat)(hp:P (List.replicate k []))(h:ArAt L w a ws (List.replicate k [])):ArP L w a ws k 0 P:=⟨_,by simp,by intro t ht;simp at ht;simp[ht],hp,h⟩
theorem ArP.mono(h:ArP L w a ws n m P){m':Nat}(hm:m<=m'):ArP L w a ws n m' P:=by
 obtain⟨ts,h1,h2,h3,h4⟩:=h
 exact⟨ts,h1,h2.mono hm,h3,h4⟩
theorem ArP.map(h:ArP L w a ws n m P)(hp: ∀ts,ArAt L w a ws ts->ArAt L' w' a ws ts):ArP L' w' a ws n m P:=by
 obtain⟨ts,h1,h2,h3,h4⟩:=h
 exact⟨ts,h1,h2,h3,hp ts h4⟩
theorem ArP.bd(h:ArP L w a ws n m P):Bd L w:=by obtain⟨ts,h1,h2,h3,h4⟩:=h;exact h4.bd
theorem ArP.lt(h:ArP L w a ws n m P):a<w.heap.size:=by obtain⟨ts,h1,h2,h3,h4⟩:=h;exact h4.lt
theorem ArP.wsl(h:ArP L w a ws n m P):ws.length<=65536:=by obtain⟨ts,h1,h2,h3,h4⟩:=h;exact h4.wsl
theorem ArP.tsl(h:ArP L w a ws n m P):n<=8:=by obtain⟨ts,h1,h2,h3,h4⟩:=h;have:=h4.tsl;omega
theorem ArP.drew(h:ArP L w a ws n m P):ArP L w.drew a ws n m P:=h.map fun _ h=>h.drew
theorem ArP.drewN(h:ArP L w a ws n m P)(k:Nat):ArP L (w.drewN k) a ws n m P:=h.map fun _ h=>h.drewN k
theorem ArP.alloc(h:ArP L w a ws n m P)(o:Obj):ArP L (w.alloc o) a ws n m P:=h.map fun _ h=>h.alloc o
theorem ArP.allocIns(h:ArP L w a ws n m P)(o:Obj):ArP (ins L w.heap.size) (w.alloc o) a ws n m P:=h.map fun _ h=>h.allocIns o
theorem ArP.setCell(h:ArP L w a ws n m P){p:Addr}(hp:L p.block)(u:Value):ArP L (w.setCell p u) a ws n m P:=h.map fun _ h=>h.setCell hp u
theorem ArP.below(h:ArP L w a ws n m P)(hb:Below w.heap.size w w'):ArP L w' a ws n m P:=h.map fun _ h=>h.below hb
theorem ArP.sub(h:ArP L w a ws n m P)(hs: ∀b,L' b->L b):ArP L' w a ws n m P:=h.map fun _ h=>h.sub hs
end
end
section
open Go.RowKit
def nth(xs:List Int)(k:Nat):Int:=xs.getD k 0
def Ints(w:World)(A:Option Addr)(len cap:Nat)(xs:List Int):Prop:=
 xs.length=len/\len<=cap/\cap<=maxLen/\ (∀x∈xs,-9223372036854775808<=x/\x<=9223372036854775807)/\
 (0<len-> ∃g off,A=some ⟨g,off,none⟩/\ ∀j,j<len->w.cell? ⟨g,off+j,none⟩=some (.int .i64 (nth xs j)))
theorem wf_range{n:Int}(h:(Lit.int .i64 n).wf=true): -9223372036854775808<=n/\n<=9223372036854775807:=by
 simp[Lit.wf,IntKind.min,IntKind.max,IntKind.signed,IntKind.bits]at h
 omega
theorem Ints.nil_(w:World):Ints w none 0 0 []:=⟨rfl,Nat.le_refl _,Nat.zero_le _,by simp,fun h=>absurd h (by omega)⟩
theorem Ints.ofRow{w:World}{x:Addr}{len cap:Nat}{zs:List Int}(hl:len<=cap)(hm:cap<=maxLen)(hz:zs.length=cap)
  (hcell: ∀i,i<zs.length->w.cell? (x.add i)=some (.int .i64 (zs.getD i 0))) (hwz: ∀n∈zs,(Lit.int .i64 n).wf=true):Ints w (some x) len cap (zs.take len):=by
 refine⟨by simp;omega,hl,hm,fun n hn=>wf_range (hwz n (List.mem_of_mem_take hn)),fun h0=>?_⟩
 have hsp:x.spot=none:=by
  have h:=hcell 0 (by omega)
  have hx:x.add 0=x:=rfl
  rw[hx]at h
  cases hs:x.spot with
  | none=>rfl
  | some s=>simp[World.cell?,hs]at h;split at h <;> simp at h
 obtain⟨g,off,sp⟩:=x
 simp only at hsp
 subst hsp
 refine⟨g,off,rfl,fun j hj=>?_⟩
 have h:=hcell j (by omega)
 rw[Addr.add_lit]at h
 rw[h]
 have:nth (zs.take len) j=zs.getD j 0:=by simp[nth,List.getD,hj]
 rw[this]
theorem Ints.at_{w wr:World}{A:Option Addr}{len cap k:Nat}{xs:List Int}(h:Ints w A len cap xs)(hk:k<len)(hb:Below w.heap.size w wr):
  ∃g off,A=some ⟨g,off,none⟩/\wr.cell? ⟨g,off+k,none⟩=some (.int .i64 (nth xs k))/\ -9223372036854775808<=nth xs k/\nth xs k<=9223372036854775807:=by
 obtain⟨h1,_,_,h3,h4⟩:=h
 obtain⟨g,off,hA,hc⟩:=h4 (by omega)
 have hc':=hc k hk
 refine⟨g,off,hA,(hb.cell (World.block_lt_of_cell? w _ hc')).trans hc',?_⟩
 have hm:nth xs k∈xs:=by
  unfold nth
  rw[List.getD_eq_getElem?_getD,List.getElem?_eq_getElem (by omega)]
  exact List.getElem_mem _
 exact h3 _ hm
theorem Ints.len_le{w:World}{A:Option Addr}{len cap:Nat}{xs:List Int}(h:Ints w A len cap xs):len<=9223372036854775807:=by
 have:=h.2.1
 have h2:=h.2.2.1
 unfold maxLen at h2
 omega
end
section
def Rises(xs:List Int):Prop:=xs.Pairwise (· < ·)
theorem nth_eq{xs:List Int}{j:Nat}(h:j<xs.length):nth xs j=xs[j]:=by
 unfold nth
 rw[List.getD_eq_getElem?_getD,List.getElem?_eq_getElem h];rfl
theorem Rises.lt{xs:List Int}(h:Rises xs){i j:Nat}(hij:i<j)(hj:j<xs.length):nth xs i<nth xs j:=by
 rw[nth_eq (by omega),nth_eq hj]
 exact List.pairwise_iff_getElem.1 h i j (by omega) hj hij
theorem Rises.nil:Rises []:=List.Pairwise.nil
def Hi(xs:List Int)(x:Int)(j:Nat):Prop:=∀i,j<=i->i<xs.length->x<nth xs i
theorem Hi.down{xs:List Int}{x:Int}{j:Nat}(h:Hi xs x (j+1))(hj:x<nth xs j):Hi xs x j:=fun i h1 h2=>by
 by_cases e:i=j
 ·subst e;exact hj
 ·exact h i (by omega) h2
def put(xs:List Int)(x:Int)(j:Nat):List Int:=xs.take j++x::xs.drop j
theorem put_length{xs:List Int}{x:Int}{j:Nat}(hj:j<=xs.length):(put xs x j).length=xs.length+1:=by
 simp[put];omega
theorem mem_put{xs:List Int}{x:Int}{j:Nat}(y:Int):y∈put xs x j↔y=x∨y∈xs:=by
 unfold put
 rw[List.mem_append,List.mem_cons]
 have h:=List.take_append_drop j xs
 constructor
 ·rintro(h1 | h1 | h1)
  ·exact .inr (List.mem_of_mem_take h1)
  ·exact .inl h1
  ·exact .inr (List.mem_of_mem_drop h1)
 ·rintro(h1 | h1)
  ·exact .inr (.inl h1)
  ·rw[<-h,List.mem_append]at h1
   rcases h1 with h1 | h1
   ·exact .inl h1
   ·exact .inr (.inr h1)
theorem Rises.put{xs:List Int}{x:Int}{j:Nat}(h:Rises xs)(hj:j<=xs.length)(hlo:0<j->nth xs (j - 1)<x)(hhi:Hi xs x j):Rises (put xs x j):=by
 have lo: ∀y∈xs.take j,y<x:=by
  intro y hy
  obtain⟨i,hi,rfl⟩:=List.getElem_of_mem hy
  rw[List.length_take]at hi
  rw[List.getElem_take]
  by_cases e:i=j - 1
  ·have:=hlo (by omega)
   rw[nth_eq (by omega)]at this
   subst e;exact this
  ·have h1:=h.lt (i:=i) (j:=j - 1) (by omega) (by omega)
   have h2:=hlo (by omega)
   rw[nth_eq (by omega)]at h1
   omega
 have hi: ∀y∈xs.drop j,x<y:=by
  intro y hy
  obtain⟨i,hi,rfl⟩:=List.getElem_of_mem hy
  rw[List.length_drop]at hi
  rw[List.getElem_drop,<-nth_eq (by omega)]
  exact hhi (j+i) (by omega) (by omega)
 unfold Proofs.YtkebjgebkneijaaGreat.put
 refine List.pairwise_append.2 ⟨List.Pairwise.sublist (List.take_sublist _ _) h,List.pairwise_cons.2 ⟨hi,List.Pairwise.sublist (List.drop_sublist _ _) h⟩,?_⟩
 intro y hy z hz
 rcases List.mem_cons.1 hz with rfl | hz
 ·exact lo y hy
 ·have h1:=lo y hy
  have h2:=hi z hz
  omega
theorem Rises.ext{xs ys:List Int}(h:Rises xs)(h':Rises ys)(hm: ∀y,y∈xs↔y∈ys):xs=ys:=by
 induction xs generalizing ys with
 | nil=>
  cases ys with
  | nil=>rfl
  | cons y ys=>exact absurd ((hm y).2 (List.mem_cons_self ..)) (by simp)
 | cons x xs ih=>
  cases ys with
  | nil=>exact absurd ((hm x).1 (List.mem_cons_self ..)) (by simp)
  | cons y ys=>
   obtain⟨hx,hxs⟩:=List.pairwise_cons.1 h
   obtain⟨hy,hys⟩:=List.pairwise_cons.1 h'
   have e:x=y:=by
    rcases List.mem_cons.1 ((hm x).1 (List.mem_cons_self ..))with e | e
    ·exact e
    ·rcases List.mem_cons.1 ((hm y).2 (List.mem_cons_self ..))with e2 | e2
     ·exact e2.symm
     ·have:=hx y e2
      have:=hy x e
      omega
   subst e
   congr 1
   refine ih hxs hys fun z=>⟨fun hz=>?_,fun hz=>?_⟩
   ·rcases List.mem_cons.1 ((hm z).1 (List.mem_cons_of_mem _ hz))with e | e
    ·have:=hx z hz;omega
    ·exact e
   ·rcases List.mem_cons.1 ((hm z).2 (List.mem_cons_of_mem _ hz))with e | e
    ·have:=hy z hz;omega
    ·exact e
structure WSt (t:List (Int×Bool)) (b:Bool) (us:List Int):Prop where
 len:us.length<=t.length
 up:Rises us
 mem: ∀y,y∈us↔ ∃x∈t,(b=true->x.2=true)/\x.1=y
theorem WSt.nil(b:Bool):WSt [] b []:=⟨Nat.le_refl _,Rises.nil,by simp⟩
theorem WSt.skip{t:List (Int×Bool)}{b:Bool}{us:List Int}(h:WSt t b us){x:Int×Bool}(hb:b=true)(hx:x.2=false):WSt (t++[x]) b us:=by
 refine⟨by have:=h.len;simp;omega,h.up,fun y=>?_⟩
 rw[h.mem]
 constructor
 ·rintro⟨z,h1,h2⟩;exact⟨z,List.mem_append_left _ h1,h2⟩
 ·rintro⟨z,h1,h2,h3⟩
  rcases List.mem_append.1 h1 with h1 | h1
  ·exact⟨z,h1,h2,h3⟩
  ·rw[List.mem_singleton.1 h1,hx]at h2
   exact absurd (h2 hb) (by simp)
theorem WSt.same{t:List (Int×Bool)}{b:Bool}{us:List Int}(h:WSt t b us){x:Int×Bool}(hx:x.1∈us):WSt (t++[x]) b us:=by
 refine⟨by have:=h.len;simp;omega,h.up,fun y=>?_⟩
 constructor
 ·intro hy
  obtain⟨z,h1,h2⟩:=(h.mem y).1 hy
  exact⟨z,List.mem_append_left _ h1,h2⟩
 ·rintro⟨z,h1,h2,h3⟩
  rcases List.mem_append.1 h1 with h1 | h1
  ·exact(h.mem y).2 ⟨z,h1,h2,h3⟩
  ·rw[List.mem_singleton.1 h1]at h3
   rw[<-h3];exact hx
theorem WSt.put{t:List (Int×Bool)}{b:Bool}{us:List Int}(h:WSt t b us){x:Int×Bool}(hb:b=true->x.2=true){j:Nat}(hj:j<=us.length)(hlo:0<j->nth us (j - 1)<x.1)(hhi:Hi us x.1 j):WSt (t++[x]) b (put us x.1 j):=by
 refine⟨by have:=h.len;rw[put_length hj];simp;omega,h.up.put hj hlo hhi,fun y=>?_⟩
 rw[mem_put,h.mem]
 constructor
 ·rintro(e | ⟨z,h1,h2⟩)
  ·exact⟨x,by simp,hb,e.symm⟩
  ·exact⟨z,List.mem_append_left _ h1,h2⟩
 ·rintro⟨z,h1,h2,h3⟩
  rcases List.mem_append.1 h1 with h1 | h1
  ·exact .inr ⟨z,h1,h2,h3⟩
  ·rw[List.mem_singleton.1 h1]at h3
   exact .inl h3.symm
end
section
open Go.RowKit
set_option maxHeartbeats 1000000
theorem info_intW:(Tryz.prog.info? 3).map (fun i=>(i.zero,i.size,i.bytes))=some (some (.int .i64 0),1,8):=by kernel_rfl
theorem ints_at{xs:List Int}{k:Nat}(h:k<xs.length):(xs.map (Value.int .i64))[k]? =some (.int .i64 (nth xs k)):=by
 rw[List.getElem?_map,List.getElem?_eq_getElem h,nth_eq h];rfl
def IntRow(w:World)(B:Nat)(v:Value)(us:List Int):Prop:=w.ownsRow B 3 1 v us.length (us.map (Value.int .i64))
theorem IntRow.nil(w:World)(B:Nat):IntRow w B (.slice none 0 0) []:=World.ownsRow_nil _ _ _ _
theorem IntRow.form{w:World}{B:Nat}{v:Value}{us:List Int}(h:IntRow w B v us): ∃A cap,v= .slice A us.length cap/\us.length<=cap/\cap<=maxLen/\ (0<us.length-> ∃g,A=some ⟨g,0,none⟩/\B<=g/\ ∀j,j<us.length->w.cell? ⟨g,j,none⟩=some (.int .i64 (nth us j))/\w.frozen? ⟨g,j,none⟩=false):=by
 have h':=h
 rcases h.2 with⟨rfl,h0⟩ | ⟨g,cap,cur,rfl,hb,hg,hnc,hcm,_⟩
 ·exact⟨none,0,by rw[h0],by omega,by simp[maxLen],fun h=>absurd h (by omega)⟩
 ·refine⟨some ⟨g,0,none⟩,cap,rfl,hnc,hcm,fun _=>⟨g,rfl,hb,fun j hj=>⟨?_,Blk.frozen (t:=3) hg j⟩⟩⟩
  have:=h.cells (g:=g) rfl j _ (ints_at hj)
  rw[Addr.add_lit,Nat.zero_add]at this
  exact this
theorem IntRow.sl{w:World}{B:Nat}{v:Value}{us:List Int}(h:IntRow w B v us):Sl w 1 v us.length (us.map (Value.int .i64)):=Sl.ofOwn h
theorem IntRow.drewN{w:World}{B:Nat}{v:Value}{us:List Int}(h:IntRow w B v us)(d:Nat):IntRow (w.drewN d) B v us:=h
structure WdAt (t:List Acc) (b:Bool) (w:World) (v:Value) (k:Nat) (wr:World) (us:List Int):Prop where
 st:WSt (t.take k) b us
 own:IntRow wr w.heap.size v us
 keeps:Below w.heap.size w wr
theorem WdAt.start(t:List Acc)(b:Bool)(w:World):WdAt t b w (.slice none 0 0) 0 w []:=⟨WSt.nil b,IntRow.nil _ _,Below.refl _ _⟩
theorem take_snocA{t:List Acc}{k:Nat}(h:k<t.length):t.take (k+1)=t.take k++[t[k]]:=List.take_succ_eq_append_getElem h
theorem below_drewN'{B:Nat}{a w:World}(h:Below B a w)(n:Nat):Below B a (w.drewN n):=⟨h.os,h.tape,h.output,h.size,h.block⟩
theorem WdAt.skip{t:List Acc}{b:Bool}{w wr:World}{v:Value}{k:Nat}{us:List Int}(h:WdAt t b w v k wr us)(hk:k<t.length)(hb:b=true)(hx:t[k].2=false)(d:Nat):WdAt t b w v (k+1) (wr.drewN d) us:=
 ⟨by rw[take_snocA hk];exact h.st.skip hb hx,h.own,below_drewN' h.keeps d⟩
theorem WdAt.same{t:List Acc}{b:Bool}{w wr:World}{v:Value}{k:Nat}{us:List Int}(h:WdAt t b w v k wr us)(hk:k<t.length)(hx:t[k].1∈us)(d:Nat):WdAt t b w v (k+1) (wr.drewN d) us:=
 ⟨by rw[take_snocA hk];exact h.st.same hx,h.own,below_drewN' h.keeps d⟩
theorem WdAt.put{t:List Acc}{b:Bool}{w wr w':World}{v v':Value}{k j n:Nat}{us:List Int}(h:WdAt t b w v k wr us)(hk:k<t.length)(hb:b=true->t[k].2=true)(hj:j<=us.length)(hlo:0<j->nth us (j - 1)<t[k].1)(hhi:Hi us t[k].1 j)
  (hown:w'.ownsRow w.heap.size 3 1 v' n ((us.take j).map (Value.int .i64)++[.int .i64 t[k].1]++(us.drop j).map (Value.int .i64))) (hn:n=us.length+1) (hB:Below w.heap.size w w'):WdAt t b w v' (k+1) w' (put us t[k].1 j):=by
 refine⟨by rw[take_snocA hk];exact h.st.put hb hj hlo hhi,?_,hB⟩
 unfold IntRow
 rw[put_length hj,<-hn]
 simpa[Proofs.YtkebjgebkneijaaGreat.put]using hown
end
section
open Go.RowKit
set_option maxHeartbeats 400000
def lo(L:Nat->Prop)(v:Value):Nat->Prop:=fun b=>L b∨v.ownBlock=some b
section
variable{L:Nat->Prop}{w w':World}{a:Nat}{ws:List Int}{n m:Nat}{P:List (List Acc)->Prop}
theorem ArP.grown{v v':Value}(h:ArP (lo L v) w a ws n m P)(hg:w.grownBy w' v.ownBlock)(hv: ∀g,v'.ownBlock=some g->(v.ownBlock=some g∨w.heap.size<=g)/\g<w'.heap.size):ArP (lo L v') w' a ws n m P:=
 h.map fun _ h=>h.move (fun b hb=>by
  rcases hb with hb | hb
  ·exact Nat.lt_of_lt_of_le (h.bd b (.inl hb)) hg.size
  ·exact(hv b hb).2) (fun b hb hlt=>by
  rcases hb with hb | hb
  ·exact .inl hb
  ·rcases(hv b hb).1 with e | e
   ·exact .inr e
   ·omega) (fun b hlt hn=>hg.block b hlt (fun e=>hn (.inr e.symm)))
end
end
section
open Go.RowKit
set_option maxHeartbeats 1000000
end
section
open Go.RowKit
set_option maxHeartbeats 4000000
theorem rowT_blk{w:World}{base g n cap k:Nat}{t:TypeId}{cs:Array Value}{C:Nat->Nat->Value}(h:Blk w g t cs)(hb:base<=g)(hn:n<=cap)(hC: ∀i j,i<n->j<k->cs[i*k+j]? =some (C i j)):RowT w base t k (.slice (some ⟨g,0,none⟩) n cap) n C:=
 ⟨_,_,rfl,hn,fun _=>⟨g,0,cs,rfl,hb,h,fun i j hi hj=>by rw[Nat.zero_add];exact hC i j hi hj⟩⟩
theorem new_stv{w:World}{base g gm n:Nat}(hg:base<=g)(hgm:base<=gm)(hI:Blk w g 93 #[.int .i64 1,.bool true,.slice none 0 0,.string ⟨#[]⟩])(hM:Blk w gm 3 (zerosA n)):
  StV w base (.slice (some ⟨g,0,none⟩) 1 1) (.slice none 0 0) (.slice (some ⟨gm,0,none⟩) n n) (fun _=>.slice none 0 0) (newS n):=by
 refine⟨?_,fun i hi=>?_,RowT.nil_ _ _ _ _ _,?_⟩
 ·refine rowT_blk hI hg (Nat.le_refl _) fun i j hi hj=>?_
  have hi':i<1:=hi
  obtain rfl:i=0:=by omega
  have:j=0∨j=1∨j=2∨j=3:=by omega
  rcases this with rfl | rfl | rfl | rfl <;> rfl
 ·have hi':i<1:=hi
  obtain rfl:i=0:=by omega
  exact RowT.nil_ _ _ _ _ _
 ·have hl:(newS n).made.length=n:=List.length_replicate ..
  rw[hl]
  refine rowT_blk hM hgm (Nat.le_refl _) fun i j hi hj=>?_
  obtain rfl:j=0:=by omega
  have e:madC (newS n) i 0= .int .i64 0:=by
   show Value.int .i64 ((List.replicate n (0:Int)).getD i 0)=_
   rw[List.getD_eq_getElem?_getD,List.getElem?_replicate]
   split <;> rfl
  rw[e]
  unfold zerosA
  simp[hi]
def IsSl(v:Value):Prop:=∃a b c,v= .slice a b c
def w3F(W:World)(ob:Nat)(a1 a2 a3:Value):World:=((W.setCell ⟨ob,0,none⟩ a1).setCell ⟨ob,1,none⟩ a2).setCell ⟨ob,2,none⟩ a3
def w9F(W:World)(ob xb:Nat)(a1 a2 a3:Value):World:=((((((w3F W ob a1 a2 a3).setCell ⟨xb,0,none⟩ (.int .i64 0)).setCell ⟨xb,1,none⟩ (.int .i64 0)).setCell ⟨xb,2,none⟩ (.int .i64 0)).setCell ⟨xb,3,none⟩ (.bool false)).setCell ⟨xb,4,none⟩ (.string ⟨#[]⟩)).setCell ⟨xb,5,none⟩ (.slice none 0 0)
theorem blk3c{w:World}{g:Nat}{t:TypeId}{a b c:Value}(h:Blk w g t #[a,b,c]):(w.cell? ⟨g,0,none⟩=some a/\w.cell? ⟨g,1,none⟩=some b/\w.cell? ⟨g,2,none⟩=some c)/\w.frozen? ⟨g,0,none⟩=false/\w.frozen? ⟨g,1,none⟩=false/\w.frozen? ⟨g,2,none⟩=false:=
 ⟨⟨h.cell 0,h.cell 1,h.cell 2⟩,h.frozen 0,h.frozen 1,h.frozen 2⟩
theorem blk6c{w:World}{g:Nat}{t:TypeId}{a b c d e f:Value}(h:Blk w g t #[a,b,c,d,e,f]):(w.cell? ⟨g,0,none⟩=some a/\w.cell? ⟨g,1,none⟩=some b/\w.cell? ⟨g,2,none⟩=some c/\w.cell? ⟨g,3,none⟩=some d/\w.cell? ⟨g,4,none⟩=some e/\w.cell? ⟨g,5,none⟩=some f)/\w.frozen? ⟨g,0,none⟩=false/\w.frozen? ⟨g,1,none⟩=false/\w.frozen? ⟨g,2,none⟩=false/\w.frozen? ⟨g,3,none⟩=false/\w.frozen? ⟨g,4,none⟩=false/\w.frozen? ⟨g,5,none⟩=false:=
 ⟨⟨h.cell 0,h.cell 1,h.cell 2,h.cell 3,h.cell 4,h.cell 5⟩,h.frozen 0,h.frozen 1,h.frozen 2,h.frozen 3,h.frozen 4,h.frozen 5⟩
structure MkE (wr:World) (xb:Nat) (w3 w9:World) (R:World->Prop):Prop where
 x3:Blk w3 xb 41 #[.int .i64 0,.int .i64 0,.int .i64 0,.bool false,.string ⟨#[]⟩,.slice none 0 0]
 b3:Below wr.heap.size wr w3
 b9:Below wr.heap.size wr w9
 r:R w9
end
section
open Go.RowKit
set_option maxHeartbeats 1000000
theorem Qm.clear{k:Nat}{dirs:Bool}{M:Mem}(h:Qm k dirs (fun _=>true) M)(c:Nat):Qm k dirs (fun _=>true) (M.clear c):=by
 refine⟨h.ok.clear c,h.dk.clear c,h.bz.clear c,h.nl,(by show(M.ts.set _ []).length=k;rw[List.length_set];exact h.tl),h.md,h.fd,fun c' hc'=>?_⟩
 have hq:=h.tr c' hc'
 simp only[if_true]at hq⊢
 unfold YtkebjgebkneijaaGreat.tr Mem.clear
 simp only[Int.toNat_natCast,List.getD_eq_getElem?_getD,List.getElem?_set]
 by_cases e:c=c'
 ·subst e
  rw[if_pos rfl]
  split <;> rfl
 ·rw[if_neg e]
  unfold YtkebjgebkneijaaGreat.tr at hq
  simpa[List.getD_eq_getElem?_getD]using hq
def callM(dirs:Bool)(c:Nat):CallV:=⟨kindM dirs,c,0,0,0,pathS c,⟨#[]⟩,⟨#[]⟩⟩
def begP(dirs:Bool)(c:Nat):PV:=⟨callM dirs c,begunV,false,noRes,0⟩
def PsM(k:Nat)(dirs:Bool)(b:Nat->Bool)(ps:List PV):Prop:=ps.length=k/\ ∀c (hc:c<ps.length),(b c=true->ps[c]=begP dirs c)/\ (b c=false-> ∃tc,ps[c]=⟨callM dirs c,.nilIface,true,noRes,tc⟩)
theorem PsM.busy{k:Nat}{dirs:Bool}{b:Nat->Bool}{ps:List PV}(h:PsM k dirs b ps):BusyP ps b:=fun c hc=>by
 cases hb:b c with
 | true=>exact .inr ⟨rfl,by rw[(h.2 c hc).1 hb];exact⟨_,_,rfl⟩⟩
 | false=>
  obtain⟨tc,e⟩:=(h.2 c hc).2 hb
  exact .inl ⟨rfl,by rw[e]⟩
theorem PsM.step{k c:Nat}{dirs:Bool}{b:Nat->Bool}{ps:List PV}(h:PsM k dirs b ps){tc:Int}:PsM k dirs (less b c) (ps.set c ⟨callM dirs c,.nilIface,true,noRes,tc⟩):=by
 refine⟨by rw[List.length_set];exact h.1,fun i hi=>?_⟩
 have hi':i<ps.length:=by simpa using hi
 rw[List.getElem_set]
 by_cases e:c=i
 ·subst e
  rw[if_pos rfl]
  exact⟨fun q=>by simp[less]at q,fun _=>⟨tc,rfl⟩⟩
 ·rw[if_neg e]
  have:less b c i=b i:=by simp[less,Ne.symm e]
  rw[this]
  exact h.2 i hi'
theorem ints_row{w wr W:World}{A:Option Addr}{len cap:Nat}{xs:List Int}(h:Ints w A len cap xs)(hb:Below w.heap.size w wr)(hk:Kp (fun b=>b<w.heap.size) wr W):RowAt W (.slice A len cap) len 1 (fun i _=>.int .i64 (nth xs i)):=by
 refine⟨_,_,rfl,h.2.1,fun h0=>?_⟩
 obtain⟨g,off,hA,hc⟩:=h.2.2.2.2 h0
 refine⟨g,off,hA,fun i j hi hj=>?_⟩
 obtain rfl:j=0:=by omega
 have hl:=World.block_lt_of_cell? _ _ (hc i hi)
 have h1:wr.cell? ⟨g,off+i,none⟩=w.cell? ⟨g,off+i,none⟩:=hb.cell hl
 have h2:W.cell? ⟨g,off+i,none⟩=wr.cell? ⟨g,off+i,none⟩:=hk.k.cell (p:=⟨g,off+i,none⟩) hl
 rw[Nat.mul_one,Nat.add_zero]
 exact h2.trans (h1.trans (hc i hi))
end
section
open Go.RowKit
set_option maxHeartbeats 4000000
def SQ(j:Nat):St:=[newS 4,SK nm0 0,SK nm0 1,SK D64 1,SK D64 2,SK D64 3,SK D64 4].getD j (newS 4)
def cQ(j:Nat):CallV:=[cMake,cOpen 0,cCut,cOpen 1,cOpen 2,cOpen 3].getD j cMake
theorem path_lt:pathF.size<=4611686018427387904:=by decide
theorem do_Q{w:World}{iv ov mv:Value}{ev:Nat->Value}{j:Nat}(hj:j<6)(hS:StV w 0 iv ov mv ev (SQ j)):
  Calls Tryz.prog 12 #[.agg #[iv,ov,mv],.agg (cQ j).cs] w fun e w'=>(∃iv' ov' mv' ev',e= .returned (.tuple #[.agg #[iv',ov',mv'],.agg noRes.cs])/\StV w' 0 iv' ov' mv' ev' (SQ (j+1)))/\Below w.heap.size w w':=by
 have op: ∀(S S':St) (k:Int),Inv S->openS S (cOpen k) noRes= .ok (S',noRes)->(0<=k/\k<S.made.length)->StV w 0 iv ov mv ev S->Calls Tryz.prog 12 #[.agg #[iv,ov,mv],.agg (cOpen k).cs] w fun e w'=>(∃iv' ov' mv' ev',e= .returned (.tuple #[.agg #[iv',ov',mv'],.agg noRes.cs])/\StV w' 0 iv' ov' mv' ev' S')/\Below w.heap.size w w':=fun S S' k hI ho hk hS'=>
  Do_ok hS' hI ⟨by show(0:Int)<=2;omega,by show(2:Int)<=16;omega⟩ hk fun W base ob db iv' ov' mv' Iv h=>by
   have:=dopen_calls h hI path_lt hk
   rw[ho]at this
   exact run_open h rfl this
 rcases(by omega:j=0∨j=1∨j=2∨j=3∨j=4∨j=5)with rfl | rfl | rfl | rfl | rfl | rfl
 ·exact Do_make (c:=cMake) hS (inv_newS (by omega) (by omega)) path_lt ⟨by decide,by decide⟩ (.inl rfl) make_K
 ·exact op _ _ 0 inv_K0 (open_K nm0 (j:=0) (by omega)) ⟨by decide,by decide⟩ hS
 ·refine Do_ok (c:=cCut) hS inv_K1 ⟨by decide,by decide⟩ ⟨by decide,by decide⟩ fun W base ob db iv' ov' mv' Iv h=>?_
  have h:Doer W base ob db cCut noRes iv' ov' mv' Iv (SK nm0 1):=h
  have:=bytes_calls h inv_K1 (by decide)
  rw[cut_K]at this
  exact run_bytes h (.inr (.inr (.inl rfl))) this
 ·exact op _ _ 1 inv_D1 (open_K D64 (j:=1) (by omega)) ⟨by decide,by decide⟩ hS
 ·exact op _ _ 2 inv_D2 (open_K D64 (j:=2) (by omega)) ⟨by decide,by decide⟩ hS
 ·exact op _ _ 3 inv_D3 (open_K D64 (j:=3) (by omega)) ⟨by decide,by decide⟩ hS
def readR(d:ByteArray):ResV:=⟨0,0,0,false,d,none,0,0⟩
theorem do_read{w:World}{iv ov mv:Value}{ev:Nat->Value}{d:ByteArray}(hd:d.size<=256)(hS:StV w 0 iv ov mv ev (SK d 4)):
  Calls Tryz.prog 12 #[.agg #[iv,ov,mv],.agg cRead.cs] w fun e w'=>(∃iv' ov' mv' ev',e= .returned (.tuple #[.agg #[iv',ov',mv'],.agg (readR (pieceF d 0 64)).cs])/\StV w' 0 iv' ov' mv' ev' (SK d 4))/\Below w.heap.size w w':=by
 have hI:=inv_any hd
 refine Do_ok (c:=cRead) (r:=readR (pieceF d 0 64)) hS hI ⟨by decide,by decide⟩ ⟨by decide,by show(0:Int)<4;decide⟩ fun W base ob db iv' ov' mv' Iv h=>?_
 have:=bytes_calls h hI (by decide)
 rw[read_K]at this
 exact run_bytes h (.inl rfl) this
def MkQ(w:World)(sb:Nat)(iv ov mv:Value)(S':St)(s:Value)(wx:World):Prop:=∃(ob:Nat) (iv1 ov1 mv1:Value) (ev1:Nat->Value),
 s= .pointer (some ⟨ob,0,none⟩)/\IsSl iv1/\IsSl ov1/\IsSl mv1/\Blk wx ob 30 #[iv1,ov1,mv1]/\StV wx 0 iv1 ov1 mv1 ev1 S'/\Blk wx sb 30 #[iv,ov,mv]/\ob≠sb/\Below w.heap.size w wx
theorem mk_roundS{S':St}{w wr W:World}{ob xb sb:Nat}{iv ov mv:Value}{ev1:Nat->Value}(hw:Below w.heap.size w wr)(hb:Below wr.heap.size wr W)(hO:Blk W ob 30 #[.slice none 0 0,.slice none 0 0,.slice none 0 0])(hX:Blk W xb 41 #[.int .i64 0,.int .i64 0,.int .i64 0,.bool false,.string ⟨#[]⟩,.slice none 0 0])
  (hol:wr.heap.size<=ob) (hxl:wr.heap.size<=xb) (hox:ob≠xb) (hso:sb≠ob) (hsx:sb≠xb) (hS:Blk wr sb 30 #[iv,ov,mv]) {iv1 ov1 mv1:Value} (hV:StV W 0 iv1 ov1 mv1 ev1 S') (a1 a2 a3:Value) (h1:IsSl a1) (h2:IsSl a2) (h3:IsSl a3) (e1:a1=iv1:=by rfl) (e2:a2=ov1:=by rfl) (e3:a3=mv1:=by rfl):
  MkE wr xb (w3F W ob a1 a2 a3) (w9F W ob xb a1 a2 a3) (MkQ w sb iv ov mv S' (.pointer (some ⟨ob,0,none⟩))):=by
 subst e1 e2 e3
 have hS0:=Blk.of_heap (hb.block _ hS.lt) hS
 have b3:=((hb.setCell (p:=⟨ob,0,none⟩) hol a1).setCell (p:=⟨ob,1,none⟩) hol a2).setCell (p:=⟨ob,2,none⟩) hol a3
 have b9:=(((((b3.setCell (p:=⟨xb,0,none⟩) hxl (.int .i64 0)).setCell (p:=⟨xb,1,none⟩) hxl (.int .i64 0)).setCell (p:=⟨xb,2,none⟩) hxl (.int .i64 0)).setCell (p:=⟨xb,3,none⟩) hxl (.bool false)).setCell (p:=⟨xb,4,none⟩) hxl (.string ⟨#[]⟩)).setCell (p:=⟨xb,5,none⟩) hxl (.slice none 0 0)
 have O1:=hO.set_ 0 a1
 have O2:=O1.set_ 1 a2
 have O3:=O2.set_ 2 a3
 have X3:=((hX.far (p:=⟨ob,0,none⟩) (Ne.symm hox) a1).far (p:=⟨ob,1,none⟩) (Ne.symm hox) a2).far (p:=⟨ob,2,none⟩) (Ne.symm hox) a3
 have V3:=((hV.far hO (by decide) (by decide) (by decide) (by decide) 0 a1).far O1 (by decide) (by decide) (by decide) (by decide) 1 a2).far O2 (by decide) (by decide) (by decide) (by decide) 2 a3
 have S3:=((hS0.far (p:=⟨ob,0,none⟩) hso a1).far (p:=⟨ob,1,none⟩) hso a2).far (p:=⟨ob,2,none⟩) hso a3
 have X4:=X3.set_ 0 (.int .i64 0)
 have X5:=X4.set_ 1 (.int .i64 0)
 have X6:=X5.set_ 2 (.int .i64 0)
 have X7:=X6.set_ 3 (.bool false)
 have X8:=X7.set_ 4 (.string ⟨#[]⟩)
 have V9:=(((((V3.far X3 (by decide) (by decide) (by decide) (by decide) 0 (.int .i64 0)).far X4 (by decide) (by decide) (by decide) (by decide) 1 (.int .i64 0)).far X5 (by decide) (by decide) (by decide) (by decide) 2 (.int .i64 0)).far X6 (by decide) (by decide) (by decide) (by decide) 3 (.bool false)).far X7 (by decide) (by decide) (by decide) (by decide) 4 (.string ⟨#[]⟩)).far X8 (by decide) (by decide) (by decide) (by decide) 5 (.slice none 0 0)
 have O9:=(((((O3.far (p:=⟨xb,0,none⟩) hox (.int .i64 0)).far (p:=⟨xb,1,none⟩) hox (.int .i64 0)).far (p:=⟨xb,2,none⟩) hox (.int .i64 0)).far (p:=⟨xb,3,none⟩) hox (.bool false)).far (p:=⟨xb,4,none⟩) hox (.string ⟨#[]⟩)).far (p:=⟨xb,5,none⟩) hox (.slice none 0 0)
 have S9:=(((((S3.far (p:=⟨xb,0,none⟩) hsx (.int .i64 0)).far (p:=⟨xb,1,none⟩) hsx (.int .i64 0)).far (p:=⟨xb,2,none⟩) hsx (.int .i64 0)).far (p:=⟨xb,3,none⟩) hsx (.bool false)).far (p:=⟨xb,4,none⟩) hsx (.string ⟨#[]⟩)).far (p:=⟨xb,5,none⟩) hsx (.slice none 0 0)
 exact⟨X3,b3,b9,ob,a1,a2,a3,ev1,rfl,h1,h2,h3,O9,V9,S9,Ne.symm hso,hw.trans (b9.mono hw.size)⟩
def begW(d:ByteArray)(c:Nat):PV:=⟨cWrite c d,begunV,false,noRes,0⟩
def PsW(d:ByteArray)(b:Nat->Bool)(ps:List PV):Prop:=ps.length=4/\ ∀c (hc:c<ps.length),(b c=true->ps[c]=begW d c)/\ (b c=false-> ∃tc,ps[c]=⟨cWrite c d,.nilIface,true,numR 16,tc⟩)
theorem PsW.busy{d:ByteArray}{b:Nat->Bool}{ps:List PV}(h:PsW d b ps):BusyP ps b:=fun c hc=>by
 cases hb:b c with
 | true=>exact .inr ⟨rfl,by rw[(h.2 c hc).1 hb];exact⟨_,_,rfl⟩⟩
 | false=>
  obtain⟨tc,e⟩:=(h.2 c hc).2 hb
  exact .inl ⟨rfl,by rw[e]⟩
theorem PsW.step{c:Nat}{d:ByteArray}{b:Nat->Bool}{ps:List PV}(h:PsW d b ps){tc:Int}:PsW d (less b c) (ps.set c ⟨cWrite c d,.nilIface,true,numR 16,tc⟩):=by
 refine⟨by rw[List.length_set];exact h.1,fun i hi=>?_⟩
 have hi':i<ps.length:=by simpa using hi
 rw[List.getElem_set]
 by_cases e:c=i
 ·subst e
  rw[if_pos rfl]
  exact⟨fun q=>by simp[less]at q,fun _=>⟨tc,rfl⟩⟩
 ·rw[if_neg e]
  have:less b c i=b i:=by simp[less,Ne.symm e]
  rw[this]
  exact h.2 i hi'
def QW(L:Nat->Prop)(fb s pb:Nat)(v:Int)(d:ByteArray)(b:Nat->Bool)(W:World):Prop:=∃M ps,FsAt L W fb s pb M ps/\PsW d b ps/\Qc v d b M
theorem qw_step{L:Nat->Prop}{W:World}{fb s pb c:Nat}{v:Int}{d:ByteArray}{b:Nat->Bool}(hd:d.size=16)(hc:c<4)(hb:b c=true)(h:QW L fb s pb v d b W):
  Calls Tryz.prog 27 #[.pointer (some ⟨fb,0,none⟩),.int .i64 (c:Nat)] W fun e w'=>e= .returned (.tuple #[.bool true,.int .i64 0])/\QW L fb s pb v d (less b c) w'/\Kp L W w':=by
 obtain⟨M,ps,hf,hp,hq⟩:=h
 have hs:=hq.step hc hb
 have hcl:c<ps.length:=by rw[hp.1];exact hc
 have hpc:=(hp.2 c hcl).1 hb
 have htr0:=hq.tr c hc
 have htr1:=hs.tr c hc
 rw[hb]at htr0
 simp only[if_true]at htr0
 simp only[less,decide_true,Bool.not_true,Bool.and_false,Bool.false_eq_true,if_false]at htr1
 refine(fstep_ok hf (m:=20000) (hq.ok.mono (by omega)) (hs.ok.mono (by omega)) (by omega) hcl (c:=cWrite c d) (by rw[hpc];rfl) (by rw[hpc];rfl) (hs.tl.trans hq.tl.symm) (by rw[htr0,htr1];simp) (by rw[htr1];exact Qc.acc_le hc) (r:=numR 16) (stepC_write hd hq hc)).mono ?_
 rintro e w' ⟨rfl,tc,hf',hk'⟩
 exact⟨rfl,⟨_,_,hf',hp.step,hs⟩,hk'⟩
theorem crowd_state{L:Nat->Prop}{W:World}{fb s pb:Nat}{v:Int}{d:ByteArray}(hd:d.size=16){b:Nat->Bool}{M:Mem}{ps:List PV}(hb: ∀c,c<4->b c=false)(hf:FsAt L W fb s pb M ps)(hp:PsW d b ps)(hq:Qc v d b M):
  Calls Tryz.prog 19 #[.pointer (some ⟨fb,0,none⟩)] W fun e w'=>(∃iv ov mv ev,e= .returned (.tuple #[.agg #[iv,ov,mv],.int .i64 0])/\StV w' 0 iv ov mv ev (SK (DD d) 4))/\FsAt L w' fb s pb M ps/\Kw L W w':=by
 have hle:=cntT_le b 4
 have h:=State_ok hf (fun c hc=>by
  obtain⟨tc,e⟩:=(hp.2 c hc).2 (hb c (by have:=hp.1;omega))
  rw[e]) hq.ok (by omega) hq.dk.fit (f:=1) hq.gather (by decide) hq.deep (fun _=>DD d) (fun c q hc hq'=>by
  rw[hq.fd c q (by have:=hp.1;omega) hq'];split <;> omega) (fun i hi=>by rw[List.mem_singleton.1 hi];omega) (by rw[hp.1];exact hq.data hd hb s)
 refine h.mono ?_
 rintro e w' ⟨⟨iv,ov,mv,ev,S,rfl,hst,his⟩,h2,h3⟩
 rw[hp.1]at his
 obtain rfl:=hq.told his
 exact⟨⟨iv,ov,mv,ev,rfl,hst⟩,h2,h3⟩
def MkW(w:World)(sb cb j:Nat)(wr:World):Prop:=∃iv ov mv ev,IsSl iv/\IsSl ov/\IsSl mv/\Blk wr sb 30 #[iv,ov,mv]/\StV wr 0 iv ov mv ev (SQ j)/\Below w.heap.size w wr/\w.heap.size<=sb/\Blk wr cb 24 ((List.range 6).flatMap fun i=>(cQ i).cs.toList).toArray
end
end Go.Proofs.YtkebjgebkneijaaGreat
