/- Texts of one's own that a claim's last text rests on: Mp6 Mp7 St1 RArg CkL. -/
import Derived.Test.YtkebjgebkneijaaGreatMG31
import Derived.Test.YtkebjgebkneijaaGreatMG29
import Derived.Test.YtkebjgebkneijaaGreatMG11
import Derived.Deep.Slices
import Derived.Deep.Fields
import Derived.ChangeSame
import Derived.SizedLaws
import Derived.Test.YtkebjgebkneijaaGreatMG2
import Derived.Test.YtkebjgebkneijaaGreatMG8
set_option linter.unusedVariables false
set_option linter.unusedSimpArgs false
namespace Go.Proofs.YtkebjgebkneijaaGreat
open Go.RowKit
set_option maxHeartbeats 16000000
set_option maxRecDepth 1000000
theorem Aeo:(Tryz.prog.info? 97).map (fun i=>(i.zero,i.size,i.bytes))=some (some (.agg Bx.cs.toArray),17,192):=by kernel_rfl
theorem Abp(n:Nat):madeCells Bx.cs.toArray (n*17)=((List.replicate n Bx).map PV.cs).flatten.toArray:=by
 have hlen: ∀x∈(List.replicate n Bx).map PV.cs,x.length=17:=by
  intro x hx
  obtain⟨p,-,rfl⟩:=List.mem_map.1 hx
  rfl
 have hsz:((List.replicate n Bx).map PV.cs).flatten.length=n*17:=by
  rw[List.length_flatten]
  have:(((List.replicate n Bx).map PV.cs).map List.length)=List.replicate n 17:=by simp[PV.cs]
  rw[this,List.sum_replicate_nat]
 apply Array.ext
 ·rw[size_madeCells,List.size_toArray,hsz]
 ·intro i h1 h2
  rw[size_madeCells]at h1
  have e:i=i / 17*17+i % 17:=by omega
  have hq:i / 17< ((List.replicate n Bx).map PV.cs).length:=by simp;omega
  have hg:=Sm _ hlen (i / 17) (i % 17) (by omega) hq
  rw[<-e]at hg
  simp only[List.getElem_toArray,madeCells,Array.getElem_map,Array.getElem_range]
  have h3:(Bx.cs.toArray).size=17:=rfl
  rw[h3,getElem!_pos _ _ (by rw[h3];omega)]
  have hi:i< ((List.replicate n Bx).map PV.cs).flatten.length:=by rw[hsz];exact h1
  rw[Amh hi]at hg
  have h4:((List.replicate n Bx).map PV.cs)[i / 17]=Bx.cs:=by simp
  rw[h4,Amh (by show i % 17<17;omega)]at hg
  injection hg with hg
  rw[hg];simp
theorem Ak.same{w w':World}{v:Value}{n k:Nat}{C:Nat->Nat->Value}(h:Ak w v n k C)(hb: ∀b,b<w.heap.size->w'.heap[b]? =w.heap[b]?):Ak w' v n k C:=by
 obtain⟨A,cap,h2,h3,h4⟩:=h
 refine⟨A,cap,h2,h3,fun hn=>?_⟩
 obtain⟨g,off,hA,hc⟩:=h4 hn
 refine⟨g,off,hA,fun i j hi hj=>?_⟩
 have:=hc i j hi hj
 have hl:=Amd w _ this
 unfold World.cell? at this⊢
 rw[hb g hl];exact this
theorem StM.same{w w':World}{iv ov mv:Value}{ev:Nat->Value}{S:St}(h:StM w iv ov mv ev S)(hb: ∀b,b<w.heap.size->w'.heap[b]? =w.heap[b]?):StM w' iv ov mv ev S:=
 ⟨h.ino.same hb,fun i hi=>(h.ent i hi).same hb,h.opn.same hb,h.mad.same hb⟩
theorem Ahk{w0 w1:World}{s pb n:Nat}(hm:Ab (fun b=>b<w0.heap.size∨b=pb) w1 s (Mem.new n))(hb:Below w0.heap.size w0 w1)(hp:Blk w1 pb 97 (madeCells Bx.cs.toArray (n*17)))(hpn:w0.heap.size<=pb):
  FsAt (fun b=>b<w0.heap.size) (w1.alloc (.cells #[.pointer (some ⟨s,0,none⟩),.slice (some ⟨pb,0,none⟩) n n] 70)) w1.heap.size s pb (Mem.new n) (List.replicate n Bx):=by
 have hs:=hb.size
 refine⟨(hm.allocIns _).sub fun b q=>?_,?_,⟨?_,fun x hx=>?_⟩,fun q=>?_,fun q=>?_,?_⟩
 ·rcases q with q | q | q
  ·exact .inl (.inl q)
  ·exact .inr q
  ·exact .inl (.inr q)
 ·have:=Blk.new w1 70 #[.pointer (some ⟨s,0,none⟩),.slice (some ⟨pb,0,none⟩) n n]
  simpa using this
 ·rw[<-Abp];exact hp.alloc _
 ·obtain⟨p,-,rfl⟩:=List.mem_map.1 hx
  rfl
 ·omega
 ·omega
 ·simp[Mem.new]
theorem fsA{w2 w3:World}{s n:Nat}{mc:Array Value}(hb:Below w2.heap.size w2 w3)(hm:Ab (fun b=>b<w2.drew.heap.size) w3 s (Mem.new n))(hc:madeCells Bx.cs.toArray (n*17)=mc):
  FsAt (fun b=>b<w2.heap.size) ((w3.alloc (.cells mc 97)).alloc (.cells #[.pointer (some ⟨s,0,none⟩),.slice (some ⟨w3.heap.size,0,none⟩) n n] 70)) (w3.heap.size+1) s w3.heap.size (Mem.new n) (List.replicate n Bx):=by
 subst hc
 have:=Ahk (w0:=w2) (w1:=w3.alloc (.cells (madeCells Bx.cs.toArray (n*17)) 97)) (s:=s) (pb:=w3.heap.size) (hm.allocIns _) (hb.alloc hb.size _) (Blk.new _ _ _) hb.size
 simpa using this
theorem fsB{w2 w3:World}{s n:Nat}{mc:Array Value}(hb':Below (w2.alloc (.cells mc 97)).drew.heap.size (w2.alloc (.cells mc 97)).drew w3)(hb:Below w2.heap.size w2 w3)(hm:Ab (fun b=>b< (w2.alloc (.cells mc 97)).drew.heap.size) w3 s (Mem.new n))(hc:madeCells Bx.cs.toArray (n*17)=mc):
  FsAt (fun b=>b<w2.heap.size) (w3.alloc (.cells #[.pointer (some ⟨s,0,none⟩),.slice (some ⟨w2.heap.size,0,none⟩) n n] 70)) w3.heap.size s w2.heap.size (Mem.new n) (List.replicate n Bx):=by
 subst hc
 have hsz:(w2.alloc (.cells (madeCells Bx.cs.toArray (n*17)) 97)).drew.heap.size=w2.heap.size+1:=by simp[World.drew]
 refine Ahk (w0:=w2) (w1:=w3) (s:=s) (pb:=w2.heap.size) (hm.sub fun b q=>?_) hb (Blk.of_heap (hb'.block _ ?_) (show Blk (w2.alloc (.cells (madeCells Bx.cs.toArray (n*17)) 97)).drew w2.heap.size 97 _ from Blk.new _ _ _)) (Ama _)
 ·rw[hsz];omega
 ·rw[hsz];omega
theorem Adm{L:Nat->Prop}{w:World}{iv ov mv:Value}{ev:Nat->Value}{S:St}(hb:Bd L w)(hS:StM w iv ov mv ev S)(hI:Inv S):
  Calls Tryz.prog 8 #[.agg #[iv,ov,mv]] w fun e w'=>∃fb s pb,e= .returned (.tuple #[.pointer (some ⟨fb,0,none⟩),.int .i64 0])/\FsAt L w' fb s pb (Cu S) (List.replicate S.made.length Bx)/\Below w.heap.size w w':=by
 have hsm:=hI.small
 have h8:=hI.m8
 have h1:=hI.m1
 have hbx:=(Amf w.heap.size w).alloc (Ama _) (.cells #[iv,ov,mv] 30)
 have HS1:=lhi (hS.keep hbx)
 have HI:=lhi hI
 have HB1:=lhi hbx
 have HX:=lhi (Blk.new w 30 #[iv,ov,mv])
 have HBL:=lhi hb
 obtain⟨A,cap,rfl,-,-⟩:=hS.ino
 obtain⟨OA,ocap,rfl,-,-⟩:=hS.opn
 obtain⟨MA,mcap,rfl,-,-⟩:=hS.mad
 obtain⟨i0,hi0,hz0,hz1,hz2⟩:=info_parts Aeo
 clear hS hI hb hbx hsm
 go_enter Tryz.func8,Tryz.ntmps8
 go_upto_region 1 with(fail)
 obtain⟨w1,hw1⟩:=yy (w.alloc (.cells #[.slice A S.inodes.length cap,.slice OA S.opens.length ocap,.slice MA S.made.length mcap] 30))
 obtain⟨sp,hsp⟩:=yy w.heap.size
 rw[<-hw1]at HS1 HB1 HX⊢
 rw[<-hsp]at HX⊢
 have HMY:=lhi (Of HS1.out HI.out)
 have x0:w1.cell? ⟨sp,0,none⟩=some (.slice A S.inodes.length cap):=HX.out.cell 0
 have x1:w1.cell? ⟨sp,1,none⟩=some (.slice OA S.opens.length ocap):=HX.out.cell 1
 have x2:w1.cell? ⟨sp,2,none⟩=some (.slice MA S.made.length mcap):=HX.out.cell 2
 clear hw1 hsp
 go_upto_region 3 with(go_at_call 22;refine HMY.out.mono ?_;rintro e w2 ⟨rfl,hb2⟩;have HB2:=lhi hb2;clear hb2)
 have HX2:=lhi (Blk.of_heap (HB2.out.block _ HX.out.lt) HX.out)
 have HS2:=lhi (HS1.out.keep HB2.out)
 have HBW:=lhi (HB1.out.trans (HB2.out.mono HB1.out.size))
 clear x0 x1 x2 HB1 HB2 HS1 HX HMY
 obtain⟨n,hnn⟩:=xx S.made.length
 have HNN:=lhi hnn
 rw[hnn]at h8 h1 HX2
 try rw[hnn]
 clear hnn
 have hmk: ∀W:World,(Instr.makeSlice 68 (.int .i64 n) (.int .i64 n)).run Tryz.prog W= .ok (.slice (some ⟨W.heap.size,0,none⟩) n n) (W.alloc (.cells (madeCells Bx.cs.toArray (n*17)) 97)):=by
  intro W
  have h:=Ci (P:=Tryz.prog) (w:=W) 68 97 i0 _ Tryz.underlying68 hi0 hz0 .i64 .i64 n n (Ama _) (by rw[hz2];omega) (by omega)
  rw[hz1]at h
  exact h
 obtain⟨mc,hmc⟩:=xx (madeCells Bx.cs.toArray (n*17))
 have HMC:=lhi hmc
 rw[hmc]at hmk
 clear hmc hi0 hz0 hz1 hz2
 have HNS:=lhi (fun(W:World)=>Yo (L:=fun b=>b<W.heap.size) (w:=W) (fun b hb=>hb) (k:=n) ⟨h1,h8⟩)
 have hsl:=HX2.out.lt
 go_cut [4] (fun s4 wx=>∃fb s pb,s4= .pointer (some ⟨fb,0,none⟩)/\FsAt (fun b=>b<w2.heap.size) wx fb s pb (Mem.new n) (List.replicate n Bx)/\Below w2.heap.size w2 wx)
 case first=>
  have c2:w2.cell? ⟨sp,2,none⟩=some (.slice MA n mcap):=HX2.out.cell 2
  have HPA:=lhi (fun o=>show(w2.alloc o).drew.cell? ⟨sp,2,none⟩=some (.slice MA n mcap)from(Amj _ _ _ hsl).trans c2)
  have HPB:=lhi (fun(W:World) (h:Below w2.heap.size w2 W)=>(h.cell (p:=⟨sp,2,none⟩) hsl).trans c2)
  go_region_held3 (fun w'=>w'.cell? ⟨sp,2,none⟩=some (.slice MA n mcap))
   (first | exact HPB.out _ (Ae w2) | exact HPA.out _ | exact HPB.out _ HB3.out | exact HPB.out _ (HB3.out.alloc HB3.out.size _) | exact HPB.out _ ((HB3.out.alloc HB3.out.size _).alloc (by have:=HB3.out.size;simp;omega) _))
   ((go_at_call 25;refine(HNS.out _).mono ?_;rintro e w3 ⟨s,rfl,hm3,hb3,hs3⟩;have HM3:=lhi hm3;have HB3':=lhi hb3;have HB3:=lhi (show Below w2.heap.size w2 w3 from by first | exact(Ae w2).trans hb3 | exact(Gh w2 _).trans (hb3.mono (by simp)));clear hm3 hb3 hs3))
  all_goals
   go_wp2_with (fail)
   go_meet
   case rel=>first
    | exact⟨_,s,_,rfl,fsA HB3.out HM3.out HMC.out,(HB3.out.alloc HB3.out.size _).alloc (by have:=HB3.out.size;simp;omega) _⟩
    | exact⟨_,s,_,rfl,fsB HB3'.out HB3.out HM3.out HMC.out,HB3.out.alloc HB3.out.size _⟩
 case rest=>
  obtain⟨fb,s,pb,rfl,hfs,hb3⟩:=hcut
  have HFS:=lhi hfs
  have HB3:=lhi hb3
  have HXC:=lhi (Blk.of_heap (hb3.block _ hsl) HX2.out)
  have c0:wc.cell? ⟨fb,0,none⟩=some (.pointer (some ⟨s,0,none⟩)):=hfs.f.cell 0
  have HPD:=lhi (show wc.drew.cell? ⟨fb,0,none⟩=some (.pointer (some ⟨s,0,none⟩))/\wc.drew.cell? ⟨sp,0,none⟩=some (.slice A S.inodes.length cap)/\wc.drew.cell? ⟨sp,1,none⟩=some (.slice OA S.opens.length ocap)/\wc.drew.cell? ⟨sp,2,none⟩=some (.slice MA n mcap)from⟨c0,HXC.out.cell 0,HXC.out.cell 1,HXC.out.cell 2⟩)
  have HLD:=lhi (Ai9 (w:=wc.drew) (iv:=.slice A S.inodes.length cap) (ov:=.slice OA S.opens.length ocap) (mv:=.slice MA n mcap) (ev:=ev) hfs.m.drew (Mem.new_ok n) (by omega) (fun W hW=>by have:=HS2.out.same fun b hb=>(hW b (.inl hb)).trans (hb3.block b hb);rw[HNN.out]at this;exact this) HI.out (by rw[HNN.out];simp[Mem.new]))
  rw[HNN.out]at HLD
  have HLM:=lhi (show Cu S=Bv S (Bl S (Ce S (Mem.new n) S.inodes.length) n) S.opens.length by rw[<-HNN.out];rfl)
  have HRL:=lhi (show List.replicate S.made.length Bx=List.replicate n Bx by rw[HNN.out])
  clear hfs hb3 c0 hmk
  go_upto_region 4 with(fail)
  go_region_held3 (fun w'=>w'.cell? ⟨fb,0,none⟩=some (.pointer (some ⟨s,0,none⟩))/\w'.cell? ⟨sp,0,none⟩=some (.slice A S.inodes.length cap)/\w'.cell? ⟨sp,1,none⟩=some (.slice OA S.opens.length ocap)/\w'.cell? ⟨sp,2,none⟩=some (.slice MA n mcap))
   (with_reducible first | exact HPD.out | exact z4)
   ((go_at_call 26;refine HLD.out.mono ?_;rintro e w4 ⟨rfl,hm4,hk4⟩;have HM4:=lhi hm4;have HK4:=lhi (show Kw _ wc w4 from hk4.undrew);have z4:w4.cell? ⟨fb,0,none⟩=some (.pointer (some ⟨s,0,none⟩))/\w4.cell? ⟨sp,0,none⟩=some (.slice A S.inodes.length cap)/\w4.cell? ⟨sp,1,none⟩=some (.slice OA S.opens.length ocap)/\w4.cell? ⟨sp,2,none⟩=some (.slice MA n mcap):=⟨hk4.k.cellOf (p:=⟨fb,0,none⟩) (.inr (.inl rfl)) HPD.out.1,hk4.cellB (w:=wc.drew) HXC.out Cw HPD.out.2.1,hk4.cellB (w:=wc.drew) HXC.out Cw HPD.out.2.2.1,hk4.cellB (w:=wc.drew) HXC.out Cw HPD.out.2.2.2⟩;clear hm4 hk4))
  go_wp2_with (fail)
  go_ret2
  obtain⟨r1,r2⟩:=HFS.out.back HM4.out HK4.out.k (by rw[<-HLM.out,Ix];simp[Mem.new,HNN.out])
  refine⟨fb,s,pb,rfl,?_,HBW.out.trans ?_⟩
  ·rw[HLM.out,HRL.out]
   exact r1.sub fun b q=>Amk (HBL.out b q) HBW.out.size
  ·exact(show Below w.heap.size w2 w4 from⟨r2.k.os.trans HB3.out.os,r2.k.tape.trans HB3.out.tape,r2.k.output.trans HB3.out.output,Aml HB3.out.size r2.k.size,fun b hb=>(r2.k.block b (Amk hb HBW.out.size)).trans (HB3.out.block b (Amk hb HBW.out.size))⟩)
def newS(n:Nat):St:=⟨[⟨1,true,[],⟨#[]⟩⟩],[],List.replicate n 0⟩
theorem Sh{n:Nat}(h1:1<=n)(h8:n<=8):Inv (newS n):=by
 have one: ∀{x},x∈(newS n).inodes->x=⟨1,true,[],⟨#[]⟩⟩:=fun hx=>List.mem_singleton.1 hx
 refine⟨?_,?_,?_,⟨_,rfl,rfl,rfl⟩,List.pairwise_singleton _ _,?_,?_,?_,?_,?_,?_,?_,?_,?_,?_,?_,?_,List.Pairwise.nil⟩
 ·show 1<= (List.replicate n (0:Int)).length
  rw[List.length_replicate];exact h1
 ·show(List.replicate n (0:Int)).length<=8
  rw[List.length_replicate];exact h8
 ·intro m hm
  obtain⟨_,rfl⟩:=List.mem_replicate.1 hm
  decide
 ·intro x hx hn;rw[one hx]at hn;exact absurd rfl hn
 ·intro x hx _;rw[one hx];rfl
 ·intro x hx hn;rw[one hx]at hn;cases hn
 ·intro x hx;rw[one hx];decide
 ·intro x hx e he;rw[one hx]at he;cases he
 ·intro x hx e he;rw[one hx]at he;cases he
 ·intro x hx;rw[one hx];exact List.Pairwise.nil
 ·intro x hx q;rw[one hx];exact Nat.zero_le _
 ·intro x hx _ hn;rw[one hx]at hn;exact absurd rfl hn
 ·intro x hx _;rw[one hx];exact .root
 ·intro x hx hn;rw[one hx]at hn;cases hn
 ·intro o ho;cases ho
theorem Agu{w':World}{n g gm:Nat}(hg:Blk w' g 93 #[.int .i64 1,.bool true,.slice none 0 0,.string ⟨#[]⟩])(hm:Blk w' gm 3 (Qo n)):
  StM w' (.slice (some ⟨g,0,none⟩) 1 1) (.slice none 0 0) (.slice (some ⟨gm,0,none⟩) n n) (fun _=>.slice none 0 0) (newS n):=by
 refine⟨?_,fun i hi=>?_,Ak.nil_ _ _ _,?_⟩
 ·refine Ak.blk hg (Ama _) fun i j hi hj=>?_
  obtain rfl:i=0:=by have:(newS n).inodes.length=1:=rfl;omega
  have:j=0∨j=1∨j=2∨j=3:=by omega
  rcases this with rfl | rfl | rfl | rfl <;> rfl
 ·obtain rfl:i=0:=by have:(newS n).inodes.length=1:=rfl;omega
  exact Ak.nil_ _ _ _
 ·have hl:(newS n).made.length=n:=List.length_replicate
  rw[hl]
  refine Ak.blk hm (Ama _) fun i j hi hj=>?_
  obtain rfl:j=0:=by omega
  have:(newS n).mad i=0:=by
   unfold St.mad newS
   rw[Ame,List.getElem?_replicate]
   split <;> rfl
  simp[Qo,madC,this,hi]
theorem Ahl{L:Nat->Prop}{w:World}(hb:Bd L w){n:Nat}(h1:1<=n)(h8:n<=8):
  Calls Tryz.prog 23 #[.int .i64 n] w fun e w'=>∃fb s pb,e= .returned (.tuple #[.pointer (some ⟨fb,0,none⟩),.int .i64 0])/\FsAt L w' fb s pb (Cu (newS n)) (List.replicate n Bx)/\Below w.heap.size w w':=by
 have HB:=lhi hb
 have HN:=lhi (Sd n h1 h8 w)
 clear hb
 go_enter Tryz.func23,Tryz.ntmps23
 go_upto_region 2 with(go_at_call 15;refine HN.out.mono ?_;rintro e w1 ⟨g,gm,rfl,hb1,hg1,hg2,hg3,hg4⟩;have HB1:=lhi hb1;have HG3:=lhi hg3;have HG4:=lhi hg4;clear hb1 hg3 hg4)
 have HS:=lhi (Agu HG3.out HG4.out)
 have HBA:=lhi (HB1.out.alloc HB1.out.size (.cells #[.slice (some ⟨g,0,none⟩) 1 1,.slice none 0 0,.slice (some ⟨gm,0,none⟩) n n] 30))
 have HLD:=lhi (Adm (L:=L) (w:=w1.alloc (.cells #[.slice (some ⟨g,0,none⟩) 1 1,.slice none 0 0,.slice (some ⟨gm,0,none⟩) n n] 30)) (fun b q=>Amk (HB.out b q) HBA.out.size) (HS.out.keep ((Amf _ _).alloc (Ama _) _)) (Sh h1 h8))
 have HRL:=lhi (show(newS n).made.length=n from List.length_replicate)
 rw[HRL.out]at HLD
 go_wp2_with (go_at_call 8;refine HLD.out.mono ?_;rintro e w2 ⟨fb,s,pb,rfl,hfs,hb2⟩)
 go_ret2
 exact⟨fb,s,pb,rfl,hfs,HBA.out.trans (hb2.mono HBA.out.size)⟩
theorem Ya{w:World}{base g n cap k:Nat}{t:TypeId}{cs:Array Value}{C:Nat->Nat->Value}(h:Blk w g t cs)(hb:base<=g)(hn:n<=cap)(hC: ∀i j,i<n->j<k->cs[i*k+j]? =some (C i j)):RowT w base t k (.slice (some ⟨g,0,none⟩) n cap) n C:=
 ⟨_,_,rfl,hn,fun _=>⟨g,0,cs,rfl,hb,h,fun i j hi hj=>by rw[Nat.zero_add];exact hC i j hi hj⟩⟩
theorem Agt{w:World}{g gm:Nat}(hI:Blk w g 93 #[.int .i64 1,.bool true,.slice none 0 0,.string ⟨#[]⟩])(hM:Blk w gm 3 (Qo 2)):
  StV w 0 (.slice (some ⟨g,0,none⟩) 1 1) (.slice none 0 0) (.slice (some ⟨gm,0,none⟩) 2 2) (fun _=>.slice none 0 0) (newS 2):=by
 refine⟨Ya hI (Nat.zero_le _) (Ama _) fun i j hi hj=>?_,fun i hi=>?_,RowT.nil_ _ _ _ _ _,Ya hM (Nat.zero_le _) (Ama _) fun i j hi hj=>?_⟩
 ·obtain rfl:i=0:=by have hi':i<1:=hi;omega
  have:j=0∨j=1∨j=2∨j=3:=by omega
  rcases this with rfl | rfl | rfl | rfl <;> rfl
 ·obtain rfl:i=0:=by have hi':i<1:=hi;omega
  exact RowT.nil_ _ _ _ _ _
 ·obtain rfl:j=0:=by omega
  have:i=0∨i=1:=by have hi':i<2:=hi;omega
  rcases this with rfl | rfl <;> rfl
theorem nwb{w W:World}(h:Below w.heap.size w W)(cs:Array Value)(t:TypeId):Blk (W.alloc (.cells cs t)) W.heap.size t cs/\w.heap.size<=W.heap.size:=⟨Blk.new W t cs,h.size⟩
theorem letH{P:Program}{md:Region.Mode}{ops:Array Oper}{Q:Exit->Act->World->Prop}{S:World->Prop}{fuel:Nat}{listed:Array Bool}{a:Act}{w:World}(h: ∀W,W=w->wpAnyH P md ops Q S fuel listed a W):wpAnyH P md ops Q S fuel listed a w:=h w rfl
theorem StV.grow{w w':World}{b n:Nat}{t:TypeId}{cs:Array Value}{iv ov mv:Value}{ev:Nat->Value}{S:St}(h:StV w b iv ov mv ev S)(hg:w.grownBy w' (some n))(hn:Blk w n t cs)(ht:t≠93/\t≠132/\t≠144/\t≠3):StV w' b iv ov mv ev S:=by
 have hr: ∀{e:TypeId} {k m:Nat} {u:Value} {C:Nat->Nat->Value},RowT w b e k u m C->t≠e->RowT w' b e k u m C:=fun hu he=>hu.heap fun q cs _ hq=>Am hq hg fun x=>Blk.ne_ hn hq he (Amg x)
 exact⟨hr h.ino ht.1,fun i hi=>hr (h.ent i hi) ht.2.1,hr h.opn ht.2.2.1,hr h.mad ht.2.2.2⟩
def Kc(w:World)(A:Option Addr)(n cap:Nat)(D:Nat->Ad):Prop:=n<=cap/\ (∀i,Lb (D i))/\ (0<n-> ∃g off,A=some ⟨g,off,none⟩/\ ∀i j,i<n->j<8->w.cell? ⟨g,off+ (i*8+j),none⟩=(D i).cs[j]?)
structure StL (w:World) (sb ob:Nat) (W:World) (S:St) (A:Option Addr) (n c:Nat) (O:Option Addr) (no oc:Nat) (M:Option Addr) (nm mc:Nat):Prop where
 b:Below w.heap.size w W
 s:Blk W sb 30 #[.slice A n c,.slice O no oc,.slice M nm mc]
 o:Blk W ob 30 #[.slice none 0 0,.slice none 0 0,.slice none 0 0]
 st: ∃ev,StV W 0 (.slice A n c) (.slice O no oc) (.slice M nm mc) ev S
 inv:Inv S
 made:S.made.length=2
 ns:w.heap.size<=sb
 no:w.heap.size<=ob
 ne:ob≠sb
theorem Af4{w:World}{A:Option Addr}{n cap:Nat}{D:Nat->Ad}(hA:Kc w A n cap D):
  Calls Tryz.prog 7 #[.int .i64 2,.slice A n cap] w fun e w'=>(∃iv ov mv ev S,e= .returned (.tuple #[.agg #[iv,ov,mv],.bool true])/\StV w' 0 iv ov mv ev S/\Inv S/\S.made.length=2)/\Below w.heap.size w w':=by
 have HAR:=lhi hA
 have HN:=lhi (fun W=>Sd 2 (by omega) (by omega) W)
 clear hA
 go_enter Tryz.func7,Tryz.ntmps7
 go_upto_region 1 with(fail)
 refine letW (fun w1 hw1=>?_)
 obtain⟨ho,hb1⟩:=Du hw1
 obtain⟨ob,hob⟩: ∃x,w.heap.size=x:=⟨_,rfl⟩
 have HO1:=lhi ho
 have HB1:=lhi hb1
 rw[hob]at HO1⊢
 clear hw1 ho hb1
 go_upto_region 2 with(go_at_call 15;refine(HN.out _).mono ?_;rintro e w2 ⟨g,gm,rfl,hb2,hg,hgm,hI,hM⟩)
 refine letW (fun w3 hw3=>?_)
 obtain⟨hs,hb3⟩:=Du hw3
 have hz1:=HB1.out.size
 have hz2:=hb2.size
 have HL:=lhi (show StL w w2.heap.size ob w3 (newS 2) (some ⟨g,0,none⟩) 1 1 none 0 0 (some ⟨gm,0,none⟩) 2 2 from⟨HB1.out.trans ((hb2.mono hz1).trans (hb3.mono (by omega))),hs,Blk.of_heap (hb3.block _ (by have:=HO1.out.lt;omega)) (Blk.of_heap (hb2.block _ HO1.out.lt) HO1.out),⟨_,(Agt hI hM).below hb3⟩,Sh (by omega) (by omega),rfl,by omega,by omega,by have:=HO1.out.lt;omega⟩)
 obtain⟨sb,hsb⟩: ∃x,w2.heap.size=x:=⟨_,rfl⟩
 rw[hsb]at HL⊢
 clear hw3 hb2 hb3 hs hI hM hsb hz1 hz2
 go_upto_region 3 with(fail)
 go_loopw [8] (fun i wr=>∃(k:Nat) (S:St) (A1 O1 M1:Option Addr) (c1 n2 c2 n3 c3 n1:Nat),i= .int .i64 k/\k<=n/\k<=25/\StL w sb ob wr S A1 n1 c1 O1 n2 c2 M1 n3 c3) (fun i _=>25 - (intOf i).toNat)
 case atStart=>exact⟨0,_,_,_,_,_,_,_,_,_,_,rfl,by omega,by omega,HL.out⟩
 case round=>
  obtain⟨k,S,A1,O1,M1,c1,n2,c2,n3,c3,n1,rfl,hk,hk25,hl⟩:=hrel
  have HLL:=lhi hl
  clear hl
  by_cases hp:k<n/\k<25
  ·obtain⟨hp1,hp2⟩:=hp
   have hi1:(k:Int)<n:=by omega
   have hi2:decide ((k:Int)< (25:Int))=true:=by simp;omega
   obtain⟨hc,hok,hcl0⟩:=HAR.out
   obtain⟨ag,ao,rfl,hcell⟩:=hcl0 (by omega)
   have hck:=hok k
   have hcl:=fun j hj=>hcell k j hp1 hj
   obtain⟨cv,hcv⟩:=xx (D k)
   rw[hcv]at hck hcl
   obtain⟨ev,hst⟩:=HLL.out.st
   have HDO:=lhi (fun(W:World) (hb:Below wr.drew.heap.size wr.drew W)=>Aih ((hst.below (Ae wr)).below hb) HLL.out.inv hck)
   have hinv:=Ajp HLL.out.inv cv
   obtain⟨S1,hS1⟩:=xx (outS S (doX S cv))
   rw[hS1,HLL.out.made]at hinv
   have HS1:=lhi hinv
   replace HDO:=lhi (show∀(W:World),Below wr.drew.heap.size wr.drew W->Calls Tryz.prog 12 #[.agg #[.slice A1 n1 c1,.slice O1 n2 c2,.slice M1 n3 c3],.agg cv.cs] W fun e w'=>(∃iv ov mv ev rc rf rn rd rt ra rl rk,e= .returned (.tuple #[.agg #[iv,ov,mv],.agg #[.int .i64 rc,.int .i64 rf,.int .i64 rn,.bool rd,.string rt,.slice ra rl rk]])/\StV w' 0 iv ov mv ev S1)/\Below W.heap.size W w' from fun W hb=>(HDO.out W hb).mono fun e w' ⟨⟨iv,ov,mv,ev,r,he,hs,_⟩,hb⟩=>⟨⟨iv,ov,mv,ev,r.code,r.fd,r.num,r.dir,r.data,r.na,r.nl,r.nc,he,hS1▸hs⟩,hb⟩)
   obtain⟨kind,core,fd,off,num,path,path2,data⟩:=cv
   simp only[Ad.cs]at HDO
   have HC:=lhi (fun(W:World) (hb:Below wr.drew.heap.size wr.drew W)=>(show(W.cell? ⟨sb,0,none⟩=some (.slice A1 n1 c1)/\W.cell? ⟨sb,1,none⟩=some (.slice O1 n2 c2)/\W.cell? ⟨sb,2,none⟩=some (.slice M1 n3 c3))/\W.cell? ⟨ag,ao+k*8,none⟩=some (.int .i64 kind)/\W.cell? ⟨ag,ao+k*8+1,none⟩=some (.int .i64 core)/\W.cell? ⟨ag,ao+k*8+2,none⟩=some (.int .i64 fd)/\W.cell? ⟨ag,ao+k*8+3,none⟩=some (.int .i64 off)/\W.cell? ⟨ag,ao+k*8+4,none⟩=some (.int .i64 num)/\W.cell? ⟨ag,ao+k*8+5,none⟩=some (.string path)/\W.cell? ⟨ag,ao+k*8+6,none⟩=some (.string path2)/\W.cell? ⟨ag,ao+k*8+7,none⟩=some (.string data)from by
    have q: ∀j v,j<8->(Ad.cs ⟨kind,core,fd,off,num,path,path2,data⟩)[j]? =some v->W.cell? ⟨ag,ao+k*8+j,none⟩=some v:=fun j v hj hv=>by
     have h1:=(hcl j hj).trans hv
     rw[<-Nat.add_assoc]at h1
     have h2:=((HLL.out.b.cell (Amd _ _ h1)).trans h1)
     exact(hb.cell (Amd _ _ h2)).trans h2
    exact⟨(Blk.of_heap (hb.block _ HLL.out.s.lt) HLL.out.s).d3,q 0 _ (by decide) rfl,q 1 _ (by decide) rfl,q 2 _ (by decide) rfl,q 3 _ (by decide) rfl,q 4 _ (by decide) rfl,q 5 _ (by decide) rfl,q 6 _ (by decide) rfl,q 7 _ (by decide) rfl⟩))
   have hki:(k:Int)< (cap:Int):=by omega
   clear hcl0 hcl hcell hok hst hinv hS1 hcv hck
   go_upto_region 5 with(fail)
   have HX:=lhi (Amf wr.drew.heap.size wr.drew)
   refine wp_region_held_drew (S:=fun W=>(W.cell? ⟨sb,0,none⟩=some (.slice A1 n1 c1)/\W.cell? ⟨sb,1,none⟩=some (.slice O1 n2 c2)/\W.cell? ⟨sb,2,none⟩=some (.slice M1 n3 c3))/\W.cell? ⟨ag,ao+k*8,none⟩=some (.int .i64 kind)/\W.cell? ⟨ag,ao+k*8+1,none⟩=some (.int .i64 core)/\W.cell? ⟨ag,ao+k*8+2,none⟩=some (.int .i64 fd)/\W.cell? ⟨ag,ao+k*8+3,none⟩=some (.int .i64 off)/\W.cell? ⟨ag,ao+k*8+4,none⟩=some (.int .i64 num)/\W.cell? ⟨ag,ao+k*8+5,none⟩=some (.string path)/\W.cell? ⟨ag,ao+k*8+6,none⟩=some (.string path2)/\W.cell? ⟨ag,ao+k*8+7,none⟩=some (.string data)) (by kernel_rfl) (HC.out _ HX.out) (fun hHeld=>?_)
   refine tH 0 ?_
   refine tH 1 ?_
   refine tH 2 ?_
   refine tH 3 ?_
   refine tH 4 ?_
   refine rdy [5,9,10] ?_
   refine AllReadyH.cons rfl (fun K hK=>?_) ?_
   go_simp
   refine(HDO.out _ HX.out).mono ?_
   rintro e w5 ⟨⟨iv',ov',mv',ev',rc,rf,rn,rd,rt,ra,rl,rk,rfl,hst⟩,hb⟩
   obtain⟨A',cap',rfl,-⟩:=hst.ino;obtain⟨O',ocap',rfl,-⟩:=hst.opn;obtain⟨M',mcap',rfl,-⟩:=hst.mad
   have HX:=lhi (HX.out.trans (hb.mono HX.out.size))
   have HST:=lhi hst
   clear hst hb
   refine hK.out _ _ (HC.out _ HX.out) (fun hHeld=>?_)
   clear hK K
   refine tH 6 ?_
   refine tH 7 ?_
   refine tH 8 ?_
   refine rdy [9,10] ?_
   refine AllReadyH.cons rfl (fun K hK=>?_) ?_
   go_simp
   have HA:=lhi (nwb HX.out #[.slice none 0 0,.slice none 0 0,.slice none 0 0] 30)
   have HX:=lhi (HX.out.alloc HX.out.size (.cells #[.slice none 0 0,.slice none 0 0,.slice none 0 0] 30))
   have HST:=lhi (HST.out.below (Br _ (.cells #[.slice none 0 0,.slice none 0 0,.slice none 0 0] 30)))
   refine hK.out _ _ (HC.out _ HX.out) (fun hHeld=>?_)
   clear hK K
   refine rdy [10] ?_
   refine AllReadyH.cons rfl (fun K hK=>?_) AllReadyH.nil
   go_simp
   have HB:=lhi (nwb HX.out #[.int .i64 0,.int .i64 0,.int .i64 0,.bool false,.string ⟨#[]⟩,.slice none 0 0] 41)
   have HX:=lhi (HX.out.alloc HX.out.size (.cells #[.int .i64 0,.int .i64 0,.int .i64 0,.bool false,.string ⟨#[]⟩,.slice none 0 0] 41))
   have HST:=lhi (HST.out.below (Br _ (.cells #[.int .i64 0,.int .i64 0,.int .i64 0,.bool false,.string ⟨#[]⟩,.slice none 0 0] 41)))
   have HA:=lhi (And.intro (HA.out.1.alloc (.cells #[.int .i64 0,.int .i64 0,.int .i64 0,.bool false,.string ⟨#[]⟩,.slice none 0 0] 41)) HA.out.2)
   refine hK.out _ _ (HC.out _ HX.out) (fun hHeld=>?_)
   clear hK K
   rotate_left
   refine AllReadyH.cons rfl (fun K hK=>?_) AllReadyH.nil
   go_simp
   have HB:=lhi (nwb HX.out #[.int .i64 0,.int .i64 0,.int .i64 0,.bool false,.string ⟨#[]⟩,.slice none 0 0] 41)
   have HX:=lhi (HX.out.alloc HX.out.size (.cells #[.int .i64 0,.int .i64 0,.int .i64 0,.bool false,.string ⟨#[]⟩,.slice none 0 0] 41))
   have HST:=lhi (HST.out.below (Br _ (.cells #[.int .i64 0,.int .i64 0,.int .i64 0,.bool false,.string ⟨#[]⟩,.slice none 0 0] 41)))
   refine hK.out _ _ (HC.out _ HX.out) (fun hHeld=>?_)
   clear hK K
   refine rdy [9] ?_
   refine AllReadyH.cons rfl (fun K hK=>?_) AllReadyH.nil
   go_simp
   have HA:=lhi (nwb HX.out #[.slice none 0 0,.slice none 0 0,.slice none 0 0] 30)
   have HX:=lhi (HX.out.alloc HX.out.size (.cells #[.slice none 0 0,.slice none 0 0,.slice none 0 0] 30))
   have HST:=lhi (HST.out.below (Br _ (.cells #[.slice none 0 0,.slice none 0 0,.slice none 0 0] 30)))
   have HB:=lhi (And.intro (HB.out.1.alloc (.cells #[.slice none 0 0,.slice none 0 0,.slice none 0 0] 30)) HB.out.2)
   refine hK.out _ _ (HC.out _ HX.out) (fun hHeld=>?_)
   clear hK K
   rotate_left
   refine AllReadyH.cons rfl (fun K hK=>?_) ?_
   go_simp
   have HA:=lhi (nwb HX.out #[.slice none 0 0,.slice none 0 0,.slice none 0 0] 30)
   have HX:=lhi (HX.out.alloc HX.out.size (.cells #[.slice none 0 0,.slice none 0 0,.slice none 0 0] 30))
   refine hK.out _ _ (HC.out _ HX.out) (fun hHeld=>?_)
   clear hK K
   refine rdy [5,10] ?_
   refine AllReadyH.cons rfl (fun K hK=>?_) ?_
   go_simp
   refine(HDO.out _ HX.out).mono ?_
   rintro e w5 ⟨⟨iv',ov',mv',ev',rc,rf,rn,rd,rt,ra,rl,rk,rfl,hst⟩,hb⟩
   obtain⟨A',cap',rfl,-⟩:=hst.ino;obtain⟨O',ocap',rfl,-⟩:=hst.opn;obtain⟨M',mcap',rfl,-⟩:=hst.mad
   have HX:=lhi (HX.out.trans (hb.mono HX.out.size))
   have HST:=lhi hst
   have HA:=lhi (And.intro (Blk.of_heap (hb.block _ HA.out.1.lt) HA.out.1) HA.out.2)
   clear hst hb
   refine hK.out _ _ (HC.out _ HX.out) (fun hHeld=>?_)
   clear hK K
   refine tH 6 ?_
   refine tH 7 ?_
   refine tH 8 ?_
   refine rdy [10] ?_
   refine AllReadyH.cons rfl (fun K hK=>?_) AllReadyH.nil
   go_simp
   have HB:=lhi (nwb HX.out #[.int .i64 0,.int .i64 0,.int .i64 0,.bool false,.string ⟨#[]⟩,.slice none 0 0] 41)
   have HX:=lhi (HX.out.alloc HX.out.size (.cells #[.int .i64 0,.int .i64 0,.int .i64 0,.bool false,.string ⟨#[]⟩,.slice none 0 0] 41))
   have HST:=lhi (HST.out.below (Br _ (.cells #[.int .i64 0,.int .i64 0,.int .i64 0,.bool false,.string ⟨#[]⟩,.slice none 0 0] 41)))
   have HA:=lhi (And.intro (HA.out.1.alloc (.cells #[.int .i64 0,.int .i64 0,.int .i64 0,.bool false,.string ⟨#[]⟩,.slice none 0 0] 41)) HA.out.2)
   refine hK.out _ _ (HC.out _ HX.out) (fun hHeld=>?_)
   clear hK K
   rotate_left
   refine AllReadyH.cons rfl (fun K hK=>?_) AllReadyH.nil
   go_simp
   have HB:=lhi (nwb HX.out #[.int .i64 0,.int .i64 0,.int .i64 0,.bool false,.string ⟨#[]⟩,.slice none 0 0] 41)
   have HX:=lhi (HX.out.alloc HX.out.size (.cells #[.int .i64 0,.int .i64 0,.int .i64 0,.bool false,.string ⟨#[]⟩,.slice none 0 0] 41))
   have HA:=lhi (And.intro (HA.out.1.alloc (.cells #[.int .i64 0,.int .i64 0,.int .i64 0,.bool false,.string ⟨#[]⟩,.slice none 0 0] 41)) HA.out.2)
   refine hK.out _ _ (HC.out _ HX.out) (fun hHeld=>?_)
   clear hK K
   refine rdy [5] ?_
   refine AllReadyH.cons rfl (fun K hK=>?_) AllReadyH.nil
   go_simp
   refine(HDO.out _ HX.out).mono ?_
   rintro e w5 ⟨⟨iv',ov',mv',ev',rc,rf,rn,rd,rt,ra,rl,rk,rfl,hst⟩,hb⟩
   obtain⟨A',cap',rfl,-⟩:=hst.ino;obtain⟨O',ocap',rfl,-⟩:=hst.opn;obtain⟨M',mcap',rfl,-⟩:=hst.mad
   have HX:=lhi (HX.out.trans (hb.mono HX.out.size))
   have HST:=lhi hst
   have HA:=lhi (And.intro (Blk.of_heap (hb.block _ HA.out.1.lt) HA.out.1) HA.out.2)
   have HB:=lhi (And.intro (Blk.of_heap (hb.block _ HB.out.1.lt) HB.out.1) HB.out.2)
   clear hst hb
   refine hK.out _ _ (HC.out _ HX.out) (fun hHeld=>?_)
   clear hK K
   refine tH 6 ?_
   refine tH 7 ?_
   refine tH 8 ?_
   rotate_left
   refine AllReadyH.cons rfl (fun K hK=>?_) AllReadyH.nil
   go_simp
   have HB:=lhi (nwb HX.out #[.int .i64 0,.int .i64 0,.int .i64 0,.bool false,.string ⟨#[]⟩,.slice none 0 0] 41)
   have HX:=lhi (HX.out.alloc HX.out.size (.cells #[.int .i64 0,.int .i64 0,.int .i64 0,.bool false,.string ⟨#[]⟩,.slice none 0 0] 41))
   refine hK.out _ _ (HC.out _ HX.out) (fun hHeld=>?_)
   clear hK K
   refine rdy [5,9] ?_
   refine AllReadyH.cons rfl (fun K hK=>?_) ?_
   go_simp
   refine(HDO.out _ HX.out).mono ?_
   rintro e w5 ⟨⟨iv',ov',mv',ev',rc,rf,rn,rd,rt,ra,rl,rk,rfl,hst⟩,hb⟩
   obtain⟨A',cap',rfl,-⟩:=hst.ino;obtain⟨O',ocap',rfl,-⟩:=hst.opn;obtain⟨M',mcap',rfl,-⟩:=hst.mad
   have HX:=lhi (HX.out.trans (hb.mono HX.out.size))
   have HST:=lhi hst
   have HB:=lhi (And.intro (Blk.of_heap (hb.block _ HB.out.1.lt) HB.out.1) HB.out.2)
   clear hst hb
   refine hK.out _ _ (HC.out _ HX.out) (fun hHeld=>?_)
   clear hK K
   refine tH 6 ?_
   refine tH 7 ?_
   refine tH 8 ?_
   refine rdy [9] ?_
   refine AllReadyH.cons rfl (fun K hK=>?_) AllReadyH.nil
   go_simp
   have HA:=lhi (nwb HX.out #[.slice none 0 0,.slice none 0 0,.slice none 0 0] 30)
   have HX:=lhi (HX.out.alloc HX.out.size (.cells #[.slice none 0 0,.slice none 0 0,.slice none 0 0] 30))
   have HST:=lhi (HST.out.below (Br _ (.cells #[.slice none 0 0,.slice none 0 0,.slice none 0 0] 30)))
   have HB:=lhi (And.intro (HB.out.1.alloc (.cells #[.slice none 0 0,.slice none 0 0,.slice none 0 0] 30)) HB.out.2)
   refine hK.out _ _ (HC.out _ HX.out) (fun hHeld=>?_)
   clear hK K
   rotate_left
   refine AllReadyH.cons rfl (fun K hK=>?_) AllReadyH.nil
   go_simp
   have HA:=lhi (nwb HX.out #[.slice none 0 0,.slice none 0 0,.slice none 0 0] 30)
   have HX:=lhi (HX.out.alloc HX.out.size (.cells #[.slice none 0 0,.slice none 0 0,.slice none 0 0] 30))
   have HB:=lhi (And.intro (HB.out.1.alloc (.cells #[.slice none 0 0,.slice none 0 0,.slice none 0 0] 30)) HB.out.2)
   refine hK.out _ _ (HC.out _ HX.out) (fun hHeld=>?_)
   clear hK K
   refine rdy [5] ?_
   refine AllReadyH.cons rfl (fun K hK=>?_) AllReadyH.nil
   go_simp
   refine(HDO.out _ HX.out).mono ?_
   rintro e w5 ⟨⟨iv',ov',mv',ev',rc,rf,rn,rd,rt,ra,rl,rk,rfl,hst⟩,hb⟩
   obtain⟨A',cap',rfl,-⟩:=hst.ino;obtain⟨O',ocap',rfl,-⟩:=hst.opn;obtain⟨M',mcap',rfl,-⟩:=hst.mad
   have HX:=lhi (HX.out.trans (hb.mono HX.out.size))
   have HST:=lhi hst
   have HB:=lhi (And.intro (Blk.of_heap (hb.block _ HB.out.1.lt) HB.out.1) HB.out.2)
   have HA:=lhi (And.intro (Blk.of_heap (hb.block _ HA.out.1.lt) HA.out.1) HA.out.2)
   clear hst hb
   refine hK.out _ _ (HC.out _ HX.out) (fun hHeld=>?_)
   clear hK K
   refine tH 6 ?_
   refine tH 7 ?_
   refine tH 8 ?_
   rotate_left
   all_goals
    refine letH (fun wx hwx=>?_)
    rw[<-hwx]at HX HST HA HB
    clear hwx
    obtain⟨hA,nA⟩:=HA.out
    obtain⟨hB,nB⟩:=HB.out
    try simp only[World.size_alloc,World.drew]at hA hB nA nB
    have hab:=Blk.ne_ hA hB (by decide)
    have HP:=lhi (hA.put3 (.slice A' S1.inodes.length cap') (.slice O' S1.opens.length ocap') (.slice M' S1.made.length mcap'))
    have HB6:=lhi (Am hB HP.out.2 fun e=>hab (Amg e))
    have HQ:=lhi (HB6.out.put6 (.int .i64 rc) (.int .i64 rf) (.int .i64 rn) (.bool rd) (.string rt) (.slice ra rl rk))
    have HX6:=lhi (HX.out.trans (Bg HP.out.2 HX.out.size fun b hb=>Amg hb▸nA))
    have HX7:=lhi (HX6.out.trans (Bg HQ.out.2 HX6.out.size fun b hb=>Amg hb▸nB))
    obtain⟨p0,p1,p2⟩:=hA.d3
    obtain⟨f0,f1,f2⟩:=hA.f3
    refine rdy [11] ?_
    refine AllReadyH.cons rfl (fun K hK=>?_) AllReadyH.nil
    go_simp
    refine hK.out _ _ (HC.out _ HX6.out) (fun hHeld=>?_)
    obtain⟨q0,q1,q2,q3,q4,q5⟩:=HB6.out.d6
    obtain⟨g0,g1,g2,g3,g4,g5⟩:=HB6.out.f6
    clear hK K
    refine rdy [12] ?_
    refine AllReadyH.cons rfl (fun K hK=>?_) AllReadyH.nil
    go_simp
    refine hK.out _ _ (HC.out _ HX7.out) (fun hHeld=>?_)
    clear hK K
    refine wpAnyH_done (by kernel_rfl) ?_ _
    have HZ:=lhi (And.intro (Am HP.out.1 HQ.out.2 fun e=>hab (Amg e).symm) (And.intro ((HST.out.grow HP.out.2 hA (by decide)).grow HQ.out.2 HB6.out (by decide)) HX7.out))
    refine letE (fun wz hwz=>?_)
    rw[<-hwz]at HZ
    clear hwz p0 p1 p2 f0 f1 f2 q0 q1 q2 q3 q4 q5 g0 g1 g2 g3 g4 g5 hHeld
    obtain⟨z0,z1,z2⟩:=HZ.out.1.d3
    have HSB:=lhi (Blk.of_heap (HZ.out.2.2.block _ HLL.out.s.lt) HLL.out.s)
    have HOB:=lhi (Blk.of_heap (HZ.out.2.2.block _ HLL.out.o.lt) HLL.out.o)
    have hne:=HLL.out.ne
    obtain⟨s0,s1,s2⟩:=HSB.out.d3
    obtain⟨r0,r1,r2⟩:=HSB.out.f3
    have HF:=lhi (HSB.out.put3 (.slice A' S1.inodes.length cap') (.slice O' S1.opens.length ocap') (.slice M' S1.made.length mcap'))
    have HFS:=lhi (show StL w sb ob _ S1 A' S1.inodes.length cap' O' S1.opens.length ocap' M' S1.made.length mcap' from⟨((HLL.out.b.trans ((Ae wr).mono HLL.out.b.size)).trans (HZ.out.2.2.mono HLL.out.b.size)).trans (Bg HF.out.2 (Aml HLL.out.b.size HZ.out.2.2.size) fun b hb=>Amg hb▸HLL.out.ns),HF.out.1,Am HOB.out HF.out.2 fun e=>hne (Amg e).symm,⟨_,HZ.out.2.1.grow HF.out.2 HSB.out (by decide)⟩,HS1.out.1,HS1.out.2,HLL.out.ns,HLL.out.no,hne⟩)
    go_wp2_with (fail)
    go_roundw
    case rel=>exact⟨k+1,S1,A',O',M',_,_,_,_,_,_,by simp,by omega,by omega,HFS.out⟩
    case measure=>
     simp only[intOf]
     omega
  ·have HMY:=lhi (fun(W:World) (hb:Below wr.drew.heap.size wr.drew W)=>Of (((HLL.out.st.choose_spec.below (Ae wr)).below hb).stm) HLL.out.inv)
   have hd: ¬ k<n∨(k:Int)< (n:Int)/\decide ((k:Int)< (25:Int))=false:=by
    by_cases h:k<n
    ·exact .inr ⟨by omega,by simp;omega⟩
    ·exact .inl h
   clear hp
   rcases hd with hd | ⟨hd,hd2⟩
   all_goals
    go_upto_region 7 with(fail)
    have hS:=HLL.out.s.dr.d3
    refine Af (L:=9) (S:=fun W=>W.cell? ⟨sb,0,none⟩=some (.slice A1 n1 c1)/\W.cell? ⟨sb,1,none⟩=some (.slice O1 n2 c2)/\W.cell? ⟨sb,2,none⟩=some (.slice M1 n3 c3)) (by kernel_rfl) hS (fun hHeld=>?_)
    refine tF 0 ?_
    refine tF 1 ?_
    refine t1 2 (fun K hK=>?_)
    go_simp
    refine(Gx _ _).mono ?_
    rintro e w' ⟨rfl,rfl⟩
    show K _ _
    refine tK hK hS (fun hHeld=>?_)
    clear hK K
    refine tF 3 ?_
    refine tF 4 ?_
    refine tF 5 ?_
    refine t1 6 (fun K hK=>?_)
    go_simp
    refine(HMY.out _ (Amf _ _)).mono ?_
    rintro e w' ⟨rfl,hb⟩
    show K _ _
    have HSB:=lhi (Blk.of_heap (hb.block _ HLL.out.s.lt) HLL.out.s.dr)
    have HOB:=lhi (Blk.of_heap (hb.block _ HLL.out.o.lt) HLL.out.o.dr)
    refine tK hK HSB.out.d3 (fun hHeld=>?_)
    clear hK K
    refine tF 7 ?_
    refine t1 8 (fun K hK=>?_)
    obtain⟨o0,o1,o2⟩:=HOB.out.d3
    obtain⟨f0,f1,f2⟩:=HOB.out.f3
    go_simp
    have HP:=lhi (HOB.out.put3 (.slice A1 n1 c1) (.slice O1 n2 c2) (.slice M1 n3 c3))
    have HX:=lhi (((HLL.out.b.trans ((Ae wr).mono HLL.out.b.size)).trans (hb.mono HLL.out.b.size)).trans (Bg HP.out.2 (Aml HLL.out.b.size hb.size) fun b hb=>Amg hb▸HLL.out.no))
    have HST:=lhi (((HLL.out.st.choose_spec.below (Ae wr)).below hb).grow HP.out.2 HOB.out (by decide))
    refine tK hK (Am HSB.out HP.out.2 fun e=>HLL.out.ne (Amg e)).d3 (fun hHeld=>?_)
    clear hK K o0 o1 o2 f0 f1 f2
    refine t1 9 (fun K hK=>?_)
    go_simp
    refine tL hK ?_
    obtain⟨q0,q1,q2⟩:=HP.out.1.d3
    have HZ:=lhi (And.intro HX.out (And.intro HST.out (And.intro q0 (And.intro q1 q2))))
    refine letE (fun wz hwz=>?_)
    rw[<-hwz]at HZ
    clear hwz q0 q1 q2 HP HX HST hHeld
    obtain⟨hX,hST,p0,p1,p2⟩:=HZ.out
    go_wp2_with (fail)
    refine bodyPost_ret (v:=.tuple #[.agg #[.slice A1 n1 c1,.slice O1 n2 c2,.slice M1 n3 c3],.bool true]) ?_ rfl ⟨⟨_,_,_,_,S,rfl,hST,HLL.out.inv,HLL.out.made⟩,hX⟩
    simp[results,Tryz.results7,go_sem,p0,p1,p2]
section
open Go.RowKit Go.ChangeShapes Go.WideShapes Go.Deep
set_option linter.unusedVariables false
section
variable{H:Type}{enc:TypeId×Value->H}{P:Program}{w:World}{base:Nat}{spare:Nat->Bool}{held:Bool}
theorem Ke{e:TypeId}{d:DataW H}: ∀{ds:List (DataW H)},d∈ds-> ∀n∈d.weights P e,n∈DataW.weightsAll P e ds
 | d0::ds,hd,n,hn=>by
  simp only[DataW.weightsAll,List.mem_append]
  rcases List.mem_cons.1 hd with rfl | hd
  ·exact .inl hn
  ·exact .inr (Ke hd n hn)
abbrev Adk:List (Option TypeDesc):=[some (.int .i64),some (.int .i64),some (.int .i64),some (.int .i64),some (.int .i64),some .string,some .string,some .string]
theorem Uh{e:TypeId}{fs:Array Field}{fuel:Nat}{cs:List Value}{x:DataW H×List MemPlace}(he:P.underlying e=some (.struct fs))(hone:oneCellFields P fs=true)(hC:P.cellsOf e=8)(hsz:fs.size=8)(hint:(fs.toList.map fun f=>P.underlying f.type)=Adk)
  (h:DataW.trod enc P w base spare held fuel e cs=some x) (hz: ∀n∈x.1.weights P e,n<=reachBytes): ∃c:Ad,cs=c.cs.toList/\Lb c:=by
 obtain⟨xs,n,-,rfl,hl,hxl,hf⟩:=DataW.trod_struct he h
 have ff: ∀j,j<8-> ∃f,fs[j]? =some f/\some (P.underlying f.type)=Adk[j]?:=by
  intro j hj
  refine⟨fs[j],Array.getElem?_eq_getElem (by omega),?_⟩
  have:=congrArg (fun l:List (Option TypeDesc)=>l[j]?) hint
  refine Eq.trans ?_ this
  simp[show j<fs.size by omega]
 have hj: ∀j,j<8-> ∃f v y,fs[j]? =some f/\some (P.underlying f.type)=Adk[j]? /\cs[j]? =some v/\xs[j]? =some y/\DataW.trod enc P w base spare held n f.type [v]=some y:=by
  intro j hj
  obtain⟨f,hf1,hf2⟩:=ff j hj
  obtain⟨ho,hk⟩:=hone_of hone j _ hf1
  have h1:=hf j f hf1
  have e1:(cs.drop j).take 1=[cs[j]'(by omega)]:=by
   rw[List.drop_eq_getElem_cons (by omega)];rfl
  rw[ho,hk,e1]at h1
  exact⟨f,_,_,hf1,hf2,Amh (by omega),Amh (by omega),h1.trans (Amh (by omega))⟩
 have ki: ∀j,j<5-> ∃v:Int,cs[j]? =some (.int .i64 v):=by
  intro j hj5
  obtain⟨f,v,y,h1,h2,h3,h4,h5⟩:=hj j (by omega)
  have ht1:P.underlying f.type=some (.int .i64):=by
   have:j=0∨j=1∨j=2∨j=3∨j=4:=by omega
   rcases this with rfl | rfl | rfl | rfl | rfl <;> simpa using h2
  obtain⟨u,hv,_,hw⟩:=DataW.trod_int ht1 h5
  simp at hv
  exact⟨u,by rw[h3,hv]⟩
 have ks: ∀j,5<=j->j<8-> ∃v:ByteArray,cs[j]? =some (.string v)/\v.size<=4611686018427387904:=by
  intro j hj5 hj8
  obtain⟨f,v,y,h1,h2,h3,h4,h5⟩:=hj j (by omega)
  have ht1:P.underlying f.type=some .string:=by
   have:j=5∨j=6∨j=7:=by omega
   rcases this with rfl | rfl | rfl <;> simpa using h2
  obtain⟨u,hv,hy,_⟩:=DataW.trod_string ht1 h5
  simp at hv
  refine⟨u,by rw[h3,hv],?_⟩
  have hw:=hz u.data.toList.length (by
   simp only[DataW.weights,he]
   refine DataW.weights_mem_each (j:=j) (t:=f.type) (d:=y.1) (by simp[h1]) (by simp[h4]) _ ?_
   rw[hy]
   simp[DataW.weights])
  have hr:=reachBytes_lt
  have:u.data.toList.length=u.size:=Array.length_toList
  omega
 obtain⟨v0,h0⟩:=ki 0 (by omega)
 obtain⟨v1,h1⟩:=ki 1 (by omega)
 obtain⟨v2,h2⟩:=ki 2 (by omega)
 obtain⟨v3,h3⟩:=ki 3 (by omega)
 obtain⟨v4,h4⟩:=ki 4 (by omega)
 obtain⟨v5,h5,z5⟩:=ks 5 (by omega) (by omega)
 obtain⟨v6,h6,z6⟩:=ks 6 (by omega) (by omega)
 obtain⟨v7,h7,z7⟩:=ks 7 (by omega) (by omega)
 refine⟨⟨v0,v1,v2,v3,v4,v5,v6,v7⟩,?_,z5,z6,z7⟩
 apply List.ext_getElem?
 intro j
 rcases Nat.lt_or_ge j 8 with q | q
 ·have:j=0∨j=1∨j=2∨j=3∨j=4∨j=5∨j=6∨j=7:=by omega
  rcases this with rfl | rfl | rfl | rfl | rfl | rfl | rfl | rfl
  ·exact h0
  ·exact h1
  ·exact h2
  ·exact h3
  ·exact h4
  ·exact h5
  ·exact h6
  ·exact h7
 ·rw[List.getElem?_eq_none (by omega),List.getElem?_eq_none (by show 8<=j;exact q)]
theorem Agn{t e:TypeId}{fs:Array Field}{fuel:Nat}{A:Option Addr}{len cap:Nat}{x:DataW H×List MemPlace}(ht:P.underlying t=some (.slice e))(he:P.underlying e=some (.struct fs))(hone:oneCellFields P fs=true)(hC:P.cellsOf e=8)(hsz:fs.size=8)(hint:(fs.toList.map fun f=>P.underlying f.type)=Adk)
  (h:DataW.trod enc P w base spare held fuel t [.slice A len cap]=some x) (hz: ∀n∈x.1.weights P t,n<=reachBytes): ∃D,Kc w A len cap D:=by
 have hno:Lb Vx:=⟨by decide,by decide,by decide⟩
 rcases open_slice ht h with⟨hcs,_⟩ | ⟨a,l,c,m,n,D,Pl,hcs,hb,hl,hm,hmm,rfl,hi⟩
 ·simp at hcs
  obtain⟨rfl,rfl,rfl⟩:=hcs
  exact⟨fun _=>Vx,Ama _,fun _=>hno,fun h=>absurd h (by omega)⟩
 ·simp at hcs
  obtain⟨rfl,rfl,rfl⟩:=hcs
  have hlm:len<=m:=by rw[hmm];split <;> omega
  have key: ∀i,∃c:Ad,Lb c/\ (i<len-> ∀j,j<8->w.cell? (a.add (i*8+j))=c.cs[j]?):=by
   intro i
   by_cases hil:i<len
   ·obtain⟨cs',hc,ht'⟩:=hi i (by omega)
    rw[hC]at hc
    obtain⟨c,hcc,hok⟩:=Uh he hone hC hsz hint ht' fun n hn=>hz n (by
     simp only[DataW.weights,ht,List.mem_cons,List.mem_append]
     exact .inr (.inl (Ke (List.mem_map.2 ⟨i,List.mem_range.2 hil,rfl⟩) n hn)))
    refine⟨c,hok,fun _ j hj=>?_⟩
    obtain⟨_,hcl,hat⟩:=World.cells?_some hc
    rw[<-Go.Deep.add_add,hat j hj,hcc,Array.getElem?_toList]
   ·exact⟨Vx,hno,fun h=>absurd h hil⟩
  refine⟨fun i=>Classical.choose (key i),hl,fun i=>(Classical.choose_spec (key i)).1,fun hpos=>?_⟩
  have hcell:=fun i (hi:i<len)=>(Classical.choose_spec (key i)).2 hi
  have hsp:a.spot=none:=by
   have h:=hcell 0 hpos 0 (by omega)
   have hx:a.add (0*8+0)=a:=by rw[Nat.zero_mul];rfl
   rw[hx]at h
   cases hs:a.spot with
   | none=>rfl
   | some s=>
    rw[show w.cell? a=none by simp[World.cell?,hs];split <;> simp]at h
    cases h
  obtain⟨g,off,sp⟩:=a
  simp only at hsp
  subst hsp
  refine⟨g,off,rfl,fun i j hi hj=>?_⟩
  have h1:=hcell i hi j hj
  rw[Addr.add_lit]at h1
  exact h1
end
end
section
attribute [local go_sem↓] Go.wp_at_zero Go.wp_at_succ
def nmA:ByteArray:=⟨#[97]⟩
def SA:St:=⟨[⟨1,true,[(nmA,2)],⟨#[]⟩⟩,⟨2,false,[],⟨#[]⟩⟩],[],[1,0]⟩
structure LA (w:World) (c sb g o ic eg eo ec mg mo mc:Nat) (OA EB:Option Addr) (oc bc:Nat):Prop where
 c0:w.cell? ⟨c,0,none⟩=some (.pointer (some ⟨sb,0,none⟩))
 c1:w.cell? ⟨c,1,none⟩=some (.slice none 0 0)
 s0:w.cell? ⟨sb,0,none⟩=some (.slice (some ⟨g,o,none⟩) 2 ic)
 s1:w.cell? ⟨sb,1,none⟩=some (.slice OA 0 oc)
 s2:w.cell? ⟨sb,2,none⟩=some (.slice (some ⟨mg,mo,none⟩) 2 mc)
 i0:w.cell? ⟨g,o,none⟩=some (.int .i64 1)
 i1:w.cell? ⟨g,o+1,none⟩=some (.bool true)
 i2:w.cell? ⟨g,o+2,none⟩=some (.slice (some ⟨eg,eo,none⟩) 1 ec)
 i3:w.cell? ⟨g,o+3,none⟩=some (.string ⟨#[]⟩)
 i4:w.cell? ⟨g,o+4,none⟩=some (.int .i64 2)
 i5:w.cell? ⟨g,o+4+1,none⟩=some (.bool false)
 i6:w.cell? ⟨g,o+4+2,none⟩=some (.slice EB 0 bc)
 i7:w.cell? ⟨g,o+4+3,none⟩=some (.string ⟨#[]⟩)
 e0:w.cell? ⟨eg,eo,none⟩=some (.string nmA)
 e1:w.cell? ⟨eg,eo+1,none⟩=some (.int .i64 2)
 m0:w.cell? ⟨mg,mo,none⟩=some (.int .i64 1)
 m1:w.cell? ⟨mg,mo+1,none⟩=some (.int .i64 0)
def Up2(i:Value):Prop:=i= .int .i64 0∨i= .int .i64 1∨i= .int .i64 2
theorem Vi(w:World)(o:Obj)(n:Nat):Below w.heap.size w ((w.alloc o).drewN n):=
 have h:=(Amf w.heap.size w).alloc (Ama _) o
 ⟨h.os,h.tape,h.output,h.size,h.block⟩
section
variable{w w':World}{c sb g o ic eg eo ec mg mo mc:Nat}{OA EB:Option Addr}{oc bc:Nat}
theorem LA.keep(h:LA w c sb g o ic eg eo ec mg mo mc OA EB oc bc)(hb:Below w.heap.size w w'):LA w' c sb g o ic eg eo ec mg mo mc OA EB oc bc:=by
 have k: ∀{p:Addr} {v:Value},w.cell? p=some v->w'.cell? p=some v:=fun e=>(hb.cell (Amd _ _ e)).trans e
 exact⟨k h.c0,k h.c1,k h.s0,k h.s1,k h.s2,k h.i0,k h.i1,k h.i2,k h.i3,k h.i4,k h.i5,k h.i6,k h.i7,k h.e0,k h.e1,k h.m0,k h.m1⟩
theorem numL(h:LA w c sb g o ic eg eo ec mg mo mc OA EB oc bc):Calls Tryz.prog 51 #[.pointer (some ⟨c,0,none⟩)] w fun e w'=>e= .returned (.tuple #[])/\Below w.heap.size w w':=by
 have H:=lhi h
 obtain⟨c0,-,s0,-,-,i0,i1,-⟩:=h
 have HC:=lhi (fun W=>Mt 1 (by omega) W)
 have HC2:=lhi (fun W=>Mt 2 (by omega) W)
 have HM2:=lhi (fun W=>Sb 2 (by omega) W)
 simp only[show Nz 1= -1 from rfl,show Nz 2=0 from rfl,show Uk 2=0 from rfl]at HC HC2 HM2
 go_enter Tryz.func51,Tryz.ntmps51
 go_wp2_with (fail)
 clear c0 s0 i0 i1
 go_loopw [36] (fun i wr=>Up2 i/\Below w.heap.size w wr) (fun i _=>2 - (intOf i).toNat)
 case atStart=>exact⟨.inl rfl,Amf _ _⟩
 case round=>
  obtain⟨hr,hb⟩:=hrel
  have HB:=lhi hb
  obtain⟨c0,c1,s0,s1,s2,i0,i1,i2,i3,i4,i5,i6,i7,e0,e1,m0,m1⟩:=H.out.keep hb
  rcases hr with rfl | rfl | rfl
  ·go_wp2_with (fail)
   go_quiet (fail)
   go_wp2_with (go_at_call 102;refine(HC.out _).mono ?_;rintro e w' ⟨rfl,rfl⟩)
   go_quiet (fail)
   go_wp2_with (fail)
   go_roundw
   case rel=>exact⟨.inr (.inl rfl),HB.out.trans ((Vi _ _ _).mono HB.out.size)⟩
   case measure=>decide
  ·have z0:IntKind.i64.wrap 0=0:=by decide
   have l1:=Amd _ _ c0
   have l2:=Amd _ _ s0
   have l3:=Amd _ _ i0
   have l4:=Amd _ _ m0
   go_wp2_with (fail)
   go_quiet (fail)
   go_wp2_with (go_at_call 102;refine(HC2.out _).mono ?_;rintro e w' ⟨rfl,rfl⟩)
   go_quiet ((go_at_call 103;refine(HM2.out _).mono ?_;rintro e w' ⟨rfl,rfl⟩;exact⟨rfl,_,rfl⟩))
   go_wp2_with (fail)
   go_roundw
   case rel=>exact⟨.inr (.inr rfl),HB.out.trans ((Vi _ _ _).mono HB.out.size)⟩
   case measure=>decide
  ·go_wp2_with (fail)
   clear c0 c1 s0 s1 s2 i0 i1 i2 i3 i4 i5 i6 i7 e0 e1 m0 m1
   go_loopw [136] (fun i wx=>Up2 i/\wx=wr) (fun i _=>2 - (intOf i).toNat)
   case atStart=>exact⟨.inl rfl,rfl⟩
   case round=>
    obtain⟨hr,rfl⟩:=hrel
    obtain⟨c0,c1,s0,s1,s2,i0,i1,i2,i3,i4,i5,i6,i7,e0,e1,m0,m1⟩:=H.out.keep HB.out
    rcases hr with rfl | rfl | rfl
    ·go_wp2_with (fail)
     go_roundw
     case rel=>exact⟨.inr (.inl rfl),trivial⟩
     case measure=>decide
    ·go_wp2_with (fail)
     go_roundw
     case rel=>exact⟨.inr (.inr rfl),trivial⟩
     case measure=>decide
    ·go_wp2_with (fail)
     go_end0
     exact⟨rfl,HB.out⟩
end
end
end Go.Proofs.YtkebjgebkneijaaGreat
