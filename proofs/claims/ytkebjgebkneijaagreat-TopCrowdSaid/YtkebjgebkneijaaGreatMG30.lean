/- Texts of one's own that a claim's last text rests on: Cw1 Cw2 Cw3 Ld1 MpX Pg3. -/
import Derived.Test.YtkebjgebkneijaaGreatMG29
import Derived.Test.YtkebjgebkneijaaGreatMG11
import Derived.Lib.MinMax
import Derived.Test.YtkebjgebkneijaaGreatMG27
import Derived.Test.YtkebjgebkneijaaGreatMG20
import Derived.Test.YtkebjgebkneijaaGreatMG14
import Derived.Test.YtkebjgebkneijaaGreatMG12
set_option linter.unusedVariables false
set_option linter.unusedSimpArgs false
namespace Go.Proofs.YtkebjgebkneijaaGreat
section
attribute [-go_sem] Go.Lib.run_max_ints Go.Lib.run_min_ints
open Go.RowKit
set_option maxHeartbeats 2000000
theorem fits_calls(x:Int)(w:World):Calls Tryz.prog 204 #[.int .i64 x] w fun e w'=>e= .returned (.bool (decide (0<=x/\x<=256)))/\w=w':=by
 by_cases h0:0<=x
 ·by_cases h1:x<=256
  ·rw[show decide (0<=x/\x<=256)=true by simp[h0,h1]]
   go_enter Tryz.func204,Tryz.ntmps204
   go_wp2_with (fail)
   go_ret
   exact⟨rfl,rfl⟩
  ·rw[show decide (0<=x/\x<=256)=false by simp[h1]]
   have h2:decide (x<=256)=false:=by simpa using h1
   go_enter Tryz.func204,Tryz.ntmps204
   go_wp2_with (fail)
   go_ret
   exact⟨rfl,rfl⟩
 ·rw[show decide (0<=x/\x<=256)=false by simp[h0]]
  have h2:decide (0<=x)=false:=by simpa using h0
  go_enter Tryz.func204,Tryz.ntmps204
  go_wp2_with (fail)
  go_ret
  exact⟨rfl,rfl⟩
theorem mfits_yes(x:Int)(hx:0<=x/\x<=256)(w:World):Calls Tryz.prog 204 #[.int .i64 x] w fun e w'=>e= .returned (.bool true)/\w=w':=by
 have:=fits_calls x w
 rwa [show decide (0<=x/\x<=256)=true by simp[hx]]at this
def FileE(num:Int)(e:Ending):Prop:=e=if num=0 then thrown 4 else .returned (.int .i64 num)
section
variable{L:Nat->Prop}{w:World}{s:Nat}{M:Mem}{m:Nat}
set_option maxRecDepth 1000000 in
theorem file_ok(h:MemAt L w s M)(hok:M.ok m)(hm:m<=1000000000){c:Int}(hc:0<=c/\c<M.ts.length){sp:Nat}(hL:L sp)(s0:w.cell? ⟨sp,0,none⟩=some (.pointer (some ⟨s,0,none⟩)))(s1:w.cell? ⟨sp,1,none⟩=some (.int .i64 c)){k:Int}(s4:w.cell? ⟨sp,4,none⟩=some (.int .i64 k))(hk:0<=k/\k<4){num:Int}(hnum:rd M.ws (fdw c k)=num):
  Calls Tryz.prog 162 #[.pointer (some ⟨sp,0,none⟩)] w fun e w'=>FileE num e/\MemAt L w' s (M.see c (fdw c k))/\Kp L w w':=by
 have h8:=h.tsl
 have HC:=lhi (fun W=>fd_calls c k (by omega) (by omega) W)
 have HLD:=lhi (load_v' h.drew hok hm (c:=c) (.inr hc) (i:=fdw c k) (by unfold fdw;omega) hnum)
 have HSL:=lhi (fun(w':World) (hk':Kp L w w')=>And.intro (hk'.cellOf (p:=⟨sp,0,none⟩) hL s0) (And.intro (hk'.cellOf (p:=⟨sp,1,none⟩) hL s1) (hk'.cellOf (p:=⟨sp,4,none⟩) hL s4)))
 have HSD:=lhi (show w.drew.cell? ⟨sp,0,none⟩=some (.pointer (some ⟨s,0,none⟩))/\w.drew.cell? ⟨sp,1,none⟩=some (.int .i64 c)/\w.drew.cell? ⟨sp,4,none⟩=some (.int .i64 k)from⟨s0,s1,s4⟩)
 have hk1:decide (k<0)=false:=by simp;omega
 have hk2:decide (4<=k)=false:=by simp;omega
 obtain⟨ix,hix⟩: ∃x,fdw c k=x:=⟨_,rfl⟩
 rw[hix]at HC HLD⊢
 clear h hok hnum hix
 go_enter Tryz.func162,Tryz.ntmps162
 go_upto_region 2 with(go_at_call 199;refine(throw_no _ _).mono ?_;rintro e w' ⟨rfl,rfl⟩)
 clear hk1 hk2
 go_region_held3 (fun w'=>w'.cell? ⟨sp,0,none⟩=some (.pointer (some ⟨s,0,none⟩))/\w'.cell? ⟨sp,1,none⟩=some (.int .i64 c)/\w'.cell? ⟨sp,4,none⟩=some (.int .i64 k))
  (with_reducible first | exact HSD.out | exact⟨z0,z1,z4⟩)
  ((first
   | (go_at_call 70;refine(HC.out _).mono ?_;rintro e w' ⟨rfl,rfl⟩)
   | (go_at_call 180;refine HLD.out.mono ?_;rintro e w1 ⟨rfl,hm1,hk1⟩;have HM1:=lhi hm1;have HK1:=lhi hk1.undrew';obtain⟨z0,z1,z4⟩:=HSL.out _ hk1.undrew';clear hm1 hk1)))
 by_cases hz:num=0
 ·have HZ:=lhi hz
  have hz':(num==0)=true:=by simp[hz]
  clear hz
  go_wp2_with (go_at_call 199;refine(throw_yes _ _).mono ?_;rintro e w' ⟨rfl,rfl⟩)
  (try simp only[Exit.inBlock,Exit.then])
  exact⟨rfl,(show FileE num _ by unfold FileE;rw[if_pos HZ.out]),HM1.out,HK1.out⟩
 ·have HZ:=lhi hz
  have hz':(num==0)=false:=by simp[hz]
  clear hz
  go_wp2_with (go_at_call 199;refine(throw_no _ _).mono ?_;rintro e w' ⟨rfl,rfl⟩)
  go_ret
  exact⟨(show FileE num _ by unfold FileE;rw[if_neg HZ.out];rfl),HM1.out,HK1.out⟩
end
theorem blend_whole{w:World}{sp:Nat}{i:Nat}(hi:i<16)(s5:w.cell? ⟨sp,5,none⟩=some (.int .i64 (16* (i:Int)))){d:ByteArray}(hd:d.size=16)(s9:w.cell? ⟨sp,9,none⟩=some (.string d))(num:Int)(q v:Int)(t:ByteArray):
  Calls Tryz.prog 238 #[.pointer (some ⟨sp,0,none⟩),.int .i64 num,.int .i64 i,.agg #[.int .i64 q,.int .i64 v,.string t]] w fun e w'=>e= .returned (.string d)/\Below w.heap.size w w':=by
 have hex:d.extract 0 16=d:=by
  apply ByteArray.ext
  have:d.data.size=16:=hd
  simp[this]
 have hsp:=World.block_lt_of_cell? w _ s5
 have HB:=lhi ((Below.refl w.heap.size w).alloc (Nat.le_refl _) (.cells #[.int .i64 q,.int .i64 v,.string t] 260))
 go_enter Tryz.func238,Tryz.ntmps238
 go_wp2_with (fail)
 go_region
 go_wp2_with (fail)
 have hex2:d.extract (i*16 - 16*i) ((i+1)*16 - 16*i)=d:=by rw[show i*16 - 16*i=0 by omega,show(i+1)*16 - 16*i=16 by omega];exact hex
 rw[hex2]
 go_ret
 exact⟨rfl,HB.out.drew⟩
end
section
attribute [-go_sem] Go.Lib.run_max_ints Go.Lib.run_min_ints
open Go.RowKit
set_option maxHeartbeats 2000000
def layM(M:Mem)(c num:Int)(i:Nat)(v:Int)(d:ByteArray):Mem:=(M.see c (wd num (17+ (i / 4:Nat)))).setW c (wd num (21+i)) (.page v 0 d)
set_option maxRecDepth 1000000 in
theorem lay_ok{L:Nat->Prop}{w:World}{s:Nat}{M:Mem}{m:Nat}(h:MemAt L w s M)(hok:M.ok m)(hm:m<=800000000){c:Int}(hc:0<=c/\c<M.ts.length){sp:Nat}(hL:L sp)(s0:w.cell? ⟨sp,0,none⟩=some (.pointer (some ⟨s,0,none⟩)))(s1:w.cell? ⟨sp,1,none⟩=some (.int .i64 c)){i:Nat}(hi:i<16)(s5:w.cell? ⟨sp,5,none⟩=some (.int .i64 (16* (i:Int)))){d:ByteArray}(hd:d.size=16)(s9:w.cell? ⟨sp,9,none⟩=some (.string d)){num:Int}(hn:1<=num/\num<=257){b:Int×ByteArray×Bool}(hb:b.2.1.size<=1000)(hq:rd M.ws (wd num (17+ (i / 4:Nat)))=0):
  Calls Tryz.prog 206 #[.pointer (some ⟨sp,0,none⟩),.int .i64 num,baseV b] w fun e w'=>e= .returned (.tuple #[])/\MemAt L w' s (layM M c num i b.1 d)/\Kp L w w':=by
 have HLB:=lhi h.bd
 have hsp:=World.block_lt_of_cell? w _ s5
 obtain⟨p,hp⟩: ∃p,p=w.heap.size:=⟨_,rfl⟩
 have HW:=lhi (show Wk L w s M [⟨p,142,#[.int .i64 b.1,.string b.2.1,.bool b.2.2]⟩] [] ((w.alloc (.cells #[.int .i64 b.1,.string b.2.1,.bool b.2.2] 142)).drew)by
  rw[hp];exact((Wk.start h).alloc HLB.out #[.int .i64 b.1,.string b.2.1,.bool b.2.2] 142).drew)
 have HOLD:=lhi (fun(Bs:List LB) (M':Mem) (W:World) (hw:Wk L w s M' Bs [] W)=>And.intro (hw.old (p:=⟨sp,0,none⟩) hL s0) (And.intro (hw.old (p:=⟨sp,1,none⟩) hL s1) (And.intro (hw.old (p:=⟨sp,5,none⟩) hL s5) (hw.old (p:=⟨sp,9,none⟩) hL s9))))
 have HQ:=lhi (fun(K:Nat->Prop) (W:World) (hm':MemAt K W s M)=>quad_zero hm' hok (by omega) (.inr hc) hn (o:=i / 4) (by omega) hq hb)
 simp only[quadV,baseV]at HQ
 have hi4:((i / 4:Nat):Int)=(i:Int) / 4:=by omega
 rw[hi4]at HQ
 simp only[baseV]
 unfold layM
 rw[hi4]
 obtain⟨M2,hM2⟩: ∃x,(M.see c (wd num (17+ (i:Int) / 4))).setW c (wd num (21+i)) (.page b.1 0 d)=x:=⟨_,rfl⟩
 rw[hM2]
 have HM2:=lhi hM2
 have HOK:=lhi hok
 clear h hok hq hM2
 go_enter Tryz.func206,Tryz.ntmps206
 go_wp2_with (fail)
 rw[<-hp]
 clear hp
 go_region
 have e1:(16* (i:Int)) / 16=i:=by omega
 have e2:(16* (i:Int)+16 - 1) / 16=i:=by omega
 go_wp2_with (fail)
 have hi0:(0:Int)<= (i:Int) / 4/\ (i:Int) / 4<4:=by omega
 rewrite[e2]
 clear e1 e2 hi4
 go_loopw [10] (fun q wr=>(q= .int .i64 ((i:Int) / 4)/\Wk L w s M [⟨p,142,#[.int .i64 b.1,.string b.2.1,.bool b.2.2]⟩] [] wr)∨(q= .int .i64 ((i:Int) / 4+1)/\Wk L w s M2 [⟨p,142,#[.int .i64 b.1,.string b.2.1,.bool b.2.2]⟩] [] wr)) (fun q _=>(5 - intOf q).toNat)
 case atStart=>exact .inl ⟨rfl,HW.out⟩
 case round=>
  rcases hrel with⟨rfl,hw⟩ | ⟨rfl,hw⟩
  ·obtain⟨z0,z1,z5,z9⟩:=HOLD.out _ _ _ hw
   have HWW:=lhi hw
   have hle:(i:Int) / 4*4<=i:=by omega
   have hlt:(i:Int)< (i:Int) / 4*4+4:=by omega
   have e3:((i:Int) - i+1==4)=false:=by simp
   clear hw
   go_upto_region 10 with(fail)
   obtain⟨q,hq⟩: ∃x,x=wr.heap.size:=⟨_,rfl⟩
   obtain⟨w3,hw3⟩: ∃x,x=wr.alloc (.cells #[.int .i64 0,.int .i64 0,.string ⟨#[]⟩] 260):=⟨_,rfl⟩
   have h3:Wk L w s M [⟨q,260,#[.int .i64 0,.int .i64 0,.string ⟨#[]⟩]⟩,⟨p,142,#[.int .i64 b.1,.string b.2.1,.bool b.2.2]⟩] [] w3:=by
    rw[hq,hw3];exact HWW.out.alloc HLB.out #[.int .i64 0,.int .i64 0,.string ⟨#[]⟩] 260
   have HSZ:=lhi HWW.out
   have HCQ:=lhi (h3.drew.call fun K hm'=>HQ.out K w3.drew hm')
   clear z0 z1 z5 z9 HWW hle hlt e3
   obtain⟨z0,z1,z5,z9⟩:=HOLD.out _ _ _ h3
   have hb3:=h3.bk (g:=p) (t:=142) (cs:=#[.int .i64 b.1,.string b.2.1,.bool b.2.2]) (by simp)
   have b0:w3.cell? ⟨p,0,none⟩=some (.int .i64 b.1):=hb3.cell 0
   have b1:w3.cell? ⟨p,1,none⟩=some (.string b.2.1):=hb3.cell 1
   have b2:w3.cell? ⟨p,2,none⟩=some (.bool b.2.2):=hb3.cell 2
   have HSD:=lhi (show w3.drew.cell? ⟨sp,0,none⟩=some (.pointer (some ⟨s,0,none⟩))/\w3.drew.cell? ⟨sp,1,none⟩=some (.int .i64 c)/\w3.drew.cell? ⟨p,0,none⟩=some (.int .i64 b.1)/\w3.drew.cell? ⟨p,1,none⟩=some (.string b.2.1)/\w3.drew.cell? ⟨p,2,none⟩=some (.bool b.2.2)from⟨z0,z1,b0,b1,b2⟩)
   rw[<-hq,<-hw3]
   have hne1:sp≠q:=by have:=HSZ.out.size;omega
   have hne2:p≠q:=fun e=>(List.pairwise_cons.1 h3.bb).1 _ (List.mem_singleton.2 rfl) e.symm
   clear hq hw3 h3 hb3
   have HZ4:=lhi (fun(M':Mem) (W:World) (h4:Wk L w s M' [⟨q,260,#[.int .i64 0,.int .i64 0,.string ⟨#[]⟩]⟩,⟨p,142,#[.int .i64 b.1,.string b.2.1,.bool b.2.2]⟩] [] W)=>And.intro (h4.bk (g:=q) (t:=260) (cs:=#[.int .i64 0,.int .i64 0,.string ⟨#[]⟩]) (by simp)) (h4.bk (g:=p) (t:=142) (cs:=#[.int .i64 b.1,.string b.2.1,.bool b.2.2]) (by simp)))
   go_region_held3 (fun w'=>w'.cell? ⟨sp,0,none⟩=some (.pointer (some ⟨s,0,none⟩))/\w'.cell? ⟨sp,1,none⟩=some (.int .i64 c)/\w'.cell? ⟨p,0,none⟩=some (.int .i64 b.1)/\w'.cell? ⟨p,1,none⟩=some (.string b.2.1)/\w'.cell? ⟨p,2,none⟩=some (.bool b.2.2))
    (with_reducible first | exact HSD.out | exact HS4.out | exact⟨cell_set3 hne1 HS4.out.1,cell_set3 hne1 HS4.out.2.1,cell_set3 hne2 HS4.out.2.2.1,cell_set3 hne2 HS4.out.2.2.2.1,cell_set3 hne2 HS4.out.2.2.2.2⟩)
    ((first
     | (go_at_call 182;refine HCQ.out.mono ?_;rintro e w4 ⟨rfl,h4⟩;have HW4:=lhi h4;obtain⟨hq4,hb4⟩:=HZ4.out _ _ h4;obtain⟨x0,x1,-,-⟩:=HOLD.out _ _ _ h4;have HS4:=lhi (show w4.cell? ⟨sp,0,none⟩=some (.pointer (some ⟨s,0,none⟩))/\w4.cell? ⟨sp,1,none⟩=some (.int .i64 c)/\w4.cell? ⟨p,0,none⟩=some (.int .i64 b.1)/\w4.cell? ⟨p,1,none⟩=some (.string b.2.1)/\w4.cell? ⟨p,2,none⟩=some (.bool b.2.2)from And.intro x0 (And.intro x1 (And.intro (hb4.cell 0) (And.intro (hb4.cell 1) (hb4.cell 2)))));have y0:w4.cell? ⟨q,0,none⟩=some (.int .i64 0):=hq4.cell 0;have y1:w4.cell? ⟨q,1,none⟩=some (.int .i64 0):=hq4.cell 1;have y2:w4.cell? ⟨q,2,none⟩=some (.string ⟨#[]⟩):=hq4.cell 2;have u0:=hq4.frozen 0;have u1:=hq4.frozen 1;have u2:=hq4.frozen 2;clear h4 hq4 hb4 x0 x1)))
   obtain⟨qd,hqd⟩: ∃x,quadB b (i / 4)=x:=⟨_,rfl⟩
   rw[hqd]
   obtain⟨w5,hw5⟩: ∃x,x=((w4.setCell ⟨q,0,none⟩ (.int .i64 b.1)).setCell ⟨q,1,none⟩ (.int .i64 0)).setCell ⟨q,2,none⟩ (.string qd):=⟨_,rfl⟩
   have H5:=lhi (show Wk L w s (M.see c (wd num (17+ (i:Int) / 4))) [⟨q,260,#[.int .i64 b.1,.int .i64 0,.string qd]⟩,⟨p,142,#[.int .i64 b.1,.string b.2.1,.bool b.2.2]⟩] [] w5 by rw[hw5];exact HW4.out.set0' HLB.out)
   rw[<-hw5]
   clear hw5 hqd z0 z1 z5 z9 b0 b1 b2 y0 y1 y2 u0 u1 u2 HS4 HSD HCQ HZ4 HW4 hne1 hne2
   obtain⟨M1,hM1⟩: ∃x,M.see c (wd num (17+ (i:Int) / 4))=x:=⟨_,rfl⟩
   have HSET:=lhi (fun(W:World) (hW:Wk L w s M1 [⟨q,260,#[.int .i64 b.1,.int .i64 0,.string qd]⟩,⟨p,142,#[.int .i64 b.1,.string b.2.1,.bool b.2.2]⟩] [] W)=>hW.callL (M':=M2) (R:=fun e _=>e= .returned (.tuple #[])) fun K hLK hBs hM=>by
    obtain⟨x0,x1,-,-⟩:=HOLD.out _ _ _ hW
    have:=set_calls hM (m:=m+1) (by rw[<-hM1];exact HOK.out.see _ _) (by omega) (c:=c) (by rw[<-hM1,(Mem.same.see M _ _).ts];exact hc) (i:=wd num (21+i)) (rd_in hn (by omega)) (hLK sp hL) x0 x1 (ty:=307) (x:=.agg #[.int .i64 b.1,.int .i64 0,.string d]) (t:=.page b.1 0 d) rfl
    rw[<-HM2.out,hM1]
    exact this)
   rw[hM1]at H5
   clear hM1
   go_wp2_with (fail)
   go_loopw [15,16] (fun t x wz=>t= .string ⟨#[]⟩/\ ((x= .int .i64 i/\Wk L w s M1 [⟨q,260,#[.int .i64 b.1,.int .i64 0,.string qd]⟩,⟨p,142,#[.int .i64 b.1,.string b.2.1,.bool b.2.2]⟩] [] wz)∨(x= .int .i64 ((i:Int)+1)/\Wk L w s M2 [⟨q,260,#[.int .i64 b.1,.int .i64 0,.string qd]⟩,⟨p,142,#[.int .i64 b.1,.string b.2.1,.bool b.2.2]⟩] [] wz))) (fun _ x _=>(17 - intOf x).toNat)
   case atStart=>exact⟨rfl,.inl ⟨rfl,H5.out⟩⟩
   case round=>
    obtain⟨rfl,⟨rfl,hw⟩ | ⟨rfl,hw⟩⟩:=hrel
    ·obtain⟨z0,z1,z5,z9⟩:=HOLD.out _ _ _ hw
     have HWW:=lhi hw
     have hq3:=hw.bk (g:=q) (t:=260) (cs:=#[.int .i64 b.1,.int .i64 0,.string qd]) (by simp)
     have q0:wr.cell? ⟨q,0,none⟩=some (.int .i64 b.1):=hq3.cell 0
     have q1:wr.cell? ⟨q,1,none⟩=some (.int .i64 0):=hq3.cell 1
     have q2:wr.cell? ⟨q,2,none⟩=some (.string qd):=hq3.cell 2
     have HBL:=lhi (blend_whole hi z5 hd z9 num b.1 0 qd)
     have hcat:(⟨#[]⟩:ByteArray)++d=d:=ByteArray.empty_append
     have hov: ¬ (9223372036854775807< (⟨#[]⟩:ByteArray).size+d.size):=by
      rw[hd];show ¬ (9223372036854775807<0+16);omega
     clear hw hq3
     go_upto_region 16 with(go_at_call 238;refine HBL.out.mono ?_;rintro e w6 ⟨rfl,hb6⟩;have HW6:=lhi (HWW.out.below hb6 HLB.out);clear hb6)
     clear z0 z1 z5 z9 q0 q1 q2
     obtain⟨z0,z1,z5,z9⟩:=HOLD.out _ _ _ HW6.out
     have q1:w6.cell? ⟨q,1,none⟩=some (.int .i64 0):=(HW6.out.bk (g:=q) (t:=260) (cs:=#[.int .i64 b.1,.int .i64 0,.string qd]) (by simp)).cell 1
     have b0:w6.cell? ⟨p,0,none⟩=some (.int .i64 b.1):=(HW6.out.bk (g:=p) (t:=142) (cs:=#[.int .i64 b.1,.string b.2.1,.bool b.2.2]) (by simp)).cell 0
     have HSD:=lhi (show w6.drew.cell? ⟨p,0,none⟩=some (.int .i64 b.1)/\w6.drew.cell? ⟨q,1,none⟩=some (.int .i64 0)from⟨b0,q1⟩)
     have HWD:=lhi (fun W=>word_calls num (21+ (i:Int)) (by omega) (by omega) W)
     have HST:=lhi (HSET.out _ HW6.out.drew)
     have HZZ:=lhi (fun(W:World) (h7:Wk L w s M2 [⟨q,260,#[.int .i64 b.1,.int .i64 0,.string qd]⟩,⟨p,142,#[.int .i64 b.1,.string b.2.1,.bool b.2.2]⟩] [] W)=>show W.cell? ⟨p,0,none⟩=some (.int .i64 b.1)/\W.cell? ⟨q,1,none⟩=some (.int .i64 0)from⟨(h7.bk (g:=p) (t:=142) (cs:=#[.int .i64 b.1,.string b.2.1,.bool b.2.2]) (by simp)).cell 0,(h7.bk (g:=q) (t:=260) (cs:=#[.int .i64 b.1,.int .i64 0,.string qd]) (by simp)).cell 1⟩)
     have hwr:IntKind.i64.wrap (21+ (i:Int))=21+ (i:Int):=IntWalk.i64_in _ (by omega)
     go_upto_region 17 with(fail)
     go_region_held3 (fun w'=>w'.cell? ⟨p,0,none⟩=some (.int .i64 b.1)/\w'.cell? ⟨q,1,none⟩=some (.int .i64 0))
      (with_reducible first | exact HSD.out | exact HS7.out)
      ((first
       | (go_at_call 65;refine(HWD.out _).mono ?_;rintro e w' ⟨rfl,rfl⟩)
       | (go_at_call 195;refine HST.out.mono ?_;rintro e w7 ⟨rfl,h7⟩;have HW7:=lhi h7;have HS7:=lhi (HZZ.out _ h7);clear h7)))
     go_wp2_with (fail)
     go_roundw
     case rel=>exact⟨rfl,.inr ⟨rfl,HW7.out⟩⟩
     case measure=>simp only[intOf];omega
    ·have HWW:=lhi hw
     clear hw
     go_wp2_with (fail)
     go_roundw
     case rel=>exact .inr ⟨rfl,HWW.out.drop0⟩
     case measure=>simp only[intOf];omega
  ·have HWW:=lhi hw
   clear hw
   go_wp2_with (fail)
   go_end0
   exact⟨rfl,HWW.out.fin⟩
end
section
attribute [-go_sem] Go.Lib.run_max_ints Go.Lib.run_min_ints
open Go.RowKit
set_option maxHeartbeats 2000000
def numR(n:Int):ResV:=⟨0,0,n,false,⟨#[]⟩,none,0,0⟩
def writeM(M:Mem)(c k num:Int)(i:Nat)(d:ByteArray):Mem:=layM ((M.see c (fdw c k)).see c (wd num 16)) c num i (M.bas num).1 d
set_option maxRecDepth 1000000 in
theorem write_ok{L:Nat->Prop}{w W:World}{s:Nat}{M:Mem}{m:Nat}{Bs:List LB}{c:Int}{cv:CallV}{sp:Nat}(h:Wk L w s M (⟨sp,193,stepCs s c cv noRes⟩::Bs) [] W)(hl:Bd L w)(hok:M.ok m)(hm:m<=700000000)(hc:0<=c/\c<M.ts.length){i:Nat}(hi:i<16){k:Int}(hfd:cv.fd=k)(hk:0<=k/\k<4)(hoff:cv.off=16* (i:Int)){d:ByteArray}(hdat:cv.data=d)(hd:d.size=16)
  {num:Int} (hnum:rd M.ws (fdw c k)=num) (hn:1<=num/\num<=257) (hbk:M.isBase num) (hz:rd M.ws (wd num 16)<=1000000000000) (hheld:(M.bas num).2.2=false) (hlen:16*i+16<= (M.bas num).2.1.size) (hlen2:(M.bas num).2.1.size<=256) (hq:rd M.ws (wd num (17+ (i / 4:Nat)))=0):
  Calls Tryz.prog 165 #[.pointer (some ⟨sp,0,none⟩)] W fun e w'=>e= .returned (.tuple #[])/\Wk L w s (writeM M c k num i d) (⟨sp,193,stepCs s c cv (numR 16)⟩::Bs) [] w':=by
 have HLB:=lhi hl
 obtain⟨ck,cc,cf,co,cn,p1,p2,cd⟩:=cv
 obtain rfl:cf=k:=hfd
 obtain rfl:co=16* (i:Int):=hoff
 obtain rfl:cd=d:=hdat
 have HF:=lhi (h.callL (M':=M.see c (fdw c cf)) (R:=fun e _=>FileE num e) fun K hLK hBs hM=>by
  have hb:=h.blk (x:=⟨sp,193,stepCs s c ⟨ck,cc,cf,16* (i:Int),cn,p1,p2,cd⟩ noRes⟩) (by simp)
  exact file_ok hM hok (by omega) hc (hBs _ (List.mem_cons_self ..)) (hb.cell 0) (hb.cell 1) (hb.cell 4) hk hnum)
 have HBC:=lhi (fun(Bs':List LB) (W':World) (h':Wk L w s (M.see c (fdw c cf)) Bs' [] W')=>h'.call (M':=(M.see c (fdw c cf)).see c (wd num 16)) (R:=fun e _=>e= .returned (baseV (M.bas num))) fun K hM=>by
  have hs:=Mem.same.see M c (fdw c cf)
  have:=base_calls hM (hok.see _ _) (by omega) (c:=c) (.inr (by rw[hs.ts];exact hc)) hn ⟨(hs.fine _).2 hbk.f,by rw[hs.at_];exact hbk.k⟩ (by rw[hs.ws];exact hz)
  rw[hs.bas]at this
  exact this)
 have HLY:=lhi (fun(Bs':List LB) (W':World) (h':Wk L w s ((M.see c (fdw c cf)).see c (wd num 16)) (⟨sp,193,stepCs s c ⟨ck,cc,cf,16* (i:Int),cn,p1,p2,cd⟩ (numR 16)⟩::Bs') [] W')=>h'.callL (M':=writeM M c cf num i cd) (R:=fun e _=>e= .returned (.tuple #[])) fun K hLK hBs hM=>by
  have hs:=(Mem.same.see M c (fdw c cf)).trans (Mem.same.see _ c (wd num 16))
  have hb:=h'.blk (x:=⟨sp,193,stepCs s c ⟨ck,cc,cf,16* (i:Int),cn,p1,p2,cd⟩ (numR 16)⟩) (by simp)
  exact lay_ok hM ((hok.see _ _).see _ _) (by omega) (c:=c) (by rw[hs.ts];exact hc) (hBs _ (List.mem_cons_self ..)) (hb.cell 0) (hb.cell 1) hi (hb.cell 5) hd (hb.cell 9) hn (b:=M.bas num) (by omega) (by rw[hs.ws];exact hq))
 have HX:=lhi h
 have hne0: ¬ num=0:=by omega
 have HFE:=lhi (fun(e:Ending) (he:FileE num e)=>show e= .returned (.int .i64 num)by unfold FileE at he;rw[if_neg hne0]at he;exact he)
 obtain⟨M3,hM3⟩: ∃x,writeM M c cf num i cd=x:=⟨_,rfl⟩
 obtain⟨bv,hbv⟩: ∃x,M.bas num=x:=⟨_,rfl⟩
 rw[hM3]at HLY⊢
 rw[hbv]at HBC HLY hheld hlen hlen2
 obtain⟨bn,bd,bh⟩:=bv
 simp only[baseV]at HBC HLY hheld hlen hlen2
 subst hheld
 clear h hok hnum hbk hz hq hne0 hM3 hbv
 go_enter Tryz.func165,Tryz.ntmps165
 go_upto_region 1 with(go_at_call 162;refine HF.out.mono ?_;rintro e w1 ⟨hfe,h1⟩;obtain rfl:=HFE.out _ hfe;have H1:=lhi h1;clear hfe h1)
 have hb1:=H1.out.bk (g:=sp) (t:=193) (cs:=stepCs s c ⟨ck,cc,cf,16* (i:Int),cn,p1,p2,cd⟩ noRes) (by simp)
 have s5:w1.cell? ⟨sp,5,none⟩=some (.int .i64 (16* (i:Int))):=hb1.cell 5
 have s9:w1.cell? ⟨sp,9,none⟩=some (.string cd):=hb1.cell 9
 have s12:w1.cell? ⟨sp,12,none⟩=some (.int .i64 0):=hb1.cell 12
 have f12:=hb1.frozen 12
 have hne:cd.toList.isEmpty=false:=by
  rw[ByteArray.toList_eq]
  have h0:cd.data.toList.length=16:=hd
  cases e:cd.data.toList with
  | nil=>rw[e]at h0;cases h0
  | cons=>rfl
 have hgt:decide (256<16* (i:Int)+16)=false:=by simp;omega
 have hgl:decide ((bd.size:Int)<16* (i:Int)+16)=false:=by simp;omega
 clear hb1
 go_region
 go_upto_region 5 with(first
  | (go_at_call 204;refine(mfits_yes _ (by omega) _).mono ?_;rintro e w' ⟨rfl,rfl⟩)
  | (go_at_call 199;refine(throw_no _ _).mono ?_;rintro e w' ⟨rfl,rfl⟩))
 obtain⟨w2,hw2⟩: ∃x,x=(w1.setCell ⟨sp,12,none⟩ (.int .i64 16)).drew:=⟨_,rfl⟩
 have h2:Wk L w s (M.see c (fdw c cf)) (⟨sp,193,stepCs s c ⟨ck,cc,cf,16* (i:Int),cn,p1,p2,cd⟩ (numR 16)⟩::Bs) [] w2:=by rw[hw2];exact(H1.out.set0 HLB.out 12 (.int .i64 16)).drew
 rw[<-hw2]
 clear hw2 s5 s9 s12 f12
 have hb2:=h2.bk (g:=sp) (t:=193) (cs:=stepCs s c ⟨ck,cc,cf,16* (i:Int),cn,p1,p2,cd⟩ (numR 16)) (by simp)
 have s0:w2.cell? ⟨sp,0,none⟩=some (.pointer (some ⟨s,0,none⟩)):=hb2.cell 0
 have s1:w2.cell? ⟨sp,1,none⟩=some (.int .i64 c):=hb2.cell 1
 have s9:w2.cell? ⟨sp,9,none⟩=some (.string cd):=hb2.cell 9
 have HC2:=lhi (HBC.out _ w2 h2)
 clear hb2 h2
 go_upto_region 8 with(go_at_call 139;refine HC2.out.mono ?_;rintro e w3 ⟨rfl,h3⟩;have H3:=lhi h3;clear h3)
 obtain⟨q,hq⟩: ∃x,x=w3.heap.size:=⟨_,rfl⟩
 obtain⟨w4,hw4⟩: ∃x,x=w3.alloc (.cells #[.int .i64 bn,.string bd,.bool false] 142):=⟨_,rfl⟩
 have h4:Wk L w s ((M.see c (fdw c cf)).see c (wd num 16)) (⟨q,142,#[.int .i64 bn,.string bd,.bool false]⟩::⟨sp,193,stepCs s c ⟨ck,cc,cf,16* (i:Int),cn,p1,p2,cd⟩ (numR 16)⟩::Bs) [] w4:=by
  rw[hq,hw4];exact H3.out.alloc HLB.out #[.int .i64 bn,.string bd,.bool false] 142
 rw[<-hq,<-hw4]
 clear hq hw4 s0 s1 s9
 have hb4:=h4.bk (g:=q) (t:=142) (cs:=#[.int .i64 bn,.string bd,.bool false]) (by simp)
 have b0:w4.cell? ⟨q,0,none⟩=some (.int .i64 bn):=hb4.cell 0
 have b1:w4.cell? ⟨q,1,none⟩=some (.string bd):=hb4.cell 1
 have b2:w4.cell? ⟨q,2,none⟩=some (.bool false):=hb4.cell 2
 have HL4:=lhi (HLY.out (⟨q,142,#[.int .i64 bn,.string bd,.bool false]⟩::Bs) w4 h4.swap)
 clear hb4 h4
 go_wp2_with (go_at_call 206;refine HL4.out.mono ?_;rintro e w5 ⟨rfl,h5⟩;have H5:=lhi h5.swap.drop0;clear h5)
 go_end0
 exact⟨rfl,H5.out⟩
end
section
open Go.RowKit
set_option maxHeartbeats 1000000
def datTo(S:St):Nat->Int->Option ByteArray
 | 0,_=>none
 | k+1,j=>if j=S.num k/\S.dir k=false then some (S.dat k)else datTo S k j
def onTo(S:St):Nat->Int->Int->Int
 | 0,_,_=>0
 | k+1,c,q=>if c=S.oc k/\q=S.of k then S.on k else onTo S k c q
structure Keep8 (M M':Mem):Prop where
 r: ∀num a,1<=num/\num<=257->8<=a->a<37->rd M'.ws (wd num a)=rd M.ws (wd num a)
 s: ∀num o,1<=num/\num<=257->Says M (wd num 16) o->Says M' (wd num 16) o
namespace Keep8
variable{M M' M'':Mem}
theorem refl(M:Mem):Keep8 M M:=⟨fun _ _ _ _ _=>rfl,fun _ _ _ h=>h⟩
theorem trans(h:Keep8 M M')(k:Keep8 M' M''):Keep8 M M'':=⟨fun n a h1 h2 h3=>(k.r n a h1 h2 h3).trans (h.r n a h1 h2 h3),fun n o h1 h2=>k.s n o h1 (h.s n o h1 h2)⟩
theorem give(M:Mem)(c:Int)(t:Thing):Keep8 M (M.give c t):=⟨fun _ _ _ _ _=>rfl,fun _ _ _ h=>h.give c t⟩
theorem put(M:Mem){j:Int}(hj: ∀num a,1<=num/\num<=257->8<=a->a<37->(wd num a).toNat≠j.toNat)(v:Int):Keep8 M (M.put j v):=
 ⟨fun n a h1 h2 h3=>rd_wr_other' (hj n a h1 h2 h3),fun n o h1 h=>h.put (hj n 16 h1 (by decide) (by decide)) v⟩
end Keep8
theorem keep8_loadBs(S:St)(i:Nat)(hn:1<=S.num i/\S.num i<=257)(M:Mem): ∀k,k<=8->Keep8 M (loadBs S i M k)
 | 0,_=>Keep8.refl M
 | k+1,hk=>by
  refine(keep8_loadBs S i hn M k (by omega)).trans ?_
  show Keep8 _ (loadB S i _ k)
  unfold loadB
  split
  ·exact Keep8.refl _
  ·exact(Keep8.give _ _ _).trans (Keep8.put _ (fun num a h1 h2 h3=>Dk.wd_ne h1 ⟨by omega,h3⟩ hn ⟨by omega,by omega⟩ (fun e=>by omega)) _)
structure LdP (S:St) (M:Mem) (k:Nat):Prop where
 z: ∀num a,1<=num/\num<=257->8<a->a<37->a≠16->rd M.ws (wd num a)=0
 n: ∀num,1<=num/\num<=257->datTo S k num=none->Says M (wd num 16) none
 y: ∀num d,1<=num/\num<=257->datTo S k num=some d->(∃v,Says M (wd num 16) (some (.base v d false)))/\rd M.ws (wd num 8)=(cntI S num S.inodes.length:Nat)
theorem LdP.keep{S:St}{M M':Mem}{k:Nat}(h:LdP S M k)(q:Keep8 M M'):LdP S M' k:=
 ⟨fun num a h1 h2 h3 h4=>(q.r num a h1 (by omega) h3).trans (h.z num a h1 h2 h3 h4),fun num h1 h2=>q.s num _ h1 (h.n num h1 h2),fun num d h1 h2=>by
  obtain⟨⟨v,h3⟩,h4⟩:=h.y num d h1 h2
  exact⟨⟨v,q.s num _ h1 h3⟩,(q.r num 8 h1 (by decide) (by decide)).trans h4⟩⟩
theorem LdP.dirs{S:St}{M:Mem}{k:Nat}(h:LdP S M k)(hd:S.dir k=true):LdP S M (k+1):=by
 have e: ∀num,datTo S (k+1) num=datTo S k num:=fun num=>by rw[datTo,if_neg (by rw[hd];simp)]
 exact⟨h.z,fun num h1 h2=>h.n num h1 (by rwa [e]at h2),fun num d h1 h2=>h.y num d h1 (by rwa [e]at h2)⟩
theorem LdP.file{S:St}{M:Mem}{k m:Nat}(h:LdP S M k)(hok:M.ok m)(hm:m<=900000000)(hl:0<M.nm.length)(hn:1<=S.num k/\S.num k<=257)(hd:S.dir k=false):LdP S (loadFile S k M) (k+1):=by
 have hw:=hok.wl
 have hi8:0<=wd (S.num k) 8/\wd (S.num k) 8<9549:=by unfold wd;omega
 have hi16:0<=wd (S.num k) 16/\wd (S.num k) 16<9549:=by unfold wd;omega
 obtain⟨M1,hM1⟩: ∃x,x=M.put (wd (S.num k) 8) (cntI S (S.num k) S.inodes.length:Nat):=⟨_,rfl⟩
 have hw1:M1.ws.length=9549:=by rw[hM1];exact put_wl hw _ _
 have hok1:M1.ok m:=by rw[hM1];exact hok.put _ _
 have hl1:0<M1.nm.length:=by rw[hM1];exact hl
 have e:loadFile S k M=(M1.give 0 (.base (M1.next 0) (S.dat k) false)).put (wd (S.num k) 16) (M1.next 0):=by rw[hM1];rfl
 have hr: ∀num a,1<=num/\num<=257->8<=a->a<37->rd (loadFile S k M).ws (wd num a)=if wd num a=wd (S.num k) 16 then M1.next 0 else if wd num a=wd (S.num k) 8 then(cntI S (S.num k) S.inodes.length:Nat)else rd M.ws (wd num a):=fun num a h1 h2 h3=>by
  rw[e]
  show rd (M1.put (wd (S.num k) 16) (M1.next 0)).ws _=_
  rw[rd_put hw1 hi16 (by unfold wd;omega),hM1,rd_put hw hi8 (by unfold wd;omega)]
 have hs: ∀num,1<=num/\num<=257->num≠S.num k-> ∀o,Says M (wd num 16) o->Says (loadFile S k M) (wd num 16) o:=fun num h1 h2 o h3=>by
  rw[e,hM1]
  exact((h3.put (Dk.wd_ne h1 ⟨by decide,by decide⟩ hn ⟨by decide,by decide⟩ (fun q=>h2 q.1)) _).give _ _).put (Dk.wd_ne h1 ⟨by decide,by decide⟩ hn ⟨by decide,by decide⟩ (fun q=>h2 q.1)) _
 refine⟨fun num a h1 h2 h3 h4=>?_,fun num h1 h2=>?_,fun num d h1 h2=>?_⟩
 ·rw[hr num a h1 (by omega) h3,if_neg (by unfold wd;omega),if_neg (by unfold wd;omega)]
  exact h.z num a h1 h2 h3 h4
 ·rw[datTo]at h2
  split at h2
  ·cases h2
  ·rename_i q
   exact hs num h1 (fun e=>q ⟨e,hd⟩) _ (h.n num h1 h2)
 ·rw[datTo]at h2
  split at h2
  ·rename_i q
   obtain⟨rfl,-⟩:=q
   cases h2
   refine⟨⟨M1.next 0,?_⟩,?_⟩
   ·rw[e]
    exact Says.put_self hok1 (by omega) (c:=0) ⟨by decide,by omega⟩ (by decide) hi16
   ·rw[hr _ _ h1 (by decide) (by decide),if_neg (by unfold wd;omega),if_pos rfl]
  ·rename_i q
   have hne:num≠S.num k:=fun e=>q ⟨e,hd⟩
   obtain⟨⟨v,h3⟩,h4⟩:=h.y num d h1 h2
   refine⟨⟨v,hs num h1 hne _ h3⟩,?_⟩
   rw[hr _ _ h1 (by decide) (by decide),if_neg (by unfold wd;omega),if_neg (by unfold wd;omega)]
   exact h4
theorem ld_new(S:St)(n:Nat):LdP S (Mem.new n) 0:=⟨fun _ _ _ _ _ _=>rd_zero' _,fun num h1 _=>bz_new n num h1,fun _ _ _ h=>by cases h⟩
theorem ld_is{S:St}(hI:Inv S): ∀k,k<=S.inodes.length->LdP S (loadIs S (Mem.new S.made.length) k) k
 | 0,_=>ld_new S _
 | k+1,hk=>by
  have ih:=ld_is hI k (by omega)
  have hn:=hI.num_bound (Inv.ino_mem (show k<S.inodes.length by omega))
  have hni:=hI.small.ni
  have hb:=keep8_loadBs S k hn (loadIs S (Mem.new S.made.length) k) 8 (Nat.le_refl _)
  have hok:=loadBs_ok (S:=S) (i:=k) (loadIs_ok (S:=S) (Mem.new_ok S.made.length) k) 8
  show LdP S (loadI S _ k) (k+1)
  unfold loadI
  split
  ·rename_i hd
   exact(ih.keep hb).dirs hd
  ·rename_i hd
   exact(ih.keep hb).file hok (by omega) (by rw[loadBs_nm,loadIs_nm];have:=hI.m1;simp[Mem.new];omega) hn (by simpa using hd)
theorem keep8_made(S:St)(M:Mem): ∀k,Keep8 M (loadMade S M k)
 | 0=>Keep8.refl M
 | k+1=>(keep8_made S M k).trans (Keep8.put _ (fun num a h1 h2 h3=>by unfold wd mdw;omega) _)
theorem oc_bd{S:St}(hI:Inv S){k:Nat}(hk:k<S.opens.length):0<=S.oc k/\S.oc k<S.made.length/\0<=S.of k/\S.of k<4:=by
 obtain⟨h1,h2,h3,h4,-⟩:=hI.ok (S.opens.getD k (0,0,0)) (getD_mem hk)
 exact⟨h1,h2,h3,h4⟩
theorem ld_open{S:St}(hI:Inv S){M:Mem}(hl:M.ws.length=9549): ∀k,k<=S.opens.length->(loadOpen S M k).ws.length=9549/\Keep8 M (loadOpen S M k)/\ (∀c:Nat,c<8->rd (loadOpen S M k).ws (mdw (c:Nat))=rd M.ws (mdw (c:Nat)))/\ ∀c q:Int,0<=c/\c<8->0<=q/\q<4->rd (loadOpen S M k).ws (fdw c q)=if rd M.ws (fdw c q)=0 then onTo S k c q else rd (loadOpen S M k).ws (fdw c q)
 | 0,_=>⟨hl,Keep8.refl M,fun _ _=>rfl,fun c q _ _=>by
  split
  ·rename_i h;exact h
  ·rfl⟩
 | k+1,hk=>by
  obtain⟨h1,h2,h3,h4⟩:=ld_open hI hl k (by omega)
  obtain⟨o1,o2,o3,o4⟩:=oc_bd hI (show k<S.opens.length by omega)
  have h8:=hI.m8
  have hj:0<=fdw (S.oc k) (S.of k)/\fdw (S.oc k) (S.of k)<9549:=by unfold fdw;omega
  refine⟨put_wl h1 _ _,h2.trans (Keep8.put _ (fun num a h1 h2 h3=>by unfold wd fdw;omega) _),fun c hc=>?_,fun c q hc hq=>?_⟩
  ·show rd ((loadOpen S M k).put (fdw (S.oc k) (S.of k)) (S.on k)).ws _=_
   rw[rd_put h1 hj (by unfold mdw;omega),if_neg (by unfold mdw fdw;omega)]
   exact h3 c hc
  ·split
   ·rename_i hz
    show rd ((loadOpen S M k).put (fdw (S.oc k) (S.of k)) (S.on k)).ws _=_
    rw[rd_put h1 hj (by unfold fdw;omega),onTo]
    by_cases e:c=S.oc k/\q=S.of k
    ·rw[if_pos e,if_pos (by rw[e.1,e.2])]
    ·rw[if_neg e,if_neg (by unfold fdw;omega),h4 c q hc hq,if_pos hz]
   ·rfl
structure Ld (S:St) (M:Mem):Prop where
 ok:M.ok 9000
 tl:M.ts.length=S.made.length
 nl:M.nm.length=S.made.length
 tr: ∀c:Int,tr M.ts c=[]
 p:LdP S M S.inodes.length
 md: ∀c:Nat,c<S.made.length->rd M.ws (mdw (c:Nat))=S.mad c
 fd: ∀c q:Int,0<=c/\c<8->0<=q/\q<4->rd M.ws (fdw c q)=onTo S S.opens.length c q
theorem ld_load{S:St}(hI:Inv S):Ld S (loadM S):=by
 have hni:=hI.small.ni
 have h0:(loadIs S (Mem.new S.made.length) S.inodes.length).ws.length=9549:=(rd_loadIs hI (M:=Mem.new S.made.length) zeroWs_len (j:=9509) (by omega) _ (Nat.le_refl _)).2
 obtain⟨m1,m2,m3⟩:=rd_loadMade (S:=S) hI.m8 h0 S.made.length (Nat.le_refl _)
 obtain⟨o1,o2,o3,o4⟩:=ld_open hI m1 S.opens.length (Nat.le_refl _)
 have hz: ∀c q:Int,0<=c/\c<8->0<=q/\q<4->rd (loadMade S (loadIs S (Mem.new S.made.length) S.inodes.length) S.made.length).ws (fdw c q)=0:=fun c q hc hq=>by
  rw[m3 _ (by unfold fdw;omega),(rd_loadIs hI (M:=Mem.new S.made.length) zeroWs_len (j:=fdw c q) (by unfold fdw;omega) _ (Nat.le_refl _)).1]
  exact rd_zero' _
 have nmO: ∀k (M:Mem),(loadOpen S M k).nm=M.nm:=fun k M=>by
  induction k with
  | zero=>rfl
  | succ k ih=>exact ih
 have nmM: ∀k (M:Mem),(loadMade S M k).nm=M.nm:=fun k M=>by
  induction k with
  | zero=>rfl
  | succ k ih=>exact ih
 refine⟨loadM_ok hni,by rw[loadM_ts];simp,by unfold loadM;rw[nmO,nmM,loadIs_nm];simp[Mem.new],fun c=>?_,((ld_is hI _ (Nat.le_refl _)).keep (keep8_made S _ _)).keep o2,fun c hc=>?_,fun c q hc hq=>?_⟩
 ·rw[loadM_ts]
  unfold tr
  rw[List.getD_eq_getElem?_getD,List.getElem?_replicate]
  split <;> rfl
 ·show rd (loadOpen S _ _).ws _=_
  rw[o3 c (by have:=hI.m8;omega),m2 c,if_pos hc]
 ·show rd (loadOpen S _ _).ws _=_
  rw[o4 c q hc hq,if_pos (hz c q hc hq)]
end
section
open Go.RowKit
set_option maxHeartbeats 2000000
theorem pagesOf_zero(w:World):Calls Tryz.prog 141 #[.int .i64 0] w fun e w'=>e= .returned (.int .i64 0)/\Below w.heap.size w w':=by
 go_enter Tryz.func141,Tryz.ntmps141
 go_wp2_with (fail)
 go_ret
 exact⟨by go_num,Below.refl _ _⟩
set_option maxRecDepth 1000000 in
theorem pages_none(w:World)(s:Nat)(num:Int)(v:Int)(d:ByteArray)(hd:Bool):Calls Tryz.prog 140 #[.agg #[.pointer (some ⟨s,0,none⟩),.int .i64 (-1)],.int .i64 num,.int .i64 0,.int .i64 0,.agg #[.int .i64 v,.string d,.bool hd]] w fun e w'=>e= .returned (.string ⟨#[]⟩)/\Below w.heap.size w w':=by
 have HB:=lhi ((((Below.refl w.heap.size w).alloc (Nat.le_refl _) (.cells #[.pointer (some ⟨s,0,none⟩),.int .i64 (-1)] 168)).alloc (by simp) (.cells #[.int .i64 v,.string d,.bool hd] 142)).alloc (by simp;omega) (.cells #[.int .i64 0,.int .i64 0,.string ⟨#[]⟩] 260))
 go_enter Tryz.func140,Tryz.ntmps140
 go_wp2_with (fail)
 go_loopw [13,11] (fun i o wr=>i= .int .i64 0/\o= .string ⟨#[]⟩/\Below w.heap.size w wr) (fun _ _ _=>0)
 case atStart=>exact⟨rfl,rfl,HB.out⟩
 case round=>
  obtain⟨rfl,rfl,hb⟩:=hrel
  go_wp2_with (fail)
  go_ret
  exact⟨rfl,hb⟩
set_option maxRecDepth 1000000 in
theorem data_none{L:Nat->Prop}{w:World}{s:Nat}{M:Mem}{m:Nat}(h:MemAt L w s M)(hok:M.ok m)(hm:m<=900000000){num:Int}(hn:1<=num/\num<=257)(hk:M.isBase num)(hz:rd M.ws (wd num 16)<=1000000000000)(h0:(M.bas num).2.1=⟨#[]⟩):
  Calls Tryz.prog 91 #[.agg #[.pointer (some ⟨s,0,none⟩),.int .i64 (-1)],.int .i64 num] w fun e w'=>e= .returned (.string ⟨#[]⟩)/\MemAt L w' s M/\Kw L w w':=by
 obtain⟨w1,hw1⟩: ∃w1,w1=w.alloc (.cells #[.pointer (some ⟨s,0,none⟩),.int .i64 (-1)] 168):=⟨_,rfl⟩
 have HB1:=lhi (show Below w.heap.size w w1 by rw[hw1];exact(Below.refl _ _).alloc (Nat.le_refl _) _)
 have HX1:=lhi (show Blk w1 w.heap.size 168 _ by rw[hw1];exact Blk.new w 168 #[.pointer (some ⟨s,0,none⟩),.int .i64 (-1)])
 have HL:=lhi h.bd
 have HC:=lhi (call_wide (h.below HB1.out) fun K hK=>(base_calls hK hok (by omega) (.inl rfl) hn hk hz).mono (R':=fun e w'=>e= .returned (baseV (M.bas num))/\MemAt K w' s M/\Kp K w1 w') (by rintro e w' ⟨h1,h2,h3⟩;rw[Mem.see_neg]at h2;exact⟨h1,h2,h3⟩))
 obtain⟨bv,hbv⟩: ∃x,M.bas num=x:=⟨_,rfl⟩
 rw[hbv]at HC h0
 obtain⟨v,d,hd⟩:=bv
 have h0:d=⟨#[]⟩:=h0
 subst h0
 have HC:=lhi (show Calls Tryz.prog 139 #[.agg #[.pointer (some ⟨s,0,none⟩),.int .i64 (-1)],.int .i64 num] w1 fun e w'=>e= .returned (.agg #[.int .i64 v,.string ⟨#[]⟩,.bool hd])/\MemAt L w' s M/\Kw L w1 w' from HC.out)
 clear h hok hk hz hbv
 go_enter Tryz.func91,Tryz.ntmps91
 go_upto_region 2 with(rw[<-hw1];go_at_call 139;refine HC.out.mono ?_;rintro e w2 ⟨rfl,hm2,hk2⟩)
 have HM2:=lhi hm2
 have HK2:=lhi ((Kw.below HL.out HB1.out).trans hk2)
 have HX2:=lhi (hk2.blk HX1.out (by decide))
 obtain⟨vb,hvb⟩: ∃x,x=w.heap.size:=⟨_,rfl⟩
 rw[<-hvb]at HX2⊢
 clear hvb hm2 hk2 HX1
 obtain⟨wy,hwy⟩: ∃wy,wy=w2.alloc (.cells #[.int .i64 v,.string ⟨#[]⟩,.bool hd] 142):=⟨_,rfl⟩
 have HB2:=lhi (show Below w2.heap.size w2 wy by rw[hwy];exact(Below.refl _ _).alloc (Nat.le_refl _) _)
 have HBX:=lhi (show Blk wy w2.heap.size 142 _ by rw[hwy];exact Blk.new w2 142 #[.int .i64 v,.string ⟨#[]⟩,.bool hd])
 rw[<-hwy]
 obtain⟨bb,hbb⟩: ∃x,x=w2.heap.size:=⟨_,rfl⟩
 rw[<-hbb]at HBX⊢
 clear hbb hwy
 have HXY:=lhi (Blk.of_heap (HB2.out.block _ HX2.out.lt) HX2.out)
 have HV0:=lhi (fun(x:WIn (Bel wy))=>show x.v.cell? ⟨vb,0,none⟩=some (.pointer (some ⟨s,0,none⟩))from x.cell (HXY.out.cell 0))
 have HV1:=lhi (fun(x:WIn (Bel wy))=>show x.v.cell? ⟨vb,1,none⟩=some (.int .i64 (-1))from x.cell (HXY.out.cell 1))
 have HC0:=lhi (fun(x:WIn (Bel wy))=>show x.v.cell? ⟨bb,0,none⟩=some (.int .i64 v)from x.cell (HBX.out.cell 0))
 have HC1:=lhi (fun(x:WIn (Bel wy))=>show x.v.cell? ⟨bb,1,none⟩=some (.string ⟨#[]⟩)from x.cell (HBX.out.cell 1))
 have HC2:=lhi (fun(x:WIn (Bel wy))=>show x.v.cell? ⟨bb,2,none⟩=some (.bool hd)from x.cell (HBX.out.cell 2))
 have v0:=HV0.out
 have v1:=HV1.out
 have c0:=HC0.out
 have c1:=HC1.out
 have c2:=HC2.out
 refine wp_region_in (C:=Bel wy) (by kernel_rfl) (by kernel_rfl) (Bel.drew wy) ?_
 repeat (go_big_quiet_step (first | (go_at_call 141;exact Calls.bel _ (pagesOf_zero _)) | (go_at_call 140;exact Calls.bel _ (pages_none _ _ _ _ _ _))))
 refine wpQuiet_nil ?_
 rintro wx ⟨x5,h5⟩
 have hbx:=x5.h
 rw[<-h5]at hbx
 clear h5 x5 v0 v1 c0 c1 c2
 go_wp2_with (fail)
 go_ret
 have hbz:Below w2.heap.size w2 wx:=HB2.out.trans (show Below w2.heap.size wy wx from Below.mono (show Below wy.heap.size wy wx from hbx) HB2.out.size)
 exact⟨rfl,HM2.out.below hbz,HK2.out.trans (Kw.below HM2.out.bd hbz)⟩
def StateR(L:Nat->Prop)(w:World)(fb s pb:Nat)(M:Mem)(ps:List PV)(g:Gt)(D:Int->ByteArray)(e:Ending)(w':World):Prop:=
 (∃iv ov mv ev S,e= .returned (.tuple #[.agg #[iv,ov,mv],.int .i64 0])/\StV w' 0 iv ov mv ev S/\IsState M g D ps.length S)/\FsAt L w' fb s pb M ps/\Kw L w w'
def StateR2(L:Nat->Prop)(w:World)(fb s pb:Nat)(M:Mem)(ps:List PV)(g:Gt)(D:Int->ByteArray)(e:Ending)(w':World):Prop:=
 (∃iv ov mv ev S,e= .returned (.tuple #[.agg #[iv,ov,mv],.int .i64 0])/\StV w' 0 iv ov mv ev S/\IsState M g D ps.length S/\ ∃K:Nat->Prop,(∀b,L b->K b)/\ (∀b,0<S.inodes.length->iv.ownBlock=some b->K b)/\ (∀b,0<S.made.length->mv.ownBlock=some b->K b)/\FsAt K w' fb s pb M ps)/\FsAt L w' fb s pb M ps/\Kw L w w'
theorem row_ne{w:World}{t t':TypeId}{k n base:Nat}{v:Value}{C:Nat->Nat->Value}{b:Nat}{cs:Array Value}(h:RowT w base t k v n C)(hn:0<n)(hb:Blk w b t' cs)(ht:t≠t'):v.ownBlock≠some b:=by
 obtain⟨A,cap,rfl,-,h3⟩:=h
 obtain⟨g,off,cs',rfl,-,h5,-⟩:=h3 hn
 intro e
 have e:g=b:=Option.some.inj e
 exact Blk.ne_ (e▸h5) hb ht rfl
set_option maxRecDepth 1000000 in
theorem State_ok2{L:Nat->Prop}{w:World}{fb s pb:Nat}{M:Mem}{ps:List PV}{m:Nat}(h:FsAt L w fb s pb M ps)(hidle: ∀c (hc:c<ps.length),ps[c].at_= .nilIface)(hok:M.ok m)(hm:m<=900000000)(hfit:M.fit){f:Nat}{g:Gt}(hg:gDir M f 1 ⟨[],[]⟩=g)(hgn:g.n<=1000000)(hdeep:Deep M f 1)(D:Int->ByteArray)
  (hfd: ∀c k:Nat,c<ps.length->k<4->0<=rd M.ws (fdw (c:Nat) (k:Nat))/\rd M.ws (fdw (c:Nat) (k:Nat))<=257) (hfs: ∀i∈g.fs,0<=i/\i<=257) (hD:DataC M s (fun i=>(filesO g.fs (opsTo M ps.length) i).isSome=true) D):
  Calls Tryz.prog 19 #[.pointer (some ⟨fb,0,none⟩)] w (StateR2 L w fb s pb M ps g D):=by
 have h8:=h.tsl
 have hL:Bd L w:=fun b hb=>h.m.bd b (.inl hb)
 have HA:=lhi (show FsAt (ins L w.heap.size) (w.alloc (.cells #[.slice none 0 0,.slice none 0 0,.slice none 0 0] 30)) fb s pb M ps from h.allocIns _)
 have HR:=lhi (Blk.new w 30 #[.slice none 0 0,.slice none 0 0,.slice none 0 0])
 have HID:=lhi hidle
 have HBS:=lhi (fun c (hc:c<ps.length)=>busy_no HA.out hc (hidle c hc))
 have HST:=lhi (state_calls hok hm hfit hg hgn hdeep D (n:=ps.length) (by rw[h.tl]) (by omega) hfd hfs HA.out.m hD)
 have HL:=lhi hL
 obtain⟨n,hn⟩: ∃n,ps.length=n:=⟨_,rfl⟩
 have HN:=lhi hn
 clear hidle hok hfit hg hdeep hfd hfs hD
 obtain⟨w1,hw1⟩: ∃w1,w1=w.alloc (.cells #[.slice none 0 0,.slice none 0 0,.slice none 0 0] 30):=⟨_,rfl⟩
 have HB:=lhi (show Below w.heap.size w w1 by rw[hw1];exact(Below.refl _ _).alloc (Nat.le_refl _) _)
 rw[<-hw1]at HA HR HBS HST
 go_enter Tryz.func19,Tryz.ntmps19
 go_upto_region 1 with(fail)
 rw[<-hw1]
 obtain⟨rb,hrb⟩: ∃x,x=w.heap.size:=⟨_,rfl⟩
 rw[<-hrb]at HR HA HST⊢
 have HRB:=lhi hrb
 clear hw1 hrb
 have c0:w1.cell? ⟨fb,0,none⟩=some (.pointer (some ⟨s,0,none⟩)):=HA.out.f.cell 0
 have c1:w1.cell? ⟨fb,1,none⟩=some (.slice (some ⟨pb,0,none⟩) ps.length ps.length):=HA.out.f.cell 1
 go_wp2_with (fail)
 go_loopw [13] (fun i wr=>∃c:Nat,i= .int .i64 c/\c<=ps.length/\wr=w1) (fun i _=>ps.length - (intOf i).toNat)
 case atStart=>exact⟨0,rfl,by omega,rfl⟩
 case round=>
  obtain⟨c,rfl,hc,rfl⟩:=hrel
  by_cases hp:c<ps.length
  ·have hp1:(c:Int)<ps.length:=by omega
   have HBC:=lhi (HBS.out c hp)
   go_wp2_with (go_at_call 40;refine HBC.out.mono ?_;rintro e w' ⟨rfl,rfl⟩)
   go_roundw
   case rel=>exact⟨c+1,by go_num,by omega,by trivial⟩
   case measure=>
    simp only[intOf]
    omega
  ·have e:c=ps.length:=by omega
   subst e
   have o0:wr.cell? ⟨rb,0,none⟩=some (.slice none 0 0):=HR.out.cell 0
   go_wp2_with (go_at_call 41;refine HST.out.mono ?_;rintro e w2 ⟨⟨iv,ov,mv,ev,S,rfl,hst,his,hkk⟩,hm2,hk2⟩;have HKK:=lhi hkk;clear hkk;have HS2:=lhi hst;have HI2:=lhi his;have HM2:=lhi hm2;have HK2:=lhi hk2;obtain⟨iA,icap,rfl,-⟩:=hst.ino;obtain⟨oA,ocap,rfl,-⟩:=hst.opn;obtain⟨mA,mcap,rfl,-⟩:=hst.mad;clear hst his hm2 hk2;have HR2:=lhi (Blk.of_heap (HK2.out.k.k.block rb (.inl (by rw[HRB.out];exact ins.new _ _))) HR.out);have r0:w2.cell? ⟨rb,0,none⟩=some (.slice none 0 0):=HR2.out.cell 0;have r1:w2.cell? ⟨rb,1,none⟩=some (.slice none 0 0):=HR2.out.cell 1;have r2:w2.cell? ⟨rb,2,none⟩=some (.slice none 0 0):=HR2.out.cell 2;have f0:w2.frozen? ⟨rb,0,none⟩=false:=HR2.out.frozen _;have f1:w2.frozen? ⟨rb,1,none⟩=false:=HR2.out.frozen _;have f2:w2.frozen? ⟨rb,2,none⟩=false:=HR2.out.frozen _)
   have B0:=HR2.out
   have B1:=B0.set_ 0 (.slice iA S.inodes.length icap)
   have B2:=B1.set_ 1 (.slice oA S.opens.length ocap)
   have hrK:(fun b=>ins L rb b∨b=fb∨b=pb) rb:=.inl (by rw[HRB.out];exact ins.new _ _)
   have hst1:=HS2.out.far B0 (by decide) (by decide) (by decide) (by decide) 0 (.slice iA S.inodes.length icap)
   have hst2:=hst1.far B1 (by decide) (by decide) (by decide) (by decide) 1 (.slice oA S.opens.length ocap)
   have hst3:=hst2.far B2 (by decide) (by decide) (by decide) (by decide) 2 (.slice mA S.made.length mcap)
   have hmm:=(((HM2.out.set B0 hrK 0 (.slice iA S.inodes.length icap)).set B1 hrK 1 (.slice oA S.opens.length ocap)).set B2 hrK 2 (.slice mA S.made.length mcap))
   have hF0:Blk w2 fb 70 _:=Blk.of_heap (HK2.out.k.k.block fb (.inr (.inl rfl))) HA.out.f
   have hP0:Blk w2 pb 97 _:=Blk.of_heap (HK2.out.k.k.block pb (.inr (.inr rfl))) HA.out.p.1
   have nF:fb≠rb:=Blk.ne_ hF0 B0 (by decide)
   have nP:pb≠rb:=Blk.ne_ hP0 B0 (by decide)
   have hF3:=((hF0.far (p:=⟨rb,0,none⟩) nF (.slice iA S.inodes.length icap)).far (p:=⟨rb,1,none⟩) nF (.slice oA S.opens.length ocap)).far (p:=⟨rb,2,none⟩) nF (.slice mA S.made.length mcap)
   have hP3:=((hP0.far (p:=⟨rb,0,none⟩) nP (.slice iA S.inodes.length icap)).far (p:=⟨rb,1,none⟩) nP (.slice oA S.opens.length ocap)).far (p:=⟨rb,2,none⟩) nP (.slice mA S.made.length mcap)
   have hk0:Kw L w w2:=(Kw.below HL.out HB.out).trans (HK2.out.sub fun b hb=>.inl (ins.old hb))
   have hk3:=((hk0.setNew HL.out (q:=rb) (by rw[HRB.out];exact Nat.le_refl _) 0 (.slice iA S.inodes.length icap)).setNew HL.out (q:=rb) (by rw[HRB.out];exact Nat.le_refl _) 1 (.slice oA S.opens.length ocap)).setNew HL.out (q:=rb) (by rw[HRB.out];exact Nat.le_refl _) 2 (.slice mA S.made.length mcap)
   have hK: ∃K:Nat->Prop,(∀b,L b->K b)/\ (∀b,0<S.inodes.length->(Value.slice iA S.inodes.length icap).ownBlock=some b->K b)/\ (∀b,0<S.made.length->(Value.slice mA S.made.length mcap).ownBlock=some b->K b)/\FsAt K (((w2.setCell ⟨rb,0,none⟩ (.slice iA S.inodes.length icap)).setCell ⟨rb,1,none⟩ (.slice oA S.opens.length ocap)).setCell ⟨rb,2,none⟩ (.slice mA S.made.length mcap)) fb s pb M ps:=by
    obtain⟨K2,q1,q2,q3⟩:=HKK.out
    refine⟨fun b=>L b∨(0<S.inodes.length/\ (Value.slice iA S.inodes.length icap).ownBlock=some b)∨(0<S.made.length/\ (Value.slice mA S.made.length mcap).ownBlock=some b),fun b hb=>.inl hb,fun b h1 h2=>.inr (.inl ⟨h1,h2⟩),fun b h1 h2=>.inr (.inr ⟨h1,h2⟩),?_⟩
    refine⟨(((q3.set B0 (q1 _ hrK) 0 _).set B1 (q1 _ hrK) 1 _).set B2 (q1 _ hrK) 2 _).sub fun b hb=>?_,by simpa using hF3,⟨hP3,HA.out.p.2⟩,?_,?_,FsR.tl h⟩
    ·rcases hb with(hb | hb | hb) | hb
     ·exact q1 _ (.inl (ins.old hb))
     ·exact q2 _ (.inl hb.2)
     ·exact q2 _ (.inr (.inr hb.2))
     ·exact q1 _ (.inr hb)
    ·rintro(hb | hb | hb)
     ·exact FsR.nf h hb
     ·exact row_ne hst3.ino hb.1 hF3 (by decide) hb.2
     ·exact row_ne hst3.mad hb.1 hF3 (by decide) hb.2
    ·rintro(hb | hb | hb)
     ·exact FsR.np h hb
     ·exact row_ne hst3.ino hb.1 hP3 (by decide) hb.2
     ·exact row_ne hst3.mad hb.1 hP3 (by decide) hb.2
   refine bodyPost_ret (v:=.tuple #[.agg #[.slice iA S.inodes.length icap,.slice oA S.opens.length ocap,.slice mA S.made.length mcap],.int .i64 0]) ?_ rfl ⟨⟨_,_,_,_,S,rfl,hst3,HI2.out,hK⟩,⟨hmm.sub fun b hb=>?_,by simpa using hF3,⟨hP3,HA.out.p.2⟩,FsR.nf h,FsR.np h,FsR.tl h⟩,hk3⟩
   ·simp[results,Tryz.results19,go_sem,r0,r1,r2]
   ·rcases hb with hb | hb
    ·exact .inl (ins.old hb)
    ·exact .inr hb
theorem State_ok{L:Nat->Prop}{w:World}{fb s pb:Nat}{M:Mem}{ps:List PV}{m:Nat}(h:FsAt L w fb s pb M ps)(hidle: ∀c (hc:c<ps.length),ps[c].at_= .nilIface)(hok:M.ok m)(hm:m<=900000000)(hfit:M.fit){f:Nat}{g:Gt}(hg:gDir M f 1 ⟨[],[]⟩=g)(hgn:g.n<=1000000)(hdeep:Deep M f 1)(D:Int->ByteArray)
  (hfd: ∀c k:Nat,c<ps.length->k<4->0<=rd M.ws (fdw (c:Nat) (k:Nat))/\rd M.ws (fdw (c:Nat) (k:Nat))<=257) (hfs: ∀i∈g.fs,0<=i/\i<=257) (hD:DataC M s (fun i=>(filesO g.fs (opsTo M ps.length) i).isSome=true) D):
  Calls Tryz.prog 19 #[.pointer (some ⟨fb,0,none⟩)] w (StateR L w fb s pb M ps g D):=by
 refine(State_ok2 h hidle hok hm hfit hg hgn hdeep D hfd hfs hD).mono ?_
 rintro e w' ⟨⟨iv,ov,mv,ev,S,h1,h2,h3,-⟩,h4,h5⟩
 exact⟨⟨iv,ov,mv,ev,S,h1,h2,h3⟩,h4,h5⟩
end
section
open Go.RowKit
set_option maxHeartbeats 2000000
theorem sees_nobody: ∀(l:List Int) (M:Mem),M.sees (-1) l=M
 | [],_=>rfl
 | i::l,M=>by
  show(M.see (-1) i).sees (-1) l=M
  rw[Mem.see_neg,sees_nobody l M]
def fileD(b:Int×ByteArray×Bool)(pg:Nat->ByteArray):ByteArray:=(catP pg 0 ((b.2.1.size+15) / 16)).extract 0 b.2.1.size
def CDat(L:Nat->Prop)(w:World)(s:Nat)(M:Mem):World->Prop:=fun W=>MemAt L W s M/\Kw L w W
set_option maxRecDepth 1000000 in
theorem data_ok{L:Nat->Prop}{w:World}{s:Nat}{M:Mem}{m:Nat}(h:MemAt L w s M)(hok:M.ok m)(hm:m<=900000000){num:Int}(hn:1<=num/\num<=257)(hk:M.isBase num)(hz:rd M.ws (wd num 16)<=1000000000000)(hsz:(M.bas num).2.1.size<=256)(hq: ∀q:Nat,q<4->rd M.ws (wd num (17+q))=0){pg:Nat->ByteArray}(hpg: ∀p,0<=p->p< ((M.bas num).2.1.size+15) / 16->PageIs M num (M.bas num) p (pg p)):
  Calls Tryz.prog 91 #[.agg #[.pointer (some ⟨s,0,none⟩),.int .i64 (-1)],.int .i64 num] w fun e w'=>e= .returned (.string (fileD (M.bas num) pg))/\MemAt L w' s M/\Kw L w w':=by
 obtain⟨w1,hw1⟩: ∃w1,w1=w.alloc (.cells #[.pointer (some ⟨s,0,none⟩),.int .i64 (-1)] 168):=⟨_,rfl⟩
 have HB1:=lhi (show Below w.heap.size w w1 by rw[hw1];exact(Below.refl _ _).alloc (Nat.le_refl _) _)
 have HX1:=lhi (show Blk w1 w.heap.size 168 _ by rw[hw1];exact Blk.new w 168 #[.pointer (some ⟨s,0,none⟩),.int .i64 (-1)])
 have HL:=lhi h.bd
 have HC:=lhi (call_wide (h.below HB1.out) fun K hK=>(base_calls hK hok (by omega) (.inl rfl) hn hk hz).mono (R':=fun e w'=>e= .returned (baseV (M.bas num))/\MemAt K w' s M/\Kp K w1 w') (by rintro e w' ⟨h1,h2,h3⟩;rw[Mem.see_neg]at h2;exact⟨h1,h2,h3⟩))
 have HLEN:(M.bas num).2.1.size<= (catP pg 0 (((M.bas num).2.1.size+15) / 16)).size:=by
  rw[catP_len _ (fun p h1 h2=>(hpg p h1 (by omega)).len)];omega
 have HPG:=lhi (fun(K:Nat->Prop) (W:World) (hK:MemAt K W s M)=>(pages_calls hK hok (by omega) (.inl rfl) hn (f:=0) (u:=((M.bas num).2.1.size+15) / 16) (by omega) (by omega) hq (b:=M.bas num) (by omega) hpg).mono (R':=fun e w'=>e= .returned (.string (catP pg 0 (((M.bas num).2.1.size+15) / 16)))/\MemAt K w' s M/\Kp K W w') (by rintro e w' ⟨h1,h2,h3⟩;rw[sees_nobody]at h2;exact⟨h1,h2,h3⟩))
 have HPO:=lhi (fun W=>pagesOf_calls (M.bas num).2.1.size (by omega) W)
 unfold fileD
 obtain⟨bv,hbv⟩: ∃x,M.bas num=x:=⟨_,rfl⟩
 rw[hbv]at HC HPG HLEN HPO hsz⊢
 obtain⟨v,d,hd⟩:=bv
 simp only at HLEN HPO hsz⊢
 simp only[baseV]at HC HPG
 obtain⟨tx,htx⟩: ∃x,catP pg 0 ((d.size+15) / 16)=x:=⟨_,rfl⟩
 rw[htx]at HPG HLEN⊢
 obtain⟨np,hnp⟩: ∃x,((((d.size+15) / 16:Nat)):Int)=x:=⟨_,rfl⟩
 rw[hnp]at HPO HPG
 clear h hok hk hz hbv hq hpg htx hnp
 go_enter Tryz.func91,Tryz.ntmps91
 go_upto_region 2 with(rw[<-hw1];go_at_call 139;refine HC.out.mono ?_;rintro e w2 ⟨rfl,hm2,hk2⟩)
 have HM2:=lhi hm2
 have HK2:=lhi ((Kw.below HL.out HB1.out).trans hk2)
 have HX2:=lhi (hk2.blk HX1.out (by decide))
 obtain⟨vb,hvb⟩: ∃x,x=w.heap.size:=⟨_,rfl⟩
 rw[<-hvb]at HX2⊢
 clear hvb hm2 hk2 HX1
 obtain⟨wy,hwy⟩: ∃wy,wy=w2.alloc (.cells #[.int .i64 v,.string d,.bool hd] 142):=⟨_,rfl⟩
 have HB2:=lhi (show Below w2.heap.size w2 wy by rw[hwy];exact(Below.refl _ _).alloc (Nat.le_refl _) _)
 have HBX:=lhi (show Blk wy w2.heap.size 142 _ by rw[hwy];exact Blk.new w2 142 #[.int .i64 v,.string d,.bool hd])
 rw[<-hwy]
 obtain⟨bb,hbb⟩: ∃x,x=w2.heap.size:=⟨_,rfl⟩
 rw[<-hbb]at HBX⊢
 clear hbb hwy
 have HXY:=lhi (Blk.of_heap (HB2.out.block _ HX2.out.lt) HX2.out)
 have hC0:CDat L wy s M wy.drew:=⟨(HM2.out.below HB2.out).drew,(Kw.refl L wy).drew⟩
 haveI:Nonempty (WIn (CDat L wy s M)):=⟨⟨_,hC0⟩⟩
 have HV0:=lhi (fun(x:WIn (CDat L wy s M))=>show x.v.cell? ⟨vb,0,none⟩=some (.pointer (some ⟨s,0,none⟩))from(x.h.2.blk HXY.out (by decide)).cell 0)
 have HV1:=lhi (fun(x:WIn (CDat L wy s M))=>show x.v.cell? ⟨vb,1,none⟩=some (.int .i64 (-1))from(x.h.2.blk HXY.out (by decide)).cell 1)
 have HC0:=lhi (fun(x:WIn (CDat L wy s M))=>show x.v.cell? ⟨bb,0,none⟩=some (.int .i64 v)from(x.h.2.blk HBX.out (by decide)).cell 0)
 have HC1:=lhi (fun(x:WIn (CDat L wy s M))=>show x.v.cell? ⟨bb,1,none⟩=some (.string d)from(x.h.2.blk HBX.out (by decide)).cell 1)
 have HC2:=lhi (fun(x:WIn (CDat L wy s M))=>show x.v.cell? ⟨bb,2,none⟩=some (.bool hd)from(x.h.2.blk HBX.out (by decide)).cell 2)
 have HQO:=lhi (fun(x:WIn (CDat L wy s M))=>Calls.win (C:=CDat L wy s M) ((HPO.out x.v).mono (R':=fun e w'=>e= .returned (.int .i64 np)/\CDat L wy s M w') (by rintro e w' ⟨h1,rfl⟩;exact⟨h1,x.h⟩)))
 have HQP:=lhi (fun(x:WIn (CDat L wy s M))=>Calls.win (C:=CDat L wy s M) ((call_wide x.h.1 fun K hK=>HPG.out K x.v hK).mono (R':=fun e w'=>e= .returned (.string tx)/\CDat L wy s M w') (by rintro e w' ⟨h1,h2,h3⟩;exact⟨h1,h2,x.h.2.trans h3⟩)))
 have v0:=HV0.out
 have v1:=HV1.out
 have c0:=HC0.out
 have c1:=HC1.out
 have c2:=HC2.out
 refine wp_region_in (C:=CDat L wy s M) (by kernel_rfl) (by kernel_rfl) hC0 ?_
 repeat (go_big_quiet_step (first | (go_at_call 141;exact HQO.out _) | (go_at_call 140;exact HQP.out _)))
 refine wpQuiet_nil ?_
 rintro wx ⟨x5,h5⟩
 have hbx:=x5.h
 rw[<-h5]at hbx
 clear h5 x5 v0 v1 c0 c1 c2
 go_wp2_with (fail)
 go_ret
 exact⟨rfl,hbx.1,HK2.out.trans ((Kw.below HM2.out.bd HB2.out).trans hbx.2)⟩
end
end Go.Proofs.YtkebjgebkneijaaGreat
