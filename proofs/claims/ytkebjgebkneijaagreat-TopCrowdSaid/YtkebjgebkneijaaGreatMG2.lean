/- Texts of one's own that a claim's last text rests on: CkNum CkBodS CkMap CkQ CkFndS. -/
import Derived.Test.YtkebjgebkneijaaGreatMG1
import Derived.Deep.RegionHeldLaw
import Derived.ArgAppend
set_option linter.unusedVariables false
set_option linter.unusedSimpArgs false
namespace Go.Proofs.YtkebjgebkneijaaGreat
section
open Go.RowKit
set_option maxHeartbeats 1000000
def nm0:ByteArray:=⟨#[]⟩
def one(k x:Int)(s:ByteArray)(b:Bool):List Fnd:=if b then [⟨k,x,s⟩]else []
theorem one_len(k x:Int)(s:ByteArray)(b:Bool):(one k x s b).length<=1:=by unfold one;split <;> simp
theorem flat_len{A:Type}{f:Nat->List A}{c:Nat}(h: ∀i,(f i).length<=c): ∀k,((List.range k).flatMap f).length<=k*c:=by
 intro k
 induction k with
 | zero=>simp
 | succ k ih=>
  rw[List.range_succ,List.flatMap_append,List.length_append,Nat.succ_mul]
  have:=h k
  simp only[List.flatMap_cons,List.flatMap_nil,List.append_nil]
  omega
theorem flat_succ{A:Type}(f:Nat->List A)(k:Nat):(List.range (k+1)).flatMap f=(List.range k).flatMap f++f k:=by
 rw[List.range_succ,List.flatMap_append];simp
theorem bool_tf(b:Bool):b=true∨b=false:=by cases b <;> simp
def rootB(S:St):Bool:=decide (S.inodes.length=0)||S.num 0 != 1||!S.dir 0
def b1(S:St)(i:Nat):Bool:=decide (S.num i<1)|| (decide (0<i)&&decide (S.num i<=S.num (i - 1)))
def b8(S:St)(i:Nat):Bool:=S.num i != 1&& (decide (coreF (S.num i)<0)||decide ((S.made.length:Int)<=coreF (S.num i))||decide (S.mad (coreF (S.num i)).toNat<=madeF (S.num i)))
def numAt(S:St)(i:Nat):List Fnd:=one 1 (S.num i) nm0 (b1 S i)++one 8 (S.num i) nm0 (b8 S i)
def manyB(S:St):Bool:=decide (S.made.length<1)||decide (8<S.made.length)
def madB(S:St)(i:Nat):Bool:=decide (S.mad i<0)||decide (32<S.mad i)
def numbersF(S:St):List Fnd:=one 1 1 nm0 (rootB S)++(List.range S.inodes.length).flatMap (numAt S)++one 8 (-1) nm0 (manyB S)++(List.range S.made.length).flatMap (fun(i:Nat)=>one 8 (i:Int) nm0 (madB S i))
theorem numAt_len(S:St)(i:Nat):(numAt S i).length<=2:=by
 unfold numAt
 have:=one_len 1 (S.num i) nm0 (b1 S i)
 have:=one_len 8 (S.num i) nm0 (b8 S i)
 rw[List.length_append];omega
def At(w0 w wx:World)(c sb:Nat)(iv ov mv:Value)(D:List Fnd):Prop:=Ck w0 wx c sb iv ov mv D/\KeepsT w wx
theorem At.start{w0 w:World}{c sb:Nat}{iv ov mv:Value}{D:List Fnd}(h:Ck w0 w c sb iv ov mv D):At w0 w w c sb iv ov mv D:=⟨h,KeepsT.refl _⟩
theorem At.alloc{w0 w wx:World}{c sb:Nat}{iv ov mv:Value}{D:List Fnd}(h:At w0 w wx c sb iv ov mv D)(o:Obj):At w0 w (wx.alloc o) c sb iv ov mv D:=⟨h.1.alloc o,h.2.alloc o⟩
theorem At.drewN{w0 w wx:World}{c sb:Nat}{iv ov mv:Value}{D:List Fnd}(h:At w0 w wx c sb iv ov mv D)(n:Nat):At w0 w (wx.drewN n) c sb iv ov mv D:=⟨h.1.drewN n,h.2.drewN n⟩
theorem At.below{w0 w wx wy:World}{c sb:Nat}{iv ov mv:Value}{D:List Fnd}(h:At w0 w wx c sb iv ov mv D)(hb:Below wx.heap.size wx wy):At w0 w wy c sb iv ov mv D:=⟨h.1.below hb,h.2.below hb⟩
theorem At.to{w0 w wx wy:World}{c sb:Nat}{iv ov mv:Value}{D D':List Fnd}(h:At w0 w wx c sb iv ov mv D)(h1:Ck w0 wy c sb iv ov mv D')(h2:KeepsT wx wy):At w0 w wy c sb iv ov mv D':=⟨h1,h.2.trans h2⟩
theorem one_true(D:List Fnd)(k x:Int)(s:ByteArray){b:Bool}(h:b=true):D++[⟨k,x,s⟩]=D++one k x s b:=by subst h;rfl
theorem one_false(D:List Fnd)(k x:Int)(s:ByteArray){b:Bool}(h:b=false):D=D++one k x s b:=by subst h;simp[one]
set_option maxRecDepth 1000000 in
theorem numbers_calls{w0 w:World}{c sb:Nat}{iv ov mv:Value}{ev:Nat->Value}{S:St}{D:List Fnd}(h:Ck w0 w c sb iv ov mv D)(hS:StM w0 iv ov mv ev S)(hs:S.small)(hD:D.length<=10000000):
  Calls Tryz.prog 51 #[.pointer (some ⟨c,0,none⟩)] w fun e w'=>e= .returned (.tuple #[])/\At w0 w w' c sb iv ov mv (D++numbersF S):=by
 obtain⟨A,cap,rfl⟩:=hS.ino.form
 obtain⟨MA,mcap,rfl⟩:=hS.mad.form
 have hn:=hs.ni
 have hm:=hs.nm
 have HC:=lhi h
 have HS:=lhi hS
 have HSm:=lhi hs
 clear h hS hs
 have HNF:=lhi (show numbersF S=one 1 1 nm0 (rootB S)++(List.range S.inodes.length).flatMap (numAt S)++one 8 (-1) nm0 (manyB S)++(List.range S.made.length).flatMap (fun(i:Nat)=>one 8 (i:Int) nm0 (madB S i))from rfl)
 obtain⟨rb,hrb⟩: ∃b,b=rootB S:=⟨_,rfl⟩
 rw[<-hrb]at HNF
 have HRB:=lhi (show rb=(decide (S.inodes.length=0)||S.num 0 != 1||!S.dir 0)from hrb)
 clear hrb
 obtain⟨n,hnn⟩: ∃n,S.inodes.length=n:=⟨_,rfl⟩
 obtain⟨m,hmm⟩: ∃n,S.made.length=n:=⟨_,rfl⟩
 rw[hnn]at hn HNF HC HS HRB
 rw[hmm]at hm HNF HC HS
 have c0:=HC.out.c0
 have s0:=HC.out.s0
 have HI:=lhi (show RowAt w0 (.slice A n cap) n 4 (inoC S ev)from hnn▸HS.out.ino)
 have HNN:=lhi hnn
 have HMM:=lhi hmm
 clear hnn hmm
 go_enter Tryz.func51,Tryz.ntmps51
 go_upto_region 1 with(fail)
 go_cut [31] (fun s wx=>s= .bool rb/\w=wx)
 case first=>
  by_cases h0:n=0
  ·subst h0
   go_wp2_with (fail)
   go_meet
   case rel=>exact⟨by rw[HRB.out];rfl,rfl⟩
  ·obtain⟨-,hcap,g,off,rfl,hcell⟩:=(HI.out.keep HC.out.bel).at_ (i:=0) (by omega)
   have q0:w.cell? ⟨g,off,none⟩=some (.int .i64 (S.num 0)):=by have:=hcell 0 (by omega);rw[Nat.zero_mul]at this;exact this
   have q1:w.cell? ⟨g,off+1,none⟩=some (.bool (S.dir 0)):=by have:=hcell 1 (by omega);rw[Nat.zero_mul]at this;exact this
   clear hcell
   have h1:((n:Int)==0)=false:=by simpa using h0
   have h2:0<n:=by omega
   by_cases e:S.num 0=1
   ·have e1:(S.num 0 != 1)=false:=by simp[e]
    have HE:=lhi e
    clear e
    go_wp2_with (fail)
    go_meet
    case rel=>exact⟨by rw[HRB.out,e1];simp[h0],rfl⟩
   ·have e1:(S.num 0 != 1)=true:=by simp[e]
    go_wp2_with (fail)
    go_meet
    case rel=>exact⟨by rw[HRB.out,e1];simp[h0],rfl⟩
 case rest=>
  obtain⟨rfl,rfl⟩:=hcut
  go_upto_if 31 with(fail)
  go_cut [] (fun wx=>At w0 w wx c sb (.slice A n cap) ov (.slice MA m mcap) (D++one 1 1 nm0 rb))
  case first=>
   rcases bool_tf rb with rfl | rfl
   ·have HA:=lhi (add_calls HC.out (by omega) 1 1 nm0)
    have HD:=lhi (one_true D 1 1 nm0 rfl)
    go_wp2_with (fail)
    refine HA.out.mono ?_
    rintro e w1 ⟨rfl,h1,h2⟩
    go_wp2_with (fail)
    go_meet
    case rel=>exact⟨HD.out▸h1,h2⟩
   ·have HD:=lhi (one_false D 1 1 nm0 rfl)
    go_wp2_with (fail)
    go_meet
    case rel=>exact HD.out▸At.start HC.out
  case rest=>
   have HA1:=lhi hcut
   have HL1:=lhi (show(D++one 1 1 nm0 rb).length<=10000001 by rw[List.length_append];have:=one_len 1 1 nm0 rb;omega)
   clear hcut HC c0 s0
   obtain⟨D1,hD1⟩: ∃D1,D1=D++one 1 1 nm0 rb:=⟨_,rfl⟩
   rw[<-hD1]at HA1 HL1
   have HD1:=lhi hD1.symm
   clear hD1
   go_wp2_with (fail)
   go_loopw [36] (fun i wr=>∃k:Nat,i= .int .i64 k/\k<=n/\At w0 w wr c sb (.slice A n cap) ov (.slice MA m mcap) (D1++(List.range k).flatMap (numAt S))) (fun i _=>n - (intOf i).toNat)
   case atStart=>exact⟨0,rfl,by omega,by simpa using HA1.out⟩
   case round=>
    obtain⟨k,rfl,hk,hat⟩:=hrel
    have HAT:=lhi hat
    have HLK:=lhi (show(D1++(List.range k).flatMap (numAt S)).length<=10003001 by rw[List.length_append];have:=flat_len (numAt_len S) k;have:=HL1.out;omega)
    have HFS:=lhi (flat_succ (numAt S) k)
    clear hat HA1
    by_cases hp:k<n
    ·obtain⟨-,hcap,g,off,rfl,hcell⟩:=(HI.out.keep HAT.out.1.bel).at_ hp
     have q0:wr.cell? ⟨g,off+k*4,none⟩=some (.int .i64 (S.num k)):=hcell 0 (by omega)
     have q1:wr.cell? ⟨g,off+k*4+1,none⟩=some (.bool (S.dir k)):=hcell 1 (by omega)
     have q2:wr.cell? ⟨g,off+k*4+2,none⟩=some (ev k):=hcell 2 (by omega)
     have q3:wr.cell? ⟨g,off+k*4+3,none⟩=some (.string (S.dat k)):=hcell 3 (by omega)
     have hp1:(k:Int)<n:=by omega
     obtain⟨EA,ecap,hev⟩:=(HS.out.ent k (by rw[HNN.out];exact hp)).form
     generalize hne:S.ne k=ne at hev
     rw[hev]at q2
     clear hcell hev hne
     have HX:=lhi (Blk.new wr 93 #[.int .i64 (S.num k),.bool (S.dir k),.slice EA ne ecap,.string (S.dat k)])
     generalize ho:Obj.cells #[Value.int IntKind.i64 (S.num k),Value.bool (S.dir k),Value.slice EA ne ecap,Value.string (S.dat k)] 93=OX at HX
     have HO:=lhi ho
     have HAX:=lhi (HAT.out.alloc OX)
     obtain⟨bb,hbb⟩: ∃b,b=b1 S k:=⟨_,rfl⟩
     have HBB:=lhi hbb
     clear hbb
     go_upto_region 6 with(fail)
     go_cut [58] (fun s wx=>s= .bool bb/\ ∃d,wx=(wr.alloc OX).drewN d)
     case first=>
      have hx0:(wr.alloc OX).cell? ⟨wr.heap.size,0,none⟩=some (.int .i64 (S.num k)):=HX.out.cell 0
      clear q1 q2 q3
      clear ho
      by_cases h1:S.num k<1
      ·clear q0
       generalize wr.alloc OX=wy at*
       go_quiet (fail)
       go_wp2_with (fail)
       go_meet
       case rel=>exact⟨by rw[HBB.out];simp[b1,h1],_,rfl⟩
      ·rcases k with _ | k
       ·clear q0
        generalize wr.alloc OX=wy at*
        go_quiet (fail)
        go_wp2_with (fail)
        go_meet
        case rel=>exact⟨by rw[HBB.out];simp[b1,h1],_,rfl⟩
       ·obtain⟨-,-,g',off',e,hcell⟩:=(HI.out.keep (HAX.out.1.bel)).at_ (i:=k) (by omega)
        injection e with e
        injection e with e1 e2
        subst e1 e2
        have p0:(wr.alloc OX).cell? ⟨g,off+k*4,none⟩=some (.int .i64 (S.num k)):=hcell 0 (by omega)
        clear q0 hcell
        have h2:(0:Int)< ((k+1:Nat):Int):=by omega
        generalize wr.alloc OX=wy at*
        go_quiet (fail)
        go_wp2_with (fail)
        go_meet
        case rel=>exact⟨by rw[HBB.out];simp[b1];omega,_,rfl⟩
     case rest=>
      obtain⟨rfl,d,rfl⟩:=hcut
      have HAY:=lhi (HAX.out.drewN d)
      have HXY:=lhi (show Blk ((wr.alloc OX).drewN d) wr.heap.size 93 #[.int .i64 (S.num k),.bool (S.dir k),.slice EA ne ecap,.string (S.dat k)]from HX.out)
      clear q0 q1 q2 q3 HX HO ho HAX HAT
      generalize (wr.alloc OX).drewN d=wy at*
      generalize wr.heap.size=xg at*
      have hnb:=HSm.out.num k
      have HNA:=lhi (show numAt S k=one 1 (S.num k) nm0 bb++one 8 (S.num k) nm0 (b8 S k)by unfold numAt;rw[HBB.out])
      obtain⟨cc,hcc⟩: ∃b,b=b8 S k:=⟨_,rfl⟩
      rw[<-hcc]at HNA
      have HCC:=lhi (show cc=(S.num k != 1&& (decide (coreF (S.num k)<0)||decide ((m:Int)<=coreF (S.num k))||decide (S.mad (coreF (S.num k)).toNat<=madeF (S.num k))))by rw[hcc,b8,HMM.out])
      clear hcc HBB
      generalize S.num k=x at*
      obtain⟨D2,hD2⟩: ∃D2,D2=D1++(List.range k).flatMap (numAt S):=⟨_,rfl⟩
      rw[<-hD2]at HAY HLK
      have HD2:=lhi hD2
      clear hD2
      go_upto_if 58 with(fail)
      go_cut [] (fun wx=>At w0 w wx c sb (.slice (some ⟨g,off,none⟩) n cap) ov (.slice MA m mcap) (D2++one 1 x nm0 bb)/\Blk wx xg 93 #[.int .i64 x,.bool (S.dir k),.slice EA ne ecap,.string (S.dat k)])
      case first=>
       rcases bool_tf bb with rfl | rfl
       ·have x0:wy.cell? ⟨xg,0,none⟩=some (.int .i64 x):=HXY.out.cell 0
        have HA:=lhi (add_calls HAY.out.1 (by have:=HLK.out;omega) 1 x nm0)
        go_wp2_with (fail)
        refine HA.out.mono ?_
        rintro e w1 ⟨rfl,h1,h2⟩
        go_wp2_with (fail)
        go_meet
        case rel=>exact⟨⟨h1,HAY.out.2.trans h2⟩,h2.blk HXY.out (by decide) (by decide)⟩
       ·have HD:=lhi (one_false D2 1 x nm0 rfl)
        go_wp2_with (fail)
        go_meet
        case rel=>exact⟨HD.out▸HAY.out,HXY.out⟩
      case rest=>
       have HAZ:=lhi hcut.1
       have HXZ:=lhi hcut.2
       have HLZ:=lhi (show(D2++one 1 x nm0 bb).length<=10003002 by rw[List.length_append];have:=one_len 1 x nm0 bb;have:=HLK.out;omega)
       clear hcut HAY HXY
       have x0:wc.cell? ⟨xg,0,none⟩=some (.int .i64 x):=HXZ.out.cell 0
       have HCO:=lhi (core_calls x hnb wc)
       generalize hD3:D2++one 1 x nm0 bb=D3 at*
       have HD3:=lhi hD3
       clear hD3
       generalize hq:coreF x=q at*
       have HQ:=lhi hq
       clear hq
       go_upto_region 9 with(go_at_call 102;refine HCO.out.mono ?_;rintro e w' ⟨rfl,hw⟩;obtain rfl:=hw.symm)
       go_cut [100] (fun s wx=>s= .bool cc/\ ∃d,wx=wc.drewN d)
       case first=>
        have c0:=HAZ.out.1.c0
        have s2:=HAZ.out.1.s2
        by_cases h1:x=1
        ·have h1':(x != 1)=false:=by simp[h1]
         have HH:=lhi h1
         clear h1
         go_quiet (fail)
         go_wp2_with (fail)
         go_meet
         case rel=>exact⟨by rw[HCC.out,h1'];simp,_,rfl⟩
        ·have h1':(x != 1)=true:=by simp[h1]
         by_cases h2:q<0
         ·go_quiet (fail)
          go_wp2_with (fail)
          go_meet
          case rel=>exact⟨by rw[HCC.out,h1'];simp[h2],_,rfl⟩
         ·by_cases h3:(m:Int)<=q
          ·go_quiet (fail)
           go_wp2_with (fail)
           go_meet
           case rel=>exact⟨by rw[HCC.out,h1'];simp[h3],_,rfl⟩
          ·obtain⟨-,-,mg,moff,rfl,hcell⟩:=(HS.out.mad.keep HAZ.out.1.bel).at_ (i:=q.toNat) (by rw[HMM.out];omega)
           have m0:wc.cell? ⟨mg,moff+q.toNat,none⟩=some (.int .i64 (S.mad q.toNat)):=by have:=hcell 0 (by omega);rw[Nat.mul_one]at this;exact this
           have hq0:0<=q:=by omega
           have hq1:q< (m:Int):=by omega
           have hx2:2<=x:=by
            have:=HQ.out
            unfold coreF at this
            by_cases h:x<2
            ·rw[if_pos h]at this;omega
            ·omega
           have HM:=lhi (fun W=>made_calls x ⟨hx2,hnb.2⟩ W)
           generalize S.mad q.toNat=z at*
           generalize madeF x=y at*
           clear hcell
           have h3':decide ((m:Int)<=q)=false:=decide_eq_false h3
           go_quiet ((go_at_call 103;exact Calls.quiet_of_same (HM.out _)))
           go_wp2_with (fail)
           go_meet
           case rel=>exact⟨by rw[HCC.out,h1'];simp;omega,_,rfl⟩
       case rest=>
        obtain⟨rfl,d,rfl⟩:=hcut
        have HAQ:=lhi (HAZ.out.drewN d)
        have HXQ:=lhi (show Blk (wc.drewN d) xg 93 #[.int .i64 x,.bool (S.dir k),.slice EA ne ecap,.string (S.dat k)]from HXZ.out)
        clear HAZ HXZ x0 HCO HCC
        generalize wc.drewN d=wq at*
        have HE:=lhi (show D1++List.flatMap (numAt S) (List.range (k+1))=D3++one 8 x nm0 cc by rw[HFS.out,HNA.out,<-HD3.out,HD2.out];simp only[List.append_assoc])
        go_upto_if 100 with(fail)
        rcases bool_tf cc with rfl | rfl
        ·have x0:wq.cell? ⟨xg,0,none⟩=some (.int .i64 x):=HXQ.out.cell 0
         have HA:=lhi (add_calls HAQ.out.1 (by have:=HLZ.out;omega) 8 x nm0)
         go_wp2_with (fail)
         refine HA.out.mono ?_
         rintro e w1 ⟨rfl,h1,h2⟩
         have HR:=lhi (HAQ.out.to h1 h2)
         clear h1 h2
         go_wp2_with (fail)
         go_roundw
         case rel=>exact⟨k+1,by go_num,by omega,by rw[HE.out];exact HR.out⟩
         case measure=>
          simp only[intOf]
          omega
        ·have HD:=lhi (one_false D3 8 x nm0 rfl)
         go_wp2_with (fail)
         go_roundw
         case rel=>exact⟨k+1,by go_num,by omega,by rw[HE.out,<-HD.out];exact HAQ.out⟩
         case measure=>
          simp only[intOf]
          omega
    ·have e:k=n:=by omega
     subst e
     have HL3:=HLK
     obtain⟨D2,hD2⟩: ∃D2,D2=D1++(List.range k).flatMap (numAt S):=⟨_,rfl⟩
     rw[<-hD2]at HAT HL3
     have HD2:=lhi hD2.symm
     clear hD2 HLK HFS
     obtain⟨cc,hcc⟩: ∃b,b=manyB S:=⟨_,rfl⟩
     rw[<-hcc]at HNF
     have HCC:=lhi (show cc=(decide (m<1)||decide (8<m))by rw[hcc,manyB,HMM.out])
     clear hcc
     have c0:=HAT.out.1.c0
     have s2:=HAT.out.1.s2
     go_upto_region 12 with(fail)
     go_cut [125] (fun s wx=>s= .bool cc/\wr=wx)
     case first=>
      by_cases h1:(m:Int)<1
      ·go_wp2_with (fail)
       go_meet
       case rel=>exact⟨by rw[HCC.out,decide_eq_true (show m<1 by omega)];rfl,rfl⟩
      ·go_wp2_with (fail)
       go_meet
       case rel=>exact⟨by rw[HCC.out,decide_eq_false (show ¬ m<1 by omega)];simp;omega,rfl⟩
     case rest=>
      obtain⟨rfl,rfl⟩:=hcut
      go_upto_if 125 with(fail)
      go_cut [] (fun wx=>At w0 w wx c sb (.slice A k cap) ov (.slice MA m mcap) (D2++one 8 (-1) nm0 cc))
      case first=>
       rcases bool_tf cc with rfl | rfl
       ·have HA:=lhi (add_calls HAT.out.1 (by have:=HL3.out;omega) 8 (-1) nm0)
        go_wp2_with (fail)
        refine HA.out.mono ?_
        rintro e w1 ⟨rfl,h1,h2⟩
        go_wp2_with (fail)
        go_meet
        case rel=>exact HAT.out.to h1 h2
       ·have HD:=lhi (one_false D2 8 (-1) nm0 rfl)
        go_wp2_with (fail)
        go_meet
        case rel=>exact HD.out▸HAT.out
      case rest=>
       have HAU:=lhi hcut
       have HLU:=lhi (show(D2++one 8 (-1) nm0 cc).length<=10003002 by rw[List.length_append];have:=one_len 8 (-1) nm0 cc;have:=HL3.out;omega)
       obtain⟨D3,hD3⟩: ∃D3,D3=D2++one 8 (-1) nm0 cc:=⟨_,rfl⟩
       rw[<-hD3]at HAU HLU
       have HD3:=lhi hD3.symm
       clear hD3 hcut c0 s2 HAT
       have c0:=HAU.out.1.c0
       have s2:=HAU.out.1.s2
       go_wp2_with (fail)
       clear c0 s2
       go_loopw [136] (fun i wr=>∃j:Nat,i= .int .i64 j/\j<=m/\At w0 w wr c sb (.slice A k cap) ov (.slice MA m mcap) (D3++(List.range j).flatMap (fun(i:Nat)=>one 8 (i:Int) nm0 (madB S i)))) (fun i _=>m - (intOf i).toNat)
       case atStart=>exact⟨0,rfl,by omega,by simpa using HAU.out⟩
       case round=>
        obtain⟨j,rfl,hj,hat⟩:=hrel
        have HAT:=lhi hat
        have HLK:=lhi (show(D3++(List.range j).flatMap (fun(i:Nat)=>one 8 (i:Int) nm0 (madB S i))).length<=10004002 by rw[List.length_append];have:=flat_len (c:=1) (f:=fun(i:Nat)=>one 8 (i:Int) nm0 (madB S i)) (fun _=>one_len _ _ _ _) j;have:=HLU.out;omega)
        have HFS:=lhi (flat_succ (fun(i:Nat)=>one 8 (i:Int) nm0 (madB S i)) j)
        clear hat HAU
        by_cases hp:j<m
        ·obtain⟨-,hcap,g,off,rfl,hcell⟩:=(HS.out.mad.keep HAT.out.1.bel).at_ (i:=j) (by rw[HMM.out];exact hp)
         have q0:wr.cell? ⟨g,off+j,none⟩=some (.int .i64 (S.mad j)):=by have:=hcell 0 (by omega);rw[Nat.mul_one]at this;exact this
         have hp1:(j:Int)<m:=by omega
         clear hcell
         obtain⟨bb,hbb⟩: ∃b,b=madB S j:=⟨_,rfl⟩
         have HBB:=lhi (show bb=(decide (S.mad j<0)||decide (32<S.mad j))from hbb)
         have HFT:=lhi (show D3++List.flatMap (fun(i:Nat)=>one 8 (i:Int) nm0 (madB S i)) (List.range (j+1))=(D3++List.flatMap (fun(i:Nat)=>one 8 (i:Int) nm0 (madB S i)) (List.range j))++one 8 (j:Int) nm0 bb by rw[HFS.out,List.append_assoc,hbb])
         clear hbb HFS
         generalize S.mad j=z at*
         go_upto_region 17 with(fail)
         go_cut [146] (fun s wx=>s= .bool bb/\wr=wx)
         case first=>
          by_cases h1:z<0
          ·go_wp2_with (fail)
           go_meet
           case rel=>exact⟨by rw[HBB.out];simp[h1],rfl⟩
          ·go_wp2_with (fail)
           go_meet
           case rel=>exact⟨by rw[HBB.out];simp;omega,rfl⟩
         case rest=>
          obtain⟨rfl,rfl⟩:=hcut
          rcases bool_tf bb with rfl | rfl
          ·have HA:=lhi (add_calls HAT.out.1 (by have:=HLK.out;omega) 8 (j:Int) nm0)
           go_wp2_with (fail)
           refine HA.out.mono ?_
           rintro e w1 ⟨rfl,h1,h2⟩
           have HR:=lhi (HAT.out.to h1 h2)
           clear h1 h2
           go_wp2_with (fail)
           go_roundw
           case rel=>exact⟨j+1,by go_num,by omega,by rw[HFT.out];exact HR.out⟩
           case measure=>
            simp only[intOf]
            omega
          ·have HD:=lhi (one_false (D3++List.flatMap (fun(i:Nat)=>one 8 (i:Int) nm0 (madB S i)) (List.range j)) 8 (j:Int) nm0 rfl)
           go_wp2_with (fail)
           go_roundw
           case rel=>exact⟨j+1,by go_num,by omega,by rw[HFT.out,<-HD.out];exact HAT.out⟩
           case measure=>
            simp only[intOf]
            omega
        ·have e:j=m:=by omega
         subst e
         go_wp2_with (fail)
         go_end0
         refine⟨rfl,?_⟩
         have:=HAT.out
         rw[HNN.out,HMM.out,HNF.out]
         rw[<-HD3.out,<-HD2.out,<-HD1.out]at this
         simpa only[List.append_assoc]using this
end
section
open Go.RowKit
set_option maxHeartbeats 1000000
def nle(s t:ByteArray):Bool:=Op.bytesLess s.toList t.toList||s.toList==t.toList
def b6(S:St)(i:Nat):Bool:=(S.dir i&&!(S.dat i).toList.isEmpty)|| (!S.dir i&&decide (0<S.ne i))||decide (256< (S.dat i).size)
def b2(S:St)(i k:Nat):Bool:=S.enu i k==1|| (firstIx S (S.enu i k)).isNone
def b5(S:St)(i k:Nat):Bool:=!(ncheck (S.enm i k)==0)|| (decide (0<k)&&nle (S.enm i k) (S.enm i (k - 1)))
def cnt(S:St)(i k:Nat)(q:Nat):Nat:=((List.range k).filter fun j=>nbucket (S.enm i j)==q).length
def b7(S:St)(i k:Nat):Bool:=cnt S i k (nbucket (S.enm i k))==4
def entAt(S:St)(i k:Nat):List Fnd:=one 2 (S.num i) (S.enm i k) (b2 S i k)++one 5 (S.num i) (S.enm i k) (b5 S i k)++one 7 (S.num i) nm0 (b7 S i k)
def bodyAt(S:St)(i:Nat):List Fnd:=one 6 (S.num i) nm0 (b6 S i)++if S.dir i then(List.range (S.ne i)).flatMap (entAt S i)else []
def bodiesF(S:St):List Fnd:=(List.range S.inodes.length).flatMap (bodyAt S)
theorem entAt_len(S:St)(i k:Nat):(entAt S i k).length<=3:=by
 unfold entAt
 have:=one_len 2 (S.num i) (S.enm i k) (b2 S i k)
 have:=one_len 5 (S.num i) (S.enm i k) (b5 S i k)
 have:=one_len 7 (S.num i) nm0 (b7 S i k)
 rw[List.length_append,List.length_append];omega
theorem bodyAt_len(S:St)(hs:S.small)(i:Nat):(bodyAt S i).length<=3001:=by
 unfold bodyAt
 have h1:=one_len 6 (S.num i) nm0 (b6 S i)
 have h2:=flat_len (entAt_len S i) (S.ne i)
 have h3:=hs.en i
 rw[List.length_append]
 split
 ·omega
 ·simp;omega
theorem cnt_le(S:St)(i k q:Nat):cnt S i k q<=k:=by
 unfold cnt
 have:=List.length_filter_le (fun j=>nbucket (S.enm i j)==q) (List.range k)
 simpa using this
theorem cnt_succ(S:St)(i k q:Nat):cnt S i (k+1) q=cnt S i k q+if nbucket (S.enm i k)=q then 1 else 0:=by
 unfold cnt
 rw[List.range_succ,List.filter_append,List.length_append]
 congr 1
 by_cases h:nbucket (S.enm i k)=q
 ·simp[h]
 ·simp[h]
def cntA(f:Nat->Nat):Array Value:=#[.int .i64 (f 0),.int .i64 (f 1),.int .i64 (f 2),.int .i64 (f 3),.int .i64 (f 4),.int .i64 (f 5),.int .i64 (f 6),.int .i64 (f 7)]
theorem lt8{q:Nat}(h:q<8):q=0∨q=1∨q=2∨q=3∨q=4∨q=5∨q=6∨q=7:=by omega
theorem cntA_at(f:Nat->Nat){q:Nat}(h:q<8):(cntA f)[q]? =some (.int .i64 (f q)):=by
 rcases lt8 h with rfl | rfl | rfl | rfl | rfl | rfl | rfl | rfl <;> rfl
theorem cntA_set(f g:Nat->Nat){q:Nat}(h:q<8){v:Int}(hv:v=(g q:Nat))(hg: ∀j,j<8->j≠q->g j=f j):(cntA f).setIfInBounds q (.int .i64 v)=cntA g:=by
 subst hv
 rcases lt8 h with rfl | rfl | rfl | rfl | rfl | rfl | rfl | rfl <;> simp[cntA,hg]
theorem KeepsT.set{w w':World}(h:KeepsT w w'){g:Nat}(hg:w.heap.size<=g)(i:Nat)(u:Value):KeepsT w (w'.setCell ⟨g,i,none⟩ u):=
 ⟨by simpa[World.setCell]using h.size,fun k o hk hf=>by
  rw[Below.heap_setCell _ _ _ _ (fun e:k=g=>by have:=heap_lt hk;omega)]
  exact h.block k o hk hf⟩
theorem first_none{w:World}{c sb:Nat}{iv:Value}{ev:Nat->Value}{S:St}(c0:w.cell? ⟨c,0,none⟩=some (.pointer (some ⟨sb,0,none⟩)))(s0:w.cell? ⟨sb,0,none⟩=some iv)(hI:RowAt w iv S.inodes.length 4 (inoC S ev))(hn:S.inodes.length<=1000){num:Int}(h:firstIx S num=none):
  Calls Tryz.prog 104 #[.pointer (some ⟨c,0,none⟩),.int .i64 num] w fun e w'=>e= .returned (.pointer none)/\w'=w:=by
 have:=first_calls c0 s0 hI hn num
 rw[h]at this
 exact this
theorem first_some{w:World}{c sb:Nat}{A:Option Addr}{n cap:Nat}{ev:Nat->Value}{S:St}(c0:w.cell? ⟨c,0,none⟩=some (.pointer (some ⟨sb,0,none⟩)))(s0:w.cell? ⟨sb,0,none⟩=some (.slice A n cap))(hI:RowAt w (.slice A n cap) S.inodes.length 4 (inoC S ev))(hn:S.inodes.length<=1000){num:Int}{i:Nat}(h:firstIx S num=some i):
  ∃g off,A=some ⟨g,off,none⟩/\i<S.inodes.length/\S.num i=num/\Calls Tryz.prog 104 #[.pointer (some ⟨c,0,none⟩),.int .i64 num] w fun e w'=>e= .returned (.pointer (some ⟨g,off+i*4,none⟩))/\w'=w:=by
 have h2:=h
 unfold firstIx at h2
 rw[List.find?_range_eq_some]at h2
 obtain⟨h3,h4,_⟩:=h2
 have h4:i<S.inodes.length:=by simpa using h4
 obtain⟨_,_,g,off,rfl,_⟩:=hI.at_ h4
 have:=first_calls c0 s0 hI hn num
 rw[h]at this
 exact⟨g,off,rfl,h4,by simpa using h3,this⟩
end
section
open Go.RowKit Go.Maps Go.WideShapes
set_option maxHeartbeats 1000000
theorem zeroI(w:World):(zeroValue 3).run Tryz.prog w= .ok (.int .i64 0) w:=by kernel_rfl
theorem zeroB(w:World):(zeroValue 4).run Tryz.prog w= .ok (.bool false) w:=by kernel_rfl
theorem lawI:Keyed Tryz.prog 3:=int_keyed Tryz.underlying3
def kI(i:Int):Lit:=.int .i64 i
theorem kI_ne{i j:Int}(h:i≠j):kI i≠kI j:=fun e=>h (by unfold kI at e;injection e)
theorem keyI{i:Int}(h: -1000000<=i/\i<=1000000):keyOf Tryz.prog 3 (.int .i64 i)=some (kI i):=keyOf_int_mk Tryz.underlying3 (WalkArith.wf_i64 (by omega))
def MapI(w:World)(b n:Nat)(f:Int->Int):Prop:=∃D:DataW Unit,w.ownsMap Tryz.prog 3 (plainElem Tryz.prog 3) b n D/\ ∀i,D.atKey (kI i) (.lit (.int .i64 0))= .lit (.int .i64 (f i))
def MapB(w:World)(b n:Nat)(f:Int->Bool):Prop:=∃D:DataW Unit,w.ownsMap Tryz.prog 3 (plainElem Tryz.prog 4) b n D/\ ∀i,D.atKey (kI i) (.lit (.bool false))= .lit (.bool (f i))
theorem plainB_inv{v:Value}{x:Bool}{ps:List MemPlace}(h:plainElem (H:=Unit) Tryz.prog 4 v=some (.lit (.bool x),ps)):v= .bool x:=by
 unfold plainElem at h
 rw[show Tryz.prog.underlying 4=some .bool from Tryz.underlying4]at h
 cases v <;> simp at h
 rw[h.1]
theorem MapI.look{w:World}{b n:Nat}{f:Int->Int}(h:MapI w b n f){i:Int}(hi: -1000000<=i/\i<=1000000):(Instr.lookup 186 (.map (some b)) (.int .i64 i) false).run Tryz.prog w= .ok (.int .i64 (f i)) w:=by
 obtain⟨D,ho,hf⟩:=h
 obtain⟨c,hrun,hat,_⟩:=ho.lookup_int lawI Tryz.underlying186 Tryz.underlying3 (zeroI w) (keyI hi)
 rw[hf i]at hat
 have e:f i=c:=Lit.int.inj (DataW.lit.inj hat) |>.2
 exact e▸hrun
theorem MapB.look{w:World}{b n:Nat}{f:Int->Bool}(h:MapB w b n f){i:Int}(hi: -1000000<=i/\i<=1000000):(Instr.lookup 127 (.map (some b)) (.int .i64 i) false).run Tryz.prog w= .ok (.bool (f i)) w:=by
 obtain⟨D,ho,hf⟩:=h
 obtain⟨v,ps,hrun,hv⟩:=ho.lookup lawI Tryz.underlying127 (zeroB w) (zd:=.lit (.bool false)) (zp:=[]) (plainElem_bool Tryz.underlying4 false) (keyI hi)
 rw[hf i]at hv
 rw[plainB_inv hv]at hrun
 exact hrun
theorem MapI.made(w:World):MapI (w.alloc (.map #[] 0)) w.heap.size 0 (fun _=>0):=⟨.map [],World.ownsMap_made _ _ _ _,fun _=>rfl⟩
theorem MapB.made(w:World):MapB (w.alloc (.map #[] 0)) w.heap.size 0 (fun _=>false):=⟨.map [],World.ownsMap_made _ _ _ _,fun _=>rfl⟩
theorem MapI.kept{w w':World}{b n:Nat}{f:Int->Int}{row:Option Nat}(h:MapI w b n f)(hg:w.grownBy w' row)(hne:some b≠row):MapI w' b n f:=by
 obtain⟨D,ho,hf⟩:=h
 exact⟨D,ho.kept hg hne,hf⟩
theorem MapB.kept{w w':World}{b n:Nat}{f:Int->Bool}{row:Option Nat}(h:MapB w b n f)(hg:w.grownBy w' row)(hne:some b≠row):MapB w' b n f:=by
 obtain⟨D,ho,hf⟩:=h
 exact⟨D,ho.kept hg hne,hf⟩
theorem own_keepT{k:TypeId}{R:Value->Option (DataW Unit×List MemPlace)}{w w':World}{b n:Nat}{D:DataW Unit}(h:w.ownsMap Tryz.prog k R b n D)(hk:KeepsT w w'):w'.ownsMap Tryz.prog k R b n D:=by
 obtain⟨es,clock,hb,F,hs,hD⟩:=h
 exact⟨es,clock,hk.block b _ hb trivial,F,hs,hD⟩
theorem MapI.keepT{w w':World}{b n:Nat}{f:Int->Int}(h:MapI w b n f)(hk:KeepsT w w'):MapI w' b n f:=by
 obtain⟨D,ho,hf⟩:=h
 exact⟨D,own_keepT ho hk,hf⟩
theorem MapB.keepT{w w':World}{b n:Nat}{f:Int->Bool}(h:MapB w b n f)(hk:KeepsT w w'):MapB w' b n f:=by
 obtain⟨D,ho,hf⟩:=h
 exact⟨D,own_keepT ho hk,hf⟩
theorem MapI.alloc{w:World}{b n:Nat}{f:Int->Int}(h:MapI w b n f)(o:Obj):MapI (w.alloc o) b n f:=h.kept (World.grownBy_alloc w o none) (by simp)
theorem MapB.alloc{w:World}{b n:Nat}{f:Int->Bool}(h:MapB w b n f)(o:Obj):MapB (w.alloc o) b n f:=h.kept (World.grownBy_alloc w o none) (by simp)
theorem MapI.drew{w:World}{b n:Nat}{f:Int->Int}(h:MapI w b n f):MapI w.drew b n f:=h
theorem MapB.drew{w:World}{b n:Nat}{f:Int->Bool}(h:MapB w b n f):MapB w.drew b n f:=h
theorem MapI.drewN{w:World}{b n:Nat}{f:Int->Int}(h:MapI w b n f)(k:Nat):MapI (w.drewN k) b n f:=h
theorem MapB.drewN{w:World}{b n:Nat}{f:Int->Bool}(h:MapB w b n f)(k:Nat):MapB (w.drewN k) b n f:=h
theorem MapI.congr{w:World}{b n:Nat}{f g:Int->Int}(h:MapI w b n f)(e: ∀i,f i=g i):MapI w b n g:=(funext e:f=g)▸h
theorem MapB.congr{w:World}{b n:Nat}{f g:Int->Bool}(h:MapB w b n f)(e: ∀i,f i=g i):MapB w b n g:=(funext e:f=g)▸h
theorem MapI.obj{w:World}{b n:Nat}{f:Int->Int}(h:MapI w b n f): ∃es cl,w.heap[b]? =some (.map es cl):=by
 obtain⟨D,⟨es,cl,hb,_⟩,_⟩:=h
 exact⟨es,cl,hb⟩
theorem MapB.obj{w:World}{b n:Nat}{f:Int->Bool}(h:MapB w b n f): ∃es cl,w.heap[b]? =some (.map es cl):=by
 obtain⟨D,⟨es,cl,hb,_⟩,_⟩:=h
 exact⟨es,cl,hb⟩
theorem put_at{D:DataW Unit}(hD:IsMap D)(i:Int)(d z:DataW Unit)(j:Int):(D.put (kI i) d).atKey (kI j) z=if j=i then d else D.atKey (kI j) z:=by
 by_cases e:j=i
 ·subst e
  rw[if_pos rfl]
  exact atKey_put_same hD (by simp[kI,WideAt.IsKeyLit]) _ _
 ·rw[if_neg e]
  exact atKey_put_other (kI_ne e) _ _
section
variable{ops:Array Oper}{rest:List Oper}{o:Oper}{a:Act}{Q:Exit->Act->World->Prop}
theorem wpList_setB(w:World)(hg:o.guard=none)(m x v:Operand)(hop:o.op=Op.mapUpdate 127 m x v∨o.op=Op.insert 127 m x v)(b n:Nat)(f:Int->Bool)(hm:a.eval m= .map (some b))(h:MapB w b n f)(hn:n<1000000000)
  (i:Int) (hi: -1000000<=i/\i<=1000000) (hx:a.eval x= .int .i64 i) (y:Bool) (hv:a.eval v= .bool y)
  (hK: ∀w',MapB w' b (n+1) (fun j=>if j=i then y else f j)->w.grownBy w' (some b)->wpList Tryz.prog ops Q rest (a.put o.dst undef) w'):wpList Tryz.prog ops Q (o::rest) a w:=by
 obtain⟨D,ho,hf⟩:=h
 refine wpList_plain hg fun K' hK'=>?_
 obtain⟨w',hrun,r1,r2⟩:=ho.update (val:=.bool y) lawI Tryz.underlying127 (by unfold maxLen;omega) (keyI hi) (plainElem_bool Tryz.underlying4 y)
 have hM:MapB w' b (n+1) (fun j=>if j=i then y else f j):=⟨_,r1,fun j=>by
  rw[put_at ho.isMap]
  by_cases e:j=i
  ·subst e;simp
  ·simp[e,hf]⟩
 unfold Oper.wp
 rcases hop with hop | hop
 all_goals
  simp[execOp,hop,hm,hx,hv,hrun,Result.andThen]
  exact hK' _ _ (hK w' hM r2)
theorem wpList_setI(w:World)(hg:o.guard=none)(m x v:Operand)(hop:o.op=Op.mapUpdate 186 m x v)(b n:Nat)(f:Int->Int)(hm:a.eval m= .map (some b))(h:MapI w b n f)(hn:n<1000000000)
  (i:Int) (hi: -1000000<=i/\i<=1000000) (hx:a.eval x= .int .i64 i) (y:Int) (hy:0<=y/\y<=1000000000) (hv:a.eval v= .int .i64 y)
  (hK: ∀w',MapI w' b (n+1) (fun j=>if j=i then y else f j)->w.grownBy w' (some b)->wpList Tryz.prog ops Q rest (a.put o.dst undef) w'):wpList Tryz.prog ops Q (o::rest) a w:=by
 obtain⟨D,ho,hf⟩:=h
 refine wpList_plain hg fun K' hK'=>?_
 obtain⟨w',hrun,r1,r2⟩:=ho.update (val:=.int .i64 y) lawI Tryz.underlying186 (by unfold maxLen;omega) (keyI hi) (plainElem_int Tryz.underlying3 (WalkArith.wf_i64 (by omega)))
 have hM:MapI w' b (n+1) (fun j=>if j=i then y else f j):=⟨_,r1,fun j=>by
  rw[put_at ho.isMap]
  by_cases e:j=i
  ·subst e;simp
  ·simp[e,hf]⟩
 unfold Oper.wp
 simp[execOp,hop,hm,hx,hv,hrun,Result.andThen]
 exact hK' _ _ (hK w' hM r2)
end
theorem At.turn{w0 w wx wy:World}{c sb:Nat}{iv ov mv:Value}{D:List Fnd}(h:At w0 w wx c sb iv ov mv D){b:Nat}(hb: ∃es cl,wx.heap[b]? =some (.map es cl))(hw:w.heap.size<=b)(hw0:w0.heap.size<=w.heap.size)(hg:wx.grownBy wy (some b)):At w0 w wy c sb iv ov mv D:=by
 obtain⟨es,cl,hb⟩:=hb
 have hne: ∀{g:Nat} {t:TypeId} {cs:Array Value},Blk wx g t cs->some g≠some b:=fun hq e=>by
  obtain rfl:=Option.some.inj e
  unfold Blk at hq
  rw[hb]at hq
  cases hq
 obtain⟨h1,h2⟩:=h
 obtain⟨v,r1,r2⟩:=h1.row
 refine⟨⟨h1.bel.trans ⟨hg.os,hg.tape,hg.output,hg.size,fun q hq=>hg.block q (by have:=h1.bel.size;omega) (fun e=>by have:=Option.some.inj e;omega)⟩,h1.sB,Blk.of_heap (hg.block _ h1.sat.lt (hne h1.sat)) h1.sat,h1.cB,v,Blk.of_heap (hg.block _ r1.lt (hne r1)) r1,?_⟩,⟨Nat.le_trans h2.size hg.size,fun q o hq hf=>?_⟩⟩
 ·refine⟨r2.1,?_⟩
  rcases r2.2 with q | ⟨g',cap,cur,hv,hg',hh,rest⟩
  ·exact .inl q
  ·exact .inr ⟨g',cap,cur,hv,hg',Blk.of_heap (hg.block _ (Blk.lt (show Blk wx g' _ cur from hh)) (hne (show Blk wx g' _ cur from hh))) hh,rest⟩
 ·have h3:=h2.block q o hq hf
  rw[hg.block q (heap_lt h3) (fun e=>by have:=Option.some.inj e;have:=heap_lt hq;omega)]
  exact h3
theorem Blk.turn{wx wy:World}{b g:Nat}{t:TypeId}{cs:Array Value}(h:Blk wx g t cs)(hb: ∃es cl,wx.heap[b]? =some (.map es cl))(hg:wx.grownBy wy (some b)):Blk wy g t cs:=by
 obtain⟨es,cl,hb⟩:=hb
 refine Blk.of_heap (hg.block _ h.lt (fun e=>?_)) h
 obtain rfl:=Option.some.inj e
 unfold Blk at h
 rw[hb]at h
 cases h
end
section
open Go.RowKit
set_option maxHeartbeats 1000000
def QS(w:World)(base:Nat)(v:Value)(xs:List Int):Prop:=
 ∃g off cap cur,v= .slice (some ⟨g,off,none⟩) xs.length cap/\xs.length<=cap/\base<=g/\Blk w g 3 cur/\off+cap<=cur.size/\ ∀j x,xs[j]? =some x->cur[off+j]? =some (.int .i64 x)
theorem QS.below{w w':World}{base:Nat}{v:Value}{xs:List Int}(h:QS w base v xs)(hb:Below w.heap.size w w'):QS w' base v xs:=by
 obtain⟨g,off,cap,cur,h1,h2,h3,h4,h5⟩:=h
 exact⟨g,off,cap,cur,h1,h2,h3,Blk.of_heap (hb.block _ h4.lt) h4,h5⟩
theorem QS.alloc{w:World}{base:Nat}{v:Value}{xs:List Int}(h:QS w base v xs)(o:Obj):QS (w.alloc o) base v xs:=h.below ((Below.refl _ _).alloc (Nat.le_refl _) o)
theorem QS.turn{wx wy:World}{base b:Nat}{v:Value}{xs:List Int}(h:QS wx base v xs)(hb: ∃es cl,wx.heap[b]? =some (.map es cl))(hg:wx.grownBy wy (some b)):QS wy base v xs:=by
 obtain⟨g,off,cap,cur,h1,h2,h3,h4,h5⟩:=h
 exact⟨g,off,cap,cur,h1,h2,h3,h4.turn hb hg,h5⟩
theorem QS.form{w:World}{base:Nat}{v:Value}{xs:List Int}(h:QS w base v xs): ∃g off cap,v= .slice (some ⟨g,off,none⟩) xs.length cap/\xs.length<=cap/\ (∀j x,xs[j]? =some x->w.cell? ⟨g,off+j,none⟩=some (.int .i64 x)):=by
 obtain⟨g,off,cap,cur,h1,h2,h3,h4,h5,h6⟩:=h
 exact⟨g,off,cap,h1,h2,fun j x hx=>(h4.cell _).trans (h6 j x hx)⟩
theorem QS.lit(w:World)(x:Int){base:Nat}(hb:base<=w.heap.size):QS (w.alloc (.cells #[.int .i64 x] 3)) base (.slice (some ⟨w.heap.size,0,none⟩) 1 1) [x]:=
 ⟨_,0,1,_,rfl,Nat.le_refl _,hb,Blk.new _ _ _,Nat.le_refl _,fun j y hj=>by
  cases j with
  | zero=>simp at hj;subst hj;rfl
  | succ j=>simp at hj⟩
theorem QS.tail{w:World}{base g off n cap:Nat}{x:Int}{xs:List Int}(h:QS w base (.slice (some ⟨g,off,none⟩) n cap) (x::xs)):(cap=1->QS w base (.slice (some ⟨g,off,none⟩) 0 0) xs)/\ (cap≠1->QS w base (.slice (some ⟨g,off+1,none⟩) xs.length (cap - 1)) xs):=by
 obtain⟨g',off',cap',cur,h1,h2,h3,h4,h5,h6⟩:=h
 injection h1 with e1 e2 e3
 injection e1 with e1
 injection e1 with e4 e5
 subst e4 e5 e3
 simp only[List.length_cons]at h2
 refine⟨fun hc=>?_,fun hc=>?_⟩
 ·subst hc
  have:xs=[]:=List.length_eq_zero_iff.1 (by omega)
  subst this
  exact⟨g,off,0,cur,rfl,Nat.le_refl _,h3,h4,by omega,fun j x hj=>by simp at hj⟩
 ·exact⟨g,off+1,cap - 1,cur,rfl,by omega,h3,h4,by omega,fun j y hj=>by rw[show off+1+j=off+ (j+1)by omega];exact h6 (j+1) y (by simpa using hj)⟩
theorem info_intq:(Tryz.prog.info? 3).map (fun i=>(i.zero,i.size,i.bytes))=some (some (.int .i64 0),1,8):=by kernel_rfl
section
variable{ops:Array Oper}{rest:List Oper}{o:Oper}{a:Act}{Q:Exit->Act->World->Prop}
theorem wpList_push(w:World)(hg:o.guard=none)(s x:Operand)(hop:o.op=Op.call {callee:=Callee.builtin Builtin.append,args:=#[s,x],argTypes:=#[28,28]}) (base:Nat) (v:Value) (xs:List Int) (hs:a.eval s=v) (h:QS w base v xs) (hlen:xs.length<=1000000000) (hbase:base<=w.heap.size)
  (nb:Nat) (y:Int) (hx:a.eval x= .slice (some ⟨nb,0,none⟩) 1 1) (hn:w.cell? ⟨nb,0,none⟩=some (.int .i64 y))
  (hK: ∀v' w' row,QS w' base v' (xs++[y])->w.grownBy w' row->(∀q,row=some q->base<=q/\ ∃cs,Blk w q 3 cs)->wpList Tryz.prog ops Q rest (a.put o.dst v') w'):wpList Tryz.prog ops Q (o::rest) a w:=by
 obtain⟨i0,hi,hz0,hz1,hz2⟩:=info_parts info_intq
 obtain⟨g,off,cap,cur,rfl,h2,h3,h4,h5,h6⟩:=h
 refine wpList_plain hg fun K' hK'=>?_
 have hnews: ∀j u,[Value.int .i64 y][j]? =some u->w.cell? ((⟨nb,0,none⟩:Addr).add j)=some u:=fun j u hu=>by
  cases j with
  | zero=>simp at hu;subst hu;exact hn
  | succ j=>simp at hu
 by_cases hr:xs.length+1<=cap
 ·have hrun:=run_append_room_cells (P:=Tryz.prog) (w:=w) 28 o.type 3 i0 Tryz.underlying28 hi g off xs.length cap ⟨nb,0,none⟩ 1 1 [.int .i64 y] (by rw[hz1];rfl) hnews (by intro u hu;simp at hu;subst hu;rfl) hr
   (fun j hj=>by
    have:j=0:=by simpa using hj
    subst this
    rw[hz1,Nat.mul_one,Nat.add_zero,h4.cell,Array.getElem?_eq_getElem (by omega)];rfl) (fun j hj=>h4.frozen _)
  rw[hz1,Nat.mul_one]at hrun
  have hQ:QS (w.setCells g (off+xs.length) [.int .i64 y]) base (.slice (some ⟨g,off,none⟩) (xs.length+1) cap) (xs++[y]):=by
   refine⟨g,off,cap,cur.setIfInBounds (off+xs.length) (.int .i64 y),by simp,by simpa using hr,h3,h4.set_ _ _,by simpa using h5,fun j x hj=>?_⟩
   by_cases e:j=xs.length
   ·subst e
    have:y=x:=by simpa using hj
    subst this
    rw[Array.getElem?_setIfInBounds_self,if_pos (by omega)]
   ·have hjl:j<xs.length:=by
     have:=(List.getElem?_eq_some_iff.1 hj).1
     simp at this
     omega
    rw[Array.getElem?_setIfInBounds_ne (by omega)]
    exact h6 j x (by rw[List.getElem?_append_left hjl]at hj;exact hj)
  have hG:w.grownBy (w.setCells g (off+xs.length) [.int .i64 y]) (some g):=⟨rfl,rfl,rfl,by simp[World.setCells,World.setCell],fun k _ hk=>Below.heap_setCell _ _ _ _ (fun e=>hk (by rw[e]))⟩
  unfold Oper.wp
  simp[execOp,hop,resolve,invoke,builtin,hx,hs,hrun,Result.andThen]
  exact hK' _ _ (hK _ _ _ hQ hG fun q hq=>by obtain rfl:=Option.some.inj hq;exact⟨h3,cur,h4⟩)
 ·obtain⟨v',w',hrun,hown,hgr⟩:=run_append_arg_grows (P:=Tryz.prog) (w:=w) 28 o.type 3 i0 _ 1 8 Tryz.underlying28 hi hz0 hz1 hz2 rfl (by decide) ⟨g,off,none⟩ xs.length cap (xs.map fun x=>.int .i64 x) (by simp) (fun j u hu=>by
    rw[List.getElem?_map]at hu
    obtain⟨x,hx',rfl⟩:=Option.map_eq_some_iff.1 hu
    rw[Addr.add_lit,h4.cell]
    exact h6 j x hx') ⟨nb,0,none⟩ 1 1 [.int .i64 y] rfl hnews (by omega) (by simp only[maxLen];omega) (by omega)
  have hQ:QS w' base v' (xs++[y]):=by
   rcases hown.2 with⟨rfl,h0⟩ | ⟨g',cap',cur',rfl,hb,hh,h7,h8,h9,h10⟩
   ·omega
   ·refine⟨g',0,cap',cur',by simp,by simpa using h7,by omega,hh,by omega,fun j x hj=>?_⟩
    have hjl:j<xs.length+1:=by
     have:=(List.getElem?_eq_some_iff.1 hj).1
     simpa using this
    have h11:((xs.map fun x=>Value.int .i64 x)++[.int .i64 y])[j]? =some (.int .i64 x):=by
     rw[show((xs.map fun x=>Value.int .i64 x)++[Value.int .i64 y])=(xs++[y]).map (fun x=>Value.int .i64 x)by simp,List.getElem?_map,hj]
     rfl
    rw[<-h10,List.getElem?_take]at h11
    split at h11
    ·rw[Nat.zero_add];simpa using h11
    ·cases h11
  unfold Oper.wp
  simp[execOp,hop,resolve,invoke,builtin,hx,hs,hrun,Result.andThen]
  exact hK' _ _ (hK _ _ _ hQ hgr fun q hq=>by cases hq)
end
section
variable{w0 w wx wy:World}{c sb:Nat}{iv ov mv:Value}{D:List Fnd}{rw_:Option Nat}
theorem At.row(h:At w0 w wx c sb iv ov mv D)(hw0:w0.heap.size<=w.heap.size)(hg:wx.grownBy wy rw_)(hr: ∀q,rw_=some q->w.heap.size<=q/\ ∃cs,Blk wx q 3 cs):At w0 w wy c sb iv ov mv D:=by
 have hne: ∀{g:Nat} {t:TypeId} {cs:Array Value},Blk wx g t cs->t≠3->some g≠rw_:=fun hq ht e=>by
  obtain⟨_,cs,hb⟩:=hr _ e.symm
  exact Blk.ne_ hq hb ht rfl
 obtain⟨h1,h2⟩:=h
 obtain⟨v,r1,r2⟩:=h1.row
 refine⟨⟨h1.bel.trans ⟨hg.os,hg.tape,hg.output,hg.size,fun q hq=>hg.block q (by have:=h1.bel.size;omega) (fun e=>by have:=(hr q e.symm).1;omega)⟩,h1.sB,Blk.of_heap (hg.block _ h1.sat.lt (hne h1.sat (by decide))) h1.sat,h1.cB,v,Blk.of_heap (hg.block _ r1.lt (hne r1 (by decide))) r1,?_⟩,⟨Nat.le_trans h2.size hg.size,fun q o hq hf=>?_⟩⟩
 ·refine⟨r2.1,?_⟩
  rcases r2.2 with q | ⟨g',cap,cur,hv,hg',hh,rest⟩
  ·exact .inl q
  ·exact .inr ⟨g',cap,cur,hv,hg',Blk.of_heap (hg.block _ (Blk.lt (show Blk wx g' _ cur from hh)) (hne (show Blk wx g' 119 cur from hh) (by decide))) hh,rest⟩
 ·have h3:=h2.block q o hq hf
  rw[hg.block q (heap_lt h3) (fun e=>by have:=(hr q e.symm).1;have:=heap_lt hq;omega)]
  exact h3
theorem MapB.row{b n:Nat}{f:Int->Bool}(h:MapB wx b n f)(hg:wx.grownBy wy rw_)(hr: ∀q,rw_=some q->w.heap.size<=q/\ ∃cs,Blk wx q 3 cs):MapB wy b n f:=
 h.kept hg fun e=>by
  obtain⟨_,cs,hb⟩:=hr _ e.symm
  obtain⟨es,cl,hq⟩:=h.obj
  unfold Blk at hb
  rw[hq]at hb
  cases hb
theorem MapI.row{b n:Nat}{f:Int->Int}(h:MapI wx b n f)(hg:wx.grownBy wy rw_)(hr: ∀q,rw_=some q->w.heap.size<=q/\ ∃cs,Blk wx q 3 cs):MapI wy b n f:=
 h.kept hg fun e=>by
  obtain⟨_,cs,hb⟩:=hr _ e.symm
  obtain⟨es,cl,hq⟩:=h.obj
  unfold Blk at hb
  rw[hq]at hb
  cases hb
theorem Blk.row{g:Nat}{t:TypeId}{cs:Array Value}(h:Blk wx g t cs)(ht:t≠3)(hg:wx.grownBy wy rw_)(hr: ∀q,rw_=some q->w.heap.size<=q/\ ∃cs,Blk wx q 3 cs):Blk wy g t cs:=
 Blk.of_heap (hg.block _ h.lt (fun e=>by
  obtain⟨_,cs,hb⟩:=hr _ e.symm
  exact Blk.ne_ h hb ht rfl)) h
end
end
section
open Go.RowKit
set_option maxHeartbeats 1000000
def entsOf(S:St)(i:Nat):List Int:=(List.range (S.ne i)).map (S.enu i)
def manyTo(S:St)(i:Nat):List Int:=(List.range i).flatMap fun i=>if S.dir i then entsOf S i else []
def manyF(S:St)(x:Int):Nat:=(manyTo S S.inodes.length).count x
def add1(F:List Int)(x:Int):List Int:=if F.contains x then F else F++[x]
def addAll(F:List Int)(es:List Int):List Int:=es.foldl add1 F
def kids(S:St)(x:Int):List Int:=match firstIx S x with
 | some i=>if S.dir i then entsOf S i else []
 | none=>[]
def bfs(S:St):Nat->List Int->Nat->List Int
 | 0,F,_=>F
 | f+1,F,p=>match F[p]? with
  | some x=>bfs S f (addAll F (kids S x)) (p+1)
  | none=>F
def univ(S:St):List Int:=(List.range S.inodes.length).flatMap (entsOf S)
def foundF(S:St):List Int:=bfs S ((univ S).length+2) [1] 0
def foundB(S:St)(x:Int):Bool:=(foundF S).contains x
def out(U F:List Int):Nat:=(U.filter fun x=>!F.contains x).length
theorem entsOf_len(S:St)(i:Nat):(entsOf S i).length=S.ne i:=by simp[entsOf]
theorem univ_len(S:St)(hs:S.small):(univ S).length<=1000000:=by
 unfold univ
 have:=flat_len (f:=entsOf S) (c:=1000) (fun i=>by rw[entsOf_len];exact hs.en i) S.inodes.length
 have:=hs.ni
 omega
theorem mem_univ{S:St}{i k:Nat}(hi:i<S.inodes.length)(hk:k<S.ne i):S.enu i k∈univ S:=by
 unfold univ entsOf
 rw[List.mem_flatMap]
 exact⟨i,by simpa using hi,by rw[List.mem_map];exact⟨k,by simpa using hk,rfl⟩⟩
theorem filter_lt{A:Type}{p q:A->Bool}(h: ∀x,q x=true->p x=true){y:A}: ∀{l:List A},y∈l->p y=true->q y=false->(l.filter q).length+1<= (l.filter p).length
 | [],hy,_,_=>by simp at hy
 | a::l,hy,hp,hq=>by
  have hle: ∀l:List A,(l.filter q).length<= (l.filter p).length:=by
   intro l
   induction l with
   | nil=>simp
   | cons a l ih=>
    rw[List.filter_cons,List.filter_cons]
    by_cases h1:q a=true
    ·rw[if_pos h1,if_pos (h a h1)];simp;exact ih
    ·rw[if_neg h1]
     split
     ·simp;omega
     ·exact ih
  rw[List.filter_cons,List.filter_cons]
  rcases List.mem_cons.1 hy with rfl | hy
  ·rw[if_pos hp,if_neg (by simp[hq])]
   have:=hle l
   simp;omega
  ·have ih:=filter_lt h hy hp hq
   by_cases h1:q a=true
   ·rw[if_pos h1,if_pos (h a h1)];simp;omega
   ·rw[if_neg h1]
    split
    ·simp;omega
    ·exact ih
theorem add1_out{U F:List Int}{x:Int}(hx:x∈U)(hF:F.contains x=false):(F++[x]).length+out U (F++[x])<=F.length+out U F:=by
 have h:=filter_lt (p:=fun y=>!F.contains y) (q:=fun y=>!(F++[x]).contains y) (fun y hy=>by
  have h2:y∉F++[x]:=by simpa using hy
  have h3:y∉F:=fun h=>h2 (List.mem_append_left _ h)
  simpa using h3) hx (by rw[hF];rfl) (by simp)
 unfold out
 simp only[List.length_append,List.length_singleton]
 omega
theorem addAll_snoc(F:List Int)(es:List Int)(x:Int):addAll F (es++[x])=add1 (addAll F es) x:=by
 unfold addAll
 rw[List.foldl_append];rfl
theorem entsTo_snoc(S:St)(i k:Nat):(List.range (k+1)).map (S.enu i)=(List.range k).map (S.enu i)++[S.enu i k]:=by
 rw[List.range_succ,List.map_append];rfl
theorem manyTo_succ(S:St)(i:Nat):manyTo S (i+1)=manyTo S i++if S.dir i then entsOf S i else []:=flat_succ _ i
theorem manyTo_len(S:St)(hs:S.small)(i:Nat)(hi:i<=1000):(manyTo S i).length<=1000000:=by
 unfold manyTo
 have:=flat_len (f:=fun i=>if S.dir i then entsOf S i else []) (c:=1000) (fun i=>by
  have:=hs.en i
  have h2:=entsOf_len S i
  show(if S.dir i then entsOf S i else []).length<=1000
  split
  ·omega
  ·simp) i
 have h2:i*1000<=1000*1000:=Nat.mul_le_mul_right _ hi
 omega
theorem count_snoc(L:List Int)(x y:Int):((L++[x]).count y:Int)=if y=x then(L.count x:Int)+1 else(L.count y:Int):=by
 rw[List.count_append,List.count_singleton]
 by_cases e:y=x
 ·subst e;simp
 ·rw[if_neg e]
  have:(x==y)=false:=by simpa using fun h:x=y=>e h.symm
  simp[this]
theorem contains_snoc(F:List Int)(x y:Int):(F++[x]).contains y=if y=x then true else F.contains y:=by
 by_cases e:y=x
 ·subst e;simp
 ·rw[if_neg e];simp[e]
end
end Go.Proofs.YtkebjgebkneijaaGreat
