/- Texts of one's own that a claim's last text rests on: CkBod CkOpen. -/
import Derived.Test.YtkebjgebkneijaaGreatMG2
import Derived.IntWalk
set_option linter.unusedVariables false
set_option linter.unusedSimpArgs false
namespace Go.Proofs.YtkebjgebkneijaaGreat
section
open Go.RowKit
set_option maxHeartbeats 2000000
attribute [local go_sem↓] Go.wp_at_zero Go.wp_at_succ
theorem below_draw{w w':World}(h:Below w.heap.size w w'):Below w.heap.size w w'.drew:=⟨h.os,h.tape,h.output,h.size,h.block⟩
theorem below_undraw{w w':World}(h:Below w.drew.heap.size w.drew w'):Below w.heap.size w w':=⟨h.os,h.tape,h.output,h.size,h.block⟩
set_option maxRecDepth 1000000 in
theorem bodies_calls{w0 w:World}{c sb:Nat}{iv ov mv:Value}{ev:Nat->Value}{S:St}{D:List Fnd}(h:Ck w0 w c sb iv ov mv D)(hS:StM w0 iv ov mv ev S)(hs:S.small)(hD:D.length<=100000000):
  Calls Tryz.prog 52 #[.pointer (some ⟨c,0,none⟩)] w fun e w'=>e= .returned (.tuple #[])/\At w0 w w' c sb iv ov mv (D++bodiesF S):=by
 obtain⟨A,cap,rfl⟩:=hS.ino.form
 have hn:=hs.ni
 have HN0:=lhi hs.ni
 have HC:=lhi h
 have hw0:w0.heap.size<=w.heap.size:=h.bel.size
 have HS:=lhi hS
 have HSm:=lhi hs
 clear h hS hs
 have HNF:=lhi (show bodiesF S=(List.range S.inodes.length).flatMap (bodyAt S)from rfl)
 obtain⟨n,hnn⟩: ∃n,S.inodes.length=n:=⟨_,rfl⟩
 rw[hnn]at hn HNF HC HS
 have c0:=HC.out.c0
 have s0:=HC.out.s0
 have HI:=lhi (show RowAt w0 (.slice A n cap) n 4 (inoC S ev)from hnn▸HS.out.ino)
 have HNN:=lhi hnn
 clear hnn
 go_enter Tryz.func52,Tryz.ntmps52
 go_wp2_with (fail)
 clear c0 s0
 go_loopw [16] (fun i wr=>∃k:Nat,i= .int .i64 k/\k<=n/\At w0 w wr c sb (.slice A n cap) ov mv (D++(List.range k).flatMap (bodyAt S))) (fun i _=>n - (intOf i).toNat)
 case atStart=>exact⟨0,rfl,by omega,by simpa using At.start HC.out⟩
 case round=>
  obtain⟨k,rfl,hk,hat⟩:=hrel
  have HAT:=lhi hat
  have HLK:=lhi (show(D++(List.range k).flatMap (bodyAt S)).length<=104000000 by rw[List.length_append];have:=flat_len (bodyAt_len S HSm.out) k;omega)
  have HFS:=lhi (flat_succ (bodyAt S) k)
  clear hat
  by_cases hp:k<n
  ·obtain⟨D1,hD1⟩: ∃D1,D1=D++(List.range k).flatMap (bodyAt S):=⟨_,rfl⟩
   rw[<-hD1]at HAT HLK
   have HD1:=lhi (show D++(List.range (k+1)).flatMap (bodyAt S)=D1++bodyAt S k by rw[HFS.out,hD1,List.append_assoc])
   clear hD1 HFS HC
   obtain⟨-,hcap,g,off,rfl,hcell⟩:=(HI.out.keep HAT.out.1.bel).at_ hp
   have q0:wr.cell? ⟨g,off+k*4,none⟩=some (.int .i64 (S.num k)):=hcell 0 (by omega)
   have q1:wr.cell? ⟨g,off+k*4+1,none⟩=some (.bool (S.dir k)):=hcell 1 (by omega)
   have q2:wr.cell? ⟨g,off+k*4+2,none⟩=some (ev k):=hcell 2 (by omega)
   have q3:wr.cell? ⟨g,off+k*4+3,none⟩=some (.string (S.dat k)):=hcell 3 (by omega)
   have hp1:(k:Int)<n:=by omega
   clear hcell
   have hent:=HS.out.ent k (by rw[HNN.out];exact hp)
   obtain⟨EA,ecap,hev⟩:=hent.form
   rw[hev]at q2 hent
   have hne:=HSm.out.en k
   have HENT:=lhi hent
   have HB6:=lhi (show b6 S k=((S.dir k&&!(S.dat k).toList.isEmpty)|| (!S.dir k&&decide (0<S.ne k))||decide (256< (S.dat k).size))from rfl)
   have HBA:=lhi (show bodyAt S k=one 6 (S.num k) nm0 (b6 S k)++if S.dir k then(List.range (S.ne k)).flatMap (entAt S k)else []from rfl)
   have HEA:=lhi (fun j=>(show entAt S k j=one 2 (S.num k) (S.enm k j) (b2 S k j)++one 5 (S.num k) (S.enm k j) (b5 S k j)++one 7 (S.num k) nm0 (b7 S k j)from rfl))
   have HELEN:=lhi (entAt_len S k)
   clear hent hev
   generalize entAt S k=entF at*
   generalize hnee:S.ne k=ne at*
   have HNE:=lhi hnee
   clear hnee
   generalize S.num k=x at*
   generalize S.dir k=dv at*
   generalize S.dat k=dt at*
   generalize b6 S k=bb at*
   have HX:=lhi (Blk.new wr 93 #[.int .i64 x,.bool dv,.slice EA ne ecap,.string dt])
   generalize ho:Obj.cells #[Value.int IntKind.i64 x,Value.bool dv,Value.slice EA ne ecap,Value.string dt] 93=OX at HX
   have HO:=lhi ho
   have HAX:=lhi (HAT.out.alloc OX)
   go_upto_region 3 with(fail)
   go_cut [43] (fun s wx=>s= .bool bb/\wr.alloc OX=wx)
   case first=>
    have x1:(wr.alloc OX).cell? ⟨wr.heap.size,1,none⟩=some (.bool dv):=HX.out.cell 1
    have x2:(wr.alloc OX).cell? ⟨wr.heap.size,2,none⟩=some (.slice EA ne ecap):=HX.out.cell 2
    have x3:(wr.alloc OX).cell? ⟨wr.heap.size,3,none⟩=some (.string dt):=HX.out.cell 3
    clear q0 q1 q2 q3 ho
    generalize wr.alloc OX=wy at*
    rcases bool_tf dv with rfl | rfl
    ·by_cases hd:dt.toList=[]
     ·have hd2:(!dt.toList.isEmpty)=false:=by simp[hd]
      have hz:dt.size=0:=by have:=congrArg List.length hd;rw[ByteArray.toList_eq]at this;simpa using this
      have hz2: ¬ (256:Int)< (dt.size:Int):=by omega
      have HZ:=lhi hz
      clear hz
      go_wp2_with (fail)
      go_meet
      case rel=>exact⟨by rw[HB6.out,hd2];have:=HZ.out;simp;omega,rfl⟩
     ·have hd2:(!dt.toList.isEmpty)=true:=by simp[hd]
      go_wp2_with (fail)
      go_meet
      case rel=>exact⟨by rw[HB6.out,hd2];rfl,rfl⟩
    ·by_cases hz:(0:Int)< (ne:Int)
     ·go_wp2_with (fail)
      go_meet
      case rel=>exact⟨by rw[HB6.out,decide_eq_true (show 0<ne by omega)];rfl,rfl⟩
     ·go_wp2_with (fail)
      go_meet
      case rel=>exact⟨by rw[HB6.out,decide_eq_false (show ¬ 0<ne by omega)];simp;omega,rfl⟩
   case rest=>
    obtain⟨rfl,rfl⟩:=hcut
    have hxg:w.heap.size<=wr.heap.size:=HAT.out.2.size
    clear q0 q1 q2 q3 ho HO HAT
    generalize wr.alloc OX=wy at*
    generalize wr.heap.size=xg at*
    go_upto_if 43 with(fail)
    go_cut [] (fun wx=>At w0 w wx c sb (.slice (some ⟨g,off,none⟩) n cap) ov mv (D1++one 6 x nm0 bb)/\Blk wx xg 93 #[.int .i64 x,.bool dv,.slice EA ne ecap,.string dt])
    case first=>
     rcases bool_tf bb with rfl | rfl
     ·have x0:wy.cell? ⟨xg,0,none⟩=some (.int .i64 x):=HX.out.cell 0
      have HA:=lhi (add_calls HAX.out.1 (by have:=HLK.out;omega) 6 x nm0)
      go_wp2_with (fail)
      refine HA.out.mono ?_
      rintro e w1 ⟨rfl,h1,h2⟩
      go_wp2_with (fail)
      go_meet
      case rel=>exact⟨HAX.out.to h1 h2,h2.blk HX.out (by decide) (by decide)⟩
     ·have HD:=lhi (one_false D1 6 x nm0 rfl)
      go_wp2_with (fail)
      go_meet
      case rel=>exact⟨HD.out▸HAX.out,HX.out⟩
    case rest=>
     have HAZ:=lhi hcut.1
     have HXZ:=lhi hcut.2
     obtain⟨D2,hD2⟩: ∃D2,D2=D1++one 6 x nm0 bb:=⟨_,rfl⟩
     have HLZ:=lhi (show D2.length<=104000001 by rw[hD2,List.length_append];have:=one_len 6 x nm0 bb;have:=HLK.out;omega)
     rw[<-hD2]at HAZ
     have HD2:=lhi hD2
     clear hcut HAX HX HLK hD2 HB6
     have x1:wc.cell? ⟨xg,1,none⟩=some (.bool dv):=HXZ.out.cell 1
     have x2:wc.cell? ⟨xg,2,none⟩=some (.slice EA ne ecap):=HXZ.out.cell 2
     rcases bool_tf dv with rfl | rfl
     ·have HE:=lhi (show∀L,L=(List.range ne).flatMap entF->D++(List.range (k+1)).flatMap (bodyAt S)=D2++L by rintro L rfl;rw[HD1.out,HBA.out,HD2.out,if_pos rfl,List.append_assoc])
      have HBS:=lhi (show Blk (wc.alloc (Obj.cells #[.int .i64 0,.int .i64 0,.int .i64 0,.int .i64 0,.int .i64 0,.int .i64 0,.int .i64 0,.int .i64 0] 183)) wc.heap.size 183 (cntA fun _=>0)from Blk.new wc 183 (cntA fun _=>0))
      have HXS:=lhi (HXZ.out.alloc (Obj.cells #[.int .i64 0,.int .i64 0,.int .i64 0,.int .i64 0,.int .i64 0,.int .i64 0,.int .i64 0,.int .i64 0] 183))
      have HAS:=lhi (HAZ.out.alloc (Obj.cells #[.int .i64 0,.int .i64 0,.int .i64 0,.int .i64 0,.int .i64 0,.int .i64 0,.int .i64 0,.int .i64 0] 183))
      have x2s:(wc.alloc (Obj.cells #[.int .i64 0,.int .i64 0,.int .i64 0,.int .i64 0,.int .i64 0,.int .i64 0,.int .i64 0,.int .i64 0] 183)).cell? ⟨xg,2,none⟩=some (.slice EA ne ecap):=HXS.out.cell 2
      have hsl:w.heap.size<=wc.heap.size:=HAZ.out.2.size
      clear x2 HXZ HAZ
      go_wp2_with (fail)
      clear x1 x2s
      generalize wc.alloc (Obj.cells #[.int .i64 0,.int .i64 0,.int .i64 0,.int .i64 0,.int .i64 0,.int .i64 0,.int .i64 0,.int .i64 0] 183)=wl at*
      generalize wc.heap.size=sl at*
      go_loopw [54] (fun i wr=>∃j:Nat,i= .int .i64 j/\j<=ne/\At w0 w wr c sb (.slice (some ⟨g,off,none⟩) n cap) ov mv (D2++(List.range j).flatMap entF)/\Blk wr xg 93 #[.int .i64 x,.bool true,.slice EA ne ecap,.string dt]/\Blk wr sl 183 (cntA (cnt S k j))) (fun i _=>ne - (intOf i).toNat)
      case atStart=>exact⟨0,rfl,by omega,by simpa using HAS.out,HXS.out,HBS.out⟩
      case round=>
       obtain⟨j,rfl,hj,hat,hbx,hbs⟩:=hrel
       have HAT:=lhi hat
       have HBX:=lhi hbx
       have HBS:=lhi hbs
       have HLK:=lhi (show(D2++(List.range j).flatMap entF).length<=104004000 by rw[List.length_append];have:=flat_len HELEN.out j;have:=HLZ.out;omega)
       have HFS:=lhi (flat_succ entF j)
       clear hat hbx hbs HAS HXS
       by_cases hp:j<ne
       ·obtain⟨-,-,eg,eoff,rfl,hcell⟩:=(HENT.out.keep HAT.out.1.bel).at_ hp
        have q0:wr.cell? ⟨eg,eoff+j*2,none⟩=some (.string (S.enm k j)):=hcell 0 (by omega)
        have q1:wr.cell? ⟨eg,eoff+j*2+1,none⟩=some (.int .i64 (S.enu k j)):=hcell 1 (by omega)
        have hp2:(j:Int)<ne:=by omega
        clear hcell
        obtain⟨Dj,hDj⟩: ∃Dj,Dj=D2++(List.range j).flatMap entF:=⟨_,rfl⟩
        rw[<-hDj]at HAT HLK
        have HDJ:=lhi (show D2++(List.range (j+1)).flatMap entF=Dj++entF j by rw[HFS.out,hDj,List.append_assoc])
        clear hDj HFS
        have HEJ:=lhi (HEA.out j)
        obtain⟨bb2,hb2⟩: ∃b,b=b2 S k j:=⟨_,rfl⟩
        obtain⟨bb5,hb5⟩: ∃b,b=b5 S k j:=⟨_,rfl⟩
        obtain⟨bb7,hb7⟩: ∃b,b=b7 S k j:=⟨_,rfl⟩
        rw[<-hb2,<-hb5,<-hb7]at HEJ
        have HB2:=lhi (show bb2=(S.enu k j==1|| (firstIx S (S.enu k j)).isNone)from hb2)
        have HB5:=lhi (show bb5=(!(ncheck (S.enm k j)==0)|| (decide (0<j)&&nle (S.enm k j) (S.enm k (j - 1))))from hb5)
        have HB7:=lhi (show bb7=(cnt S k j (nbucket (S.enm k j))==4)from hb7)
        clear hb2 hb5 hb7
        have HCS:=lhi (cnt_succ S k j)
        have hnb:=nbucket_lt (S.enm k j)
        have HCL:=lhi (cnt_le S k j)
        have hxg2:w.heap.size<=wr.heap.size:=HAT.out.2.size
        generalize S.enm k j=nm at*
        generalize S.enu k j=nu at*
        have HE:=lhi (Blk.new wr 132 #[.string nm,.int .i64 nu])
        have HAX:=lhi (HAT.out.alloc (Obj.cells #[.string nm,.int .i64 nu] 132))
        have HBX2:=lhi (HBX.out.alloc (Obj.cells #[.string nm,.int .i64 nu] 132))
        have HBS2:=lhi (HBS.out.alloc (Obj.cells #[.string nm,.int .i64 nu] 132))
        clear HBX HBS
        go_upto_region 10 with(fail)
        go_cut [68] (fun s wx=>s= .bool bb2/\wr.alloc (Obj.cells #[.string nm,.int .i64 nu] 132)=wx)
        case first=>
         have e1:(wr.alloc (Obj.cells #[.string nm,.int .i64 nu] 132)).cell? ⟨wr.heap.size,1,none⟩=some (.int .i64 nu):=HE.out.cell 1
         clear q0 q1
         generalize wr.alloc (Obj.cells #[.string nm,.int .i64 nu] 132)=wy at*
         by_cases h1:nu=1
         ·have h1':(nu==1)=true:=by simp[h1]
          have HH:=lhi h1
          clear h1
          go_wp2_with (fail)
          go_meet
          case rel=>exact⟨by rw[HB2.out,h1'];rfl,rfl⟩
         ·have h1':(nu==1)=false:=by simp[h1]
          rcases hfi:firstIx S nu with _ | i
          ·have HF:=lhi (first_none HAX.out.1.c0 HAX.out.1.s0 (by rw[HNN.out];exact HI.out.keep HAX.out.1.bel) HN0.out hfi)
           rw[hfi]at HB2
           clear hfi
           go_wp2_with (go_at_call 104;refine HF.out.mono ?_;rintro e w' ⟨rfl,hw⟩;obtain rfl:=hw.symm)
           go_meet
           case rel=>exact⟨by rw[HB2.out,h1'];rfl,rfl⟩
          ·obtain⟨g',off',e,_,_,hcall⟩:=first_some HAX.out.1.c0 HAX.out.1.s0 (by rw[HNN.out];exact HI.out.keep HAX.out.1.bel) HN0.out hfi
           have HF:=lhi hcall
           rw[hfi]at HB2
           clear hfi e hcall
           go_wp2_with (go_at_call 104;refine HF.out.mono ?_;rintro e w' ⟨rfl,hw⟩;obtain rfl:=hw.symm)
           go_meet
           case rel=>exact⟨by rw[HB2.out,h1'];rfl,rfl⟩
        case rest=>
         obtain⟨rfl,rfl⟩:=hcut
         clear q0 q1 HAT
         generalize wr.alloc (Obj.cells #[.string nm,.int .i64 nu] 132)=wy at*
         generalize wr.heap.size=eb at*
         go_upto_if 68 with(fail)
         go_cut [] (fun wx=>At w0 w wx c sb (.slice (some ⟨g,off,none⟩) n cap) ov mv (Dj++one 2 x nm bb2)/\Blk wx xg 93 #[.int .i64 x,.bool true,.slice (some ⟨eg,eoff,none⟩) ne ecap,.string dt]/\Blk wx sl 183 (cntA (cnt S k j))/\Blk wx eb 132 #[.string nm,.int .i64 nu])
         case first=>
          rcases bool_tf bb2 with rfl | rfl
          ·have x0:wy.cell? ⟨xg,0,none⟩=some (.int .i64 x):=HBX2.out.cell 0
           have e0:wy.cell? ⟨eb,0,none⟩=some (.string nm):=HE.out.cell 0
           have HA:=lhi (add_calls HAX.out.1 (by have:=HLK.out;omega) 2 x nm)
           go_wp2_with (fail)
           refine HA.out.mono ?_
           rintro e w1 ⟨rfl,h1,h2⟩
           go_wp2_with (fail)
           go_meet
           case rel=>exact⟨HAX.out.to h1 h2,h2.blk HBX2.out (by decide) (by decide),h2.blk HBS2.out (by decide) (by decide),h2.blk HE.out (by decide) (by decide)⟩
          ·have HD:=lhi (one_false Dj 2 x nm rfl)
           go_wp2_with (fail)
           go_meet
           case rel=>exact⟨HD.out▸HAX.out,HBX2.out,HBS2.out,HE.out⟩
         case rest=>
          have HA3:=lhi hcut.1
          have HX3:=lhi hcut.2.1
          have HS3:=lhi hcut.2.2.1
          have HE3:=lhi hcut.2.2.2
          obtain⟨D3,hD3⟩: ∃D3,D3=Dj++one 2 x nm bb2:=⟨_,rfl⟩
          have HL3:=lhi (show D3.length<=104004001 by rw[hD3,List.length_append];have:=one_len 2 x nm bb2;have:=HLK.out;omega)
          rw[<-hD3]at HA3
          have HD3:=lhi hD3
          clear hcut hD3 HAX HBX2 HBS2 HE HB2 HLK
          obtain⟨wa,rfl⟩: ∃wa:World,wa=wc:=⟨_,rfl⟩
          have e0:wa.cell? ⟨eb,0,none⟩=some (.string nm):=HE3.out.cell 0
          have HM:=lhi (may_calls nm)
          go_upto_region 12 with(fail)
          go_cut [94] (fun s wx=>s= .bool bb5/\Below wa.heap.size wa wx)
          case first=>
           by_cases hm:ncheck nm=0
           ·have hm':(ncheck nm==0)=true:=by simp[hm]
            have HM:=lhi (by have:=HM.out;rewrite[hm']at this;exact this)
            rw[hm']at HB5
            clear hm hm'
            by_cases hj0:0<j
            ·obtain⟨p,rfl⟩: ∃p,j=p+1:=⟨j - 1,by omega⟩
             obtain⟨-,-,g',off',e,hcell⟩:=(HENT.out.keep HA3.out.1.bel).at_ (i:=p) (by omega)
             injection e with e
             injection e with e1 e2
             subst e1 e2
             have p0:wa.cell? ⟨eg,eoff+p*2,none⟩=some (.string (S.enm k p)):=hcell 0 (by omega)
             have x2:wa.cell? ⟨xg,2,none⟩=some (.slice (some ⟨eg,eoff,none⟩) ne ecap):=HX3.out.cell 2
             have hl1:=World.block_lt_of_cell? wa _ p0
             have hj1:decide (0<p+1)=true:=decide_eq_true hj0
             have ej:IntKind.i64.wrap ((p:Int)+1 - 1)=(p:Int):=by rw[IntWalk.i64_in _ (by omega)];omega
             have ej2:IntKind.i64.wrap (p:Int)=(p:Int):=IntWalk.i64_in _ (by omega)
             have ej3:(0:Int)<= (p:Int):=by omega
             have ej4:(p:Int)< (ne:Int):=by omega
             have HB5:=lhi (show bb5=nle nm (S.enm k p)by have:=HB5.out;simpa using this)
             clear hcell
             generalize S.enm k p=pm at*
             go_region_held3 (fun w'=>w'.cell? ⟨eb,0,none⟩=some (.string nm)/\w'.cell? ⟨xg,2,none⟩=some (.slice (some ⟨eg,eoff,none⟩) ne ecap)/\w'.cell? ⟨eg,eoff+p*2,none⟩=some (.string pm)) (first | exact⟨e0,x2,p0⟩ | exact⟨(hB.cell (p:=⟨eb,0,none⟩) HE3.out.lt).trans e0,(hB.cell (p:=⟨xg,2,none⟩) HX3.out.lt).trans x2,(hB.cell hl1).trans p0⟩) ((go_at_call 105;refine(HM.out _).mono ?_;rintro e w' ⟨rfl,hB⟩))
             go_wp2_with (fail)
             go_meet
             case rel=>exact⟨by rw[HB5.out];rfl,by first | exact hB | (exact below_draw hB) | (exact below_undraw hB)⟩
            ·have hj1:decide (0<j)=false:=decide_eq_false hj0
             refine wp_region_held_drew (S:=fun w'=>w'.cell? ⟨eb,0,none⟩=some (.string nm)) (by kernel_rfl) e0 (fun hHeld=>?_)
             refine wpAnyH_take (i:=0) (oi:=⟨some 75,_,_,_,_,_⟩) (v:=.pointer (some ⟨eb,0,none⟩)) rfl (by kernel_rfl) (by kernel_rfl) (by kernel_rfl) (fun _ _ _ h=>h) (Or.inl ⟨by kernel_rfl,fun w hSw=>by go_simp⟩) (by assumption) ?_
             simp only[Act.put,lTA,lC0,lCS]
             refine wpAnyH_take (i:=1) (oi:=⟨some 76,_,_,_,_,_⟩) (v:=.string nm) rfl (by kernel_rfl) (by kernel_rfl) (by kernel_rfl) (fun _ _ _ h=>h) (Or.inl ⟨by kernel_rfl,fun w hSw=>by go_simp⟩) (by assumption) ?_
             simp only[Act.put,lTA,lC0,lCS]
             refine wpAnyH_ready (rs:=[2]) (by kernel_rfl) (by simp) ?_
             refine AllReadyH.cons rfl (fun K hK=>?_) AllReadyH.nil
             go_simp
             refine(HM.out _).mono ?_
             rintro e w' ⟨rfl,hB⟩
             show K _ w'
             refine hK.out _ _ ((hB.cell (p:=⟨eb,0,none⟩) HE3.out.lt).trans e0) (fun hHeld=>?_)
             clear hK K
             refine wpAnyH_take (i:=3) (oi:=⟨some 78,_,_,_,_,_⟩) (v:=.bool false) rfl (by kernel_rfl) (by kernel_rfl) (by kernel_rfl) (fun _ _ _ h=>h) (Or.inl ⟨by kernel_rfl,fun w hSw=>by go_simp⟩) (by assumption) ?_
             simp only[Act.put,lTA,lC0,lCS]
             refine wpAnyH_take (i:=4) (oi:=⟨some 79,_,_,_,_,_⟩) (v:=.bool false) rfl (by kernel_rfl) (by kernel_rfl) (by kernel_rfl) (fun _ _ _ h=>h) (Or.inl ⟨by kernel_rfl,fun w hSw=>by go_simp⟩) (by assumption) ?_
             simp only[Act.put,lTA,lC0,lCS]
             refine wpAnyH_take (i:=5) (oi:=⟨some 80,_,_,_,_,_⟩) (v:=.int .i64 j) rfl (by kernel_rfl) (by kernel_rfl) (by kernel_rfl) (fun _ _ _ h=>h) (Or.inl ⟨by kernel_rfl,fun w hSw=>by go_simp⟩) (by assumption) ?_
             simp only[Act.put,lTA,lC0,lCS]
             refine wpAnyH_take (i:=6) (oi:=⟨some 81,_,_,_,_,_⟩) (v:=.bool false) rfl (by kernel_rfl) (by kernel_rfl) (by kernel_rfl) (fun _ _ _ h=>h) (Or.inl ⟨by kernel_rfl,fun w hSw=>by go_simp⟩) (by assumption) ?_
             simp only[Act.put,lTA,lC0,lCS]
             refine wpAnyH_take (i:=7) (oi:=⟨some 82,_,_,_,_,_⟩) (v:=.bool false) rfl (by kernel_rfl) (by kernel_rfl) (by kernel_rfl) (fun _ _ _ h=>h) (Or.inl ⟨by kernel_rfl,fun w hSw=>by go_simp⟩) (by assumption) ?_
             simp only[Act.put,lTA,lC0,lCS]
             refine wpAnyH_take (i:=8) (oi:=⟨some 83,_,_,_,_,_⟩) (v:=undef) rfl (by kernel_rfl) (by kernel_rfl) (by kernel_rfl) (fun _ _ _ h=>h) (Or.inr ⟨by kernel_rfl,rfl⟩) (by assumption) ?_
             simp only[Act.put,lTA,lC0,lCS]
             refine wpAnyH_take (i:=9) (oi:=⟨some 84,_,_,_,_,_⟩) (v:=undef) rfl (by kernel_rfl) (by kernel_rfl) (by kernel_rfl) (fun _ _ _ h=>h) (Or.inr ⟨by kernel_rfl,rfl⟩) (by assumption) ?_
             simp only[Act.put,lTA,lC0,lCS]
             refine wpAnyH_take (i:=10) (oi:=⟨some 85,_,_,_,_,_⟩) (v:=undef) rfl (by kernel_rfl) (by kernel_rfl) (by kernel_rfl) (fun _ _ _ h=>h) (Or.inr ⟨by kernel_rfl,rfl⟩) (by assumption) ?_
             simp only[Act.put,lTA,lC0,lCS]
             refine wpAnyH_take (i:=11) (oi:=⟨some 86,_,_,_,_,_⟩) (v:=undef) rfl (by kernel_rfl) (by kernel_rfl) (by kernel_rfl) (fun _ _ _ h=>h) (Or.inr ⟨by kernel_rfl,rfl⟩) (by assumption) ?_
             simp only[Act.put,lTA,lC0,lCS]
             refine wpAnyH_take (i:=12) (oi:=⟨some 87,_,_,_,_,_⟩) (v:=undef) rfl (by kernel_rfl) (by kernel_rfl) (by kernel_rfl) (fun _ _ _ h=>h) (Or.inr ⟨by kernel_rfl,rfl⟩) (by assumption) ?_
             simp only[Act.put,lTA,lC0,lCS]
             refine wpAnyH_take (i:=13) (oi:=⟨some 88,_,_,_,_,_⟩) (v:=undef) rfl (by kernel_rfl) (by kernel_rfl) (by kernel_rfl) (fun _ _ _ h=>h) (Or.inr ⟨by kernel_rfl,rfl⟩) (by assumption) ?_
             simp only[Act.put,lTA,lC0,lCS]
             refine wpAnyH_take (i:=14) (oi:=⟨some 89,_,_,_,_,_⟩) (v:=undef) rfl (by kernel_rfl) (by kernel_rfl) (by kernel_rfl) (fun _ _ _ h=>h) (Or.inr ⟨by kernel_rfl,rfl⟩) (by assumption) ?_
             simp only[Act.put,lTA,lC0,lCS]
             refine wpAnyH_take (i:=15) (oi:=⟨some 90,_,_,_,_,_⟩) (v:=undef) rfl (by kernel_rfl) (by kernel_rfl) (by kernel_rfl) (fun _ _ _ h=>h) (Or.inr ⟨by kernel_rfl,rfl⟩) (by assumption) ?_
             simp only[Act.put,lTA,lC0,lCS]
             refine wpAnyH_take (i:=16) (oi:=⟨some 91,_,_,_,_,_⟩) (v:=undef) rfl (by kernel_rfl) (by kernel_rfl) (by kernel_rfl) (fun _ _ _ h=>h) (Or.inr ⟨by kernel_rfl,rfl⟩) (by assumption) ?_
             simp only[Act.put,lTA,lC0,lCS]
             refine wpAnyH_take (i:=17) (oi:=⟨some 92,_,_,_,_,_⟩) (v:=undef) rfl (by kernel_rfl) (by kernel_rfl) (by kernel_rfl) (fun _ _ _ h=>h) (Or.inr ⟨by kernel_rfl,rfl⟩) (by assumption) ?_
             simp only[Act.put,lTA,lC0,lCS]
             refine wpAnyH_take (i:=18) (oi:=⟨some 93,_,_,_,_,_⟩) (v:=.bool false) rfl (by kernel_rfl) (by kernel_rfl) (by kernel_rfl) (fun _ _ _ h=>h) (Or.inl ⟨by kernel_rfl,fun w hSw=>by go_simp⟩) (by assumption) ?_
             simp only[Act.put,lTA,lC0,lCS]
             refine wpAnyH_take (i:=19) (oi:=⟨some 94,_,_,_,_,_⟩) (v:=.bool false) rfl (by kernel_rfl) (by kernel_rfl) (by kernel_rfl) (fun _ _ _ h=>h) (Or.inl ⟨by kernel_rfl,fun w hSw=>by go_simp⟩) (by assumption) ?_
             simp only[Act.put,lTA,lC0,lCS]
             refine wpAnyH_done (by kernel_rfl) ?_ _
             go_wp2_with (fail)
             go_meet
             case rel=>exact⟨by rw[HB5.out,hj1];rfl,by first | exact hB | (exact below_draw hB) | (exact below_undraw hB)⟩
           ·have hm':(ncheck nm==0)=false:=by simp[hm]
            have HM:=lhi (by have:=HM.out;rewrite[hm']at this;exact this)
            rw[hm']at HB5
            clear hm hm'
            refine wp_region_held_drew (S:=fun w'=>w'.cell? ⟨eb,0,none⟩=some (.string nm)) (by kernel_rfl) e0 (fun hHeld=>?_)
            refine wpAnyH_take (i:=0) (oi:=⟨some 75,_,_,_,_,_⟩) (v:=.pointer (some ⟨eb,0,none⟩)) rfl (by kernel_rfl) (by kernel_rfl) (by kernel_rfl) (fun _ _ _ h=>h) (Or.inl ⟨by kernel_rfl,fun w hSw=>by go_simp⟩) (by assumption) ?_
            simp only[Act.put,lTA,lC0,lCS]
            refine wpAnyH_take (i:=1) (oi:=⟨some 76,_,_,_,_,_⟩) (v:=.string nm) rfl (by kernel_rfl) (by kernel_rfl) (by kernel_rfl) (fun _ _ _ h=>h) (Or.inl ⟨by kernel_rfl,fun w hSw=>by go_simp⟩) (by assumption) ?_
            simp only[Act.put,lTA,lC0,lCS]
            refine wpAnyH_ready (rs:=[2]) (by kernel_rfl) (by simp) ?_
            refine AllReadyH.cons rfl (fun K hK=>?_) AllReadyH.nil
            go_simp
            refine(HM.out _).mono ?_
            rintro e w' ⟨rfl,hB⟩
            show K _ w'
            refine hK.out _ _ ((hB.cell (p:=⟨eb,0,none⟩) HE3.out.lt).trans e0) (fun hHeld=>?_)
            clear hK K
            refine wpAnyH_take (i:=3) (oi:=⟨some 78,_,_,_,_,_⟩) (v:=.bool true) rfl (by kernel_rfl) (by kernel_rfl) (by kernel_rfl) (fun _ _ _ h=>h) (Or.inl ⟨by kernel_rfl,fun w hSw=>by go_simp⟩) (by assumption) ?_
            simp only[Act.put,lTA,lC0,lCS]
            refine wpAnyH_take (i:=4) (oi:=⟨some 79,_,_,_,_,_⟩) (v:=.bool true) rfl (by kernel_rfl) (by kernel_rfl) (by kernel_rfl) (fun _ _ _ h=>h) (Or.inl ⟨by kernel_rfl,fun w hSw=>by go_simp⟩) (by assumption) ?_
            simp only[Act.put,lTA,lC0,lCS]
            refine wpAnyH_take (i:=5) (oi:=⟨some 80,_,_,_,_,_⟩) (v:=undef) rfl (by kernel_rfl) (by kernel_rfl) (by kernel_rfl) (fun _ _ _ h=>h) (Or.inr ⟨by kernel_rfl,rfl⟩) (by assumption) ?_
            simp only[Act.put,lTA,lC0,lCS]
            refine wpAnyH_take (i:=6) (oi:=⟨some 81,_,_,_,_,_⟩) (v:=undef) rfl (by kernel_rfl) (by kernel_rfl) (by kernel_rfl) (fun _ _ _ h=>h) (Or.inr ⟨by kernel_rfl,rfl⟩) (by assumption) ?_
            simp only[Act.put,lTA,lC0,lCS]
            refine wpAnyH_take (i:=7) (oi:=⟨some 82,_,_,_,_,_⟩) (v:=undef) rfl (by kernel_rfl) (by kernel_rfl) (by kernel_rfl) (fun _ _ _ h=>h) (Or.inr ⟨by kernel_rfl,rfl⟩) (by assumption) ?_
            simp only[Act.put,lTA,lC0,lCS]
            refine wpAnyH_take (i:=8) (oi:=⟨some 83,_,_,_,_,_⟩) (v:=undef) rfl (by kernel_rfl) (by kernel_rfl) (by kernel_rfl) (fun _ _ _ h=>h) (Or.inr ⟨by kernel_rfl,rfl⟩) (by assumption) ?_
            simp only[Act.put,lTA,lC0,lCS]
            refine wpAnyH_take (i:=9) (oi:=⟨some 84,_,_,_,_,_⟩) (v:=undef) rfl (by kernel_rfl) (by kernel_rfl) (by kernel_rfl) (fun _ _ _ h=>h) (Or.inr ⟨by kernel_rfl,rfl⟩) (by assumption) ?_
            simp only[Act.put,lTA,lC0,lCS]
            refine wpAnyH_take (i:=10) (oi:=⟨some 85,_,_,_,_,_⟩) (v:=undef) rfl (by kernel_rfl) (by kernel_rfl) (by kernel_rfl) (fun _ _ _ h=>h) (Or.inr ⟨by kernel_rfl,rfl⟩) (by assumption) ?_
            simp only[Act.put,lTA,lC0,lCS]
            refine wpAnyH_take (i:=11) (oi:=⟨some 86,_,_,_,_,_⟩) (v:=undef) rfl (by kernel_rfl) (by kernel_rfl) (by kernel_rfl) (fun _ _ _ h=>h) (Or.inr ⟨by kernel_rfl,rfl⟩) (by assumption) ?_
            simp only[Act.put,lTA,lC0,lCS]
            refine wpAnyH_take (i:=12) (oi:=⟨some 87,_,_,_,_,_⟩) (v:=undef) rfl (by kernel_rfl) (by kernel_rfl) (by kernel_rfl) (fun _ _ _ h=>h) (Or.inr ⟨by kernel_rfl,rfl⟩) (by assumption) ?_
            simp only[Act.put,lTA,lC0,lCS]
            refine wpAnyH_take (i:=13) (oi:=⟨some 88,_,_,_,_,_⟩) (v:=undef) rfl (by kernel_rfl) (by kernel_rfl) (by kernel_rfl) (fun _ _ _ h=>h) (Or.inr ⟨by kernel_rfl,rfl⟩) (by assumption) ?_
            simp only[Act.put,lTA,lC0,lCS]
            refine wpAnyH_take (i:=14) (oi:=⟨some 89,_,_,_,_,_⟩) (v:=undef) rfl (by kernel_rfl) (by kernel_rfl) (by kernel_rfl) (fun _ _ _ h=>h) (Or.inr ⟨by kernel_rfl,rfl⟩) (by assumption) ?_
            simp only[Act.put,lTA,lC0,lCS]
            refine wpAnyH_take (i:=15) (oi:=⟨some 90,_,_,_,_,_⟩) (v:=undef) rfl (by kernel_rfl) (by kernel_rfl) (by kernel_rfl) (fun _ _ _ h=>h) (Or.inr ⟨by kernel_rfl,rfl⟩) (by assumption) ?_
            simp only[Act.put,lTA,lC0,lCS]
            refine wpAnyH_take (i:=16) (oi:=⟨some 91,_,_,_,_,_⟩) (v:=undef) rfl (by kernel_rfl) (by kernel_rfl) (by kernel_rfl) (fun _ _ _ h=>h) (Or.inr ⟨by kernel_rfl,rfl⟩) (by assumption) ?_
            simp only[Act.put,lTA,lC0,lCS]
            refine wpAnyH_take (i:=17) (oi:=⟨some 92,_,_,_,_,_⟩) (v:=undef) rfl (by kernel_rfl) (by kernel_rfl) (by kernel_rfl) (fun _ _ _ h=>h) (Or.inr ⟨by kernel_rfl,rfl⟩) (by assumption) ?_
            simp only[Act.put,lTA,lC0,lCS]
            refine wpAnyH_take (i:=18) (oi:=⟨some 93,_,_,_,_,_⟩) (v:=undef) rfl (by kernel_rfl) (by kernel_rfl) (by kernel_rfl) (fun _ _ _ h=>h) (Or.inr ⟨by kernel_rfl,rfl⟩) (by assumption) ?_
            simp only[Act.put,lTA,lC0,lCS]
            refine wpAnyH_take (i:=19) (oi:=⟨some 94,_,_,_,_,_⟩) (v:=.bool true) rfl (by kernel_rfl) (by kernel_rfl) (by kernel_rfl) (fun _ _ _ h=>h) (Or.inl ⟨by kernel_rfl,fun w hSw=>by go_simp⟩) (by assumption) ?_
            simp only[Act.put,lTA,lC0,lCS]
            refine wpAnyH_done (by kernel_rfl) ?_ _
            go_wp2_with (fail)
            go_meet
            case rel=>exact⟨by rw[HB5.out];rfl,by first | exact hB | (exact below_draw hB) | (exact below_undraw hB)⟩
          case rest=>
           obtain⟨rfl,hB5'⟩:=hcut
           have HA4:=lhi (HA3.out.below hB5')
           have HX4:=lhi (Blk.of_heap (hB5'.block _ HX3.out.lt) HX3.out)
           have HS4:=lhi (Blk.of_heap (hB5'.block _ HS3.out.lt) HS3.out)
           have HE4:=lhi (Blk.of_heap (hB5'.block _ HE3.out.lt) HE3.out)
           clear hB5' HA3 HX3 HS3 HE3 HM e0 HB5
           go_upto_if 94 with(fail)
           obtain⟨wb,rfl⟩: ∃wb:World,wb=wc:=⟨_,rfl⟩
           go_cut [] (fun wx=>At w0 w wx c sb (.slice (some ⟨g,off,none⟩) n cap) ov mv (D3++one 5 x nm bb5)/\Blk wx xg 93 #[.int .i64 x,.bool true,.slice (some ⟨eg,eoff,none⟩) ne ecap,.string dt]/\Blk wx sl 183 (cntA (cnt S k j))/\Blk wx eb 132 #[.string nm,.int .i64 nu])
           case first=>
            rcases bool_tf bb5 with rfl | rfl
            ·have x0:wb.cell? ⟨xg,0,none⟩=some (.int .i64 x):=HX4.out.cell 0
             have e0:wb.cell? ⟨eb,0,none⟩=some (.string nm):=HE4.out.cell 0
             have HA:=lhi (add_calls HA4.out.1 (by have:=HL3.out;omega) 5 x nm)
             go_wp2_with (fail)
             refine HA.out.mono ?_
             rintro e w1 ⟨rfl,h1,h2⟩
             go_wp2_with (fail)
             go_meet
             case rel=>exact⟨HA4.out.to h1 h2,h2.blk HX4.out (by decide) (by decide),h2.blk HS4.out (by decide) (by decide),h2.blk HE4.out (by decide) (by decide)⟩
            ·have HD:=lhi (one_false D3 5 x nm rfl)
             go_wp2_with (fail)
             go_meet
             case rel=>exact⟨HD.out▸HA4.out,HX4.out,HS4.out,HE4.out⟩
           case rest=>
            have HA5:=lhi hcut.1
            have HX5:=lhi hcut.2.1
            have HS5:=lhi hcut.2.2.1
            have HE5:=lhi hcut.2.2.2
            obtain⟨D5,hD5⟩: ∃D5,D5=D3++one 5 x nm bb5:=⟨_,rfl⟩
            have HL5:=lhi (show D5.length<=104004002 by rw[hD5,List.length_append];have:=one_len 5 x nm bb5;have:=HL3.out;omega)
            rw[<-hD5]at HA5
            have HDE:=lhi (show D2++(List.range (j+1)).flatMap entF=D5++one 7 x nm0 bb7 by rw[HDJ.out,HEJ.out,hD5,HD3.out];simp only[List.append_assoc])
            clear hcut hD5 HA4 HX4 HS4 HE4 HL3
            have e0:wc.cell? ⟨eb,0,none⟩=some (.string nm):=HE5.out.cell 0
            have HBK:=lhi (bucket_calls nm wc)
            generalize nbucket nm=q at*
            go_upto_region 15 with(go_at_call 62;refine HBK.out.mono ?_;rintro e w' ⟨rfl,hB6⟩)
            have HA6:=lhi (HA5.out.below hB6)
            have HX6:=lhi (Blk.of_heap (hB6.block _ HX5.out.lt) HX5.out)
            have HS6:=lhi (Blk.of_heap (hB6.block _ HS5.out.lt) HS5.out)
            clear hB6 HA5 HX5 HS5 HE5 HBK e0
            have hsx:w0.heap.size<=sl:=by omega
            have hcl:=HCL.out q
            have hq8:(q:Int)<8:=by omega
            have s1:w'.cell? ⟨sl,q,none⟩=some (.int .i64 (cnt S k j q:Nat)):=(HS6.out.cell q).trans (cntA_at _ hnb)
            have f1:w'.frozen? ⟨sl,q,none⟩=false:=HS6.out.frozen q
            have HSS:=lhi (show Blk (w'.setCell ⟨sl,q,none⟩ (.int .i64 ((cnt S k j q:Nat)+1))) sl 183 (cntA (cnt S k (j+1)))by
             have:=HS6.out.set_ q (.int .i64 ((cnt S k j q:Nat)+1))
             rwa [cntA_set (cnt S k j) (cnt S k (j+1)) hnb (by rw[HCS.out,if_pos rfl];omega) (fun i _ hi=>by rw[HCS.out,if_neg (Ne.symm hi)];rfl)]at this)
            have HXX:=lhi (HX6.out.far (p:=⟨sl,q,none⟩) (HX6.out.ne_ HS6.out (by decide)) (.int .i64 ((cnt S k j q:Nat)+1)))
            have HAA:=lhi (show At w0 w (w'.setCell ⟨sl,q,none⟩ (.int .i64 ((cnt S k j q:Nat)+1))) c sb (.slice (some ⟨g,off,none⟩) n cap) ov mv D5 from⟨HA6.out.1.set HS6.out hsx (by decide) (by decide) (by decide) q _,HA6.out.2.set hsl q _⟩)
            clear HA6 HX6 HS6 HCS
            generalize cnt S k j q=cq at*
            by_cases hc4:cq=4
            ·subst hc4
             obtain rfl:bb7=true:=HB7.out
             have HXY:=lhi (show Blk (w'.setCell ⟨sl,q,none⟩ (.int .i64 5)) xg 93 #[.int .i64 x,.bool true,.slice (some ⟨eg,eoff,none⟩) ne ecap,.string dt]from HXX.out)
             have HSY:=lhi (show Blk (w'.setCell ⟨sl,q,none⟩ (.int .i64 5)) sl 183 (cntA (cnt S k (j+1)))from HSS.out)
             have HAY:=lhi (show At w0 w (w'.setCell ⟨sl,q,none⟩ (.int .i64 5)) c sb (.slice (some ⟨g,off,none⟩) n cap) ov mv D5 from HAA.out)
             have HA:=lhi (add_calls HAY.out.1 (by have:=HL5.out;omega) 7 x nm0)
             have x0:(w'.setCell ⟨sl,q,none⟩ (.int .i64 5)).cell? ⟨xg,0,none⟩=some (.int .i64 x):=HXY.out.cell 0
             clear HXX HSS HAA
             have s1:w'.cell? ⟨sl,q,none⟩=some (.int .i64 4):=s1
             go_wp2_with (fail)
             refine HA.out.mono ?_
             rintro e w1 ⟨rfl,h1,h2⟩
             have HR:=lhi (HAY.out.to h1 h2)
             have HR2:=lhi (h2.blk HXY.out (by decide) (by decide))
             have HR3:=lhi (h2.blk HSY.out (by decide) (by decide))
             clear h1 h2
             go_wp2_with (fail)
             go_roundw
             case rel=>exact⟨j+1,by go_num,by omega,by rw[HDE.out];exact HR.out,HR2.out,HR3.out⟩
             case measure=>
              simp only[intOf]
              omega
            ·have h4:((cq:Int)+1==5)=false:=by simp;omega
             have h4':((cq:Int)==4)=false:=by simp;omega
             obtain rfl:bb7=false:=by rw[HB7.out];simp[hc4]
             have HD:=lhi (one_false D5 7 x nm0 rfl)
             go_wp2_with (fail)
             go_roundw
             case rel=>exact⟨j+1,by go_num,by omega,by rw[HDE.out,<-HD.out];exact HAA.out,HXX.out,HSS.out⟩
             case measure=>
              simp only[intOf]
              omega
       ·have e:j=ne:=by omega
        subst e
        go_wp2_with (fail)
        go_roundw
        case rel=>exact⟨k+1,by go_num,by omega,by rw[HE.out _ rfl];exact HAT.out⟩
        case measure=>
         simp only[intOf]
         omega
     ·have HE:=lhi (show D++(List.range (k+1)).flatMap (bodyAt S)=D2 by rw[HD1.out,HBA.out,HD2.out,if_neg (by decide),List.append_nil])
      go_wp2_with (fail)
      go_roundw
      case rel=>exact⟨k+1,by go_num,by omega,by rw[HE.out];exact HAZ.out⟩
      case measure=>
       simp only[intOf]
       omega
  ·have e:k=n:=by omega
   subst e
   go_wp2_with (fail)
   go_end0
   exact⟨rfl,by rw[HNN.out,HNF.out];exact HAT.out⟩
end
section
open Go.RowKit
set_option maxHeartbeats 2000000
attribute [local go_sem↓] Go.wp_at_zero Go.wp_at_succ
def dirAt(S:St)(num:Int):Bool:=match firstIx S num with
 | some i=>S.dir i
 | none=>true
def b9a(S:St)(i:Nat):Bool:=dirAt S (S.on i)||decide (S.oc i<0)||decide ((S.made.length:Int)<=S.oc i)||decide (S.of i<0)||decide (4<=S.of i)
def b9(S:St)(i:Nat):Bool:=b9a S i|| (decide (0<i)&& (decide (S.oc i<S.oc (i - 1))|| (S.oc (i - 1)==S.oc i&&decide (S.of i<=S.of (i - 1)))))
def openAt(S:St)(i:Nat):List Fnd:=one 9 (S.on i) nm0 (b9 S i)
def openF(S:St):List Fnd:=(List.range S.opens.length).flatMap (openAt S)
set_option maxRecDepth 1000000 in
theorem open_calls{w0 w:World}{c sb:Nat}{iv ov mv:Value}{ev:Nat->Value}{S:St}{D:List Fnd}(h:Ck w0 w c sb iv ov mv D)(hS:StM w0 iv ov mv ev S)(hs:S.small)(hD:D.length<=200000000):
  Calls Tryz.prog 54 #[.pointer (some ⟨c,0,none⟩)] w fun e w'=>e= .returned (.tuple #[])/\At w0 w w' c sb iv ov mv (D++openF S):=by
 obtain⟨A,cap,rfl⟩:=hS.ino.form
 obtain⟨MA,mcap,rfl⟩:=hS.mad.form
 obtain⟨OA,ocap,rfl⟩:=hS.opn.form
 have hn:=hs.no
 have HN0:=lhi hs.ni
 have HC:=lhi h
 have HS:=lhi hS
 clear h hS hs
 have HNF:=lhi (show openF S=(List.range S.opens.length).flatMap (openAt S)from rfl)
 have HI:=lhi HS.out.ino
 have HO:=lhi HS.out.opn
 obtain⟨n,hnn⟩: ∃n,S.opens.length=n:=⟨_,rfl⟩
 obtain⟨m,hmm⟩: ∃n,S.made.length=n:=⟨_,rfl⟩
 obtain⟨ni,hni⟩: ∃n,S.inodes.length=n:=⟨_,rfl⟩
 rw[hnn]at hn HNF HC HS HO
 rw[hmm]at HC HS
 rw[hni]at HC HS HI HN0
 have c0:=HC.out.c0
 have s1:=HC.out.s1
 have HNN:=lhi hnn
 have HMM:=lhi hmm
 have HNI:=lhi hni
 clear hnn hmm hni
 go_enter Tryz.func54,Tryz.ntmps54
 go_wp2_with (fail)
 clear c0 s1
 go_loopw [15] (fun i wr=>∃k:Nat,i= .int .i64 k/\k<=n/\At w0 w wr c sb (.slice A ni cap) (.slice OA n ocap) (.slice MA m mcap) (D++(List.range k).flatMap (openAt S))) (fun i _=>n - (intOf i).toNat)
 case atStart=>exact⟨0,rfl,by omega,by simpa using At.start HC.out⟩
 case round=>
  obtain⟨k,rfl,hk,hat⟩:=hrel
  have HAT:=lhi hat
  have HLK:=lhi (show(D++(List.range k).flatMap (openAt S)).length<=200001000 by rw[List.length_append];have:=flat_len (f:=openAt S) (c:=1) (fun _=>one_len _ _ _ _) k;omega)
  have HFS:=lhi (flat_succ (openAt S) k)
  clear hat
  by_cases hp:k<n
  ·obtain⟨D1,hD1⟩: ∃D1,D1=D++(List.range k).flatMap (openAt S):=⟨_,rfl⟩
   obtain⟨bb,hbb⟩: ∃b,b=b9 S k:=⟨_,rfl⟩
   obtain⟨ba,hba⟩: ∃b,b=b9a S k:=⟨_,rfl⟩
   rw[<-hD1]at HAT HLK
   have HD1:=lhi (show D++(List.range (k+1)).flatMap (openAt S)=D1++one 9 (S.on k) nm0 bb by rw[HFS.out,hD1,List.append_assoc,hbb];rfl)
   have HBB:=lhi (show bb=(ba|| (decide (0<k)&& (decide (S.oc k<S.oc (k - 1))|| (S.oc (k - 1)==S.oc k&&decide (S.of k<=S.of (k - 1))))))by rw[hbb,hba];rfl)
   have HBA:=lhi (show ba=(dirAt S (S.on k)||decide (S.oc k<0)||decide ((m:Int)<=S.oc k)||decide (S.of k<0)||decide (4<=S.of k))by rw[hba,b9a,HMM.out])
   clear hD1 HFS HC hbb hba
   obtain⟨-,hcap,g,off,rfl,hcell⟩:=(HO.out.keep HAT.out.1.bel).at_ hp
   have q0:wr.cell? ⟨g,off+k*3,none⟩=some (.int .i64 (S.oc k)):=hcell 0 (by omega)
   have q1:wr.cell? ⟨g,off+k*3+1,none⟩=some (.int .i64 (S.of k)):=hcell 1 (by omega)
   have q2:wr.cell? ⟨g,off+k*3+2,none⟩=some (.int .i64 (S.on k)):=hcell 2 (by omega)
   have hp1:(k:Int)<n:=by omega
   clear hcell
   have HX:=lhi (Blk.new wr 144 #[.int .i64 (S.oc k),.int .i64 (S.of k),.int .i64 (S.on k)])
   have HAX:=lhi (HAT.out.alloc (Obj.cells #[.int .i64 (S.oc k),.int .i64 (S.of k),.int .i64 (S.on k)] 144))
   have hsz:w.heap.size<=wr.heap.size:=HAT.out.2.size
   have HDI:=lhi (show dirAt S (S.on k)=match firstIx S (S.on k)with
    | some i=>S.dir i
    | none=>true from rfl)
   generalize S.oc k=oc at*
   generalize S.of k=fd at*
   generalize S.on k=x at*
   have hx2:(wr.alloc (Obj.cells #[.int .i64 oc,.int .i64 fd,.int .i64 x] 144)).cell? ⟨wr.heap.size,2,none⟩=some (.int .i64 x):=HX.out.cell 2
   have HIN:=HAX.out.1
   obtain⟨pv,hpv⟩: ∃pv,pv=inoPtr (.slice A ni cap) (firstIx S x):=⟨_,rfl⟩
   have HFI:=lhi (first_calls HAX.out.1.c0 HAX.out.1.s0 (by rw[HNI.out];exact HI.out.keep HAX.out.1.bel) (by rw[HNI.out];exact HN0.out) x)
   rw[<-hpv]at HFI
   have HPV:=lhi hpv
   clear hpv HIN
   go_upto_region 3 with(fail)
   go_cut [4] (fun s wx=>pv=s/\wr.alloc (Obj.cells #[.int .i64 oc,.int .i64 fd,.int .i64 x] 144)=wx)
   case first=>
    clear q0 q1 q2
    generalize wr.alloc (Obj.cells #[.int .i64 oc,.int .i64 fd,.int .i64 x] 144)=wy at*
    go_wp2_with (go_at_call 104;refine HFI.out.mono ?_;rintro e w' ⟨rfl,hw⟩;obtain rfl:=hw.symm)
    go_meet
    case rel=>exact⟨rfl,rfl⟩
   case rest=>
    obtain⟨rfl,rfl⟩:=hcut
    clear q0 q1 q2 hx2 HFI HAT
    generalize wr.alloc (Obj.cells #[.int .i64 oc,.int .i64 fd,.int .i64 x] 144)=wy at*
    generalize wr.heap.size=xg at*
    go_upto_region 4 with(fail)
    go_cut [5] (fun s wx=>s= .bool ba/\ ∃d,wx=wy.drewN d)
    case first=>
     have x0:wy.cell? ⟨xg,0,none⟩=some (.int .i64 oc):=HX.out.cell 0
     have x1:wy.cell? ⟨xg,1,none⟩=some (.int .i64 fd):=HX.out.cell 1
     have c0:=HAX.out.1.c0
     have s2:=HAX.out.1.s2
     rcases hfi:firstIx S x with _ | i
     ·obtain rfl:pv= .pointer none:=by rw[HPV.out,hfi];rfl
      have HBA:=lhi (show ba=true by rw[HBA.out,HDI.out,hfi];rfl)
      clear hfi HPV HDI
      go_quiet (fail)
      go_wp2_with (fail)
      go_meet
      case rel=>exact⟨by rw[HBA.out],_,rfl⟩
     ·obtain⟨-,-,g',off',rfl,hcell⟩:=(HI.out.keep HAX.out.1.bel).at_ (i:=i) (by
       have h2:=hfi
       unfold firstIx at h2
       rw[List.find?_range_eq_some]at h2
       have:=h2.2.1
       rw[HNI.out]at this
       simpa using this)
      obtain rfl:pv= .pointer (some ⟨g',off'+i*4,none⟩):=by rw[HPV.out,hfi];rfl
      have y1:wy.cell? ⟨g',off'+i*4+1,none⟩=some (.bool (S.dir i)):=hcell 1 (by omega)
      have HBA:=lhi (show ba=(S.dir i||decide (oc<0)||decide ((m:Int)<=oc)||decide (fd<0)||decide (4<=fd))by rw[HBA.out,HDI.out,hfi])
      clear hfi HPV HDI hcell
      generalize S.dir i=dv at*
      rcases bool_tf dv with rfl | rfl
      ·go_quiet (fail)
       go_wp2_with (fail)
       go_meet
       case rel=>exact⟨by rw[HBA.out];rfl,_,rfl⟩
      ·by_cases h1:oc<0
       ·go_quiet (fail)
        go_wp2_with (fail)
        go_meet
        case rel=>exact⟨by rw[HBA.out];simp[h1],_,rfl⟩
       ·have h1':decide (oc<0)=false:=decide_eq_false h1
        by_cases h2:(m:Int)<=oc
        ·go_quiet (fail)
         go_wp2_with (fail)
         go_meet
         case rel=>exact⟨by rw[HBA.out];simp[h2],_,rfl⟩
        ·have h2':decide ((m:Int)<=oc)=false:=decide_eq_false h2
         by_cases h3:fd<0
         ·go_quiet (fail)
          go_wp2_with (fail)
          go_meet
          case rel=>exact⟨by rw[HBA.out];simp[h3],_,rfl⟩
         ·have h3':decide (fd<0)=false:=decide_eq_false h3
          go_quiet (fail)
          go_wp2_with (fail)
          go_meet
          case rel=>exact⟨by rw[HBA.out,h1',h2',h3'];rfl,_,rfl⟩
    case rest=>
     obtain⟨rfl,d,rfl⟩:=hcut
     have HAY:=lhi (HAX.out.drewN d)
     have HXY:=lhi (show Blk (wy.drewN d) xg 144 #[.int .i64 oc,.int .i64 fd,.int .i64 x]from HX.out)
     clear HAX HX HBA HPV HDI
     generalize wy.drewN d=wz at*
     go_upto_if 61 with(fail)
     go_cut [5] (fun s wx=>s= .bool bb/\At w0 w wx c sb (.slice A ni cap) (.slice (some ⟨g,off,none⟩) n ocap) (.slice MA m mcap) D1/\Blk wx xg 144 #[.int .i64 oc,.int .i64 fd,.int .i64 x])
     case first=>
      by_cases hk0:0<k
      ·obtain⟨p,rfl⟩: ∃p,k=p+1:=⟨k - 1,by omega⟩
       obtain⟨-,-,g',off',e,hcell⟩:=(HO.out.keep HAY.out.1.bel).at_ (i:=p) (by omega)
       injection e with e
       injection e with e1 e2
       subst e1 e2
       have r0:wz.cell? ⟨g,off+p*3,none⟩=some (.int .i64 (S.oc p)):=hcell 0 (by omega)
       have r1:wz.cell? ⟨g,off+p*3+1,none⟩=some (.int .i64 (S.of p)):=hcell 1 (by omega)
       have r2:wz.cell? ⟨g,off+p*3+2,none⟩=some (.int .i64 (S.on p)):=hcell 2 (by omega)
       have c0:=HAY.out.1.c0
       have s1:=HAY.out.1.s1
       have hk1:decide (0<p+1)=true:=decide_eq_true hk0
       have HBB:=lhi (show bb=(ba|| (decide (oc<S.oc p)|| (S.oc p==oc&&decide (fd<=S.of p))))by have:=HBB.out;rw[hk1]at this;simpa using this)
       clear hcell
       generalize S.oc p=oq at*
       generalize S.of p=fq at*
       generalize S.on p=nq at*
       have HEB:=lhi (Blk.new wz 144 #[.int .i64 oq,.int .i64 fq,.int .i64 nq])
       have HAE:=lhi (HAY.out.alloc (Obj.cells #[.int .i64 oq,.int .i64 fq,.int .i64 nq] 144))
       have HXE:=lhi (HXY.out.alloc (Obj.cells #[.int .i64 oq,.int .i64 fq,.int .i64 nq] 144))
       have x0:(wz.alloc (Obj.cells #[.int .i64 oq,.int .i64 fq,.int .i64 nq] 144)).cell? ⟨xg,0,none⟩=some (.int .i64 oc):=HXE.out.cell 0
       have x1:(wz.alloc (Obj.cells #[.int .i64 oq,.int .i64 fq,.int .i64 nq] 144)).cell? ⟨xg,1,none⟩=some (.int .i64 fd):=HXE.out.cell 1
       rcases bool_tf ba with rfl | rfl
       ·go_wp2_with (fail)
        go_meet
        case rel=>exact⟨by rw[HBB.out];rfl,HAE.out,HXE.out⟩
       ·by_cases h1:oc<oq
        ·go_wp2_with (fail)
         go_meet
         case rel=>exact⟨by rw[HBB.out];simp[h1],HAE.out,HXE.out⟩
        ·have h1':decide (oc<oq)=false:=decide_eq_false h1
         by_cases h2:(oq==oc)=true
         ·go_wp2_with (fail)
          go_meet
          case rel=>exact⟨by rw[HBB.out,h1',h2];rfl,HAE.out,HXE.out⟩
         ·have h2:=Bool.eq_false_iff.2 h2
          go_wp2_with (fail)
          go_meet
          case rel=>exact⟨by rw[HBB.out,h1',h2];rfl,HAE.out,HXE.out⟩
      ·have hk1:decide (0<k)=false:=decide_eq_false hk0
       have HBB:=lhi (show bb=ba by have:=HBB.out;rw[hk1]at this;simpa using this)
       go_wp2_with (fail)
       go_meet
       case rel=>exact⟨by rw[HBB.out],HAY.out,HXY.out⟩
     case rest=>
      have hb5:=hcut.1
      have HAZ:=lhi hcut.2.1
      have HXZ:=lhi hcut.2.2
      clear hcut HAY HXY
      subst hb5
      rcases bool_tf bb with rfl | rfl
      ·have x2:wc.cell? ⟨xg,2,none⟩=some (.int .i64 x):=HXZ.out.cell 2
       have HA:=lhi (add_calls HAZ.out.1 (by have:=HLK.out;omega) 9 x nm0)
       go_wp2_with (fail)
       refine HA.out.mono ?_
       rintro e w1 ⟨rfl,h1,h2⟩
       have HR:=lhi (HAZ.out.to h1 h2)
       clear h1 h2
       go_wp2_with (fail)
       go_roundw
       case rel=>exact⟨k+1,by go_num,by omega,by rw[HD1.out];exact HR.out⟩
       case measure=>
        simp only[intOf]
        omega
      ·have HD:=lhi (one_false D1 9 x nm0 rfl)
       go_wp2_with (fail)
       go_roundw
       case rel=>exact⟨k+1,by go_num,by omega,by rw[HD1.out,<-HD.out];exact HAZ.out⟩
       case measure=>
        simp only[intOf]
        omega
  ·have e:k=n:=by omega
   subst e
   go_wp2_with (fail)
   go_end0
   exact⟨rfl,by rw[HNN.out,HNI.out,HMM.out,HNF.out];exact HAT.out⟩
end
end Go.Proofs.YtkebjgebkneijaaGreat
