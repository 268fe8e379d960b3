/- Texts of one's own that a claim's last text rests on: Mf14 Pg Pg2. -/
import Derived.Test.YtkebjgebkneijaaGreatMG6
import Derived.Test.YtkebjgebkneijaaGreatMG5
import Derived.IntWalk
set_option linter.unusedVariables false
set_option linter.unusedSimpArgs false
namespace Go.Proofs.YtkebjgebkneijaaGreat
open Go.RowKit
set_option maxHeartbeats 16000000
set_option maxRecDepth 1000000
theorem Agp(c n:Int)(hc:0<=c/\c<8)(hn:0<=n/\n<1000)(w:World):Calls Tryz.prog 118 #[.int .i64 c,.int .i64 n] w fun e w'=>e= .returned (.int .i64 (2+c+8*n))/\w=w':=by
 obtain⟨h1,h2⟩:=hc
 obtain⟨h3,h4⟩:=hn
 go_enter Tryz.func118,Tryz.ntmps118
 go_wp2
 go_ret
 exact⟨rfl,rfl⟩
theorem Ac4{L:Nat->Prop}{w:World}{s:Nat}{M:Mem}{m:Nat}(h:Ab L w s M)(hok:M.ok m)(hm:m<=1000000000){c i:Int}(hc:Who M c)(hi:0<=i/\i<9549){r:Int}(hr:rd M.ws i=r):
  Calls Tryz.prog 180 #[.agg #[.pointer (some ⟨s,0,none⟩),.int .i64 c],.int .i64 i] w fun e w'=>e= .returned (.int .i64 r)/\Ab L w' s (M.see c i)/\Kp L w w':=hr▸Wa h hok hm hc hi
namespace Wk
variable{L:Nat->Prop}{w W W':World}{s:Nat}{M M':Mem}{Bs:List LB}{Rs:List RB}{m:Nat}
theorem store_wk(h:Wk L w s M Bs Rs W)(hok:M.ok m)(hm:m<=1000000000){c i v:Int}(hc:0<=c/\c<M.ts.length)(hi:0<=i/\i<9549){a:Nat}(ha:W.cell? ⟨s,0,none⟩=some (.pointer (some ⟨a,0,none⟩))):
  Calls Tryz.prog 163 #[.pointer (some ⟨a,0,none⟩),.int .i64 c,.int .i64 i,.int .i64 v] W fun e w'=>(e= .returned (.int .i64 0)/\w'.cell? ⟨s,0,none⟩=W.cell? ⟨s,0,none⟩)/\Wk L w s ((M.put i v).note c (i,true)) Bs Rs w':=
 h.call fun K hK=>Vl hK hok hm hc hi ha
theorem arena(h:Wk L w s M Bs Rs W): ∃a,W.cell? ⟨s,0,none⟩=some (.pointer (some ⟨a,0,none⟩)):=by
 obtain⟨a,L1,h0,-⟩:=h.mem.lend
 exact⟨a,h0⟩
theorem callKI(h:Wk L w s M Bs Rs W){P:FuncId}{args:Array Value}{R:Ending->Prop}
  (hc: ∀K,Ab K W s M->Calls Tryz.prog P args W fun e w'=>R e/\Ab K w' s M'/\Kp K W w'):
  Calls Tryz.prog P args W fun e w'=>R e/\Wk L w s M' Bs Rs w'/\KI W w':=by
 refine(h.call (R:=fun e w'=>R e/\KI W w') fun K hK=>(hc K hK).mono fun e w' ⟨h1,h2,h3⟩=>⟨⟨h1,h3.i⟩,h2,h3⟩).mono ?_
 rintro e w' ⟨⟨h1,h2⟩,h3⟩
 exact⟨h1,h3,h2⟩
theorem set_wk{W0:World}(h:Wk L w s M Bs Rs W0)(hl:Bd L w)(hb:Below W0.heap.size W0 W)(hok:M.ok m)(hm:m<=900000000){c i:Int}(hc:0<=c/\c<M.ts.length)(hi:0<=i/\i<9549){sp:Nat}(hL:L sp)(s0:w.cell? ⟨sp,0,none⟩=some (.pointer (some ⟨s,0,none⟩)))(s1:w.cell? ⟨sp,1,none⟩=some (.int .i64 c))
  {sv:Value} {l:List Item} (hi2:ItB W sv l) (hn: ∀q,Es sv q->W0.heap.size<=q):
  Calls Tryz.prog 195 #[.pointer (some ⟨sp,0,none⟩),.int .i64 i,.iface 129 sv] W fun e w'=>e= .returned (.tuple #[])/\Wk L w s (M.setW c i (.bucket l)) Bs Rs w':=
 h.callNew hl hb fun K hKL hKB hK=>Ady hK hok hm hc hi (hKL _ hL) ((h.below hb hl).old hL s0) ((h.below hb hl).old hL s1) ⟨sv,rfl,hi2,fun _ q hq hk=>absurd (hKB q hk) (by have:=hn q hq;omega)⟩
end Wk
def Dj(M:Mem)(c:Int)(it:Item)(nm:ByteArray)(kind n:Int):Mem:=
 let b:Int:=(Aa nm:Nat)
 let num:=2+c+8*n
 let M1:=M.see c (mdw c)
 let M2:=(M1.put (mdw c) (n+1)).note c (mdw c,true)
 let M3:=M2.setW c (wd it.num b) (.bucket (M.bkt it.num b++[⟨nm,num,kind==1⟩]))
 if kind=0 then(M3.put (wd num (8+c)) 1).note c (wd num (8+c),true)else M3
theorem Gs{ws:List Int}{i j v:Int}(h:j.toNat≠i.toNat):rd (wr ws i v) j=rd ws j:=by
 unfold rd wr
 simp[List.getD,Ne.symm h]
theorem Ae8{L:Nat->Prop}{w:World}{s:Nat}{M M1:Mem}{m:Nat}(h:Ab L w s M)(hok:M.ok m)(hm:m<=700000000){c:Int}(hc:0<=c/\c<M.ts.length)(hf:M.fit)
  {sp:Nat} (hL:L sp) (s0:w.cell? ⟨sp,0,none⟩=some (.pointer (some ⟨s,0,none⟩))) (s1:w.cell? ⟨sp,1,none⟩=some (.int .i64 c)) {kind:Int} (s2:w.cell? ⟨sp,2,none⟩=some (.int .i64 kind)) (hkind:kind=0∨kind=1) {path:ByteArray} (s7:w.cell? ⟨sp,7,none⟩=some (.string path)) (hs:path.size<=4611686018427387904)
  {ns:List ByteArray} {nm:ByteArray} (hp:Au path= .ok (ns++[nm])) (hn:ns.length<=100) {it:Item} (hw:Ch c ns M Av=(.at_ it,M1)) (hd:it.dir=true) (hfr:Wf (M.bkt it.num (Aa nm:Nat)) nm=0)
  {n:Int} (hmade:rd M.ws (mdw c)=n) (hn0:0<=n/\n<32):
  Calls Tryz.prog 160 #[.pointer (some ⟨sp,0,none⟩)] w fun e w'=>e= .returned (.tuple #[])/\Ab L w' s (Dj (M1.see c (wd it.num (Aa nm:Nat))) c it nm kind n)/\Kp L w w':=by
 have hsame:=Mg c ns M Av
 have hok1:=Qw c ns M Av m hok
 have hnum:=Lc c ns M Av it hf ⟨by decide,by decide⟩ (by rw[hw])
 rw[hw]at hsame hok1
 have hts8:=h.tsl
 have HPA:=lhi (Ad7 h hok (by omega) hc hf hL s0 s1 hs hp hn hw hd)
 have HBD:=lhi h.bd
 have HL:=lhi hL
 obtain⟨inm,inu,idr⟩:=it
 obtain rfl:idr=true:=hd
 have hnum:1<=inu/\inu<=257:=hnum
 have hnum0:=hnum
 obtain⟨M2,hM2⟩: ∃X,M1.see c (wd inu (Aa nm:Nat))=X:=⟨_,rfl⟩
 have hsame2:M.same M2:=hM2▸hsame.trans (Mem.same.see _ _ _)
 have hok2:M2.ok (m+ns.length+1):=hM2▸hok1.see _ _
 obtain⟨l,hl⟩: ∃X,M.bkt inu (Aa nm:Nat)=X:=⟨_,rfl⟩
 have hl2:M2.bkt inu (Aa nm:Nat)=l:=by rw[hsame2.bkt,hl]
 have hll:l.length<=1000:=hl▸(hf.it inu (Aa nm:Nat) hnum (by have:=Cz nm;omega)).1
 rw[hl]at hfr
 have HPA:=lhi (show Calls Tryz.prog 197 #[.pointer (some ⟨sp,0,none⟩),.string path] w fun e w'=>(∃tn tc ta bv,e= .returned (.agg #[.string inm,.int .i64 inu,.bool true,.slice ta tn tc,.string nm,.int .i64 (wd inu (Aa nm:Nat)),bv])/\ItB w' bv l)/\Ab L w' s M2/\Kp L w w' by have:=HPA.out;rw[hl,hM2]at this;exact this)
 have HOK2:=lhi hok2
 have HC2:=lhi (show 0<=c/\c<M2.ts.length by rw[hsame2.ts];exact hc)
 have HNB:=lhi (show(0:Int)<= (Aa nm:Nat)/\ ((Aa nm:Nat):Int)<8 by have:=Cz nm;omega)
 have HMD:=lhi (show rd M2.ws (mdw c)=n by rw[hsame2.ws];exact hmade)
 have HFR:=lhi hfr
 have HLL:=lhi hll
 have HCR:=lhi (show Dj M2 c ⟨inm,inu,true⟩ nm kind n=(let M4:=(((M2.see c (mdw c)).put (mdw c) (n+1)).note c (mdw c,true)).setW c (wd inu (Aa nm:Nat)) (.bucket (l++[⟨nm,2+c+8*n,kind==1⟩]));if kind=0 then(M4.put (wd (2+c+8*n) (8+c)) 1).note c (wd (2+c+8*n) (8+c),true)else M4)by rw[<-hl2];rfl)
 rw[hM2]
 have hc8:0<=c/\c<8:=⟨hc.1,by omega⟩
 obtain⟨hc0,hc1⟩:=hc8
 have hmn:m+ns.length+100<=800000000:=by omega
 obtain⟨mm,hmm⟩: ∃y,m+ns.length=y:=⟨_,rfl⟩
 rw[hmm]at HOK2 hmn
 clear h hok hc hf hp hw hsame hok1 hsame2 hok2 hM2 hl2 hl hfr hll hmade hs hmm hts8
 go_enter Tryz.func160,Tryz.ntmps160
 go_upto_region 2 with(first
  | (go_at_call 197;refine HPA.out.mono ?_;rintro e w1 ⟨⟨tn,tc,ta,bv,rfl,hbv⟩,hM,hK⟩;have HM:=lhi hM;have HK:=lhi hK;have HBV:=lhi hbv;obtain⟨BA,bcap,rfl,-,-⟩:=RowT.at' hbv;clear hM hK hbv;obtain⟨bn,hbn⟩: ∃y,l.length=y:=⟨_,rfl⟩;have HBN:=lhi hbn;rw[hbn]at HBV HLL;rw[hbn];clear hbn)
  | (go_at_call 198;refine(Ahm (it:=⟨inm,inu,true⟩) (show Blk (w1.alloc (.cells #[.string inm,.int .i64 inu,.bool true,.slice ta tn tc,.string nm,.int .i64 (wd inu (Aa nm:Nat)),.slice BA bn bcap] 278)) w1.heap.size 278 #[.string inm,.int .i64 inu,.bool true,.slice ta tn tc,.string nm,.int .i64 (wd inu (Aa nm:Nat)),.slice BA bn bcap]from Blk.new _ _ _) (HBV.out.ki (KI.below (Br _ _))) (by rw[HBN.out];exact HLL.out) HFR.out).mono ?_;rintro e w2 ⟨rfl,hb2⟩;have HB2:=lhi hb2;clear hb2))
 obtain⟨p2,hp2⟩: ∃p,p=w1.heap.size:=⟨_,rfl⟩
 have HW2:=lhi (((Wk.start HM.out).allocAt HM.out.bd #[.string inm,.int .i64 inu,.bool true,.slice ta tn tc,.string nm,.int .i64 (wd inu (Aa nm:Nat)),.slice BA bn bcap] 278 hp2).below HB2.out HM.out.bd)
 have HBV2:=lhi (show ItB w2 (.slice BA bn bcap) l from(HBV.out.ki (KI.below (Br _ _))).ki (KI.below HB2.out))
 have HBD1:=lhi HM.out.bd
 rw[<-hp2]
 have t0:=HK.out.cellOf (p:=⟨sp,0,none⟩) HL.out s0
 have t1:=HK.out.cellOf (p:=⟨sp,1,none⟩) HL.out s1
 have t2:=HK.out.cellOf (p:=⟨sp,2,none⟩) HL.out s2
 have HS:=lhi (show∀(M':Mem) (W:World),Wk L w1 s M' [⟨p2,278,#[.string inm,.int .i64 inu,.bool true,.slice ta tn tc,.string nm,.int .i64 (wd inu (Aa nm:Nat)),.slice BA bn bcap]⟩] [] W->(W.cell? ⟨sp,0,none⟩=some (.pointer (some ⟨s,0,none⟩))/\W.cell? ⟨sp,1,none⟩=some (.int .i64 c)/\W.cell? ⟨sp,2,none⟩=some (.int .i64 kind)/\W.cell? ⟨p2,4,none⟩=some (.string nm)/\W.cell? ⟨p2,5,none⟩=some (.int .i64 (wd inu (Aa nm:Nat)))/\W.cell? ⟨p2,6,none⟩=some (.slice BA bn bcap))from fun M' W hW=>by
  have h1:=hW.bk (.head _)
  exact⟨hW.old HL.out t0,hW.old HL.out t1,hW.old HL.out t2,h1.cell 4,h1.cell 5,h1.cell 6⟩)
 have HT0:=lhi t0
 have HT1:=lhi t1
 clear hp2 HM HB2 HBV s0 s1 s2 s7 t0 t1 t2 HPA HFR
 have H0:=lhi HW2.out.drew
 have HWH:=lhi (show Who M2 c from .inr HC2.out)
 have HMI:=lhi (show 0<=mdw c/\mdw c<9549 by unfold mdw;omega)
 go_cut [3] (fun s3 wx=>s3= .int .i64 n/\Wk L w1 s (M2.see c (mdw c)) [⟨p2,278,#[.string inm,.int .i64 inu,.bool true,.slice ta tn tc,.string nm,.int .i64 (wd inu (Aa nm:Nat)),.slice BA bn bcap]⟩] [] wx/\KI w2 wx)
 case first=>
  go_region_held3 (fun w'=>(w'.cell? ⟨sp,0,none⟩=some (.pointer (some ⟨s,0,none⟩))/\w'.cell? ⟨sp,1,none⟩=some (.int .i64 c)/\w'.cell? ⟨sp,2,none⟩=some (.int .i64 kind)/\w'.cell? ⟨p2,4,none⟩=some (.string nm)/\w'.cell? ⟨p2,5,none⟩=some (.int .i64 (wd inu (Aa nm:Nat)))/\w'.cell? ⟨p2,6,none⟩=some (.slice BA bn bcap)))
   (with_reducible first | exact HS.out _ _ H0.out | exact HS.out _ _ HQ.out)
   ((first
    | (go_at_call 69;refine(Gu c (by omega) _).mono ?_;rintro e w' ⟨rfl,rfl⟩)
    | (go_at_call 180;refine(H0.out.callKI (fun K hK=>Ac4 hK HOK2.out (by omega) HWH.out HMI.out HMD.out)).mono ?_;rintro e wv1 ⟨rfl,hq,hki⟩;have HQ:=lhi hq;have HKI:=lhi hki;clear hq hki)))
  all_goals
   go_wp2_with (fail)
   go_meet
   case rel=>exact⟨rfl,HQ.out,HKI.out⟩
 case rest=>
  obtain⟨rfl,hq,hki⟩:=hcut
  have HQ:=lhi hq
  have HBV3:=lhi (HBV2.out.ki hki)
  obtain⟨r0,r1,r2,r3,r4,r5⟩:=HS.out _ _ hq
  obtain⟨a,ra⟩:=hq.arena
  have HRA:=lhi ra
  have hd32:decide ((32:Int)<=n)=false:=by simp;omega
  obtain⟨Ma,hMa⟩: ∃X,M2.see c (mdw c)=X:=⟨_,rfl⟩
  have HMA:=lhi hMa
  have HOKA:=lhi (show Ma.ok (mm+2)from hMa▸HOK2.out.see _ _)
  have HCA:=lhi (show 0<=c/\c<Ma.ts.length by rw[<-hMa,(Mem.same.see M2 _ _).ts];exact HC2.out)
  rw[hMa]at HQ
  obtain⟨num,hnum⟩: ∃x,2+c+8*n=x:=⟨_,rfl⟩
  have HNUM:=lhi hnum
  have hnb:2<=num/\num<=257:=by omega
  rw[hnum]at HCR
  have HNI:=lhi (fun W=>hnum▸Agp c n ⟨hc0,hc1⟩ ⟨hn0.1,by omega⟩ W)
  clear hq hki H0 HW2 HBV2 hMa hnum
  obtain⟨wb,hwb⟩: ∃x:World,x=wc:=⟨_,rfl⟩
  subst hwb
  go_upto_region 5 with(first
   | (go_at_call 199;refine(Ec _ _).mono ?_;rintro e w' ⟨rfl,rfl⟩)
   | (go_at_call 118;refine(HNI.out _).mono ?_;rintro e w' ⟨rfl,rfl⟩))
  have H0:=lhi HQ.out.drew
  have HZC:=lhi (show(wb.drew.cell? ⟨sp,0,none⟩=some (.pointer (some ⟨s,0,none⟩))/\wb.drew.cell? ⟨sp,1,none⟩=some (.int .i64 c)/\wb.drew.cell? ⟨s,0,none⟩=some (.pointer (some ⟨a,0,none⟩)))from⟨r0,r1,ra⟩)
  have e1:IntKind.i64.wrap (n+1)=n+1:=IntWalk.i64_in _ (by omega)
  clear r0 r1 r2 r3 r4 r5 ra
  obtain⟨Mb,hMb⟩: ∃X,(Ma.put (mdw c) (n+1)).note c (mdw c,true)=X:=⟨_,rfl⟩
  have HMB:=lhi hMb
  have HST:=lhi (show Calls Tryz.prog 163 #[.pointer (some ⟨a,0,none⟩),.int .i64 c,.int .i64 (mdw c),.int .i64 (n+1)] wb.drew fun e w'=>((e= .returned (.int .i64 0)/\w'.cell? ⟨s,0,none⟩=wb.drew.cell? ⟨s,0,none⟩)/\KI wb.drew w')/\Wk L w1 s Mb [⟨p2,278,#[.string inm,.int .i64 inu,.bool true,.slice ta tn tc,.string nm,.int .i64 (wd inu (Aa nm:Nat)),.slice BA bn bcap]⟩] [] w' by
   rw[<-hMb]
   exact H0.out.call (R:=fun e w'=>(e= .returned (.int .i64 0)/\w'.cell? ⟨s,0,none⟩=wb.drew.cell? ⟨s,0,none⟩)/\KI wb.drew w') fun K hK=>(Vl hK HOKA.out (by omega) HCA.out HMI.out HRA.out).mono fun e w' ⟨h1,h2,h3⟩=>⟨⟨h1,h3.i⟩,h2,h3⟩)
  have HOKB:=lhi (show Mb.ok (mm+3)from hMb▸(HOKA.out.put _ _).note _ _)
  have HCB:=lhi (show 0<=c/\c<Mb.ts.length by rw[<-hMb];simp only[Mem.note,Mem.put,Dh];exact HCA.out)
  clear hMb
  go_cut [4] (fun s4 wx=>s4= .int .i64 num/\Wk L w1 s Mb [⟨p2,278,#[.string inm,.int .i64 inu,.bool true,.slice ta tn tc,.string nm,.int .i64 (wd inu (Aa nm:Nat)),.slice BA bn bcap]⟩] [] wx/\KI wb wx)
  case first=>
   go_region_held3 (fun w'=>(w'.cell? ⟨sp,0,none⟩=some (.pointer (some ⟨s,0,none⟩))/\w'.cell? ⟨sp,1,none⟩=some (.int .i64 c)/\w'.cell? ⟨s,0,none⟩=some (.pointer (some ⟨a,0,none⟩))))
    (with_reducible first | exact HZC.out | exact⟨z0,z1,z2⟩)
    ((first
     | (go_at_call 69;refine(Gu c (by omega) _).mono ?_;rintro e w' ⟨rfl,rfl⟩)
     | (go_at_call 163;refine HST.out.mono ?_;rintro e wv1 ⟨⟨⟨rfl,hc0'⟩,hki⟩,hq⟩;have HQ5:=lhi hq;have HKI:=lhi hki;obtain⟨z0,z1,-⟩:=HS.out _ _ hq;have z2:=hc0'.trans HRA.out;clear hq hki hc0')))
   all_goals
    go_wp2_with (fail)
    go_meet
    case rel=>exact⟨rfl,HQ5.out,HKI.out⟩
  case rest=>
   obtain⟨rfl,hq,hki⟩:=hcut
   have HQ6:=lhi hq
   have HBV4:=lhi (HBV3.out.ki hki)
   clear hq hki H0 HQ HBV3 HST HZC e1
   obtain⟨wd6,hwd6⟩: ∃x:World,x=wc:=⟨_,rfl⟩
   subst hwd6
   have H6:=lhi HQ6.out.drew
   obtain⟨r0,r1,r2,r3,r4,r5⟩:=HS.out _ _ H6.out
   have HZD:=lhi (HS.out _ _ H6.out)
   clear r0 r1 r2 r3 r4 r5
   obtain⟨kb,hkb⟩: ∃x,(kind==1)=x:=⟨_,rfl⟩
   have HKB:=lhi hkb
   have HWT:=lhi (Qr (HBV4.out.ki (KI.refl _):ItB wd6.drew _ l) (by rw[HBN.out];exact HLL.out) ⟨nm,num,kb⟩)
   have HWI:=lhi (show 0<=wd inu (Aa nm:Nat)/\wd inu (Aa nm:Nat)<9549 from Il hnum0 (by have:=HNB.out;omega))
   obtain⟨Mc,hMc⟩: ∃X,Mb.setW c (wd inu (Aa nm:Nat)) (.bucket (l++[⟨nm,num,kb⟩]))=X:=⟨_,rfl⟩
   have HSE:=lhi (show∀(W:World) (sv:Value),Below wd6.drew.heap.size wd6.drew W->ItB W sv (l++[⟨nm,num,kb⟩])->(∀q,Es sv q->wd6.drew.heap.size<=q)->Calls Tryz.prog 195 #[.pointer (some ⟨sp,0,none⟩),.int .i64 (wd inu (Aa nm:Nat)),.iface 129 sv] W fun e w'=>e= .returned (.tuple #[])/\Wk L w1 s Mc [⟨p2,278,#[.string inm,.int .i64 inu,.bool true,.slice ta tn tc,.string nm,.int .i64 (wd inu (Aa nm:Nat)),.slice BA bn bcap]⟩] [] w' from fun W sv h1 h2 h3=>hMc▸H6.out.set_wk HBD1.out h1 HOKB.out (by omega) HCB.out HWI.out HL.out HT0.out HT1.out h2 h3)
   have HOKC:=lhi (show Mc.ok (mm+5)from hMc▸HOKB.out.setW _ _ _)
   have HCC:=lhi (show 0<=c/\c<Mc.ts.length by rw[<-hMc];simp only[Mem.setW,Mem.note,Mem.put,Mem.give,Dh];exact HCB.out)
   have HMC:=lhi hMc
   clear hMc
   go_upto_region 6 with(fail)
   go_region_held3 (fun w'=>(w'.cell? ⟨sp,0,none⟩=some (.pointer (some ⟨s,0,none⟩))/\w'.cell? ⟨sp,1,none⟩=some (.int .i64 c)/\w'.cell? ⟨sp,2,none⟩=some (.int .i64 kind)/\w'.cell? ⟨p2,4,none⟩=some (.string nm)/\w'.cell? ⟨p2,5,none⟩=some (.int .i64 (wd inu (Aa nm:Nat)))/\w'.cell? ⟨p2,6,none⟩=some (.slice BA bn bcap)))
    (with_reducible first | exact HZD.out | exact HS.out _ _ HQ61.out | exact HS.out _ _ HQ62.out)
    ((first
     | (go_at_call 63;refine HWT.out.mono ?_;rintro e wv1 ⟨⟨nv,rfl,hnv,hnq⟩,hb⟩;have HNV:=lhi hnv;have HNQ:=lhi hnq;have HNB2:=lhi hb;have HQ61:=lhi (H6.out.below hb HBD1.out);clear hnv hnq hb)
     | (go_at_call 195;refine(HSE.out _ _ HNB2.out HNV.out HNQ.out).mono ?_;rintro e wv2 ⟨rfl,hq⟩;have HQ62:=lhi hq;clear hq)))
   obtain⟨r0,r1,r2,r3,r4,r5⟩:=HS.out _ _ HQ62.out
   rcases hkind with rfl | rfl
   ·have HR:=lhi (show Dj M2 c ⟨inm,inu,true⟩ nm 0 n=(Mc.put (wd num (8+c)) 1).note c (wd num (8+c),true)by rw[HCR.out,<-HMC.out,<-HMB.out,<-HMA.out,<-HKB.out];rfl)
    have HDI:=lhi (show 0<=wd num (8+c)/\wd num (8+c)<9549 from Il ⟨by omega,hnb.2⟩ ⟨by omega,by omega⟩)
    go_upto_region 8 with(fail)
    obtain⟨a8,ra8⟩:=HQ62.out.arena
    have H8:=lhi HQ62.out.drew
    have HZE:=lhi (show(wv2.drew.cell? ⟨sp,0,none⟩=some (.pointer (some ⟨s,0,none⟩))/\wv2.drew.cell? ⟨sp,1,none⟩=some (.int .i64 c)/\wv2.drew.cell? ⟨s,0,none⟩=some (.pointer (some ⟨a8,0,none⟩)))from⟨r0,r1,ra8⟩)
    have HST:=lhi (H8.out.store_wk HOKC.out (by omega) HCC.out HDI.out (v:=1) (a:=a8) ra8)
    have HWD:=lhi (fun W=>Cs num (8+c) (by omega) (by omega) W)
    have HRA8:=lhi ra8
    have e8:IntKind.i64.wrap (8+c)=8+c:=IntWalk.i64_in _ (by omega)
    clear r0 r1 r2 r3 r4 r5 ra8
    go_region_held3 (fun w'=>(w'.cell? ⟨sp,0,none⟩=some (.pointer (some ⟨s,0,none⟩))/\w'.cell? ⟨sp,1,none⟩=some (.int .i64 c)/\w'.cell? ⟨s,0,none⟩=some (.pointer (some ⟨a8,0,none⟩))))
     (with_reducible first | exact HZE.out | exact⟨z0,z1,z2⟩)
     ((first
      | (go_at_call 65;refine(HWD.out _).mono ?_;rintro e w' ⟨rfl,rfl⟩)
      | (go_at_call 163;refine HST.out.mono ?_;rintro e wv3 ⟨⟨rfl,hc0'⟩,hq⟩;have HQ8:=lhi hq;obtain⟨z0,z1,-⟩:=HS.out _ _ hq;have z2:=hc0'.trans HRA8.out;clear hq hc0')))
    all_goals
     go_wp2_with (fail)
     go_end0
     exact⟨rfl,by rw[HR.out];exact HQ8.out.mem,HK.out.trans HQ8.out.kp⟩
   ·have HR:=lhi (show Dj M2 c ⟨inm,inu,true⟩ nm 1 n=Mc by rw[HCR.out,<-HMC.out,<-HMB.out,<-HMA.out,<-HKB.out];rfl)
    go_wp2_with (fail)
    go_end0
    exact⟨rfl,by rw[HR.out];exact HQ62.out.mem,HK.out.trans HQ62.out.kp⟩
section
variable{L:Nat->Prop}{w w0:World}{s:Nat}{M:Mem}{m:Nat}
theorem Var3.below{T:TypeId}{x y z:Value}{q:Nat}{wx wy:World}(h:Var3 w0 L s M T x y z q wx)(hb:Below wx.heap.size wx wy):Var3 w0 L s M T x y z q wy:=
 ⟨h.m.below hb,h.k.trans (Kp.below h.m.bd hb),Blk.of_heap (hb.block _ h.b.lt) h.b,h.n⟩
theorem Var3.out{wc:World}{T:TypeId}{x y z:Value}{q:Nat}(hB:Below w.heap.size w w0)(hbd:Bd L w)(hv:Var3 w0 (new w w0 L) s M T x y z q wc):Ab L wc s M/\Kp L w wc:=
 ⟨hv.m.sub fun _ h=>Bt h,(Kp.below hbd hB).trans (hv.k.sub fun _ h=>Bt h)⟩
theorem Agg{num:Int}(hn:1<=num/\num<=257){k:Int}(hk:0<=k/\k<37):0<=wd num k/\wd num k<9549:=by unfold wd;omega
def Hm(b:Int×ByteArray×Bool)(q:Nat):ByteArray:=cutF (Cx b.2.1 (q*64) 64) 64
def Ls(v:Int)(d:ByteArray):Value:=.agg #[.int .i64 v,.int .i64 0,.string d]
theorem Ad3(h:Ab L w s M)(hok:M.ok m)(hm:m<=1000000000){c num:Int}(hc:Who M c)(hn:1<=num/\num<=257){o:Nat}(ho:o<4)(hz:rd M.ws (wd num (17+o))=0){b:Int×ByteArray×Bool}(hb:b.2.1.size<=1000):
  Calls Tryz.prog 182 #[.agg #[.pointer (some ⟨s,0,none⟩),.int .i64 c],.int .i64 num,.int .i64 o,Id b] w fun e w'=>e= .returned (Ls b.1 (Hm b o))/\Ab L w' s (M.see c (wd num (17+o)))/\Kp L w w':=by
 obtain⟨w0,hw0⟩: ∃x,x=((w.alloc (.cells #[.pointer (some ⟨s,0,none⟩),.int .i64 c] 168)).alloc (.cells #[.int .i64 b.1,.string b.2.1,.bool b.2.2] 142)).alloc (.cells #[.int .i64 0,.int .i64 0,.string ⟨#[]⟩] 260):=⟨_,rfl⟩
 obtain⟨p,hp⟩:=yy w.heap.size
 have hsz:w0.heap.size=p+3:=by rw[hw0,hp];simp
 have HB:=lhi (show Below w.heap.size w w0 by rw[hw0];exact(((Amf _ _).alloc (Ama _) _).alloc (by simp) _).alloc (by simp;omega) _)
 have HA:=h.fresh HB.out
 have HP0:=lhi (show Blk w0 p 168 #[.pointer (some ⟨s,0,none⟩),.int .i64 c]by rw[hw0,hp];exact((Blk.new _ _ _).alloc _).alloc _)
 have HP1:=lhi (show Blk w0 (p+1) 142 #[.int .i64 b.1,.string b.2.1,.bool b.2.2]by rw[hw0,hp];exact(Blk.newAt _ _ _ (by simp)).alloc _)
 have HP2:=lhi (show Blk w0 (p+2) 260 #[.int .i64 0,.int .i64 0,.string ⟨#[]⟩]by rw[hw0,hp];exact Blk.newAt _ _ _ (by simp))
 have HW:=lhi (Cs num (17+ (o:Int)) (by omega) (by omega))
 have HL:=Nn HA hok hm (i:=wd num (17+ (o:Int))) hc (Agg hn (by omega)) rfl
 have HK:=lhi (Kp.below h.bd HB.out)
 have HOK:=lhi (hok.see c (wd num (17+ (o:Int))))
 have HTS:=lhi (M.thing_see c (wd num (17+ (o:Int))))
 obtain⟨ix,hix⟩: ∃x,wd num (17+ (o:Int))=x:=⟨_,rfl⟩
 rw[hix]at HL HOK HTS hz HW⊢
 have p0:w0.cell? ⟨p,0,none⟩=some (.pointer (some ⟨s,0,none⟩)):=HP0.out.cell 0
 have p1:w0.cell? ⟨p,1,none⟩=some (.int .i64 c):=HP0.out.cell 1
 have hpl:p<w0.heap.size:=by omega
 have HIP:=lhi (show new w w0 L p from Cv (by omega) hpl)
 have HI1:=lhi (show new w w0 L (p+1)from Cv (by omega) (by omega))
 have HI2:=lhi (show new w w0 L (p+2)from Cv (by omega) (by omega))
 have hpn:p≠w0.heap.size:=by omega
 have HPD:=lhi (show w0.drew.cell? ⟨p,0,none⟩=some (.pointer (some ⟨s,0,none⟩))/\w0.drew.cell? ⟨p,1,none⟩=some (.int .i64 c)from⟨p0,p1⟩)
 have HPA:=lhi (show(w0.alloc (.cells #[.int .i64 0,.int .i64 0,.string ⟨#[]⟩] 260)).drew.cell? ⟨p,0,none⟩=some (.pointer (some ⟨s,0,none⟩))/\ (w0.alloc (.cells #[.int .i64 0,.int .i64 0,.string ⟨#[]⟩] 260)).drew.cell? ⟨p,1,none⟩=some (.int .i64 c)from⟨(Amj _ _ _ hpl).trans p0,(Amj _ _ _ hpl).trans p1⟩)
 have HSZ:=lhi hsz
 have HBD:=lhi HA.bd
 have HBDL:=lhi h.bd
 have HPP:=lhi hp
 have HQ0:=lhi ho
 have hwr:IntKind.i64.wrap (17+ (o:Int))=17+ (o:Int):=IntWalk.i64_in _ (by omega)
 have HPC:=lhi (Pf b.2.1 (o*64) 64 hb (by omega) (by omega))
 have HCT:=lhi (fun W=>Ve (Cx b.2.1 (o*64) 64) 64 (by omega) W)
 have HQD:cutF (Cx b.2.1 (o*64) 64) 64=Hm b o:=rfl
 rw[HQD]at HCT
 rw[show((o*64:Nat):Int)=(o:Int)*64 by omega]at HPC
 generalize Cx b.2.1 (o*64) 64=pd at*
 generalize Hm b o=d at*
 rw[hz]at HL
 have HLH:=lhi HL
 have hta:=Afv
 have hwr2:IntKind.i64.wrap ((o:Int)*64)=(o:Int)*64:=IntWalk.i64_in _ (by omega)
 simp only[Id,Ls]
 obtain⟨bv,bd,bh⟩:=b
 simp only at*
 clear h hok HA HL hix hc hn hz hb HQD hsz
 go_enter Tryz.func182,Tryz.ntmps182
 go_wp2_with (fail)
 rw[<-hp,<-hw0]
 clear hp hw0
 go_cut [9,10] (fun s5 s6 wx=>∃q,s5= .pointer (some ⟨q,0,none⟩)/\s6= .bool false/\Var3 w0 (new w w0 L) s (M.see c ix) 260 (.int .i64 0) (.int .i64 0) (.string ⟨#[]⟩) q wx)
 case first=>
  go_region_held3 (fun w'=>w'.cell? ⟨p,0,none⟩=some (.pointer (some ⟨s,0,none⟩))/\w'.cell? ⟨p,1,none⟩=some (.int .i64 c))
   (with_reducible first | exact HPD.out | exact HPA.out | exact⟨z0,z1⟩ | exact⟨(Amj _ _ _ zl).trans z0,(Amj _ _ _ zl).trans z1⟩ | exact⟨Cr hpn z0,Cr hpn z1⟩)
   ((first
    | (go_at_call 65;refine(HW.out _).mono ?_;rintro e w' ⟨rfl,rfl⟩)
    | (go_at_call 180;refine(HLH.out _ (by first | exact Ae _ | exact Gh _ _)).mono ?_;rintro e w1 ⟨rfl,hq⟩;have HQ:=lhi hq;have z0:=hq.2.cellOf (p:=⟨p,0,none⟩) (Bt HIP.out) (by first | exact p0 | exact(Amj _ _ _ hpl).trans p0);have z1:=hq.2.cellOf (p:=⟨p,1,none⟩) (Bt HIP.out) (by first | exact p1 | exact(Amj _ _ _ hpl).trans p1);have zl:=Amd _ _ z0;(try (have hy:=hq.2.blk (Blk.new w0 260 #[.int .i64 0,.int .i64 0,.string ⟨#[]⟩]) (Cv (Ama _) (by simp));have y0:w1.cell? ⟨w0.heap.size,0,none⟩=some (.int .i64 0):=hy.cell 0;have y1:w1.cell? ⟨w0.heap.size,1,none⟩=some (.int .i64 0):=hy.cell 1;have y2:w1.cell? ⟨w0.heap.size,2,none⟩=some (.string ⟨#[]⟩):=hy.cell 2;have u0:=hy.frozen 0;have u1:=hy.frozen 1;have u2:=hy.frozen 2;clear hy));clear hq)
    | (go_at_call 179;refine(Nr _ _).mono ?_;rintro e w' ⟨rfl,rfl⟩)))
  all_goals
   go_wp2_with (fail)
   go_meet
   case rel=>first | exact⟨_,rfl,rfl,Xk HBD.out (by unfold Dg;decide) HQ.out⟩ | exact⟨_,rfl,rfl,Xj HBD.out HQ.out⟩
 case rest=>
  obtain⟨q,rfl,rfl,hv⟩:=hcut
  have hb:=hv.k.blk HP1.out HI1.out
  have hr:=hv.k.blk HP2.out HI2.out
  have HRR:=lhi hr
  have HV:=lhi hv
  have b0:wc.cell? ⟨p+1,0,none⟩=some (.int .i64 bv):=hb.cell 0
  have b1:wc.cell? ⟨p+1,1,none⟩=some (.string bd):=hb.cell 1
  have r0:wc.cell? ⟨p+2,0,none⟩=some (.int .i64 0):=hr.cell 0
  have r1:wc.cell? ⟨p+2,1,none⟩=some (.int .i64 0):=hr.cell 1
  have r2:wc.cell? ⟨p+2,2,none⟩=some (.string ⟨#[]⟩):=hr.cell 2
  have f0:=hr.frozen 0
  have f1:=hr.frozen 1
  have f2:=hr.frozen 2
  clear hv hb hr p0 p1
  have hpq:p+1≠p+1+1:=by omega
  have HBW:=lhi (show wc.drew.cell? ⟨p+1,0,none⟩=some (.int .i64 bv)/\wc.drew.cell? ⟨p+1,1,none⟩=some (.string bd)from⟨b0,b1⟩)
  go_wp2_with (fail)
  go_region_held3 (fun w'=>w'.cell? ⟨p+1,0,none⟩=some (.int .i64 bv)/\w'.cell? ⟨p+1,1,none⟩=some (.string bd))
   (with_reducible first | exact HBW.out | exact⟨b0,b1⟩ | exact⟨z0,z1⟩ | exact⟨Cr hpq z0,Cr hpq z1⟩)
   ((first
    | (go_at_call 129;refine(HPC.out _).mono ?_;rintro e w' ⟨rfl,rfl⟩)
    | (go_at_call 131;refine(HCT.out _).mono ?_;rintro e w1 ⟨rfl,hb1⟩;have HV1:=lhi (HV.out.below ((Ae wc).trans hb1));have HR1:=lhi (Blk.of_heap (hb1.block _ HRR.out.lt) HRR.out);have z0:=(Below.cell (p:=⟨p+1,0,none⟩) hb1 (Amd wc _ b0)).trans b0;have z1:=(Below.cell (p:=⟨p+1,1,none⟩) hb1 (Amd wc _ b1)).trans b1;have y0:w1.cell? ⟨p+2,0,none⟩=some (.int .i64 0):=HR1.out.cell 0;have y1:w1.cell? ⟨p+2,1,none⟩=some (.int .i64 0):=HR1.out.cell 1;have y2:w1.cell? ⟨p+2,2,none⟩=some (.string ⟨#[]⟩):=HR1.out.cell 2;have u0:=HR1.out.frozen 0;have u1:=HR1.out.frozen 1;have u2:=HR1.out.frozen 2;clear hb1)))
  go_wp2_with (fail)
  obtain⟨e0,e1,e2⟩:=Jo HR1.out (.int .i64 bv) (.int .i64 0) (.string d)
  refine bodyPost_ret (v:=.agg #[.int .i64 bv,.int .i64 0,.string d]) (by simp[results,Tryz.results182,go_sem,e0,e1,e2]) rfl ⟨rfl,?_⟩
  exact Qx HB.out HBDL.out HV1.out HR1.out (by unfold Dg;decide) (by have:=HPP.out;omega) (by have:=HSZ.out;omega)
theorem Ad8(h:Ab L w s M)(hok:M.ok m)(hm:m<=1000000000){c num:Int}(hc:Who M c)(hn:1<=num/\num<=257){o:Nat}(ho:o<16){bv:Int}{d:ByteArray}(hd:d.size=64)(hz:rd M.ws (wd num (21+o))=0):
  Calls Tryz.prog 183 #[.agg #[.pointer (some ⟨s,0,none⟩),.int .i64 c],.int .i64 num,.int .i64 o,Ls bv d] w fun e w'=>e= .returned (.string (d.extract (o % 4*16) (o % 4*16+16)))/\Ab L w' s (M.see c (wd num (21+o)))/\Kp L w w':=by
 obtain⟨w0,hw0⟩: ∃x,x=(w.alloc (.cells #[.pointer (some ⟨s,0,none⟩),.int .i64 c] 168)).alloc (.cells #[.int .i64 bv,.int .i64 0,.string d] 260):=⟨_,rfl⟩
 obtain⟨p,hp⟩:=yy w.heap.size
 have hsz:w0.heap.size=p+2:=by rw[hw0,hp];simp
 have HB:=lhi (show Below w.heap.size w w0 by rw[hw0];exact((Amf _ _).alloc (Ama _) _).alloc (by simp) _)
 have HA:=h.fresh HB.out
 have HP0:=lhi (show Blk w0 p 168 #[.pointer (some ⟨s,0,none⟩),.int .i64 c]by rw[hw0,hp];exact(Blk.new _ _ _).alloc _)
 have HP1:=lhi (show Blk w0 (p+1) 260 #[.int .i64 bv,.int .i64 0,.string d]by rw[hw0,hp];exact Blk.newAt _ _ _ (by simp))
 have HW:=lhi (Cs num (21+ (o:Int)) (by omega) (by omega))
 have HL:=Nn HA hok hm (i:=wd num (21+ (o:Int))) hc (Agg hn (by omega)) rfl
 have HK:=lhi (Kp.below h.bd HB.out)
 have HOK:=lhi (hok.see c (wd num (21+ (o:Int))))
 have HTS:=lhi (M.thing_see c (wd num (21+ (o:Int))))
 obtain⟨ix,hix⟩: ∃x,wd num (21+ (o:Int))=x:=⟨_,rfl⟩
 rw[hix]at HL HOK HTS hz HW⊢
 have p0:w0.cell? ⟨p,0,none⟩=some (.pointer (some ⟨s,0,none⟩)):=HP0.out.cell 0
 have p1:w0.cell? ⟨p,1,none⟩=some (.int .i64 c):=HP0.out.cell 1
 have hpl:p<w0.heap.size:=by omega
 have HIP:=lhi (show new w w0 L p from Cv (by omega) hpl)
 have HI1:=lhi (show new w w0 L (p+1)from Cv (by omega) (by omega))
 have hpn:p≠w0.heap.size:=by omega
 have HPD:=lhi (show w0.drew.cell? ⟨p,0,none⟩=some (.pointer (some ⟨s,0,none⟩))/\w0.drew.cell? ⟨p,1,none⟩=some (.int .i64 c)from⟨p0,p1⟩)
 have HPA:=lhi (show(w0.alloc (.cells #[.int .i64 0,.int .i64 0,.string ⟨#[]⟩] 307)).drew.cell? ⟨p,0,none⟩=some (.pointer (some ⟨s,0,none⟩))/\ (w0.alloc (.cells #[.int .i64 0,.int .i64 0,.string ⟨#[]⟩] 307)).drew.cell? ⟨p,1,none⟩=some (.int .i64 c)from⟨(Amj _ _ _ hpl).trans p0,(Amj _ _ _ hpl).trans p1⟩)
 have HSZ:=lhi hsz
 have HBD:=lhi HA.bd
 have HBDL:=lhi h.bd
 have HPP:=lhi hp
 have HQ0:=lhi ho
 have hwr:IntKind.i64.wrap (21+ (o:Int))=21+ (o:Int):=IntWalk.i64_in _ (by omega)
 rw[hz]at HL
 have HLH:=lhi HL
 have hta:=Afw
 have HO4:((o % 4:Nat):Int)=(o:Int) % 4:=by omega
 simp only[Ls]
 clear h hok HA HL hix hc hn hz hsz
 go_enter Tryz.func183,Tryz.ntmps183
 go_wp2_with (fail)
 rw[<-hp,<-hw0]
 clear hp hw0
 go_cut [9,10] (fun s5 s6 wx=>∃q,s5= .pointer (some ⟨q,0,none⟩)/\s6= .bool false/\Var3 w0 (new w w0 L) s (M.see c ix) 307 (.int .i64 0) (.int .i64 0) (.string ⟨#[]⟩) q wx)
 case first=>
  go_region_held3 (fun w'=>w'.cell? ⟨p,0,none⟩=some (.pointer (some ⟨s,0,none⟩))/\w'.cell? ⟨p,1,none⟩=some (.int .i64 c))
   (with_reducible first | exact HPD.out | exact HPA.out | exact⟨z0,z1⟩ | exact⟨(Amj _ _ _ zl).trans z0,(Amj _ _ _ zl).trans z1⟩ | exact⟨Cr hpn z0,Cr hpn z1⟩)
   ((first
    | (go_at_call 65;refine(HW.out _).mono ?_;rintro e w' ⟨rfl,rfl⟩)
    | (go_at_call 180;refine(HLH.out _ (by first | exact Ae _ | exact Gh _ _)).mono ?_;rintro e w1 ⟨rfl,hq⟩;have HQ:=lhi hq;have z0:=hq.2.cellOf (p:=⟨p,0,none⟩) (Bt HIP.out) (by first | exact p0 | exact(Amj _ _ _ hpl).trans p0);have z1:=hq.2.cellOf (p:=⟨p,1,none⟩) (Bt HIP.out) (by first | exact p1 | exact(Amj _ _ _ hpl).trans p1);have zl:=Amd _ _ z0;(try (have hy:=hq.2.blk (Blk.new w0 307 #[.int .i64 0,.int .i64 0,.string ⟨#[]⟩]) (Cv (Ama _) (by simp));have y0:w1.cell? ⟨w0.heap.size,0,none⟩=some (.int .i64 0):=hy.cell 0;have y1:w1.cell? ⟨w0.heap.size,1,none⟩=some (.int .i64 0):=hy.cell 1;have y2:w1.cell? ⟨w0.heap.size,2,none⟩=some (.string ⟨#[]⟩):=hy.cell 2;have u0:=hy.frozen 0;have u1:=hy.frozen 1;have u2:=hy.frozen 2;clear hy));clear hq)
    | (go_at_call 179;refine(Nr _ _).mono ?_;rintro e w' ⟨rfl,rfl⟩)))
  all_goals
   go_wp2_with (fail)
   go_meet
   case rel=>first | exact⟨_,rfl,rfl,Xk HBD.out (by unfold Dg;decide) HQ.out⟩ | exact⟨_,rfl,rfl,Xj HBD.out HQ.out⟩
 case rest=>
  obtain⟨q,rfl,rfl,hv⟩:=hcut
  have v0:wc.cell? ⟨q,0,none⟩=some (.int .i64 0):=hv.b.cell 0
  have v1:wc.cell? ⟨q,1,none⟩=some (.int .i64 0):=hv.b.cell 1
  have v2:wc.cell? ⟨q,2,none⟩=some (.string ⟨#[]⟩):=hv.b.cell 2
  have hb:=hv.k.blk HP1.out HI1.out
  have HV:=lhi hv
  have b0:wc.cell? ⟨p+1,0,none⟩=some (.int .i64 bv):=hb.cell 0
  have b1:wc.cell? ⟨p+1,1,none⟩=some (.int .i64 0):=hb.cell 1
  have b2:wc.cell? ⟨p+1,2,none⟩=some (.string d):=hb.cell 2
  clear hv hb p0 p1
  go_wp2_with (fail)
  go_ret
  exact⟨rfl,HV.out.out HB.out HBDL.out⟩
theorem Abf(h:Ab L w s M)(hok:M.ok m)(hm:m<=1000000000){c num:Int}(hc:Who M c)(hn:1<=num/\num<=257){o:Nat}(ho:o<16){bv:Int}{d:ByteArray}{d':ByteArray}(hz:rd M.ws (wd num (21+o))<=1000000000000)(ht:M.thing (rd M.ws (wd num (21+o)))=some (.page bv 0 d')):
  Calls Tryz.prog 183 #[.agg #[.pointer (some ⟨s,0,none⟩),.int .i64 c],.int .i64 num,.int .i64 o,Ls bv d] w fun e w'=>e= .returned (.string d')/\Ab L w' s (M.see c (wd num (21+o)))/\Kp L w w':=by
 obtain⟨w0,hw0⟩: ∃x,x=(w.alloc (.cells #[.pointer (some ⟨s,0,none⟩),.int .i64 c] 168)).alloc (.cells #[.int .i64 bv,.int .i64 0,.string d] 260):=⟨_,rfl⟩
 obtain⟨p,hp⟩:=yy w.heap.size
 have hsz:w0.heap.size=p+2:=by rw[hw0,hp];simp
 have HB:=lhi (show Below w.heap.size w w0 by rw[hw0];exact((Amf _ _).alloc (Ama _) _).alloc (by simp) _)
 have HA:=h.fresh HB.out
 have HP0:=lhi (show Blk w0 p 168 #[.pointer (some ⟨s,0,none⟩),.int .i64 c]by rw[hw0,hp];exact(Blk.new _ _ _).alloc _)
 have HP1:=lhi (show Blk w0 (p+1) 260 #[.int .i64 bv,.int .i64 0,.string d]by rw[hw0,hp];exact Blk.newAt _ _ _ (by simp))
 have HW:=lhi (Cs num (21+ (o:Int)) (by omega) (by omega))
 have HL:=Nn HA hok hm (i:=wd num (21+ (o:Int))) hc (Agg hn (by omega)) rfl
 have HK:=lhi (Kp.below h.bd HB.out)
 have HOK:=lhi (hok.see c (wd num (21+ (o:Int))))
 have HTS:=lhi (M.thing_see c (wd num (21+ (o:Int))))
 obtain⟨ix,hix⟩: ∃x,wd num (21+ (o:Int))=x:=⟨_,rfl⟩
 rw[hix]at HL HOK HTS hz HW ht⊢
 have p0:w0.cell? ⟨p,0,none⟩=some (.pointer (some ⟨s,0,none⟩)):=HP0.out.cell 0
 have p1:w0.cell? ⟨p,1,none⟩=some (.int .i64 c):=HP0.out.cell 1
 have hpl:p<w0.heap.size:=by omega
 have HIP:=lhi (show new w w0 L p from Cv (by omega) hpl)
 have HI1:=lhi (show new w w0 L (p+1)from Cv (by omega) (by omega))
 have hpn:p≠w0.heap.size:=by omega
 have HPD:=lhi (show w0.drew.cell? ⟨p,0,none⟩=some (.pointer (some ⟨s,0,none⟩))/\w0.drew.cell? ⟨p,1,none⟩=some (.int .i64 c)from⟨p0,p1⟩)
 have HPA:=lhi (show(w0.alloc (.cells #[.int .i64 0,.int .i64 0,.string ⟨#[]⟩] 307)).drew.cell? ⟨p,0,none⟩=some (.pointer (some ⟨s,0,none⟩))/\ (w0.alloc (.cells #[.int .i64 0,.int .i64 0,.string ⟨#[]⟩] 307)).drew.cell? ⟨p,1,none⟩=some (.int .i64 c)from⟨(Amj _ _ _ hpl).trans p0,(Amj _ _ _ hpl).trans p1⟩)
 have HSZ:=lhi hsz
 have HBD:=lhi HA.bd
 have HBDL:=lhi h.bd
 have HPP:=lhi hp
 have HQ0:=lhi ho
 have hwr:IntKind.i64.wrap (21+ (o:Int))=21+ (o:Int):=IntWalk.i64_in _ (by omega)
 have HT:=lhi ht
 have HZ:=lhi hz
 obtain⟨nn,hnn⟩: ∃x,rd M.ws ix=x:=⟨_,rfl⟩
 rw[hnn]at HL HT HZ
 have HLH:=lhi HL
 simp only[Ls]
 clear h hok HA HL hix hc hn hz hsz ht hnn
 go_enter Tryz.func183,Tryz.ntmps183
 go_wp2_with (fail)
 rw[<-hp,<-hw0]
 clear hp hw0
 go_cut [9,10] (fun s5 s6 wx=>∃q,s5= .pointer (some ⟨q,0,none⟩)/\s6= .bool true/\Var3 w0 (new w w0 L) s (M.see c ix) 307 (.int .i64 bv) (.int .i64 0) (.string d') q wx)
 case first=>
  go_region_held3 (fun w'=>w'.cell? ⟨p,0,none⟩=some (.pointer (some ⟨s,0,none⟩))/\w'.cell? ⟨p,1,none⟩=some (.int .i64 c))
   (with_reducible first | exact HPD.out | exact HPA.out | exact⟨z0,z1⟩ | exact⟨(Amj _ _ _ zl).trans z0,(Amj _ _ _ zl).trans z1⟩ | exact⟨Cr hpn z0,Cr hpn z1⟩)
   ((first
    | (go_at_call 65;refine(HW.out _).mono ?_;rintro e w' ⟨rfl,rfl⟩)
    | (go_at_call 180;refine(HLH.out _ (by first | exact Ae _ | exact Gh _ _)).mono ?_;rintro e w1 ⟨rfl,hq⟩;have HQ:=lhi hq;have z0:=hq.2.cellOf (p:=⟨p,0,none⟩) (Bt HIP.out) (by first | exact p0 | exact(Amj _ _ _ hpl).trans p0);have z1:=hq.2.cellOf (p:=⟨p,1,none⟩) (Bt HIP.out) (by first | exact p1 | exact(Amj _ _ _ hpl).trans p1);have zl:=Amd _ _ z0;(try (have hy:=hq.2.blk (Blk.new w0 307 #[.int .i64 0,.int .i64 0,.string ⟨#[]⟩]) (Cv (Ama _) (by simp));have y0:w1.cell? ⟨w0.heap.size,0,none⟩=some (.int .i64 0):=hy.cell 0;have y1:w1.cell? ⟨w0.heap.size,1,none⟩=some (.int .i64 0):=hy.cell 1;have y2:w1.cell? ⟨w0.heap.size,2,none⟩=some (.string ⟨#[]⟩):=hy.cell 2;have u0:=hy.frozen 0;have u1:=hy.frozen 1;have u2:=hy.frozen 2;clear hy));clear hq)
    | (go_at_call 179;refine(Ac9 HQ.out.1 HOK.out (by rw[HTS.out];exact HT.out) HZ.out _ (by first | exact Amf _ _ | exact(Amf _ _).alloc (Ama _) _)).mono ?_;rintro e w' ⟨⟨v,rfl,hv⟩,rfl⟩;have hv:v= .iface 307 (.agg #[.int .i64 bv,.int .i64 0,.string d']):=hv;subst hv;have hta:=Aim (.agg #[.int .i64 bv,.int .i64 0,.string d']))))
  all_goals
   go_wp2_with (fail)
   go_meet
   case rel=>first | exact⟨_,rfl,rfl,Xk HBD.out (by unfold Dg;decide) HQ.out⟩ | exact⟨_,rfl,rfl,Xj HBD.out HQ.out⟩
 case rest=>
  obtain⟨q,rfl,rfl,hv⟩:=hcut
  have v0:wc.cell? ⟨q,0,none⟩=some (.int .i64 bv):=hv.b.cell 0
  have v1:wc.cell? ⟨q,1,none⟩=some (.int .i64 0):=hv.b.cell 1
  have v2:wc.cell? ⟨q,2,none⟩=some (.string d'):=hv.b.cell 2
  have hb:=hv.k.blk HP1.out HI1.out
  have HV:=lhi hv
  have b0:wc.cell? ⟨p+1,0,none⟩=some (.int .i64 bv):=hb.cell 0
  have b1:wc.cell? ⟨p+1,1,none⟩=some (.int .i64 0):=hb.cell 1
  have b2:wc.cell? ⟨p+1,2,none⟩=some (.string d):=hb.cell 2
  clear hv hb p0 p1
  go_wp2_with (fail)
  go_ret
  exact⟨rfl,HV.out.out HB.out HBDL.out⟩
end
def Mem.sees(M:Mem)(c:Int):List Int->Mem
 | []=>M
 | i::l=>(M.see c i).sees c l
theorem Mem.sees_append(c:Int): ∀(l l':List Int) (M:Mem),M.sees c (l++l')=(M.sees c l).sees c l'
 | [],_,_=>rfl
 | i::l,l',M=>Mem.sees_append c l l' (M.see c i)
theorem Mem.same.sees(c:Int): ∀(l:List Int) (M:Mem),M.same (M.sees c l)
 | [],M=>Mem.same.refl M
 | i::l,M=>(Mem.same.see M c i).trans (Mem.same.sees c l (M.see c i))
theorem Mem.ok.sees(c:Int): ∀(l:List Int) {M:Mem} {m:Nat},M.ok m->(M.sees c l).ok (m+l.length)
 | [],_,_,h=>h
 | i::l,M,m,h=>(Mem.ok.sees c l (h.see c i)).mono (by simp only[List.length_cons];omega)
theorem Who.sees{M:Mem}{c c':Int}(l:List Int)(h:Who M c):Who (M.sees c' l) c:=by
 rcases h with h | h
 ·exact .inl h
 ·exact .inr (by rw[(Mem.same.sees c' l M).ts];exact h)
def pgW(num:Int)(f p:Nat):List Int:=(if p=f∨p % 4=0 then [wd num (17+ (p / 4:Nat))]else [])++[wd num (21+p)]
def pgWs(num:Int)(f k:Nat):List Int:=(List.range k).flatMap fun i=>pgW num f (f+i)
theorem Oq(num:Int)(f k:Nat):pgWs num f (k+1)=pgWs num f k++pgW num f (f+k):=by simp[pgWs,List.range_succ]
theorem Nh(num:Int)(f:Nat): ∀k,(pgWs num f k).length<=2*k
 | 0=>by simp[pgWs]
 | k+1=>by
  have:=Nh num f k
  rw[Oq,Ami]
  unfold pgW
  split <;> simp <;> omega
def catP(pg:Nat->ByteArray)(f:Nat):Nat->ByteArray
 | 0=>⟨#[]⟩
 | k+1=>catP pg f k++pg (f+k)
theorem Tf{pg:Nat->ByteArray}{f:Nat}: ∀(k:Nat),(∀p,f<=p->p<f+k->(pg p).size=16)->(catP pg f k).size=16*k
 | 0,_=>rfl
 | k+1,h=>by
  rw[catP,ByteArray.size_append,Tf k (fun p h1 h2=>h p h1 (by omega)),h (f+k) (by omega) (by omega)];omega
theorem On(b:Int×ByteArray×Bool)(q:Nat):(Hm b q).size=64:=by
 unfold Hm cutF
 show(List.toArray _).size=64
 rw[List.size_toArray,Ami,List.length_take,List.length_drop,List.length_replicate,Array.length_toList]
 show min (Nat.min (Cx b.2.1 (q*64) 64).size 64) (Cx b.2.1 (q*64) 64).size+_=64
 have h1:Nat.min (Cx b.2.1 (q*64) 64).size 64<= (Cx b.2.1 (q*64) 64).size:=Nat.min_le_left _ _
 have h2:Nat.min (Cx b.2.1 (q*64) 64).size 64<=64:=Nat.min_le_right _ _
 omega
def Kz(M:Mem)(num:Int)(b:Int×ByteArray×Bool)(p:Nat)(d:ByteArray):Prop:=
 (rd M.ws (wd num (21+p))=0/\d=(Hm b (p / 4)).extract (p % 4*16) (p % 4*16+16))∨(d.size=16/\rd M.ws (wd num (21+p))<=1000000000000/\M.thing (rd M.ws (wd num (21+p)))=some (.page b.1 0 d))
theorem Kz.len{M:Mem}{num:Int}{b:Int×ByteArray×Bool}{p:Nat}{d:ByteArray}(h:Kz M num b p d):d.size=16:=by
 rcases h with⟨-,rfl⟩ | ⟨h,-⟩
 ·rw[ByteArray.size_extract,On];omega
 ·exact h
theorem Kz.same{M M':Mem}{num:Int}{b:Int×ByteArray×Bool}{p:Nat}{d:ByteArray}(h:Kz M num b p d)(hs:M.same M'):Kz M' num b p d:=by
 unfold Kz at*
 rw[hs.ws,hs.thing];exact h
theorem Rp{L:Nat->Prop}{w:World}{s:Nat}{M:Mem}{m:Nat}(h:Ab L w s M)(hok:M.ok m)(hm:m<=1000000000){c num:Int}(hc:Who M c)(hn:1<=num/\num<=257){o:Nat}(ho:o<16){b:Int×ByteArray×Bool}{d:ByteArray}(hd:Kz M num b o d):
  Calls Tryz.prog 183 #[.agg #[.pointer (some ⟨s,0,none⟩),.int .i64 c],.int .i64 num,.int .i64 o,Ls b.1 (Hm b (o / 4))] w fun e w'=>e= .returned (.string d)/\Ab L w' s (M.see c (wd num (21+o)))/\Kp L w w':=by
 rcases hd with⟨h0,rfl⟩ | ⟨-,hz,ht⟩
 ·exact Ad8 h hok hm hc hn ho (On b _) h0
 ·exact Abf h hok hm hc hn ho hz ht
theorem Yh{L:Nat->Prop}{w:World}{s:Nat}{M:Mem}{m:Nat}(h:Ab L w s M)(hok:M.ok m)(hm:m<=900000000){c num:Int}(hc:Who M c)(hn:1<=num/\num<=257){f u:Nat}(hfu:f<=u)(hu:u<=16)(hq: ∀q:Nat,q<4->rd M.ws (wd num (17+q))=0){b:Int×ByteArray×Bool}(hb:b.2.1.size<=1000){pg:Nat->ByteArray}(hpg: ∀p,f<=p->p<u->Kz M num b p (pg p)):
  Calls Tryz.prog 140 #[.agg #[.pointer (some ⟨s,0,none⟩),.int .i64 c],.int .i64 num,.int .i64 f,.int .i64 u,Id b] w fun e w'=>e= .returned (.string (catP pg f (u - f)))/\Ab L w' s (M.sees c (pgWs num f (u - f)))/\Kp L w w':=by
 have HL:=lhi h.bd
 obtain⟨p,hp⟩:=yy w.heap.size
 obtain⟨w2,hw2⟩: ∃x,x=((w.alloc (.cells #[.pointer (some ⟨s,0,none⟩),.int .i64 c] 168)).alloc (.cells #[.int .i64 b.1,.string b.2.1,.bool b.2.2] 142)).alloc (.cells #[.int .i64 0,.int .i64 0,.string ⟨#[]⟩] 260):=⟨_,rfl⟩
 have HW:=lhi (show Wk L w s (M.sees c (pgWs num f 0)) [⟨p+1+1,260,#[.int .i64 0,.int .i64 0,.string ⟨#[]⟩]⟩,⟨p+1,142,#[.int .i64 b.1,.string b.2.1,.bool b.2.2]⟩,⟨p,168,#[.pointer (some ⟨s,0,none⟩),.int .i64 c]⟩] [] w2 by
  have h1:=(((Wk.start h).alloc HL.out #[.pointer (some ⟨s,0,none⟩),.int .i64 c] 168).alloc HL.out #[.int .i64 b.1,.string b.2.1,.bool b.2.2] 142).alloc HL.out #[.int .i64 0,.int .i64 0,.string ⟨#[]⟩] 260
  simp only[World.size_alloc]at h1
  rw[hw2,hp];exact h1)
 have HSM:=fun k=>Mem.same.sees c (pgWs num f k) M
 have HOK:=lhi (fun(k:Nat) (hk:k<=u - f) (i:Int)=>show((M.sees c (pgWs num f k)).see c i).ok (m+100)from((Mem.ok.sees c (pgWs num f k) hok).see c i).mono (by have:=Nh num f k;omega))
 have HOK0:=lhi (fun(k:Nat) (hk:k<=u - f)=>show(M.sees c (pgWs num f k)).ok (m+100)from(Mem.ok.sees c (pgWs num f k) hok).mono (by have:=Nh num f k;omega))
 have HWH:=lhi (fun(k:Nat)=>hc.sees (c':=c) (pgWs num f k))
 have HQ:=lhi (fun(k q:Nat) (hq':q<4)=>show rd (M.sees c (pgWs num f k)).ws (wd num (17+q))=0 by rw[(HSM k).ws];exact hq q hq')
 have HPG:=lhi (fun(k p:Nat) (h1:f<=p) (h2:p<u)=>(hpg p h1 h2).same (HSM k))
 have HPL:=lhi (fun p h1 h2=>(hpg p h1 h2).len)
 simp only[Id]
 clear h hok hc hq hpg HSM
 go_enter Tryz.func140,Tryz.ntmps140
 go_upto_region 3 with(fail)
 rw[<-hp,<-hw2]
 have HPP:=lhi hp
 clear hw2 hp
 go_wp2_with (fail)
 go_loopw [11,13] (fun o x wr=>∃k pp:Nat,Hid (pp=f+k)/\k<=u - f/\x= .int .i64 pp/\o= .string (catP pg f k)/\ ∃v d,(0<k->v=b.1/\d=Hm b ((pp - 1) / 4))/\Wk L w s (M.sees c (pgWs num f k)) [⟨p+1+1,260,#[.int .i64 v,.int .i64 0,.string d]⟩,⟨p+1,142,#[.int .i64 b.1,.string b.2.1,.bool b.2.2]⟩,⟨p,168,#[.pointer (some ⟨s,0,none⟩),.int .i64 c]⟩] [] wr) (fun _ x _=>u - (intOf x).toNat)
 case atStart=>exact⟨0,f,lhi rfl,by omega,rfl,rfl,0,⟨#[]⟩,fun h=>absurd h (by omega),HW.out⟩
 case round=>
  obtain⟨k,pp,hpp,hk,rfl,rfl,v,d,hvd,hw⟩:=hrel
  by_cases hlt:k<u - f
  ·have hpu:(pp:Int)<u:=by have:=hpp.out;omega
   have hp16:pp<16:=by have:=hpp.out;omega
   have hff:(f:Int)<=pp:=by have:=hpp.out;omega
   have HWW:=lhi hw
   have HD1:=lhi (HPG.out k pp (by have:=hpp.out;omega) (by omega))
   have v0:wr.cell? ⟨p,0,none⟩=some (.pointer (some ⟨s,0,none⟩)):=(hw.bk (g:=p) (t:=168) (cs:=#[.pointer (some ⟨s,0,none⟩),.int .i64 c]) (by simp)).cell 0
   have v1:wr.cell? ⟨p,1,none⟩=some (.int .i64 c):=(hw.bk (g:=p) (t:=168) (cs:=#[.pointer (some ⟨s,0,none⟩),.int .i64 c]) (by simp)).cell 1
   have b0:wr.cell? ⟨p+1,0,none⟩=some (.int .i64 b.1):=(hw.bk (g:=p+1) (t:=142) (cs:=#[.int .i64 b.1,.string b.2.1,.bool b.2.2]) (by simp)).cell 0
   have b1:wr.cell? ⟨p+1,1,none⟩=some (.string b.2.1):=(hw.bk (g:=p+1) (t:=142) (cs:=#[.int .i64 b.1,.string b.2.1,.bool b.2.2]) (by simp)).cell 1
   have b2:wr.cell? ⟨p+1,2,none⟩=some (.bool b.2.2):=(hw.bk (g:=p+1) (t:=142) (cs:=#[.int .i64 b.1,.string b.2.1,.bool b.2.2]) (by simp)).cell 2
   have hov: ¬ (9223372036854775807< (catP pg f k).size+ (pg pp).size):=by
    rw[HD1.out.len,Tf k (fun q h1 h2=>HPL.out q h1 (by omega))];omega
   have hdiv:((pp / 4:Nat):Int)=(pp:Int) / 4:=by omega
   by_cases hA:k=0∨pp % 4=0
   ·have HA:=lhi hA
    have HCQ:=lhi (hw.call fun K hm'=>Ad3 hm' (HOK0.out k (by omega)) (by omega) (HWH.out k) hn (o:=pp / 4) (by omega) (HQ.out k (pp / 4) (by omega)) hb)
    simp only[Ls,Id]at HCQ
    rw[hdiv]at HCQ
    have HQB:=lhi (fun(K:Nat->Prop) (W:World) (hm':Ab K W s ((M.sees c (pgWs num f k)).see c (wd num (17+ (pp:Int) / 4))))=>Rp hm' (HOK.out k (by omega) _) (by omega) ((HWH.out k).see) hn hp16 (HD1.out.same (Mem.same.see _ _ _)))
    simp only[Ls]at HQB
    obtain⟨qd,hqd⟩: ∃x,Hm b (pp / 4)=x:=⟨_,rfl⟩
    rw[hqd]at HCQ HQB
    have HQD:=lhi hqd
    clear hw hqd hvd
    by_cases hk0:k=0
    all_goals
     first
      | have hg1:((pp:Int)==(f:Int))=true:=by simp;have:=hpp.out;omega
      | (have hg1:((pp:Int)==(f:Int))=false:=by simp;have:=hpp.out;omega
         have hg2:((pp:Int) % 4==0)=true:=by simp;have:=hA.resolve_left hk0;omega)
     clear hA hk0
     go_upto_region 8 with(go_at_call 182;refine HCQ.out.mono ?_;rintro e w3 ⟨rfl,h3⟩;have HW3:=lhi h3;have hq3:=h3.bk (g:=p+1+1) (t:=260) (cs:=#[.int .i64 v,.int .i64 0,.string d]) (by simp);have q0:=hq3.cell 0;have q1:=hq3.cell 1;have q2:=hq3.cell 2;have f0:=hq3.frozen 0;have f1:=hq3.frozen 1;have f2:=hq3.frozen 2;simp at q0 q1 q2;clear hq3 h3)
     clear v0 v1 b0 b1 b2 q0 q1 q2 f0 f1 f2
     obtain⟨wS,hwS⟩: ∃x,x=((w3.setCell ⟨p+1+1,0,none⟩ (.int .i64 b.1)).setCell ⟨p+1+1,1,none⟩ (.int .i64 0)).setCell ⟨p+1+1,2,none⟩ (.string qd):=⟨_,rfl⟩
     have hS:Wk L w s ((M.sees c (pgWs num f k)).see c (wd num (17+ (pp:Int) / 4))) [⟨p+1+1,260,#[.int .i64 b.1,.int .i64 0,.string qd]⟩,⟨p+1,142,#[.int .i64 b.1,.string b.2.1,.bool b.2.2]⟩,⟨p,168,#[.pointer (some ⟨s,0,none⟩),.int .i64 c]⟩] [] wS:=by
      rw[hwS]
      exact((HW3.out.set0 HL.out 0 (.int .i64 b.1)).set0 HL.out 1 (.int .i64 0)).set0 HL.out 2 (.string qd)
     rw[<-hwS]
     clear hwS
     have HCP:=lhi (hS.call fun K hm'=>HQB.out K wS hm')
     have x0:wS.cell? ⟨p,0,none⟩=some (.pointer (some ⟨s,0,none⟩)):=(hS.bk (g:=p) (t:=168) (cs:=#[.pointer (some ⟨s,0,none⟩),.int .i64 c]) (by simp)).cell 0
     have x1:wS.cell? ⟨p,1,none⟩=some (.int .i64 c):=(hS.bk (g:=p) (t:=168) (cs:=#[.pointer (some ⟨s,0,none⟩),.int .i64 c]) (by simp)).cell 1
     have y0:wS.cell? ⟨p+1+1,0,none⟩=some (.int .i64 b.1):=(hS.bk (g:=p+1+1) (t:=260) (cs:=#[.int .i64 b.1,.int .i64 0,.string qd]) (by simp)).cell 0
     have y1:wS.cell? ⟨p+1+1,1,none⟩=some (.int .i64 0):=(hS.bk (g:=p+1+1) (t:=260) (cs:=#[.int .i64 b.1,.int .i64 0,.string qd]) (by simp)).cell 1
     have y2:wS.cell? ⟨p+1+1,2,none⟩=some (.string qd):=(hS.bk (g:=p+1+1) (t:=260) (cs:=#[.int .i64 b.1,.int .i64 0,.string qd]) (by simp)).cell 2
     clear hS
     go_wp2_with (go_at_call 183;refine HCP.out.mono ?_;rintro e w4 ⟨rfl,h4⟩;have HW4:=lhi h4;clear h4)
     go_roundw
     case rel=>
      have e:=hpp.out
      subst e
      refine⟨k+1,f+k+1,lhi (by omega),by omega,by go_num,rfl,b.1,qd,fun _=>⟨rfl,by rw[<-HQD.out];rfl⟩,?_⟩
      rw[Oq,Mem.sees_append]
      unfold pgW
      rw[if_pos (by have:=HA.out;omega)]
      exact HW4.out
     case measure=>simp only[intOf];omega
   ·have hk0: ¬ k=0:=fun e=>hA (.inl e)
    have hk4: ¬ pp % 4=0:=fun e=>hA (.inr e)
    obtain⟨rfl,rfl⟩:=hvd (by omega)
    have HA:=lhi hA
    have HQE:(pp - 1) / 4=pp / 4:=by have:=hpp.out;omega
    rw[HQE]at hw HWW
    have HQB:=lhi (fun(K:Nat->Prop) (W:World) (hm':Ab K W s (M.sees c (pgWs num f k)))=>Rp hm' (HOK0.out k (by omega)) (by omega) (HWH.out k) hn hp16 HD1.out)
    simp only[Ls]at HQB
    obtain⟨qd,hqd⟩: ∃x,Hm b (pp / 4)=x:=⟨_,rfl⟩
    rw[hqd]at HQB hw
    have HQD:=lhi hqd
    have HCP:=lhi (hw.call fun K hm'=>HQB.out K wr hm')
    have x0:wr.cell? ⟨p,0,none⟩=some (.pointer (some ⟨s,0,none⟩)):=(hw.bk (g:=p) (t:=168) (cs:=#[.pointer (some ⟨s,0,none⟩),.int .i64 c]) (by simp)).cell 0
    have x1:wr.cell? ⟨p,1,none⟩=some (.int .i64 c):=(hw.bk (g:=p) (t:=168) (cs:=#[.pointer (some ⟨s,0,none⟩),.int .i64 c]) (by simp)).cell 1
    have y0:wr.cell? ⟨p+1+1,0,none⟩=some (.int .i64 b.1):=(hw.bk (g:=p+1+1) (t:=260) (cs:=#[.int .i64 b.1,.int .i64 0,.string qd]) (by simp)).cell 0
    have y1:wr.cell? ⟨p+1+1,1,none⟩=some (.int .i64 0):=(hw.bk (g:=p+1+1) (t:=260) (cs:=#[.int .i64 b.1,.int .i64 0,.string qd]) (by simp)).cell 1
    have y2:wr.cell? ⟨p+1+1,2,none⟩=some (.string qd):=(hw.bk (g:=p+1+1) (t:=260) (cs:=#[.int .i64 b.1,.int .i64 0,.string qd]) (by simp)).cell 2
    have hg1:((pp:Int)==(f:Int))=false:=by simp;have:=hpp.out;omega
    have hg2:((pp:Int) % 4==0)=false:=by simp;omega
    clear hw hqd hvd hA hk0 hk4 HQE b0 b1 b2 v0 v1
    go_wp2_with (go_at_call 183;refine HCP.out.mono ?_;rintro e w4 ⟨rfl,h4⟩;have HW4:=lhi h4;clear h4)
    go_roundw
    case rel=>
     have e:=hpp.out
     subst e
     refine⟨k+1,f+k+1,lhi (by omega),by omega,by go_num,rfl,b.1,qd,fun _=>⟨rfl,by rw[<-HQD.out];rfl⟩,?_⟩
     rw[Oq,Mem.sees_append]
     unfold pgW
     rw[if_neg (by have:=HA.out;omega)]
     exact HW4.out
    case measure=>simp only[intOf];omega
  ·have hk':k=u - f:=by omega
   have hpu: ¬ ((pp:Int)<u):=by have:=hpp.out;omega
   have HK:=lhi hk'
   have HWW:=lhi hw
   clear hw hk' hvd
   go_wp2_with (fail)
   go_ret
   rw[<-HK.out]
   exact⟨rfl,HWW.out.fin⟩
end Go.Proofs.YtkebjgebkneijaaGreat
