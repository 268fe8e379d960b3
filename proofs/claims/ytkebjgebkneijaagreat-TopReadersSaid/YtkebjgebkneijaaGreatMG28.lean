/- Texts of one's own that a claim's last text rests on: Dx9 Dy0 Dy1 Dy2 NoQ1 NoP13. -/
import Derived.Test.YtkebjgebkneijaaGreatMG27
import Derived.Test.YtkebjgebkneijaaGreatMG6
import Derived.Test.YtkebjgebkneijaaGreatMG8
import Derived.Test.YtkebjgebkneijaaGreatMG25
import Derived.Defers
import Derived.Recover
import Derived.Laws.Pointers
import Derived.Test.YtkebjgebkneijaaGreatMG20
import Derived.Test.YtkebjgebkneijaaGreatMG21
set_option linter.unusedVariables false
set_option linter.unusedSimpArgs false
namespace Go.Proofs.YtkebjgebkneijaaGreat
open Go.RowKit
set_option maxHeartbeats 16000000
set_option maxRecDepth 1000000
def Ub(S:St)(c:Ad):Except Int (Int×Bool×List ByteArray):=match atS S c.path with
 | .error k=>.error k
 | .ok a=>if c.kind=12 then(if S.dir a=true then .ok (0,false,(S.ino a).ents.map (·.1))else .error 7)
  else if c.kind=13 then .ok (if S.dir a=true then 0 else((S.dat a).size:Int),S.dir a,[])
  else if S.dir a=true then .error 8 else .ok ((cntI S (S.num a) S.inodes.length:Nat),false,[])
def resT(n:Int)(d:Bool)(na:Option Addr)(k nc:Nat):ResV:=⟨0,0,n,d,⟨#[]⟩,na,k,nc⟩
def Aki(base ob db:Nat)(c:Ad)(iv ov mv:Value)(Iv:List InV)(S:St)(W:World)(e:Ending)(w':World):Except Int (Int×Bool×List ByteArray)->Prop
 | .error k=>e=Cg k/\Below base W w'
 | .ok (n,d,ns)=>e= .returned (.tuple #[])/\Below base W w'/\ ∃na nc,Doer w' base ob db c (resT n d na ns.length nc) iv ov mv Iv S/\w'.ownsRow base 9 1 (.slice na ns.length nc) ns.length (ns.map .string)
section
variable{W W':World}{base ob db:Nat}{c:Ad}{r:ResV}{iv ov mv:Value}{Iv:List InV}{S:St}
theorem Doer.grow{b n k:Nat}{v:Value}{xs:List Value}(h:Doer W base ob db c r iv ov mv Iv S)(ho:W.ownsRow b 9 k v n xs)(hg:W.grownBy W' v.ownBlock):Doer W' base ob db c r iv ov mv Iv S:=by
 have hr: ∀{e:TypeId} {k n:Nat} {u:Value} {ys:List Value},W.ownsRow base e k u n ys->9≠e->W'.ownsRow base e k u n ys:=fun hu he=>Dq hu hg fun q hq=>Ah ho (Ag hu hq).2.choose_spec he
 exact⟨h.ob_,h.db_,Am h.o hg (Ah ho h.o (by decide)),Am h.d hg (Ah ho h.d (by decide)),h.st.len,hr h.st.ino (by decide),fun i hi=>hr (h.st.ent i hi) (by decide),h.st.apart,hr h.st.opn (by decide),hr h.st.mad (by decide)⟩
theorem Doer.datc{g icap:Nat}(h:Doer W base ob db c r (.slice (some ⟨g,0,none⟩) S.inodes.length icap) ov mv Iv S){k:Nat}(hk:k<S.inodes.length):W.cell? ⟨g,k*4+3,none⟩=some (.string (S.dat k)):=by
 obtain⟨-,-,g',off,hA,hcell⟩:=h.stm.ino.at_ hk
 injection hA with hA
 injection hA with e1 e2
 subst e1 e2
 have:=hcell 3 (by omega)
 rwa [Nat.zero_add]at this
theorem Aa3(h:Doer W base ob db c Aq iv ov mv Iv S)(hI:Inv S)(hp:c.path.size<=4611686018427387904)(hk:c.kind=12∨c.kind=13∨c.kind=14):
  Calls Tryz.prog 86 #[.pointer (some ⟨db,0,none⟩)] W fun e w'=>Aki base ob db c iv ov mv Iv S W e w' (Ub S c):=by
 obtain⟨g,icap,ics,rfl,-,-,-⟩:=h.row hI.pos
 have H:=lhi h
 have HI:=lhi hI
 have HAT:=lhi (Ob h hI hp)
 have d6:W.cell? ⟨db,6,none⟩=some (.string c.path):=h.d.cell 6
 obtain⟨RES,hres⟩: ∃R,Ub S c=R:=⟨_,rfl⟩
 have HR:=lhi hres
 rw[hres]
 unfold Ub at HR
 cases ha:atS S c.path with
 | error k=>
  rw[ha]at HAT HR
  obtain rfl: .error k=RES:=HR.out
  clear h hI hp hk ha hres
  go_enter Tryz.func86,Tryz.ntmps86
  go_wp2_with (go_at_call 123;refine HAT.out.mono ?_;rintro e w1 ⟨he,hb1⟩;have he:e=Cg k:=he;subst he;have HB:=lhi hb1)
  exact⟨rfl,rfl,HB.out.mono H.out.bs⟩
 | ok a=>
  rw[ha]at HAT HR
  have hal:=Tm hI ha
  clear h hI hp ha hres
  go_enter Tryz.func86,Tryz.ntmps86
  go_upto_region 1 with(go_at_call 123;refine HAT.out.mono ?_;rintro e w1 ⟨he,hb1⟩;have he:e= .returned (.pointer (some ⟨g,a*4,none⟩)):=he;subst he;have HB1:=lhi hb1;have H1:=lhi (H.out.below hb1);clear hb1 HAT d6)
  have d1:w1.cell? ⟨db,1,none⟩=some (.int .i64 c.kind):=H1.out.d.cell 1
  have q0:w1.cell? ⟨g,a*4,none⟩=some (.int .i64 (S.num a)):=H1.out.numc hal
  have q1:w1.cell? ⟨g,a*4+1,none⟩=some (.bool (S.dir a)):=H1.out.dirc hal
  rcases hk with hk | hk | hk
  ·-- List
   rw[hk]at d1 HR
   replace HR:=lhi ((if_pos rfl).symm.trans HR.out)
   cases hd:S.dir a with
   | false=>
    rw[hd]at q1 HR
    obtain rfl: .error 7=RES:=HR.out
    clear hd
    go_wp2_with (go_at_call 116;refine(Al _ _).mono ?_;rintro e w3 ⟨rfl,rfl⟩)
    exact⟨rfl,rfl,HB1.out.mono H.out.bs⟩
   | true=>
    rw[hd]at q1 HR
    have hkI:a<Iv.length:=by rw[H.out.st.len'];exact hal
    have hino:=H.out.st.at_ hkI
    have c2:=H1.out.st.cell H.out.st.len'.symm hkI (show 2<4 by omega)
    have HEV:=lhi (fun(V:World) (r':ResV) (hD:Doer V base ob db c r' (.slice (some ⟨g,0,none⟩) S.inodes.length icap) ov mv Iv S)=>hD.st.ent a hkI)
    obtain⟨q,hq⟩:=xx (Iv[a])
    rw[hq]at hino c2 HEV
    obtain⟨p1,ev⟩:=q
    replace hino:p1=S.ino a:=hino
    subst hino
    obtain⟨es,hes⟩:=xx ((S.ino a).ents)
    replace HEV:=lhi (show∀(V:World) (r':ResV),Doer V base ob db c r' (.slice (some ⟨g,0,none⟩) S.inodes.length icap) ov mv Iv S->V.ownsRow base 132 2 ev es.length (es.flatMap Ai)from by rw[<-hes];exact HEV.out)
    have hle:es.length<=1000:=by rw[<-hes];exact(HI.out.ord.ents a hal).1
    obtain⟨EA,ecap,rfl,-⟩:=Aj (HEV.out _ _ H1.out)
    replace c2:w1.cell? ⟨g,a*4+2,none⟩=some (.slice EA es.length ecap):=c2
    obtain rfl: .ok (0,false,es.map (·.1))=RES:=by rw[<-hes];exact HR.out
    have hbase:=H.out.bs
    obtain⟨n,hn⟩:=xx es.length
    have HN:=lhi hn
    rw[hn]at c2 HEV hle
    clear hd hes hq hkI hn
    go_wp2_with (go_at_call 116;refine(Ar _ _).mono ?_;rintro e w3 ⟨rfl,rfl⟩)
    clear c2 d1 q0 q1
    go_loopw [50] (fun i wr=>∃(k:Nat) (na:Option Addr) (nc:Nat),i= .int .i64 k/\k<=n/\Below base W wr/\Doer wr base ob db c (resT 0 false na k nc) (.slice (some ⟨g,0,none⟩) S.inodes.length icap) ov mv Iv S/\wr.ownsRow base 9 1 (.slice na k nc) k (((es.map (·.1)).take k).map .string)) (fun i _=>n - (intOf i).toNat)
    case atStart=>exact⟨0,none,0,rfl,by omega,HB1.out.mono hbase,H1.out,by rw[List.take_zero];exact World.ownsRow_nil _ _ _ _⟩
    case round=>
     obtain⟨k,na,nc,rfl,hk,hb,hD,hrow⟩:=hrel
     have HB:=lhi hb
     have HD:=lhi hD
     have HRW:=lhi hrow
     clear hb hrow
     by_cases hp:k<n
     ·have hre:=(Cc (by decide) Bn (show wr.ownsRow base 132 2 (.slice EA es.length ecap) es.length (es.flatMap Ai)by rw[HN.out];exact HEV.out _ _ hD) (Ee _)).at'
      rw[HN.out]at hre
      obtain⟨-,hcap,eg,eo,rfl,hcell⟩:=hre.at_ hp
      have e0:wr.cell? ⟨eg,eo+k*2,none⟩=some (.string (enmL es k)):=hcell 0 (by omega)
      have e1:wr.cell? ⟨eg,eo+k*2+1,none⟩=some (.int .i64 (enuL es k)):=hcell 1 (by omega)
      have hki:(k:Int)<n:=by omega
      obtain⟨nm,hnm⟩: ∃x,enmL es k=x:=⟨_,rfl⟩
      have HNM:=lhi hnm
      rw[hnm]at e0
      clear hcell hre hD hnm
      go_upto_region 9 with(fail)
      refine letW (fun W1 hW1=>?_)
      obtain⟨HX,hb1⟩:=Du hW1
      have HD1:=lhi (HD.out.below hb1)
      have HR1:=lhi (Bc HRW.out hb1)
      have HB1':=lhi (HB.out.trans (hb1.mono (Aml hbase HB.out.size)))
      obtain⟨eb,heb⟩: ∃x,wr.heap.size=x:=⟨_,rfl⟩
      rw[heb]at HX⊢
      have s14:W1.drew.cell? ⟨db,14,none⟩=some (.slice na k nc):=HD1.out.d.cell 14
      have sE:W1.drew.cell? ⟨eb,0,none⟩=some (.string nm):=HX.cell 0
      clear hW1 hb1 heb e0 e1
      refine Af (L:=13) (S:=fun w'=>w'.cell? ⟨db,14,none⟩=some (.slice na k nc)/\w'.cell? ⟨eb,0,none⟩=some (.string nm)) (by kernel_rfl) ⟨s14,sE⟩ (fun hHeld=>?_)
      refine tF 0 ?_
      refine tF 1 ?_
      refine tF 2 ?_
      refine tF 3 ?_
      refine tF 4 ?_
      refine tF 5 ?_
      refine tF 6 ?_
      refine tF 7 ?_
      refine t1 8 (fun K hK=>?_)
      go_simp
      have hD2:=(HD1.out.drew).below ((Amf W1.drew.heap.size W1.drew).alloc (Ama _) (.cells #[.string nm] 9))
      have hO2:=Bc HR1.out (((Ae W1).trans ((Amf W1.drew.heap.size W1.drew).alloc (Ama _) (.cells #[.string nm] 9))))
      have hX2:=(show Blk W1.drew eb 132 _ from HX).alloc (.cells #[.string nm] 9)
      have hsz:=HB1'.out.size
      refine tK hK ⟨hD2.d.cell 14,hX2.cell 0⟩ (fun hHeld=>?_)
      clear hK K
      obtain⟨j0,hj,hy0,hy1,hy2⟩:=info_parts (show(Tryz.prog.info? 9).map (fun i=>(i.zero,i.size,i.bytes))=some (some (.string ⟨#[]⟩),1,16)by kernel_rfl)
      refine t1 9 (fun K hK=>?_)
      refine step_append_lies _ rfl (.tmp 59) (.tmp 62) 39 rfl base 9 j0 _ 1 16 Tryz.underlying39 hj hy0 hy1 hy2 rfl (by decide) (.slice na k nc) k _ rfl hO2 ⟨W1.drew.heap.size,0,none⟩ 1 1 [.string nm] rfl rfl (World.news_of_block (heap_alloc_new _ _)) (by intro u hu;simp at hu;subst hu;rfl) (by decide) (by simp only[maxLen];omega) (by omega) (by simp;omega) _ rfl ?_
      intro g2 cap2 w5 hown2 hgrow hat hlt
      have hD5:=hD2.grow hO2 hgrow
      have hX5:=Am hX2 hgrow (Ah hO2 hX2 (by decide))
      have HW5:=lhi ((Gi (HB1'.out.alloc (by omega) (.cells #[.string nm] 9))).trans (Bg hgrow (by simp;omega) fun b hb=>(hO2.lt b hb).1))
      refine tK hK ⟨hD5.d.cell 14,hX5.cell 0⟩ (fun hHeld=>?_)
      clear hK K
      refine tF 10 ?_
      refine tF 11 ?_
      refine tF 12 ?_
      have z14:=hHeld.1
      have f14:w5.frozen? ⟨db,14,none⟩=false:=hD5.d.frozen 14
      refine t1 13 (fun K hK=>?_)
      go_simp
      refine tL hK ?_
      clear hK K z14 f14 hHeld hk
      have hfin:=hD5.setR (r':=resT 0 false (some ⟨g2,0,none⟩) (k+1) cap2) 14 (.slice (some ⟨g2,0,none⟩) (k+1) cap2) rfl
      have HF:=lhi hfin
      have HO:=lhi (ownsRow_setCell_other hown2 (a:=⟨db,14,none⟩) (fun q=>by
       have:=Ah hown2 hD5.d (by decide)
       exact this q) (.slice (some ⟨g2,0,none⟩) (k+1) cap2))
      have HW:=lhi (HW5.out.setCell (p:=⟨db,14,none⟩) hD5.db_ (.slice (some ⟨g2,0,none⟩) (k+1) cap2))
      clear hD2 hO2 hX2 hX5 hD5 hown2 hgrow hfin
      go_wp2_with (fail)
      go_roundw
      case rel=>exact⟨k+1,some ⟨g2,0,none⟩,cap2,by simp,by omega,HW.out,HF.out,by
       have hk':k<es.length:=by rw[HN.out];exact hp
       rw[List.take_add_one,List.map_append,List.getElem?_map,Amh hk']
       have e:es[k].1=nm:=by rw[<-HNM.out];unfold enmL;rw[An hk']
       simp only[Option.map_some,Option.toList_some,List.map_cons,List.map_nil,e]
       exact HO.out⟩
      case measure=>
       simp only[intOf]
       omega
     ·obtain rfl:k=n:=by omega
      clear hD
      go_wp2_with (fail)
      go_end0
      have e:(es.map (·.1)).length=k:=by rw[List.length_map,HN.out]
      have hr:=HRW.out
      rw[List.take_of_length_le (by omega)]at hr
      exact⟨rfl,HB.out,na,nc,by rw[e];exact HD.out,by rw[e];exact hr⟩
  ·-- Stat
   rw[hk]at d1 HR
   replace HR:=lhi (show .ok (if S.dir a=true then 0 else((S.dat a).size:Int),S.dir a,[])=RES from HR.out)
   have q3:w1.cell? ⟨g,a*4+3,none⟩=some (.string (S.dat a)):=H1.out.datc hal
   have d12:w1.cell? ⟨db,12,none⟩=some (.bool false):=H1.out.d.cell 12
   have f12:=H1.out.d.frozen 12
   have d11:w1.cell? ⟨db,11,none⟩=some (.int .i64 0):=H1.out.d.cell 11
   have f11:=H1.out.d.frozen 11
   have HBW:=lhi (HB1.out.mono H.out.bs)
   cases hd:S.dir a with
   | true=>
    rw[hd]at q1 HR
    obtain rfl: .ok (0,true,[])=RES:=HR.out
    clear hd HR
    go_wp2_with (fail)
    go_end0
    exact⟨rfl,HBW.out.setCell (p:=⟨db,12,none⟩) H1.out.db_ _,none,0,H1.out.setR (r':=resT 0 true none 0 0) 12 _ rfl,World.ownsRow_nil _ _ _ _⟩
   | false=>
    rw[hd]at q1 HR
    obtain rfl: .ok (((S.dat a).size:Int),false,[])=RES:=HR.out
    clear hd HR
    go_wp2_with (fail)
    go_end0
    exact⟨rfl,(HBW.out.setCell (p:=⟨db,12,none⟩) H1.out.db_ _).setCell (p:=⟨db,11,none⟩) H1.out.db_ _,none,0,(H1.out.setR (r':=resT 0 false none 0 0) 12 _ rfl).setR (r':=resT ((S.dat a).size:Int) false none 0 0) 11 _ rfl,World.ownsRow_nil _ _ _ _⟩
  ·-- Links
   rw[hk]at d1 HR
   replace HR:=lhi (show(if S.dir a=true then .error 8 else .ok ((cntI S (S.num a) S.inodes.length:Nat),false,[]))=RES from HR.out)
   have HBW:=lhi (HB1.out.mono H.out.bs)
   cases hd:S.dir a with
   | true=>
    rw[hd]at q1 HR
    obtain rfl: .error 8=RES:=HR.out
    clear hd
    go_wp2_with (go_at_call 116;refine(Al _ _).mono ?_;rintro e w3 ⟨rfl,rfl⟩)
    exact⟨rfl,rfl,HBW.out⟩
   | false=>
    rw[hd]at q1 HR
    obtain rfl: .ok ((cntI S (S.num a) S.inodes.length:Nat),false,[])=RES:=HR.out
    obtain⟨OA,ocap,rfl,-⟩:=Aj H.out.st.opn
    obtain⟨MA,mcap,rfl,-⟩:=Aj H.out.st.mad
    have HLX:=lhi (fun y:WIn (Bel w1)=>Kr (H1.out.stm.keep y.h) HI.out.small (S.num a))
    have x0: ∀y:WIn (Bel w1),y.v.cell? ⟨db,0,none⟩=some (.pointer (some ⟨ob,0,none⟩)):=fun y=>y.cell (H1.out.d.cell 0)
    have x1: ∀y:WIn (Bel w1),y.v.cell? ⟨ob,0,none⟩=some (.slice (some ⟨g,0,none⟩) S.inodes.length icap):=fun y=>y.cell (H1.out.o.cell 0)
    have x2: ∀y:WIn (Bel w1),y.v.cell? ⟨ob,1,none⟩=some (.slice OA S.opens.length ocap):=fun y=>y.cell (H1.out.o.cell 1)
    have x3: ∀y:WIn (Bel w1),y.v.cell? ⟨ob,2,none⟩=some (.slice MA S.made.length mcap):=fun y=>y.cell (H1.out.o.cell 2)
    have x4: ∀y:WIn (Bel w1),y.v.cell? ⟨g,a*4,none⟩=some (.int .i64 (S.num a)):=fun y=>y.cell q0
    clear hd HR
    go_upto_region 3 with(go_at_call 116;refine(Ar _ _).mono ?_;rintro e w3 ⟨rfl,rfl⟩)
    clear q0 q1 d1
    refine Fa (Bel w1) (by kernel_rfl) (by kernel_rfl) (by kernel_rfl) (by kernel_rfl) (by kernel_rfl) (by decide) (Bel.drew w1) ?_
    simp only[List.dropLast]
    repeat (go_big_quiet_step ((go_at_call 67;exact Calls.bel _ (HLX.out _))))
    refine wpQuiet_nil ?_
    rintro w5 ⟨y5,rfl⟩
    have H5:=lhi (H1.out.below y5.h)
    have HB5:=lhi (HBW.out.trans (y5.h.mono (Aml H.out.bs HB1.out.size)))
    clear x0 x1 x2 x3 x4 HLX
    have d11:y5.v.cell? ⟨db,11,none⟩=some (.int .i64 0):=H5.out.d.cell 11
    have f11:=H5.out.d.frozen 11
    refine Qe (o:=⟨none,_,_,_,_,_⟩) rfl (fun K hK=>?_)
    go_simp
    refine hK.out _ _ ?_
    clear hK K
    go_end0
    exact⟨rfl,HB5.out.setCell (p:=⟨db,11,none⟩) H5.out.db_ _,none,0,H5.out.setR (r':=resT ((cntI S (S.num a) S.inodes.length:Nat):Int) false none 0 0) 11 _ rfl,World.ownsRow_nil _ _ _ _⟩
end
def mayB(S:St)(c:Ad):Bool:=decide (0<=c.kind)&& (decide (c.kind<=16)&& (decide (0<=c.core)&&decide (c.core< (S.made.length:Int))))
theorem Ac3{w:World}{sp cp:Nat}{iv ov mv:Value}{ev:Nat->Value}{S:St}{c:Ad}(hS:StM w iv ov mv ev S)(hI:Inv S)(hs:Blk w sp 30 #[iv,ov,mv])(hc:Blk w cp 24 c.cs):
  Calls Tryz.prog 30 #[.pointer (some ⟨sp,0,none⟩),.pointer (some ⟨cp,0,none⟩)] w fun e w'=>e= .returned (.bool (mayB S c))/\Below w.heap.size w w':=by
 have HMY:=lhi (fun(V:World) (hb:Below w.heap.size w V)=>Of (hS.keep hb) hI)
 obtain⟨A,cap,rfl,-,-⟩:=hS.ino
 obtain⟨OA,ocap,rfl,-,-⟩:=hS.opn
 obtain⟨MA,mcap,rfl,-,-⟩:=hS.mad
 have x0: ∀x:WIn (Bel w),x.v.cell? ⟨sp,0,none⟩=some (.slice A S.inodes.length cap):=fun x=>x.cell (hs.cell 0)
 have x1: ∀x:WIn (Bel w),x.v.cell? ⟨sp,1,none⟩=some (.slice OA S.opens.length ocap):=fun x=>x.cell (hs.cell 1)
 have x2: ∀x:WIn (Bel w),x.v.cell? ⟨sp,2,none⟩=some (.slice MA S.made.length mcap):=fun x=>x.cell (hs.cell 2)
 have y0: ∀x:WIn (Bel w),x.v.cell? ⟨cp,0,none⟩=some (.int .i64 c.kind):=fun x=>x.cell (hc.cell 0)
 have y1: ∀x:WIn (Bel w),x.v.cell? ⟨cp,1,none⟩=some (.int .i64 c.core):=fun x=>x.cell (hc.cell 1)
 unfold mayB
 obtain⟨b1,d1⟩: ∃b,decide ((0:Int)<=c.kind)=b:=⟨_,rfl⟩
 obtain⟨b2,d2⟩: ∃b,decide (c.kind<= (16:Int))=b:=⟨_,rfl⟩
 obtain⟨b3,d3⟩: ∃b,decide ((0:Int)<=c.core)=b:=⟨_,rfl⟩
 obtain⟨b4,d4⟩: ∃b,decide (c.core< (S.made.length:Int))=b:=⟨_,rfl⟩
 rw[d1,d2,d3,d4]
 clear hS hI hs hc
 rcases(by cases b1 <;> cases b2 <;> cases b3 <;> cases b4 <;> simp:b1=false∨b1=true/\b2=false∨b1=true/\b2=true/\b3=false∨b1=true/\b2=true/\b3=true/\b4=false∨b1=true/\b2=true/\b3=true/\b4=true)with rfl | ⟨rfl,rfl⟩ | ⟨rfl,rfl,rfl⟩ | ⟨rfl,rfl,rfl,rfl⟩ | ⟨rfl,rfl,rfl,rfl⟩
 all_goals
  go_enter Tryz.func30,Tryz.ntmps30
  go_upto_region 1 with(fail)
  refine Be (C:=Bel w) (by kernel_rfl) (by kernel_rfl) (Bel.drew w) ?_
  repeat (go_big_quiet_step (first | (go_at_call 22;exact Calls.bel _ (HMY.out _ (WIn.h _)))))
  refine wpQuiet_nil ?_
  rintro _ ⟨⟨wx,hbx⟩,rfl⟩
  have HBX:=lhi hbx
  go_wp2_with (fail)
  go_ret
  exact⟨rfl,HBX.out⟩
theorem Adr(k:Int)(W:World):(Instr.typeAssert (.iface 84 (.agg #[.int .i64 k])) 20 84 true).run Tryz.prog W= .ok (.tuple #[.agg #[.int .i64 k],.bool true]) W:=by kernel_rfl
theorem Agz(s p q:Addr)(w:World):
  CallsD Tryz.prog 32 #[.pointer (some s),.pointer (some p),.pointer (some q)] .returning w fun e u' w'=>e= .returned (.tuple #[])/\u'= .returning/\w'=w:=by
 refine callsD_of_wpS Tryz.func32 rfl fun c₀ cs hu=>?_
 simp only[Tryz.ntmps32,List.size_toArray,List.length_cons,List.length_nil,Nat.reduceAdd,Nat.reduceSub,Array.replicate_succ,Array.replicate_zero,List.push_toArray,List.append_toArray,List.nil_append,List.cons_append]
 apply wpS_seq
 apply wpS_region
 simp[wpOpsS,go_sem,recoverD,hu,Exit.thenS]
 refine wpS_of_wp (Code.wp_mono (Q:=Aa1 (fun w'=>w'=w)) ?_ ?_)
 ·rintro e a w' ⟨he,hd,rfl⟩
  cases c₀
  rcases he with rfl | rfl <;> simp_all [bodyPostS,results,Tryz.results32]
 ·clear hu
  go_wp2_with (fail)
  exact⟨.inl rfl,rfl,rfl⟩
theorem StO.base_le{w:World}{b b':Nat}{iv ov mv:Value}{Iv:List InV}{S:St}(h:StO w b iv ov mv Iv S)(hb:b'<=b):StO w b' iv ov mv Iv S:=⟨h.len,Dr h.ino hb,fun i hi=>Dr (h.ent i hi) hb,h.apart,Dr h.opn hb,Dr h.mad hb⟩
theorem StO.grow{w w':World}{b n:Nat}{t:TypeId}{cs:Array Value}{iv ov mv:Value}{Iv:List InV}{S:St}(h:StO w b iv ov mv Iv S)(hg:w.grownBy w' (some n))(hn:Blk w n t cs)(ht:t≠93/\t≠132/\t≠144/\t≠3):StO w' b iv ov mv Iv S:=by
 have hr: ∀{e:TypeId} {k m:Nat} {u:Value} {ys:List Value},w.ownsRow b e k u m ys->t≠e->w'.ownsRow b e k u m ys:=fun hu he=>Dq hu hg fun q hq e=>by
  obtain rfl:=Amg e
  exact Blk.ne_ hn (Ag hu hq).2.choose_spec he rfl
 exact⟨h.len,hr h.ino ht.1,fun i hi=>hr (h.ent i hi) ht.2.1,h.apart,hr h.opn ht.2.2.1,hr h.mad ht.2.2.2⟩
def Ado(B p q:Nat)(k:Int)(S:St)(w w':World):Prop:=Below B w w'/\ ∃iv ov mv Iv,Blk w' p 30 #[iv,ov,mv]/\Blk w' q 41 (Fl k).toArray/\StO w' 0 iv ov mv Iv S
theorem Ag0{sb p q B:Nat}{k:Int}{w:World}{iv ov mv v0 v1 v2 u0 u1 u2 u3 u4 u5:Value}{ev:Nat->Value}{S:St}(hS:StV w 0 iv ov mv ev S)(hs:S.small)(hsb:Blk w sb 30 #[iv,ov,mv])(hp:Blk w p 30 #[v0,v1,v2])(hq:Blk w q 41 #[u0,u1,u2,u3,u4,u5])(hsp:sb≠p)(hB:B<=p/\B<=q/\B<=w.heap.size)(older:List PanicEntry):
  CallsD Tryz.prog 32 #[.pointer (some ⟨sb,0,none⟩),.pointer (some ⟨p,0,none⟩),.pointer (some ⟨q,0,none⟩)] (.panicking ({v:=Qi k,recovered:=false}::older)) w fun e u' w'=>e= .returned (.tuple #[])/\u'= .panicking ({v:=Qi k,recovered:=true}::older)/\Ado B p q k S w w':=by
 have h1:=Adr k
 obtain⟨A,cap,rfl,-⟩:=hS.ino
 obtain⟨OA,ocap,rfl,-⟩:=hS.opn
 obtain⟨MA,mcap,rfl,-⟩:=hS.mad
 have HCL:=lhi (fun(V:World) (hb:Below w.heap.size w V)=>Jv (hS.below hb) hs)
 have HK:=lhi (And.intro hsb (And.intro hp (And.intro hq (And.intro hsp hB))))
 clear hS hsb hp hq hB hs hsp
 refine callsD_of_wpS Tryz.func32 rfl fun c₀ cs hu=>?_
 simp only[Tryz.ntmps32,List.size_toArray,List.length_cons,List.length_nil,Nat.reduceAdd,Nat.reduceSub,Array.replicate_succ,Array.replicate_zero,List.push_toArray,List.append_toArray,List.nil_append,List.cons_append]
 apply wpS_seq
 apply wpS_region
 simp[wpOpsS,go_sem,recoverD,hu,Exit.thenS,Qi]
 refine wpS_of_wp (Code.wp_mono (Q:=Aa1 (Ado B p q k S w)) ?_ ?_)
 ·rintro e a w' ⟨he,hd,hc⟩
  cases c₀
  rcases he with rfl | rfl <;> simp_all [bodyPostS,results,Tryz.results32]
 ·clear hu
  go_upto_region 5 with(fail)
  refine letW (fun w1 hw1=>?_)
  obtain⟨hf1,hb1⟩:=Du hw1
  obtain⟨fb,hfb⟩: ∃x,w.heap.size=x:=⟨_,rfl⟩
  rw[hfb]at hf1⊢
  obtain⟨hsb,hp,hq,hsp,hBp,hBq,hBw⟩:=HK.out
  have HB1:=lhi (hb1.trans ((Ae w1).mono hb1.size))
  have hs1:=(Blk.of_heap (hb1.block _ hsb.lt) hsb).dr
  have hp1:=(Blk.of_heap (hb1.block _ hp.lt) hp).dr
  have hq1:=(Blk.of_heap (hb1.block _ hq.lt) hq).dr
  have hf1:=hf1.dr
  have HX:=lhi (And.intro hs1 (And.intro hp1 (And.intro hq1 hf1)))
  obtain⟨s0,s1,s2⟩:=hs1.d3
  have c0:w1.drew.cell? ⟨fb,0,none⟩=some (.int .i64 k):=hf1.cell 0
  clear hw1 hb1 hfb hsb hp hq hs1 hp1 hq1 hf1
  refine Af (L:=6) (S:=fun w'=>(w'.cell? ⟨sb,0,none⟩=some (.slice A S.inodes.length cap)/\w'.cell? ⟨sb,1,none⟩=some (.slice OA S.opens.length ocap)/\w'.cell? ⟨sb,2,none⟩=some (.slice MA S.made.length mcap))/\w'.cell? ⟨fb,0,none⟩=some (.int .i64 k)) (by kernel_rfl) (⟨⟨s0,s1,s2⟩,c0⟩) (fun hHeld=>?_)
  refine tF 0 ?_
  refine tF 2 ?_
  refine tF 3 ?_
  refine tF 4 ?_
  refine t1 1 (fun K hK=>?_)
  go_simp
  refine(HCL.out _ HB1.out).mono ?_
  rintro e w5 ⟨iv',ov',mv',Iv,rfl,hst,hb5⟩
  have HST:=lhi hst
  obtain⟨A',cap',rfl,-⟩:=Aj hst.ino
  obtain⟨O',ocap',rfl,-⟩:=Aj hst.opn
  obtain⟨M',mcap',rfl,-⟩:=Aj hst.mad
  obtain⟨hs1,hp1,hq1,hf1⟩:=HX.out
  have hs5:=Blk.of_heap (hb5.block _ hs1.lt) hs1
  have hp5:=Blk.of_heap (hb5.block _ hp1.lt) hp1
  have hq5:=Blk.of_heap (hb5.block _ hq1.lt) hq1
  have hf5:=Blk.of_heap (hb5.block _ hf1.lt) hf1
  have HB5:=lhi ((HB1.out.mono hBw).trans (hb5.mono (Aml hBw HB1.out.size)))
  have HP:=lhi (hp5.put3 (.slice A' Iv.length cap') (.slice O' S.opens.length ocap') (.slice M' S.made.length mcap'))
  have hpq:p≠q:=Blk.ne_ hp5 hq5 (by decide)
  have hqp:q≠p:=Ne.symm hpq
  have HQ6:=lhi (Am hq5 HP.out.2 fun e=>hpq (Amg e))
  have HQ:=lhi (HQ6.out.put6 (.int .i64 k) (.int .i64 0) (.int .i64 0) (.bool false) (.string ⟨#[]⟩) (.slice none 0 0))
  have HS6:=lhi (Am hs5 HP.out.2 fun e=>hsp (Amg e).symm)
  have HF6:=lhi (Am hf5 HP.out.2 fun e=>Blk.ne_ hp5 hf5 (by decide) (Amg e))
  have HP5:=lhi hp5
  refine tK hK ⟨hs5.d3,hf5.cell 0⟩ (fun hHeld=>?_)
  clear hK K
  obtain⟨p0,p1,p2⟩:=hp5.d3
  obtain⟨f0,f1,f2⟩:=hp5.f3
  obtain⟨q0,q1,q2,q3,q4,q5⟩:=hq5.d6
  obtain⟨g0,g1,g2,g3,g4,g5⟩:=hq5.f6
  clear hst hb5 hs1 hp1 hq1 hf1 hs5 hp5 hq5 hf5
  refine t1 5 (fun K hK=>?_)
  go_simp
  refine tK hK ⟨HS6.out.d3,HF6.out.cell 0⟩ (fun hHeld=>?_)
  clear hK K
  refine t1 6 (fun K hK=>?_)
  go_simp
  refine tL hK ?_
  have z5:=HB5.out.size
  have z6:=HP.out.2.size
  have h6:=HB5.out.trans (Bg HP.out.2 (by omega) fun b hb=>Amg hb▸hBp)
  have h7:=h6.trans (Bg HQ.out.2 (by omega) fun b hb=>Amg hb▸hBq)
  exact⟨.inl rfl,rfl,h7,_,_,_,Iv,Am HP.out.1 HQ.out.2 fun e=>hqp (Amg e),HQ.out.1,((HST.out.grow HP.out.2 HP5.out (by decide)).grow HQ.out.2 HQ6.out (by decide)).base_le (Nat.zero_le _)⟩
abbrev OutX:=Except Int (St×(World->ResV->Prop))
def Py(k:Int):ResV:=⟨k,0,0,false,⟨#[]⟩,none,0,0⟩
def RunQ(base ob db:Nat)(c:Ad)(W:World)(e:Ending)(w':World):OutX->Prop
 | .error k=>e=Cg k/\Below base W w'
 | .ok (S',R)=>e= .returned (.tuple #[])/\Below base W w'/\ ∃r iv' ov' mv' Iv',R w' r/\Doer w' base ob db c r iv' ov' mv' Iv' S'
def outS(S:St):OutX->St
 | .error _=>S
 | .ok (S',_)=>S'
def outR(w:World)(r:ResV):OutX->Prop
 | .error k=>r=Py k
 | .ok (_,R)=>R w r
def DoQ(S:St)(w:World)(e:Ending)(w':World)(X:OutX):Prop:=(∃iv ov mv ev r,e= .returned (.tuple #[.agg #[iv,ov,mv],.agg r.cs])/\StV w' 0 iv ov mv ev (outS S X)/\outR w' r X)/\Below w.heap.size w w'
structure DoB (w:World) (n:Nat) (iv ov mv:Value) (c:Ad) (W:World):Prop where
 b:Below n w W
 s:Blk W n 30 #[iv,ov,mv]
 c:Blk W (n+1) 24 c.cs
 o:Blk W (n+2) 30 #[.slice none 0 0,.slice none 0 0,.slice none 0 0]
 r:Blk W (n+3) 41 #[.int .i64 0,.int .i64 0,.int .i64 0,.bool false,.string ⟨#[]⟩,.slice none 0 0]
theorem DoB.below{w W W':World}{n:Nat}{iv ov mv:Value}{c:Ad}{B:Nat}(h:DoB w n iv ov mv c W)(hb:Below B W W')(hB:n+4<=B):DoB w n iv ov mv c W':=
 ⟨h.b.trans (hb.mono (by omega)),Blk.of_heap (hb.block _ (by omega)) h.s,Blk.of_heap (hb.block _ (by omega)) h.c,Blk.of_heap (hb.block _ (by omega)) h.o,Blk.of_heap (hb.block _ (by omega)) h.r⟩
theorem Va{w W:World}{iv ov mv:Value}{c:Ad}(h:W=(((w.alloc (.cells #[iv,ov,mv] 30)).alloc (.cells c.cs 24)).alloc (.cells #[.slice none 0 0,.slice none 0 0,.slice none 0 0] 30)).alloc (.cells #[.int .i64 0,.int .i64 0,.int .i64 0,.bool false,.string ⟨#[]⟩,.slice none 0 0] 41)):DoB w w.heap.size iv ov mv c W/\W.heap.size=w.heap.size+4:=by
 subst h
 exact⟨⟨((((Amf _ _).alloc (Ama _) _).alloc (by simp) _).alloc (by simp;omega) _).alloc (by simp;omega) _,(((Blk.new w _ _).alloc _).alloc _).alloc _,((Blk.newAt _ _ _ (by simp)).alloc _).alloc _,(Blk.newAt _ _ _ (by simp)).alloc _,Blk.newAt _ _ _ (by simp)⟩,by simp⟩
theorem Doer.d9{W:World}{base ob db:Nat}{c:Ad}{r:ResV}{iv ov mv:Value}{Iv:List InV}{S:St}(h:Doer W base ob db c r iv ov mv Iv S):W.cell? ⟨db,9,none⟩=some (.int .i64 r.code)/\W.cell? ⟨db,10,none⟩=some (.int .i64 r.fd)/\W.cell? ⟨db,11,none⟩=some (.int .i64 r.num)/\W.cell? ⟨db,12,none⟩=some (.bool r.dir)/\W.cell? ⟨db,13,none⟩=some (.string r.data)/\W.cell? ⟨db,14,none⟩=some (.slice r.na r.nl r.nc):=⟨h.d.cell 9,h.d.cell 10,h.d.cell 11,h.d.cell 12,h.d.cell 13,h.d.cell 14⟩
theorem Alm{w:World}{iv ov mv:Value}{ev:Nat->Value}{S:St}{c:Ad}{X:OutX}(hS:StV w 0 iv ov mv ev S)(hI:Inv S)(hm:mayB S c=true)
  (hrun: ∀(W:World) (base ob db:Nat) (iv' ov' mv':Value) (Iv:List InV),Doer W base ob db c Aq iv' ov' mv' Iv S->Calls Tryz.prog 33 #[.pointer (some ⟨db,0,none⟩)] W fun e w'=>RunQ base ob db c W e w' X)
  (hR: ∀S' R,X= .ok (S',R)-> ∀w w' r,KI w w'->R w r->R w' r):
  Calls Tryz.prog 12 #[.agg #[iv,ov,mv],.agg c.cs] w fun e w'=>DoQ S w e w' X:=by
 have hmf: ∀(fn:Fn) (first cap:Array Value) (w:World),(Instr.makeFunc fn first cap).run Tryz.prog w= .ok (.func fn first cap) w:=fun _ _ _ _=>rfl
 obtain⟨A,cap,rfl,-⟩:=hS.ino
 obtain⟨OA,ocap,rfl,-⟩:=hS.opn
 obtain⟨MA,mcap,rfl,-⟩:=hS.mad
 have HS:=lhi hS
 have HI:=lhi hI
 have HM:=lhi hm
 have HRU:=lhi hrun
 have HRR:=lhi hR
 obtain⟨kind,core,fd,off,num,path,path2,data⟩:=c
 clear hS hI hm hrun hR
 simp only[Ad.cs]
 rcases X with k | ⟨S',R⟩
 all_goals
  go_enter_defers Tryz.func12,Tryz.ntmps12
  go_upto_region 1 with(fail)
  refine letW (fun w4 hw4=>?_)
  obtain⟨hd,hs4⟩:=Va (c:=⟨kind,core,fd,off,num,path,path2,data⟩) hw4
  obtain⟨n,hn⟩:=xx w.heap.size
  have HN:=lhi hn
  rw[hn]at hd hs4⊢
  have HD:=lhi hd
  have HS4:=lhi (HS.out.below (by rw[hn];exact hd.b))
  have HMY:=lhi (Ac3 HS4.out.stm HI.out hd.s hd.c)
  rw[HM.out]at HMY
  clear hw4 hn hd
  go_upto_region 4 with(go_at_call 30;refine HMY.out.mono ?_;rintro e w5 ⟨rfl,hb5⟩;have HB5:=lhi hb5;clear hb5)
  have HD5:=lhi (HD.out.below HB5.out (by omega))
  have HCL:=lhi (Jv (HS4.out.below HB5.out) HI.out.small)
  obtain⟨s0,s1,s2⟩:=HD5.out.s.d3
  go_upto_region 5 with(go_at_call 31;refine HCL.out.mono ?_;rintro e w6 ⟨iv',ov',mv',Iv,rfl,hst,hb6⟩;have HST:=lhi hst;have HB6:=lhi hb6;obtain⟨A',cap',rfl,-⟩:=Aj hst.ino;obtain⟨O',ocap',rfl,-⟩:=Aj hst.opn;obtain⟨M',mcap',rfl,-⟩:=Aj hst.mad;clear hst hb6)
  refine letW (fun w7 hw7=>?_)
  obtain⟨ho7,hb7⟩:=Du hw7
  have hz5:=HB5.out.size
  have hz6:=HB6.out.size
  have hz7:=hb7.size
  obtain⟨ob,hob⟩: ∃x,w6.heap.size=x:=⟨_,rfl⟩
  have HD7:=lhi ((HD5.out.below HB6.out (by omega)).below hb7 (by omega))
  have hst7:=HST.out.below hb7
  rw[hob]at ho7 hz6 hz7⊢
  have HST7:=lhi hst7
  have HO7:=lhi ho7
  obtain⟨c0,c1,c2,c3,c4,c5,c6,c7⟩:=HD7.out.c.d8
  clear s0 s1 s2 hw7 hb7 hob hst7 ho7
  go_upto_region 6 with(fail)
  refine letW (fun w8 hw8=>?_)
  obtain⟨hd8,hb8⟩:=Du hw8
  have hz8:=hb8.size
  have HD8:=lhi (HD7.out.below hb8 (by omega))
  have HDO:=lhi (show Doer w8 w5.heap.size ob w7.heap.size ⟨kind,core,fd,off,num,path,path2,data⟩ Aq (.slice A' Iv.length cap') (.slice O' S.opens.length ocap') (.slice M' S.made.length mcap') Iv S from⟨hz6,by omega,Blk.of_heap (hb8.block _ HO7.out.lt) HO7.out,hd8,HST7.out.below hb8⟩)
  have HR8:=lhi (HRU.out _ _ _ _ _ _ _ _ HDO.out)
  obtain⟨db,hdb⟩: ∃x,w7.heap.size=x:=⟨_,rfl⟩
  rw[hdb]at HR8⊢
  have hx:n+4<=ob/\ob<db:=by have:=HO7.out.lt;omega
  have HXX:=lhi hx
  clear hw8 hb8 hd8 hdb hx c0 c1 c2 c3 c4 c5 c6 c7
 ·go_wp2_with (go_at_call 33;refine HR8.out.mono ?_;rintro e w9 ⟨rfl,hb9⟩)
  have HD9:=HD8.out.below hb9 (by omega)
  have hz9:=hb9.size
  have hz:=HN.out
  have hS9:=HS.out.below (by rw[hz];exact HD9.b)
  refine leaves_cons (f:=32) (args:=#[.pointer (some ⟨n,0,none⟩),.pointer (some ⟨n+2,0,none⟩),.pointer (some ⟨n+3,0,none⟩)]) (by simp) (by simp[go_sem]) ?_
  refine(Ag0 hS9 HI.out.small HD9.s HD9.o HD9.r (by omega) (B:=n) ⟨by omega,by omega,by omega⟩ []).mono ?_
  rintro e u' w'' ⟨rfl,rfl,hb,iv3,ov3,mv3,Iv3,P,Q,T⟩
  obtain⟨z0,z1,z2⟩:=P.d3
  obtain⟨y0,y1,y2,y3,y4,y5⟩:=(show Blk w'' (n+3) 41 #[.int .i64 k,.int .i64 0,.int .i64 0,.bool false,.string ⟨#[]⟩,.slice none 0 0]from Q).d6
  refine⟨.tuple #[.agg #[iv3,ov3,mv3],.agg (Py k).cs],?_,⟨_,_,_,_,Py k,rfl,T.stv,rfl⟩,by rw[hz];exact HD9.b.trans hb⟩
  simp[results,Tryz.results12,go_sem,ResV.cs,Py,z0,z1,z2,y0,y1,y2,y3,y4,y5]
 ·go_upto_region 7 with(go_at_call 33;refine HR8.out.mono ?_;rintro e w9 ⟨rfl,hb9,r,iv2,ov2,mv2,Iv2,hr,hd9⟩;have HB9:=lhi hb9;have H9:=lhi hd9;have HRX:=lhi hr;clear hb9 hd9 hr HR8)
  have HD9:=lhi (HD8.out.below HB9.out (by omega))
  obtain⟨A2,n2,cap2,rfl⟩: ∃a b c,iv2= .slice a b c:=by obtain⟨a,c,h,-⟩:=Aj H9.out.st.ino;exact⟨a,_,c,h⟩
  obtain⟨O2,m2,ocap2,rfl⟩: ∃a b c,ov2= .slice a b c:=by obtain⟨a,c,h,-⟩:=Aj H9.out.st.opn;exact⟨a,_,c,h⟩
  obtain⟨M2,l2,mcap2,rfl⟩: ∃a b c,mv2= .slice a b c:=by obtain⟨a,c,h,-⟩:=Aj H9.out.st.mad;exact⟨a,_,c,h⟩
  have HP:=lhi (HD9.out.o.put3 (.slice A2 n2 cap2) (.slice O2 m2 ocap2) (.slice M2 l2 mcap2))
  have HQ6:=lhi (Am HD9.out.r HP.out.2 (fun e=>by have:=Amg e;omega))
  have HQ:=lhi (HQ6.out.put6 (.int .i64 r.code) (.int .i64 r.fd) (.int .i64 r.num) (.bool r.dir) (.string r.data) (.slice r.na r.nl r.nc))
  have HT:=lhi ((H9.out.st.grow HP.out.2 HD9.out.o (by decide)).grow HQ.out.2 HQ6.out (by decide))
  have HP7:=lhi (Am HP.out.1 HQ.out.2 (fun e=>by have:=Amg e;omega))
  have HRY:=lhi (HRR.out S' R rfl _ _ r ((KI.refl w9).trans (fun b t cs ht hb=>Am (Am hb HP.out.2 fun e=>by obtain rfl:=Amg e;exact Blk.ne_ hb HD9.out.o (by unfold Dg at ht;rcases ht with rfl | rfl <;> decide) rfl) HQ.out.2 fun e=>by obtain rfl:=Amg e;exact Blk.ne_ hb HD9.out.r (by unfold Dg at ht;rcases ht with rfl | rfl <;> decide) rfl)) HRX.out)
  have HBZ:=lhi ((HD9.out.b.trans (Bg HP.out.2 (by have:=HD9.out.b.size;have:=HN.out;omega) fun b hb=>by obtain rfl:=Amg hb;omega)).trans (Bg HQ.out.2 (by have:=HD9.out.b.size;have:=HN.out;have:=HP.out.2.size;omega) fun b hb=>by obtain rfl:=Amg hb;omega))
  obtain⟨a0,a1,a2⟩:=H9.out.o.d3
  obtain⟨a0',a1',a2'⟩:=H9.out.o.dr.d3
  obtain⟨b0,b1,b2,b3,b4,b5⟩:=H9.out.d9
  obtain⟨b0',b1',b2',b3',b4',b5'⟩:=H9.out.drew.d9
  obtain⟨p0,p1,p2⟩:=HD9.out.o.d3
  obtain⟨p0',p1',p2'⟩:=HD9.out.o.dr.d3
  obtain⟨f0,f1,f2⟩:=HD9.out.o.f3
  obtain⟨f0',f1',f2'⟩:=HD9.out.o.dr.f3
  obtain⟨q0,q1,q2,q3,q4,q5⟩:=HD9.out.r.d6
  obtain⟨q0',q1',q2',q3',q4',q5'⟩:=HD9.out.r.dr.d6
  obtain⟨g0,g1,g2,g3,g4,g5⟩:=HD9.out.r.f6
  obtain⟨g0',g1',g2',g3',g4',g5'⟩:=HD9.out.r.dr.f6
  obtain⟨x0,x1⟩:=HXX.out
  have y1:n+2≠ob:=by omega
  have y2:n+3≠ob:=by omega
  have y3:n+2≠db:=by omega
  have y4:n+3≠db:=by omega
  have y5:=Ne.symm y1
  have y6:=Ne.symm y2
  have y7:=Ne.symm y3
  have y8:=Ne.symm y4
  go_region
  refine letE (fun wf hwf=>?_)
  have HZ:=lhi (show Blk wf (n+2) 30 #[.slice A2 n2 cap2,.slice O2 m2 ocap2,.slice M2 l2 mcap2]/\Blk wf (n+3) 41 #[.int .i64 r.code,.int .i64 r.fd,.int .i64 r.num,.bool r.dir,.string r.data,.slice r.na r.nl r.nc]/\StV wf 0 (.slice A2 n2 cap2) (.slice O2 m2 ocap2) (.slice M2 l2 mcap2) (fun i=>(Iv2.getD i (Ds,.int .i64 0)).2) S'/\R wf r/\Below n w wf from by
   rw[hwf]
   exact⟨HP7.out.dr,HQ.out.1.dr,(HT.out.below (Ae _)).stv.base_le (Nat.zero_le _),HRR.out S' R rfl _ _ r (KI.drew (KI.refl _)) HRY.out,Gi HBZ.out⟩)
  clear hwf
  go_wp2_with (fail)
  refine leaves_cons (f:=32) (args:=#[.pointer (some ⟨n,0,none⟩),.pointer (some ⟨n+2,0,none⟩),.pointer (some ⟨n+3,0,none⟩)]) (by simp) (by simp[go_sem]) ?_
  refine(Agz _ _ _ _).mono ?_
  rintro e u' w'' ⟨rfl,rfl,rfl⟩
  obtain⟨P,Q,T,hr,hb⟩:=HZ.out
  obtain⟨z0,z1,z2⟩:=P.d3
  obtain⟨y0,y1,y2,y3,y4,y5⟩:=Q.d6
  refine⟨.tuple #[.agg #[.slice A2 n2 cap2,.slice O2 m2 ocap2,.slice M2 l2 mcap2],.agg r.cs],?_,⟨_,_,_,_,r,rfl,T,hr⟩,by rw[HN.out];exact hb⟩
  simp[results,Tryz.results12,go_sem,ResV.cs,z0,z1,z2,y0,y1,y2,y3,y4,y5]
theorem letB{P:Program}{f:Func}{R:Ending->World->Prop}{e:Exit}{a:Act}{w:World}(h: ∀W,W=w->bodyPostD P f R e a W):bodyPostD P f R e a w:=h w rfl
theorem Al0{w:World}{iv ov mv:Value}{ev:Nat->Value}{S:St}{c:Ad}(hS:StV w 0 iv ov mv ev S)(hI:Inv S)(hm:mayB S c=false):
  Calls Tryz.prog 12 #[.agg #[iv,ov,mv],.agg c.cs] w fun e w'=>DoQ S w e w' (.error 9):=by
 obtain⟨A,cap,rfl,-⟩:=hS.ino
 obtain⟨OA,ocap,rfl,-⟩:=hS.opn
 obtain⟨MA,mcap,rfl,-⟩:=hS.mad
 have HS:=lhi hS
 have HI:=lhi hI
 have HM:=lhi hm
 obtain⟨kind,core,fd,off,num,path,path2,data⟩:=c
 clear hS hI hm
 simp only[Ad.cs]
 go_enter_defers Tryz.func12,Tryz.ntmps12
 go_upto_region 1 with(fail)
 refine letW (fun w4 hw4=>?_)
 obtain⟨hd,hs4⟩:=Va (c:=⟨kind,core,fd,off,num,path,path2,data⟩) hw4
 obtain⟨n,hn⟩:=xx w.heap.size
 have HN:=lhi hn
 rw[hn]at hd hs4⊢
 have HD:=lhi hd
 have HS4:=lhi (HS.out.below (by rw[hn];exact hd.b))
 have HMY:=lhi (Ac3 HS4.out.stm HI.out hd.s hd.c)
 rw[HM.out]at HMY
 clear hw4 hn hd
 go_upto_region 2 with(go_at_call 30;refine HMY.out.mono ?_;rintro e w5 ⟨rfl,hb5⟩;have HB5:=lhi hb5;clear hb5)
 have HD5:=lhi (HD.out.below HB5.out (by omega))
 have HCL:=lhi (Jv (HS4.out.below HB5.out) HI.out.small)
 obtain⟨s0,s1,s2⟩:=HD5.out.s.d3
 have hz5:=HB5.out.size
 go_wp2_with (go_at_call 31;refine HCL.out.mono ?_;rintro e w6 ⟨iv',ov',mv',Iv,rfl,hst,hb6⟩;have HST:=lhi hst;have HB6:=lhi hb6;obtain⟨A',cap',rfl,-⟩:=Aj hst.ino;obtain⟨O',ocap',rfl,-⟩:=Aj hst.opn;obtain⟨M',mcap',rfl,-⟩:=Aj hst.mad;have HD6:=lhi (HD5.out.below hb6 (by omega));clear hst hb6;obtain⟨p0,p1,p2⟩:=HD6.out.o.d3;obtain⟨f0,f1,f2⟩:=HD6.out.o.f3;obtain⟨q0,q1,q2,q3,q4,q5⟩:=HD6.out.r.d6;obtain⟨g0,g1,g2,g3,g4,g5⟩:=HD6.out.r.f6)
 refine letB (fun wf hwf=>?_)
 obtain⟨P,hgP⟩:=HD6.out.o.put3 (.slice A' Iv.length cap') (.slice O' S.opens.length ocap') (.slice M' S.made.length mcap')
 have q6:=Am HD6.out.r hgP (fun e=>by have:=Amg e;omega)
 obtain⟨Q,hgQ⟩:=q6.put6 (.int .i64 9) (.int .i64 0) (.int .i64 0) (.bool false) (.string ⟨#[]⟩) (.slice none 0 0)
 have T:=((HST.out.grow hgP HD6.out.o (by decide)).grow hgQ q6 (by decide)).stv
 have P:=Am P hgQ (fun e=>by have:=Amg e;omega)
 have hz6:=HD6.out.b.size
 have hzP:=hgP.size
 have hn:=HN.out
 have hb:=(HD6.out.b.trans (Bg hgP (by omega) fun b hb=>by obtain rfl:=Amg hb;omega)).trans (Bg hgQ (by omega) fun b hb=>by obtain rfl:=Amg hb;omega)
 obtain⟨P,Q,T,hb⟩:=(show Blk wf (n+2) 30 #[.slice A' Iv.length cap',.slice O' S.opens.length ocap',.slice M' S.made.length mcap']/\Blk wf (n+3) 41 #[.int .i64 9,.int .i64 0,.int .i64 0,.bool false,.string ⟨#[]⟩,.slice none 0 0]/\StV wf 0 (.slice A' Iv.length cap') (.slice O' S.opens.length ocap') (.slice M' S.made.length mcap') (fun i=>(Iv.getD i (Ds,.int .i64 0)).2) S/\Below n w wf from by
  rw[hwf]
  exact⟨P,Q,T.base_le (Nat.zero_le _),hb⟩)
 obtain⟨z0,z1,z2⟩:=P.d3
 obtain⟨y0,y1,y2,y3,y4,y5⟩:=Q.d6
 clear hwf
 refine⟨.tuple #[.agg #[.slice A' Iv.length cap',.slice O' S.opens.length ocap',.slice M' S.made.length mcap'],.agg (Py 9).cs],?_,⟨_,_,_,_,Py 9,rfl,T,rfl⟩,by rw[hn];exact hb⟩
 simp[results,Tryz.results12,go_sem,ResV.cs,Py,z0,z1,z2,y0,y1,y2,y3,y4,y5]
theorem Fk{A:Type}{p:A->Bool}: ∀(l:List A) (k:Nat) (hk:k<l.length),p l[k]=false->(∀i (hi:i<l.length),i≠k->p l[i]=true)->l.eraseIdx k=l.filter p
 | [],k,hk,_,_=>absurd hk (Nat.not_lt_zero _)
 | x::l,0,_,h1,h2=>by
  rw[List.eraseIdx_cons_zero,List.filter_cons_of_neg (by simpa using h1)]
  symm
  rw[List.filter_eq_self]
  intro a ha
  obtain⟨i,hi,rfl⟩:=List.mem_iff_getElem.1 ha
  exact h2 (i+1) (by simpa using hi) (by omega)
 | x::l,k+1,hk,h1,h2=>by
  have h0:=h2 0 (by simp) (by omega)
  rw[List.eraseIdx_cons_succ,List.filter_cons_of_pos (by simpa using h0),Fk l k (by simpa using hk) h1 (fun i hi hne=>h2 (i+1) (by simpa using hi) (by omega))]
theorem Tb{S:St}{x:Int}{a:Nat}: ∀m,0<cntE S x a m↔S.dir a=true/\ ∃i,i<m/\S.enu a i=x
 | 0=>⟨fun h=>absurd h (Nat.lt_irrefl _),fun⟨_,_,h,_⟩=>absurd h (Nat.not_lt_zero _)⟩
 | m+1=>by
  unfold cntE
  have ih:=Tb (S:=S) (x:=x) (a:=a) m
  constructor
  ·intro h
   by_cases q:0<cntE S x a m
   ·obtain⟨h1,i,h2,h3⟩:=ih.1 q
    exact⟨h1,i,by omega,h3⟩
   ·split at h
    ·rename_i hc
     rw[Bool.and_eq_true,beq_iff_eq]at hc
     exact⟨hc.1,m,by omega,hc.2⟩
    ·omega
  ·rintro⟨h1,i,h2,h3⟩
   by_cases e:i=m
   ·subst e
    rw[if_pos (by rw[h1,h3];simp)]
    omega
   ·have:=ih.2 ⟨h1,i,by omega,h3⟩
    omega
theorem Aaj{S:St}{x:Int}: ∀n,0<cntI S x n↔ ∃a,a<n/\0<cntE S x a (S.ne a)
 | 0=>⟨fun h=>absurd h (Nat.lt_irrefl _),fun⟨_,h,_⟩=>absurd h (Nat.not_lt_zero _)⟩
 | n+1=>by
  unfold cntI
  have ih:=Aaj (S:=S) (x:=x) n
  constructor
  ·intro h
   by_cases q:0<cntI S x n
   ·obtain⟨a,h1,h2⟩:=ih.1 q
    exact⟨a,by omega,h2⟩
   ·exact⟨n,by omega,by omega⟩
  ·rintro⟨a,h1,h2⟩
   by_cases e:a=n
   ·subst e;omega
   ·have:=ih.2 ⟨a,by omega,h2⟩
    omega
theorem Ta{S:St}{x:Int}:0<cntI S x S.inodes.length↔x∈Bp S:=by
 rw[Aaj]
 unfold Bp
 rw[List.mem_flatMap]
 constructor
 ·rintro⟨a,ha,h⟩
  obtain⟨h1,i,h2,h3⟩:=(Tb _).1 h
  refine⟨S.ino a,Inv.ino_mem ha,?_⟩
  unfold Aw
  rw[if_pos (show(S.ino a).dir=true from h1),List.mem_map]
  exact⟨_,Bm h2,h3⟩
 ·rintro⟨y,hy,h⟩
  obtain⟨a,ha,rfl⟩:=List.mem_iff_getElem.1 hy
  have e:S.ino a=S.inodes[a]:=Fu ha
  rw[<-e]at h
  unfold Aw at h
  split at h
  ·rename_i hd
   obtain⟨en,hen,hx⟩:=List.mem_map.1 h
   obtain⟨i,hi,rfl⟩:=List.mem_iff_getElem.1 hen
   refine⟨a,ha,(Tb _).2 ⟨hd,i,hi,?_⟩⟩
   show((S.ino a).ents.getD i _).2=x
   rw[An hi]
   exact hx
  ·cases h
theorem Ui{S:St}{x:Int}:Hq S x<0↔ ∀o∈S.opens,o.2.2≠x:=by
 constructor
 ·intro h o ho e
  obtain⟨i,hi,rfl⟩:=List.mem_iff_getElem.1 ho
  unfold Hq at h
  split at h
  ·omega
  ·rename_i hn
   rw[List.find?_eq_none]at hn
   have:=hn i (by simpa using hi)
   refine this ?_
   show((S.opens.getD i (0,0,0)).2.2==x)=true
   rw[An hi,e];simp
 ·intro h
  rw[Yl fun i hi=>h _ (Bm hi)]
  omega
theorem Rb{S:St}(hn: ∀i j,i<S.inodes.length->j<S.inodes.length->S.num i=S.num j->i=j){k:Nat}(hk:k<S.inodes.length)(hd:S.dir k=false):Kh S k=Jk S (S.num k):=by
 unfold Kh Jk
 by_cases q:S.num k∈Bp S∨ ∃o∈S.opens,o.2.2=S.num k
 ·rw[if_pos q,if_neg]
  rintro⟨-,h1,h2⟩
  rcases q with q | ⟨o,ho,e⟩
  ·have:=Ta.2 q
   omega
  ·exact Ui.1 h2 o ho e
 ·rw[if_neg q,if_pos]
  ·have:=Fk (p:=fun x:Ino=>!(x.num==S.num k)) S.inodes k hk (by rw[<-Fu hk];simp[St.num]) (fun i hi hne=>by
    rw[<-Fu hi]
    have: ¬ (S.ino i).num=S.num k:=fun e=>hne (hn i k hi hk e)
    simpa using this)
   rw[this]
  ·refine⟨hd,?_,Ui.2 fun o ho e=>q (.inr ⟨o,ho,e⟩)⟩
   have: ¬ 0<cntI S (S.num k) S.inodes.length:=fun h=>q (.inl (Ta.1 h))
   omega
theorem Adx{S S':St}(hI:Inv S){c:Ad}{r r':ResV}(h:Xw S c r= .ok (S',r')):Inv S'/\S'.made.length=S.made.length:=by
 unfold Xw at h
 split at h
 ·cases h
 ·rename_i a k hf
  obtain⟨hk,ha,hnu,hdi,-,-,-⟩:=Fi hI hf
  injection h with h
  injection h with h1 h2
  subst h1
  have hm:S.opens.getD k (0,0,0)∈S.opens:=Bm hk
  have hb:=hI.close hm
  have e:({S with opens:=S.opens.eraseIdx k}:St)=Mu S (S.oc k) (S.of k):=by
   unfold Mu
   rw[Fk (p:=fun o=>!(o.1==S.oc k&&o.2.1==S.of k)) S.opens k hk (by rw[<-An (d:=(0,0,0)) hk];simp[St.oc,St.of]) (fun i hi hne=>by
    by_cases q:(S.opens[i].1==S.oc k&&S.opens[i].2.1==S.of k)=true
    ·exfalso
     rw[Bool.and_eq_true,beq_iff_eq,beq_iff_eq]at q
     have hij:=List.pairwise_iff_getElem.1 hI.osort
     have e1:S.oc k=S.opens[k].1:=by show(S.opens.getD k (0,0,0)).1=_;rw[An hk]
     have e2:S.of k=S.opens[k].2.1:=by show(S.opens.getD k (0,0,0)).2.1=_;rw[An hk]
     rcases Nat.lt_or_ge i k with h | h
     ·have:=hij i k hi hk h
      omega
     ·have:=hij k i hk hi (by omega)
      omega
    ·rw[Bool.not_eq_true]at q
     rw[q];rfl)]
  rw[e]
  have hn:S.num a=S.on k:=hnu
  have ht:=Rb (S:=Mu S (S.oc k) (S.of k)) (fun i j hi hj e=>hI.num_inj hi hj e) (k:=a) ha hdi
  rw[ht]
  refine⟨?_,?_⟩
  ·have:=hb.sweep
   show Inv (Jk (Mu S (S.oc k) (S.of k)) (S.num a))
   rw[hn]
   exact this
  ·unfold Jk
   split <;> rfl
inductive From (S:St) (n:Int):Int->Prop where
 | refl:From S n n
 | step {d y:Int}:From S n d->Edge S d y->From S n y
theorem Pu{S:St}{d:Int}{L:List (ByteArray×Int)}(hr:S.inodes.Pairwise (fun x y=>x.num<y.num)){x0:Ino}(hx:x0∈S.inodes)(hd:x0.num=d)(hdir:x0.dir=true)(y:Int):(Bp (setE S d L)).count y+ (x0.ents.map (·.2)).count y=(Bp S).count y+ (L.map (·.2)).count y:=by
 rw[Gg,Gg]
 have e:((setE S d L).inodes.map fun x=>(Aw x).count y)=S.inodes.map fun x=>(Aw (if x.num=d then {x with ents:=L}else x)).count y:=by
  unfold setE Eh
  rw[List.map_map];rfl
 rw[e]
 have h1:=Re (h:=fun x=>(Aw x).count y) (h':=fun x=>(Aw (if x.num=d then {x with ents:=L}else x)).count y) hr hx hd (fun x _ q=>by simp only[if_neg q])
 have e1:Aw x0=x0.ents.map (·.2):=by unfold Aw;rw[if_pos hdir]
 have e2:Aw (if x0.num=d then {x0 with ents:=L}else x0)=L.map (·.2):=by
  rw[if_pos hd];unfold Aw;rw[if_pos (show({x0 with ents:=L}:Ino).dir=true from hdir)]
 rw[e1,e2]at h1
 exact h1
section
variable{S:St}{d t:Int}
theorem Inv.rename(h:Inv S){x0:Ino}(hx:x0∈S.inodes)(hd:x0.num=d)(hdir:x0.dir=true){p:ByteArray×Int}(hp:p∈x0.ents){x1:Ino}(hx1:x1∈(setE S d (Et p.1 x0.ents)).inodes)(ht:x1.num=t)(hdir1:x1.dir=true)
  {nm:ByteArray} (hn:Bu nm=0) (hf: ∀e∈x1.ents,e.1≠nm) (hs:(x1.ents.filter fun e=>Aa e.1==Aa nm).length<4) (hno: ¬ From S p.2 t):
  Inv (setE (setE S d (Et p.1 x0.ents)) t (insE (nm,p.2) x1.ents)):=by
 generalize hS1:setE S d (Et p.1 x0.ents)=S1 at hx1
 have hr1:S1.inodes.Pairwise (fun x y=>x.num<y.num):=by rw[<-hS1];exact Ip (fun _=>rfl) h.rise
 generalize hS2:setE S1 t (insE (nm,p.2) x1.ents)=S2
 have hO:S2.opens=S.opens:=by rw[<-hS2,<-hS1];rfl
 have hM:S2.made=S.made:=by rw[<-hS2,<-hS1];rfl
 have hg:=h.goal _ hx p hp
 have hsub: ∀{z:Ino},z∈S1.inodes-> ∃x∈S.inodes,z.num=x.num/\z.dir=x.dir/\z.data=x.data/\z.ents.Sublist x.ents:=by
  intro z hz
  rw[<-hS1]at hz
  obtain⟨x,hx2,e1,e2,e3,e4⟩:=Ax hz
  refine⟨x,hx2,e1,e2,e3,?_⟩
  rcases e4 with⟨-,e4⟩ | ⟨e4,e5⟩
  ·rw[e4];exact List.Sublist.refl _
  ·have:x=x0:=h.ino_inj hx2 hx (by omega)
   subst this
   rw[e5];exact List.filter_sublist
 have hto1: ∀{x:Ino},x∈S.inodes-> ∃y∈S1.inodes,y.num=x.num/\y.dir=x.dir:=by
  intro x hx2;rw[<-hS1];exact Hv hx2
 have hto: ∀{x:Ino},x∈S.inodes-> ∃y∈S2.inodes,y.num=x.num/\y.dir=x.dir:=by
  intro x hx2
  obtain⟨y,hy,e1,e2⟩:=hto1 hx2
  obtain⟨z,hz,e3,e4⟩:=Hv (d:=t) (L:=insE (nm,p.2) x1.ents) hy
  exact⟨z,hS2▸hz,e3.trans e1,e4.trans e2⟩
 obtain⟨x1o,hx1o,f1,f2,f3,f4⟩:=hsub hx1
 have hof: ∀{z:Ino},z∈S2.inodes-> ∃x∈S.inodes,z.num=x.num/\z.dir=x.dir/\z.data=x.data/\ (z.ents.Sublist x.ents∨(x=x1o/\z.ents=insE (nm,p.2) x1.ents)):=by
  intro z hz
  rw[<-hS2]at hz
  obtain⟨y,hy,e1,e2,e3,e4⟩:=Ax hz
  obtain⟨x,hx2,g1,g2,g3,g4⟩:=hsub hy
  refine⟨x,hx2,e1.trans g1,e2.trans g2,e3.trans g3,?_⟩
  rcases e4 with⟨-,e4⟩ | ⟨e4,e5⟩
  ·rw[e4];exact .inl g4
  ·exact .inr ⟨h.ino_inj hx2 hx1o (by omega),e5⟩
 have hE1: ∀a y,Edge S a y->y≠p.2->Edge S1 a y:=fun a y he hy=>by rw[<-hS1];exact Uz h hx hd hdir hp he hy
 have hin: ∀{a b:Ino},a∈S1.inodes->b∈S1.inodes->a.num=b.num->a=b:=by
  intro a b ha hb e
  obtain⟨i,hi,rfl⟩:=List.getElem_of_mem ha
  obtain⟨j,hj,rfl⟩:=List.getElem_of_mem hb
  rcases Nat.lt_trichotomy i j with q | q | q
  ·have:=List.pairwise_iff_getElem.1 hr1 i j hi hj q;omega
  ·subst q;rfl
  ·have:=List.pairwise_iff_getElem.1 hr1 j i hj hi q;omega
 have hE2: ∀a y,Edge S1 a y->Edge S2 a y:=by
  intro a y he
  rw[<-hS2,He hx1 ht hdir1]
  by_cases q:a=t
  ·obtain⟨x,hx2,h1,h2,e,he,h3⟩:=he
   have:x=x1:=hin hx2 hx1 (by omega)
   subst this
   exact .inr ⟨q,e,Eg.2 (.inr he),h3⟩
  ·exact .inl ⟨q,he⟩
 have hEn:Edge S2 t p.2:=by
  rw[<-hS2,He hx1 ht hdir1]
  exact .inr ⟨rfl,_,Eg.2 (.inl rfl),rfl⟩
 have hA: ∀x,Fm S x-> ¬ From S p.2 x->Fm S2 x:=by
  intro x hr
  induction hr with
  | root=>exact fun _=>.root
  | step _ he ih=>
   intro hnf
   refine .step (ih fun q=>hnf (q.step he)) (hE2 _ _ (hE1 _ _ he fun q=>hnf ?_))
   subst q
   exact .refl
 have hB:Fm S2 p.2:=.step (hA t (by rw[<-ht,f1];exact h.reach x1o hx1o (by rw[<-f2];exact hdir1)) hno) hEn
 have hC: ∀x,From S p.2 x->Fm S2 x:=by
  intro x hr
  induction hr with
  | refl=>exact hB
  | @step a y _ he ih=>
   by_cases q:y=p.2
   ·rw[q];exact hB
   ·exact .step ih (hE2 _ _ (hE1 _ _ he q))
 have hR: ∀x,Fm S x->Fm S2 x:=fun x hr=>by
  by_cases q:From S p.2 x
  ·exact hC x q
  ·exact hA x hr q
 have hc: ∀y,(Bp S2).count y=(Bp S).count y:=by
  intro y
  have h1:=Pu (L:=Et p.1 x0.ents) h.rise hx hd hdir y
  have h2:=Pv (h.up _ hx) hp y
  have h3:=Pu (L:=insE (nm,p.2) x1.ents) hr1 hx1 ht hdir1 y
  rw[Ms]at h3
  rw[hS1]at h1
  rw[hS2]at h3
  simp only at h3
  omega
 have hroot: ∃x,S2.inodes[0]? =some x/\x.num=1/\x.dir=true:=by
  rw[<-hS2,<-hS1]
  exact Im (fun _=>⟨rfl,rfl⟩) (Im (fun _=>⟨rfl,rfl⟩) h.root)
 refine⟨by rw[hM];exact h.m1,by rw[hM];exact h.m8,by rw[hM];exact h.mb,hroot,by rw[<-hS2];exact Ip (fun _=>rfl) hr1,?_,?_,?_,?_,?_,?_,?_,?_,?_,?_,?_,?_,by rw[hO];exact h.osort⟩
 ·intro y hy;obtain⟨x,hx,e1,e2,e3,e4⟩:=hof hy;rw[e1,hM];exact h.given x hx
 ·intro y hy hd;obtain⟨x,hx,e1,e2,e3,e4⟩:=hof hy;rw[e3];exact h.isDir x hx (e2▸hd)
 ·intro y hy hf
  obtain⟨x,hx2,e1,e2,e3,e4⟩:=hof hy
  rcases e4 with e4 | ⟨e4,-⟩
  ·have:=h.isFile x hx2 (e2▸hf)
   rw[this]at e4
   exact List.sublist_nil.1 e4
  ·rw[e2,e4,<-f2,hdir1]at hf;cases hf
 ·intro y hy;obtain⟨x,hx,e1,e2,e3,e4⟩:=hof hy;rw[e3];exact h.dat x hx
 ·intro y hy e he
  obtain⟨x,hx2,e1,e2,e3,e4⟩:=hof hy
  rcases e4 with e4 | ⟨-,e4⟩
  ·exact h.nam x hx2 e (e4.subset he)
  ·rw[e4]at he
   rcases Eg.1 he with rfl | he
   ·exact hn
   ·exact h.nam x1o hx1o e (f4.subset he)
 ·intro y hy e he
  obtain⟨x,hx2,e1,e2,e3,e4⟩:=hof hy
  have hk:e.2≠1/\ ∃y∈S.inodes,y.num=e.2:=by
   rcases e4 with e4 | ⟨-,e4⟩
   ·exact h.goal x hx2 e (e4.subset he)
   ·rw[e4]at he
    rcases Eg.1 he with rfl | he
    ·exact hg
    ·exact h.goal x1o hx1o e (f4.subset he)
  obtain⟨k1,q,hq,k2⟩:=hk
  obtain⟨q2,hq2,e5,-⟩:=hto hq
  exact⟨k1,q2,hq2,e5.trans k2⟩
 ·intro y hy
  obtain⟨x,hx2,e1,e2,e3,e4⟩:=hof hy
  rcases e4 with e4 | ⟨-,e4⟩
  ·exact(h.up x hx2).sublist e4
  ·rw[e4];exact Wc ((h.up x1o hx1o).sublist f4) hf
 ·intro y hy q
  obtain⟨x,hx2,e1,e2,e3,e4⟩:=hof hy
  rcases e4 with e4 | ⟨-,e4⟩
  ·exact Aml (e4.filter _).length_le (h.slots x hx2 q)
  ·rw[e4];exact Mm (fun q=>Aml (f4.filter _).length_le (h.slots x1o hx1o q)) hs q
 ·intro y hy hd;obtain⟨x,hx,e1,e2,e3,e4⟩:=hof hy;rw[e1,hc];exact h.one x hx (e2▸hd)
 ·intro y hy hd;obtain⟨x,hx,e1,e2,e3,e4⟩:=hof hy;rw[e1];exact hR _ (h.reach x hx (e2▸hd))
 ·intro y hy hd
  obtain⟨x,hx,e1,e2,e3,e4⟩:=hof hy
  rw[e1,hO]
  rcases h.file x hx (e2▸hd)with q | q
  ·exact .inl (List.count_pos_iff.1 (by rw[hc];exact List.count_pos_iff.2 q))
  ·exact .inr q
 ·intro o ho
  rw[hO]at ho
  obtain⟨h1,h2,h3,h4,q,hq,h5,h6⟩:=h.ok o ho
  obtain⟨q2,hq2,e5,e6⟩:=hto hq
  exact⟨h1,hM▸h2,h3,h4,q2,hq2,e5.trans h5,e6.trans h6⟩
end
theorem Inv.from_file{S:St}(h:Inv S){y:Ino}(hy:y∈S.inodes)(hf:y.dir=false){t:Int}(hr:From S y.num t):t=y.num:=by
 induction hr with
 | refl=>rfl
 | step _ he ih=>
  obtain⟨x,hx,h1,h2,-⟩:=he
  have:x=y:=h.ino_inj hx hy (by omega)
  subst this
  rw[h2]at hf;cases hf
end Go.Proofs.YtkebjgebkneijaaGreat
