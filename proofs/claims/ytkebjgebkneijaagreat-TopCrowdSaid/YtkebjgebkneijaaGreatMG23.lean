/- Texts of one's own that a claim's last text rests on: Dr1 Da1 Da2 Byt Byt2 Dr2 NoP4. -/
import Derived.Test.YtkebjgebkneijaaGreatMG14
import Derived.Test.YtkebjgebkneijaaGreatMG16
import Derived.Test.YtkebjgebkneijaaGreatMG22
import Derived.Test.YtkebjgebkneijaaGreatMG11
import Derived.Test.YtkebjgebkneijaaGreatMG9
import Derived.Laws.CopyRow
import Derived.Laws.IdiomStrings
set_option linter.unusedVariables false
set_option linter.unusedSimpArgs false
namespace Go.Proofs.YtkebjgebkneijaaGreat
section
open Go.RowKit
set_option maxHeartbeats 2000000
def doerCs(ob:Nat)(c:CallV)(r:ResV):Array Value:=#[.pointer (some ⟨ob,0,none⟩),.int .i64 c.kind,.int .i64 c.core,.int .i64 c.fd,.int .i64 c.off,.int .i64 c.num,.string c.path,.string c.path2,.string c.data,.int .i64 r.code,.int .i64 r.fd,.int .i64 r.num,.bool r.dir,.string r.data,Value.slice r.na r.nl r.nc]
structure Doer (W:World) (base ob db:Nat) (c:CallV) (r:ResV) (iv ov mv:Value) (Iv:List InV) (S:St):Prop where
 ob_:base<=ob
 db_:base<=db
 o:Blk W ob 30 #[iv,ov,mv]
 d:Blk W db 88 (doerCs ob c r)
 st:StO W base iv ov mv Iv S
namespace Doer
variable{W W':World}{base ob db:Nat}{c:CallV}{r:ResV}{iv ov mv:Value}{Iv:List InV}{S:St}
theorem bs(h:Doer W base ob db c r iv ov mv Iv S):base<=W.heap.size:=Nat.le_of_lt (Nat.lt_of_le_of_lt h.ob_ h.o.lt)
theorem below(h:Doer W base ob db c r iv ov mv Iv S)(hb:Below W.heap.size W W'):Doer W' base ob db c r iv ov mv Iv S:=
 ⟨h.ob_,h.db_,Blk.of_heap (hb.block _ h.o.lt) h.o,Blk.of_heap (hb.block _ h.d.lt) h.d,h.st.below hb⟩
theorem stm(h:Doer W base ob db c r iv ov mv Iv S):StM W iv ov mv (fun i=>(Iv.getD i (noIno,.int .i64 0)).2) S:=h.st.stv.stm
theorem row(h:Doer W base ob db c r iv ov mv Iv S)(hn:0<S.inodes.length): ∃g cap cs,iv= .slice (some ⟨g,0,none⟩) S.inodes.length cap/\base<=g/\Blk W g 93 cs/\S.inodes.length<=cap:=by
 have hl:Iv.length=S.inodes.length:=by rw[<-h.st.len,List.length_map]
 rcases h.st.ino.2 with⟨-,q⟩ | ⟨g,cap,cur,hv,hb,hh,h1,-⟩
 ·omega
 ·rw[hl]at hv h1
  exact⟨g,cap,cur,hv,hb,hh,h1⟩
end Doer
def parentS(S:St)(p:ByteArray):Except Int (Nat×ByteArray):=match parseF p with
 | .err k=>.error (codeF k)
 | .ok ns=>match ns.getLast? with
  | none=>.error 9
  | some nm=>if(walkS S ns.dropLast 0).2=0 then(if S.dir (walkS S ns.dropLast 0).1.toNat=true then .ok ((walkS S ns.dropLast 0).1.toNat,nm)else .error 7)else .error (walkS S ns.dropLast 0).2
def ParentR(g:Nat)(e:Ending):Except Int (Nat×ByteArray)->Prop
 | .error k=>e=mthrown k
 | .ok (k,nm)=>e= .returned (.tuple #[.pointer (some ⟨g,k*4,none⟩),.string nm])
theorem parentS_lt{S:St}(hI:Inv S){p:ByteArray}{k:Nat}{nm:ByteArray}(h:parentS S p= .ok (k,nm)):k<S.inodes.length/\S.dir k=true:=by
 unfold parentS at h
 split at h
 ·cases h
 ·rename_i ns hp
  split at h
  ·cases h
  ·split at h
   ·rename_i h0
    split at h
    ·rename_i hd
     obtain⟨j,hj,e⟩:=walkS_at hI.ord ns.dropLast 0 hI.pos h0
     injection h with h
     injection h with h1 h2
     rw[e]at h1 hd
     simp only[Int.toNat_natCast]at h1 hd
     subst h1
     exact⟨hj,hd⟩
    ·cases h
   ·cases h
set_option maxRecDepth 1000000 in
theorem parent_calls{W:World}{base ob db g icap:Nat}{c:CallV}{r:ResV}{ov mv:Value}{Iv:List InV}{S:St}(h:Doer W base ob db c r (.slice (some ⟨g,0,none⟩) S.inodes.length icap) ov mv Iv S)(hI:Inv S){p:ByteArray}(hp:p.size<=4611686018427387904):
  Calls Tryz.prog 115 #[.pointer (some ⟨db,0,none⟩),.string p] W fun e w'=>ParentR g e (parentS S p)/\Below W.heap.size W w':=by
 have HS:=lhi h.stm
 have HI:=lhi hI
 have HD:=lhi h.d
 have HOB:=lhi h.o
 cases hpr:parseF p with
 | err k=>
  have HPS:=lhi (parse_badM hp W hpr (parseF_err hpr))
  have HR:parentS S p= .error (codeF k):=by unfold parentS;rw[hpr]
  rw[HR]
  clear hpr h hI HR
  go_enter Tryz.func115,Tryz.ntmps115
  go_wp2_with (go_at_call 171;refine HPS.out.mono ?_;rintro e w1 ⟨rfl,hb1⟩)
  exact⟨rfl,rfl,hb1⟩
 | ok ns=>
  have HPS:=lhi (parse_okM hp W hpr)
  have hnl:=parseF_len hpr
  rcases(show ns=[]∨ ∃l nm,ns=l++[nm]from by
   rcases List.eq_nil_or_concat ns with h | ⟨l,nm,h⟩
   ·exact .inl h
   ·exact .inr ⟨l,nm,by rw[h,List.concat_eq_append]⟩)with rfl | ⟨l,nm,rfl⟩
  ·have HR:parentS S p= .error 9:=by unfold parentS;rw[hpr];rfl
   rw[HR]
   clear hpr h hI HR
   go_enter Tryz.func115,Tryz.ntmps115
   go_wp2_with (first
    | (go_at_call 171;refine HPS.out.mono ?_;rintro e w1 ⟨⟨v,rfl,hv,-⟩,hb1⟩;obtain⟨NA,ncap,rfl,-,-⟩:=hv.at';clear hv;simp only[List.length_nil]at*)
    | (go_at_call 116;refine(mthrow_yes _ _).mono ?_;rintro e w2 ⟨rfl,rfl⟩))
   exact⟨rfl,rfl,hb1⟩
  ·have HR:parentS S p=if(walkS S l 0).2=0 then(if S.dir (walkS S l 0).1.toNat=true then .ok ((walkS S l 0).1.toNat,nm)else .error 7)else .error (walkS S l 0).2:=by
    unfold parentS
    rw[hpr]
    simp
   rw[HR]
   have HWA:=lhi (walkS_at hI.ord l 0 hI.pos)
   have hll:l.length<=1000:=by simp at hnl;omega
   clear hpr h hI HR hnl
   obtain⟨wp,hwp⟩: ∃q,walkS S l 0=q:=⟨_,rfl⟩
   have HWK:=lhi (fun(V:World) (NA:Option Addr) (ncap:Nat) (hv:RowAt V (.slice NA l.length ncap) l.length 1 (nmC l)) (hb:Below W.heap.size W V)=>mwalk_calls (w:=V) (sp:=ob) (HS.out.keep hb) HI.out.ord HI.out.pos ((hb.cell (p:=⟨ob,0,none⟩) HOB.out.lt).trans (HOB.out.cell 0)) hv hll)
   rw[hwp]at HWK HWA⊢
   obtain⟨wa,wb⟩:=wp
   clear hwp
   obtain⟨RES,hres⟩: ∃R,(if wb=0 then(if S.dir wa.toNat=true then Except.ok (wa.toNat,nm)else Except.error 7)else Except.error wb:Except Int (Nat×ByteArray))=R:=⟨_,rfl⟩
   have HRES:=lhi hres
   rw[hres]
   clear hres
   go_enter Tryz.func115,Tryz.ntmps115
   go_upto_region 2 with(go_at_call 171;refine HPS.out.mono ?_;rintro e w1 ⟨⟨v,rfl,hv,-⟩,hb1⟩;obtain⟨NA,ncap,rfl,-,-⟩:=RowT.at' hv)
   rw[show(l++[nm]).length=l.length+1 by simp]at hv
   obtain⟨ng,noff,ncs,rfl,hncap,hblk,hinit,hlast⟩:=nm_init hv
   have HIN:=lhi hinit
   have HB1:=lhi hb1
   have HNL:=lhi hlast
   have HNB:=lhi hblk
   have HWK1:=lhi (fun(V:World) (hb:Below w1.heap.size w1 V)=>HWK.out V _ ncap (hinit.at'.keep hb) (hb1.trans (hb.mono hb1.size)))
   clear hv hb1 hblk hinit hlast
   obtain⟨k,hk⟩: ∃k,l.length=k:=⟨_,rfl⟩
   rw[hk]at HIN HNL HWK1 hncap hll⊢
   have e0:(((k+1:Nat):Int)==0)=false:=by rw[beq_eq_false_iff_ne];omega
   have hk0:(0:Int)<= (k:Int):=by omega
   have ek:((k+1:Nat):Int) - 1=(k:Int):=by omega
   go_upto_region 4 with(go_at_call 116;refine(mthrow_no _ _).mono ?_;rintro e w' ⟨rfl,rfl⟩)
   have x0: ∀x:WIn (Bel w1),x.v.cell? ⟨db,0,none⟩=some (.pointer (some ⟨ob,0,none⟩)):=fun x=>x.cell ((HB1.out.cell (p:=⟨db,0,none⟩) HD.out.lt).trans (HD.out.cell 0))
   have HWX:=lhi (fun x:WIn (Bel w1)=>HWK1.out x.v x.h)
   refine wp_region_in (C:=Bel w1) (by kernel_rfl) (by kernel_rfl) (Bel.drew w1) ?_
   repeat (go_big_quiet_step (first | (go_at_call 45;exact Calls.bel _ (HWX.out _))))
   refine wpQuiet_nil ?_
   rintro w2 ⟨⟨w2',hb2⟩,hw⟩
   obtain rfl:w2=w2':=hw
   have HB2:=lhi hb2
   have HBW:=lhi (HB1.out.trans (hb2.mono HB1.out.size))
   clear hb2 x0
   by_cases h0:wb=0
   ·subst h0
    obtain⟨j,hj,rfl⟩:=HWA.out rfl
    have HOJ:=lhi (HBW.out.cell (p:=⟨ob,0,none⟩) HOB.out.lt)
    have d0:w2.cell? ⟨db,0,none⟩=some (.pointer (some ⟨ob,0,none⟩)):=(HBW.out.cell (p:=⟨db,0,none⟩) HD.out.lt).trans (HD.out.cell 0)
    have o0:w2.cell? ⟨ob,0,none⟩=some (.slice (some ⟨g,0,none⟩) S.inodes.length icap):=HOJ.out.trans (HOB.out.cell 0)
    have n0:w2.cell? ⟨ng,noff+k,none⟩=some (.string nm):=(HB2.out.cell (World.block_lt_of_cell? _ _ HNL.out)).trans HNL.out
    have q1:w2.cell? ⟨g,j*4+1,none⟩=some (.bool (S.dir j)):=by
     obtain⟨-,-,g',off,hA,hcell⟩:=(HS.out.ino.keep HBW.out).at_ hj
     injection hA with hA
     injection hA with e1 e2
     subst e1 e2
     have:=hcell 1 (by omega)
     rw[Nat.zero_add]at this
     exact this
    have hj1:(j:Int)<S.inodes.length:=by omega
    have hkk:(k:Int)< (k:Int)+1:=by omega
    cases hd:S.dir j with
    | false=>
     rw[hd]at q1
     obtain rfl:RES= .error 7:=by rw[<-HRES.out,if_pos rfl,if_neg (by rw[Int.toNat_natCast,hd];decide)]
     clear HRES
     go_upto_region 6 with(go_at_call 116;refine(mthrow_no _ _).mono ?_;rintro e w' ⟨rfl,rfl⟩)
     go_wp2_with (go_at_call 116;refine(mthrow_yes _ _).mono ?_;rintro e w' ⟨rfl,rfl⟩)
     exact⟨rfl,rfl,HBW.out⟩
    | true=>
     rw[hd]at q1
     obtain rfl:RES= .ok (j,nm):=by rw[<-HRES.out,if_pos rfl,if_pos (by rw[Int.toNat_natCast];exact hd),Int.toNat_natCast]
     clear HRES
     go_upto_region 6 with(go_at_call 116;refine(mthrow_no _ _).mono ?_;rintro e w' ⟨rfl,rfl⟩)
     go_upto_region 7 with(go_at_call 116;refine(mthrow_no _ _).mono ?_;rintro e w' ⟨rfl,rfl⟩)
     go_region
     go_wp2_with (fail)
     go_ret2
     exact⟨rfl,HBW.out.trans ((below_drew w2).mono HBW.out.size)⟩
   ·obtain rfl:RES= .error wb:=by rw[<-HRES.out,if_neg h0]
    have h1:(wb != 0)=true:=by rw[bne_iff_ne];exact h0
    go_wp2_with (go_at_call 116;refine(mthrow_yes _ _).mono ?_;rintro e w' ⟨rfl,rfl⟩)
    exact⟨rfl,rfl,HBW.out⟩
end
section
open Go.RowKit
set_option maxHeartbeats 2000000
def atS(S:St)(p:ByteArray):Except Int Nat:=match parseF p with
 | .err k=>.error (codeF k)
 | .ok ns=>if(walkS S ns 0).2=0 then .ok (walkS S ns 0).1.toNat else .error (walkS S ns 0).2
def AtR(g:Nat)(e:Ending):Except Int Nat->Prop
 | .error k=>e=mthrown k
 | .ok k=>e= .returned (.pointer (some ⟨g,k*4,none⟩))
theorem atS_lt{S:St}(hI:Inv S){p:ByteArray}{k:Nat}(h:atS S p= .ok k):k<S.inodes.length:=by
 unfold atS at h
 split at h
 ·cases h
 ·rename_i ns hp
  split at h
  ·rename_i h0
   obtain⟨j,hj,e⟩:=walkS_at hI.ord ns 0 hI.pos h0
   injection h with h
   rw[e]at h
   simp only[Int.toNat_natCast]at h
   omega
  ·cases h
section
variable{W:World}{base ob db:Nat}{c:CallV}{r:ResV}{iv ov mv:Value}{Iv:List InV}{S:St}
set_option maxRecDepth 1000000 in
theorem at_calls{g icap:Nat}(h:Doer W base ob db c r (.slice (some ⟨g,0,none⟩) S.inodes.length icap) ov mv Iv S)(hI:Inv S){p:ByteArray}(hp:p.size<=4611686018427387904):
  Calls Tryz.prog 123 #[.pointer (some ⟨db,0,none⟩),.string p] W fun e w'=>AtR g e (atS S p)/\Below W.heap.size W w':=by
 have HS:=lhi h.stm
 have HI:=lhi hI
 have d0:W.cell? ⟨db,0,none⟩=some (.pointer (some ⟨ob,0,none⟩)):=h.d.cell 0
 have o0:W.cell? ⟨ob,0,none⟩=some (.slice (some ⟨g,0,none⟩) S.inodes.length icap):=h.o.cell 0
 have dl:=h.d.lt
 have ol:=h.o.lt
 have HD0:=lhi (show W.drew.cell? ⟨db,0,none⟩=some (.pointer (some ⟨ob,0,none⟩))from d0)
 have HBD:=lhi (below_drew W)
 cases hpr:parseF p with
 | err k=>
  have HPS:=lhi (parse_badM hp W.drew hpr (parseF_err hpr))
  have HR:atS S p= .error (codeF k):=by unfold atS;rw[hpr]
  rw[HR]
  clear hpr h hI HR
  go_enter Tryz.func123,Tryz.ntmps123
  go_upto_region 1 with(fail)
  refine wp_region_held_drew (S:=fun w'=>w'.cell? ⟨db,0,none⟩=some (.pointer (some ⟨ob,0,none⟩))) (by kernel_rfl) (HD0.out) (fun hHeld=>?_)
  refine wpAnyH_take (i:=0) (oi:=⟨some 8,_,_,_,_,_⟩) (v:=(.pointer (some ⟨db,0,none⟩))) rfl (by kernel_rfl) (by kernel_rfl) (by kernel_rfl) (fun _ _ _ h=>h) (Or.inl ⟨by kernel_rfl,fun w hSw=>by go_simp⟩) (by assumption) ?_
  simp only[Act.put,lTA,lC0,lCS]
  refine wpAnyH_take (i:=1) (oi:=⟨some 9,_,_,_,_,_⟩) (v:=(.pointer (some ⟨db,0,none⟩))) rfl (by kernel_rfl) (by kernel_rfl) (by kernel_rfl) (fun _ _ _ h=>h) (Or.inl ⟨by kernel_rfl,fun w hSw=>by go_simp⟩) (by assumption) ?_
  simp only[Act.put,lTA,lC0,lCS]
  refine wpAnyH_take (i:=2) (oi:=⟨some 10,_,_,_,_,_⟩) (v:=(.pointer (some ⟨db,0,none⟩))) rfl (by kernel_rfl) (by kernel_rfl) (by kernel_rfl) (fun _ _ _ h=>h) (Or.inl ⟨by kernel_rfl,fun w hSw=>by go_simp⟩) (by assumption) ?_
  simp only[Act.put,lTA,lC0,lCS]
  refine wpAnyH_take (i:=3) (oi:=⟨some 11,_,_,_,_,_⟩) (v:=(.pointer (some ⟨ob,0,none⟩))) rfl (by kernel_rfl) (by kernel_rfl) (by kernel_rfl) (fun _ _ _ h=>h) (Or.inl ⟨by kernel_rfl,fun w hSw=>by go_simp⟩) (by assumption) ?_
  simp only[Act.put,lTA,lC0,lCS]
  refine wpAnyH_take (i:=4) (oi:=⟨some 12,_,_,_,_,_⟩) (v:=(.string p)) rfl (by kernel_rfl) (by kernel_rfl) (by kernel_rfl) (fun _ _ _ h=>h) (Or.inl ⟨by kernel_rfl,fun w hSw=>by go_simp⟩) (by assumption) ?_
  simp only[Act.put,lTA,lC0,lCS]
  refine wpAnyH_ready (rs:=[5]) (by kernel_rfl) (by simp) ?_
  refine AllReadyH.cons rfl (fun K hK=>?_) AllReadyH.nil
  go_simp
  refine HPS.out.mono ?_
  rintro e w1 ⟨rfl,hb1⟩
  exact⟨rfl,rfl,HBD.out.trans (show Below W.heap.size W.drew w1 from hb1)⟩
 | ok ns=>
  have HPS:=lhi (parse_okM hp W.drew hpr)
  have hnl:=parseF_len hpr
  have HR:atS S p=if(walkS S ns 0).2=0 then .ok (walkS S ns 0).1.toNat else .error (walkS S ns 0).2:=by unfold atS;rw[hpr]
  rw[HR]
  have HWA:=lhi (walkS_at hI.ord ns 0 hI.pos)
  clear hpr h hI HR
  obtain⟨wp,hwp⟩: ∃q,walkS S ns 0=q:=⟨_,rfl⟩
  have HWK:=lhi (fun(V:World) (v:Value) (hv:RowAt V v ns.length 1 (nmC ns)) (hb:Below W.heap.size W V)=>mwalk_calls (w:=V) (sp:=ob) (HS.out.keep hb) HI.out.ord HI.out.pos ((hb.cell (p:=⟨ob,0,none⟩) ol).trans o0) hv (by omega))
  rw[hwp]at HWK HWA⊢
  obtain⟨wa,wb⟩:=wp
  simp only at HWK HWA⊢
  clear hwp
  obtain⟨RES,hres⟩: ∃R,(if wb=0 then Except.ok wa.toNat else Except.error wb:Except Int Nat)=R:=⟨_,rfl⟩
  have HRES:=lhi hres
  rw[hres]
  clear hres
  go_enter Tryz.func123,Tryz.ntmps123
  go_upto_region 1 with(fail)
  go_region_held3 (fun w'=>w'.cell? ⟨db,0,none⟩=some (.pointer (some ⟨ob,0,none⟩)))
   (with_reducible first | exact HD0.out | exact z0)
   ((first
    | (go_at_call 171;refine HPS.out.mono ?_;rintro e w1 ⟨⟨v,rfl,hv,-⟩,hb1⟩;have HV:=lhi hv.at';have HB1:=lhi (HBD.out.trans (show Below W.heap.size W.drew w1 from hb1));have z0:=(HB1.out.cell (p:=⟨db,0,none⟩) dl).trans d0;clear hv hb1)
    | (go_at_call 45;refine(HWK.out _ _ HV.out HB1.out).mono ?_;rintro e w2 ⟨rfl,hb2⟩;have HB2:=lhi (HB1.out.trans (hb2.mono HB1.out.size));have z0:=(HB2.out.cell (p:=⟨db,0,none⟩) dl).trans d0;clear hb2)))
  have y0:w2.cell? ⟨db,0,none⟩=some (.pointer (some ⟨ob,0,none⟩)):=(HB2.out.cell (p:=⟨db,0,none⟩) dl).trans d0
  have y1:w2.cell? ⟨ob,0,none⟩=some (.slice (some ⟨g,0,none⟩) S.inodes.length icap):=(HB2.out.cell (p:=⟨ob,0,none⟩) ol).trans o0
  by_cases h0:wb=0
  ·subst h0
   obtain⟨j,hj,rfl⟩:=HWA.out rfl
   obtain rfl:RES= .ok j:=by rw[<-HRES.out,if_pos rfl,Int.toNat_natCast]
   have hj1:(j:Int)<S.inodes.length:=by omega
   clear HRES HWA
   go_wp2_with (go_at_call 116;refine(mthrow_no _ _).mono ?_;rintro e w' ⟨rfl,rfl⟩)
   go_ret
   exact⟨rfl,HB2.out⟩
  ·obtain rfl:RES= .error wb:=by rw[<-HRES.out,if_neg h0]
   have h1:(wb != 0)=true:=by rw[bne_iff_ne];exact h0
   go_wp2_with (go_at_call 116;refine(mthrow_yes _ _).mono ?_;rintro e w' ⟨rfl,rfl⟩)
   exact⟨rfl,rfl,HB2.out⟩
end
end
section
open Go.RowKit
set_option maxHeartbeats 2000000
def descI(S:St)(c f:Int):Int:=match(List.range S.opens.length).find? (fun i=>S.oc i==c&&S.of i==f)with
 | some k=>k
 | none=> -1
theorem descI_at{S:St}{c f:Int}{k:Nat}(hk:k<S.opens.length)(h:S.oc k=c/\S.of k=f)(hlt: ∀i,i<k-> ¬ (S.oc i=c/\S.of i=f)):descI S c f=k:=by
 have:(List.range S.opens.length).find? (fun i=>S.oc i==c&&S.of i==f)=some k:=by
  rw[List.find?_eq_some_iff_getElem]
  exact⟨by simpa using h,k,by simpa using hk,by simp,fun j hj=>by
   have h:=hlt j hj
   simp
   by_cases q:S.oc j=c
   ·exact .inr fun x=>h ⟨q,x⟩
   ·exact .inl q⟩
 unfold descI
 rw[this]
theorem descI_no{S:St}{c f:Int}(h: ∀i,i<S.opens.length-> ¬ (S.oc i=c/\S.of i=f)):descI S c f= -1:=by
 have:(List.range S.opens.length).find? (fun i=>S.oc i==c&&S.of i==f)=none:=by
  rw[List.find?_eq_none]
  intro i hi
  simpa using h i (by simpa using hi)
 unfold descI
 rw[this]
theorem descI_lt{S:St}{c f:Int}(h: ¬ descI S c f<0): ∃k:Nat,k<S.opens.length/\descI S c f=k/\S.oc k=c/\S.of k=f:=by
 unfold descI at h⊢
 split at h
 ·rename_i k hk
  obtain⟨h1,i,h2,h3,-⟩:=List.find?_eq_some_iff_getElem.1 hk
  have e:i=k:=by simpa using h3
  subst e
  simp at h1 h2
  exact⟨i,h2,rfl,h1.1,h1.2⟩
 ·omega
section
variable{w:World}
set_option maxRecDepth 1000000 in
theorem filec_calls{q db ob:Nat}{cv:CallV}{r:ResV}(hq:w.cell? ⟨q,0,none⟩=some (.pointer (some ⟨db,0,none⟩)))(hd:Blk w db 88 (doerCs ob cv r))(c f n:Int):
  Calls Tryz.prog 126 #[.agg #[.int .i64 c,.int .i64 f,.int .i64 n],.pointer (some ⟨q,0,none⟩)] w fun e w'=>e= .returned (.bool (c==cv.core&&f==cv.fd))/\Below w.heap.size w w':=by
 have hl:=World.block_lt_of_cell? w _ hq
 have dl:=hd.lt
 have d2:w.cell? ⟨db,2,none⟩=some (.int .i64 cv.core):=hd.cell 2
 have d3:w.cell? ⟨db,3,none⟩=some (.int .i64 cv.fd):=hd.cell 3
 have HB:=lhi ((Below.refl w.heap.size w).alloc (Nat.le_refl _) (.cells #[.int .i64 c,.int .i64 f,.int .i64 n] 144))
 clear hd
 by_cases e:c=cv.core
 ·have e1:(c==cv.core)=true:=by simp[e]
  rw[e1]
  clear e
  go_enter Tryz.func126,Tryz.ntmps126
  go_wp2_with (fail)
  go_region
  go_wp2_with (fail)
  go_ret
  exact⟨rfl,HB.out.drew⟩
 ·have e1:(c==cv.core)=false:=by simp[e]
  rw[e1]
  clear e
  go_enter Tryz.func126,Tryz.ntmps126
  go_wp2_with (fail)
  go_region
  go_wp2_with (fail)
  go_ret
  exact⟨rfl,HB.out.drew⟩
set_option maxRecDepth 1000000 in
theorem descIdx_calls{v:Value}{S:St}(hv:RowAt w v S.opens.length 3 (opnC S))(hn:S.opens.length<=1000){q db ob:Nat}{cv:CallV}{r:ResV}(hq:w.cell? ⟨q,0,none⟩=some (.pointer (some ⟨db,0,none⟩)))(hd:Blk w db 88 (doerCs ob cv r)):
  Calls Tryz.prog 125 #[v,.func (.func 126) #[] #[.pointer (some ⟨q,0,none⟩)]] w fun e w'=>e= .returned (.int .i64 (descI S cv.core cv.fd))/\Below w.heap.size w w':=by
 have HV:=lhi hv
 have H1:=lhi (fun(k:Nat) a b d=>descI_at (S:=S) (c:=cv.core) (f:=cv.fd) (k:=k) a b d)
 have H2:=lhi (fun a=>descI_no (S:=S) (c:=cv.core) (f:=cv.fd) a)
 have HFC:=lhi (fun(W:World) (hb:Below w.heap.size w W) (a b d:Int)=>filec_calls ((hb.cell (World.block_lt_of_cell? _ _ hq)).trans hq) (Blk.of_heap (hb.block _ hd.lt) hd) a b d)
 obtain⟨A,cap,rfl,-,-⟩:=hv
 obtain⟨n,hnn⟩: ∃n,S.opens.length=n:=⟨_,rfl⟩
 rw[hnn]at hn HV H1 H2
 rw[hnn]
 clear hnn hq hd
 go_enter Tryz.func125,Tryz.ntmps125
 go_wp2_with (fail)
 go_loopw [8] (fun i wr=>∃k:Nat,i= .int .i64 k/\k<=n/\ (∀j,j<k-> ¬ (S.oc j=cv.core/\S.of j=cv.fd))/\Below w.heap.size w wr) (fun i _=>n - (intOf i).toNat)
 case atStart=>exact⟨0,rfl,by omega,fun j hj=>absurd hj (by omega),Below.refl _ _⟩
 case round=>
  obtain⟨k,rfl,hk,hl,hB⟩:=hrel
  have HB:=lhi hB
  have HL:=lhi hl
  clear hl
  by_cases hq:k<n
  ·have hq1:(k:Int)<n:=by omega
   obtain⟨-,-,g,off,rfl,hcell⟩:=(HV.out.keep hB).at_ hq
   have q0:wr.cell? ⟨g,off+k*3,none⟩=some (.int .i64 (S.oc k)):=hcell 0 (by omega)
   have q1:wr.cell? ⟨g,off+k*3+1,none⟩=some (.int .i64 (S.of k)):=hcell 1 (by omega)
   have q2:wr.cell? ⟨g,off+k*3+2,none⟩=some (.int .i64 (S.on k)):=hcell 2 (by omega)
   have HC:=lhi (HFC.out wr hB (S.oc k) (S.of k) (S.on k))
   clear hcell hB
   by_cases e:S.oc k=cv.core/\S.of k=cv.fd
   ·have e1:(S.oc k==cv.core&&S.of k==cv.fd)=true:=by simp[e.1,e.2]
    have HR:=lhi (H1.out k hq e HL.out)
    rw[e1]at HC
    clear e e1
    go_wp2_with (go_at_call 126;refine HC.out.mono ?_;rintro e w1 ⟨rfl,hb1⟩)
    go_ret
    exact⟨by rw[HR.out];rfl,HB.out.trans (hb1.mono HB.out.size)⟩
   ·have e1:(S.oc k==cv.core&&S.of k==cv.fd)=false:=by
     rw[Bool.and_eq_false_iff]
     by_cases q:S.oc k=cv.core
     ·exact .inr (by simp;exact fun x=>e ⟨q,x⟩)
     ·exact .inl (by simp[q])
    rw[e1]at HC
    have HE:=lhi e
    clear e
    go_wp2_with (go_at_call 126;refine HC.out.mono ?_;rintro e w1 ⟨rfl,hb1⟩)
    go_roundw
    case rel=>exact⟨k+1,by simp,by omega,fun j hj=>by
     by_cases h:j=k
     ·subst h;exact HE.out
     ·exact HL.out j (by omega),HB.out.trans (hb1.mono HB.out.size)⟩
    case measure=>
     simp only[intOf]
     omega
  ·have e:k=n:=by omega
   subst e
   have HR:=lhi (H2.out HL.out)
   clear hB
   go_wp2_with (fail)
   go_ret
   exact⟨by rw[HR.out];rfl,HB.out⟩
end
def fileS(S:St)(c:CallV):Except Int (Nat×Nat):=if descI S c.core c.fd<0 then .error 4 else .ok ((placeF S (S.on (descI S c.core c.fd).toNat)).toNat,(descI S c.core c.fd).toNat)
def MFileR(g:Nat)(e:Ending):Except Int (Nat×Nat)->Prop
 | .error k=>e=mthrown k
 | .ok (a,k)=>e= .returned (.tuple #[.pointer (some ⟨g,a*4,none⟩),.int .i64 k])
theorem fileS_ok{S:St}(hI:Inv S){c:CallV}{a k:Nat}(h:fileS S c= .ok (a,k)):k<S.opens.length/\a<S.inodes.length/\S.num a=S.on k/\S.dir a=false/\S.oc k=c.core/\S.of k=c.fd/\placeF S (S.on k)=a:=by
 unfold fileS at h
 split at h
 ·cases h
 ·rename_i h0
  obtain⟨j,hj,e,h1,h2⟩:=descI_lt h0
  injection h with h
  injection h with ha hk
  rw[e]at ha hk
  simp only[Int.toNat_natCast]at ha hk
  subst hk
  obtain⟨-,-,-,-,y,hy,hn,hd⟩:=hI.ok (S.opens.getD j (0,0,0)) (getD_mem hj)
  obtain⟨q,hq,hqy,hp⟩:=placeF_of (S:=S) (fun i j a b=>hI.num_lt b a) hy
  have hpl:placeF S (S.on j)=q:=by
   show placeF S (S.opens.getD j (0,0,0)).2.2=q
   rw[<-hn];exact hp
  rw[hpl]at ha
  simp only[Int.toNat_natCast]at ha
  subst ha
  have hino:S.ino q=y:=by unfold St.ino;rw[List.getD_eq_getElem?_getD,hqy];rfl
  exact⟨hj,hq,by show(S.ino q).num=_;rw[hino];exact hn,by show(S.ino q).dir=_;rw[hino];exact hd,h1,h2,hpl⟩
section
variable{W:World}{base ob db:Nat}{c:CallV}{r:ResV}{iv ov mv:Value}{Iv:List InV}{S:St}
set_option maxRecDepth 1000000 in
theorem dfile_calls{g icap:Nat}(h:Doer W base ob db c r (.slice (some ⟨g,0,none⟩) S.inodes.length icap) ov mv Iv S)(hI:Inv S):
  Calls Tryz.prog 79 #[.pointer (some ⟨db,0,none⟩)] W fun e w'=>MFileR g e (fileS S c)/\Below W.heap.size W w':=by
 have hmf: ∀(fn:Fn) (first cap:Array Value) (w:World),(Instr.makeFunc fn first cap).run Tryz.prog w= .ok (.func fn first cap) w:=fun _ _ _ _=>rfl
 have HS:=lhi h.stm
 have HI:=lhi hI
 have hno:=hI.small.no
 have hni:=hI.small.ni
 obtain⟨q,hq⟩: ∃x,x=W.heap.size:=⟨_,rfl⟩
 obtain⟨w0,hw0⟩: ∃x,x=W.alloc (.cells #[.pointer (some ⟨db,0,none⟩)] 86):=⟨_,rfl⟩
 have HB0:=lhi (show Below W.heap.size W w0 by rw[hw0];exact(Below.refl _ _).alloc (Nat.le_refl _) _)
 have HQ:=lhi (show Blk w0 q 86 #[.pointer (some ⟨db,0,none⟩)]by rw[hw0,hq];exact Blk.new _ _ _)
 have HD:=lhi (Blk.of_heap (HB0.out.block _ h.d.lt) h.d)
 have HO:=lhi (Blk.of_heap (HB0.out.block _ h.o.lt) h.o)
 have HIX:=lhi (descIdx_calls (HS.out.keep HB0.out).opn hno (HQ.out.cell 0) HD.out)
 have HPL:=lhi (fun(V:World) (hb:Below w0.heap.size w0 V) (x:Int)=>find_in (w:=V) (sp:=ob) (HS.out.keep (HB0.out.trans (hb.mono HB0.out.size))) hni x (fun i j a b=>HI.out.num_lt b a) ((Blk.of_heap (hb.block _ HO.out.lt) HO.out).cell 0))
 have HFS:=lhi (fun(a k:Nat) (e:fileS S c= .ok (a,k))=>fileS_ok hI e)
 obtain⟨OA,ocap,rfl,-⟩:=h.st.stv.opn
 obtain⟨ix,hix⟩: ∃x,descI S c.core c.fd=x:=⟨_,rfl⟩
 obtain⟨RES,hres⟩: ∃R,fileS S c=R:=⟨_,rfl⟩
 have HRES:=lhi (show(if ix<0 then .error 4 else .ok ((placeF S (S.on ix.toNat)).toNat,ix.toNat))=RES by rw[<-hres,<-hix];rfl)
 rw[hres]at HFS⊢
 rw[hix]at HIX
 have HIXL:=lhi (fun(hx: ¬ ix<0)=>show∃k:Nat,k<S.opens.length/\ix=k by
  rw[<-hix]at hx⊢
  obtain⟨k,h1,h2,-⟩:=descI_lt hx
  exact⟨k,h1,h2⟩)
 have q0:w0.cell? ⟨q,0,none⟩=some (.pointer (some ⟨db,0,none⟩)):=HQ.out.cell 0
 have d0:w0.cell? ⟨db,0,none⟩=some (.pointer (some ⟨ob,0,none⟩)):=HD.out.cell 0
 have o1:w0.cell? ⟨ob,1,none⟩=some (.slice OA S.opens.length ocap):=HO.out.cell 1
 clear h hI hix hres
 go_enter Tryz.func79,Tryz.ntmps79
 go_upto_region 1 with(fail)
 rw[<-hq,<-hw0]
 clear hq hw0
 go_upto_region 2 with(go_at_call 125;refine HIX.out.mono ?_;rintro e w1 ⟨rfl,hb1⟩;have HB1:=lhi hb1;clear hb1)
 clear q0 d0 o1
 by_cases hx:ix<0
 ·obtain rfl:RES= .error 4:=by rw[<-HRES.out,if_pos hx]
  clear HRES HFS HIXL
  go_wp2_with (go_at_call 116;refine(mthrow_yes _ _).mono ?_;rintro e w' ⟨rfl,rfl⟩)
  exact⟨rfl,rfl,HB0.out.trans (HB1.out.mono HB0.out.size)⟩
 ·obtain⟨k,hk,rfl⟩:=HIXL.out (by omega)
  have hk0:decide ((k:Int)<0)=false:=by simp
  have hkl:(k:Int)<S.opens.length:=by omega
  obtain⟨a,ha⟩: ∃a:Nat,(placeF S (S.on k)).toNat=a:=⟨_,rfl⟩
  obtain rfl:RES= .ok (a,k):=by rw[<-HRES.out,if_neg hx,Int.toNat_natCast,ha]
  obtain⟨-,hal,-,-,-,-,hpa⟩:=HFS.out _ _ rfl
  have hal1:(a:Int)<S.inodes.length:=by omega
  have HBB:=lhi (HB0.out.trans (HB1.out.mono HB0.out.size))
  have HQ1:=lhi (Blk.of_heap (HB1.out.block _ HQ.out.lt) HQ.out)
  have HD1:=lhi (Blk.of_heap (HB1.out.block _ HD.out.lt) HD.out)
  have HO1:=lhi (Blk.of_heap (HB1.out.block _ HO.out.lt) HO.out)
  obtain⟨-,-,og,off,rfl,hcell⟩:=(HS.out.keep HBB.out).opn.at_ hk
  have p0: ∀x:WIn (Bel w1),x.v.cell? ⟨q,0,none⟩=some (.pointer (some ⟨db,0,none⟩)):=fun x=>x.cell (HQ1.out.cell 0)
  have p1: ∀x:WIn (Bel w1),x.v.cell? ⟨db,0,none⟩=some (.pointer (some ⟨ob,0,none⟩)):=fun x=>x.cell (HD1.out.cell 0)
  have p2: ∀x:WIn (Bel w1),x.v.cell? ⟨ob,0,none⟩=some (.slice (some ⟨g,0,none⟩) S.inodes.length icap):=fun x=>x.cell (HO1.out.cell 0)
  have p3: ∀x:WIn (Bel w1),x.v.cell? ⟨ob,1,none⟩=some (.slice (some ⟨og,off,none⟩) S.opens.length ocap):=fun x=>x.cell (HO1.out.cell 1)
  have p4: ∀x:WIn (Bel w1),x.v.cell? ⟨og,off+k*3+2,none⟩=some (.int .i64 (S.on k)):=fun x=>x.cell (hcell 2 (by omega))
  have HPX:=lhi (fun x:WIn (Bel w1)=>by
   have:=HPL.out x.v (HB1.out.trans (Below.mono x.h HB1.out.size)) (S.on k)
   rw[hpa]at this
   exact this)
  clear hcell hx ha hpa HRES HFS HIXL
  go_upto_region 3 with(go_at_call 116;refine(mthrow_no _ _).mono ?_;rintro e w' ⟨rfl,rfl⟩)
  refine wp_region_in (C:=Bel w1) (by kernel_rfl) (by kernel_rfl) (Bel.drew w1) ?_
  repeat (go_big_quiet_step (first | (go_at_call 94;exact Calls.bel _ (HPX.out _))))
  refine wpQuiet_nil ?_
  rintro w2 ⟨⟨w2',hb2⟩,hw⟩
  obtain rfl:w2=w2':=hw
  have HB2:=lhi hb2
  clear hb2 p0 p1 p2 p3 p4
  go_wp2_with (fail)
  go_ret2
  exact⟨rfl,HBB.out.trans (Below.mono HB2.out HBB.out.size)⟩
end
end
section
open Go.RowKit
set_option maxHeartbeats 1000000
def cellsB(l:List UInt8):List Value:=l.map fun b=>Value.int .u8 b.toNat
def bytesV(l:List UInt8):Array Value:=(cellsB l).toArray
theorem cellsB_len(l:List UInt8):(cellsB l).length=l.length:=List.length_map ..
theorem cellsB_one(l:List UInt8): ∀v∈cellsB l,v.oneCell'=true:=by
 intro v hv
 obtain⟨b,_,rfl⟩:=List.mem_map.1 hv
 rfl
theorem run_copy_str{P:Program}{w:World}{dT sT ty elem:TypeId}(hu:P.underlying dT=some (.slice elem))(hs:(P.info? elem).map (·.size)=some 1){g o dLen dCap:Nat}{t:TypeId}{l:List UInt8}(hb:Blk w g t (bytesV l))(hfit:o+dLen<=l.length)(s:ByteArray){n:Nat}(hn:n=Nat.min s.size dLen):
  (Builtin.copy_ #[dT,sT] ty #[.slice (some ⟨g,o,none⟩) dLen dCap,.string s]).run P w= .ok (goInt n) (w.setRow g (bytesV (l.take o++s.data.toList.take n++l.drop (o+n)))):=by
 have hle:n<=dLen:=by rw[hn];exact Nat.min_le_right _ _
 have hle2:n<=s.size:=by rw[hn];exact Nat.min_le_left _ _
 have hce:(s.extract 0 n).data.toList=s.data.toList.take n:=by simp
 obtain⟨cs,hcs⟩: ∃cs:List UInt8,cs=(s.extract 0 n).data.toList:=⟨_,rfl⟩
 have hcl:cs.length=n:=by
  rw[hcs,Array.length_toList]
  show(s.extract 0 n).size=n
  rw[ByteArray.size_extract];omega
 have hsz:(bytesV l).size=l.length:=by unfold bytesV;rw[List.size_toArray,cellsB_len]
 have hst:=run_storeCells_at (P:=P) g o t (cellsB cs) 0 (bytesV l) w hb (by rw[cellsB_len,hsz];omega) (cellsB_one _)
 rw[<-hce,<-hcs]
 have he:bytesV (l.take o++cs++l.drop (o+n))=((bytesV l).toList.take (o+0)++cellsB cs++(bytesV l).toList.drop (o+0+ (cellsB cs).length)).toArray:=by
  unfold bytesV cellsB
  simp[hcl,List.map_take,List.map_drop]
 rw[he]
 have hfc:(s.extract 0 n).data.map (fun b=>Value.int .u8 (b.toNat:Int))=(cellsB cs).toArray:=by
  unfold cellsB
  rw[hcs]
  apply Array.ext'
  simp
 cases hq:P.info? elem with
 | none=>simp[hq]at hs
 | some i=>
  have hi:i.size=1:=by simpa[hq]using hs
  have hfc2:(s.extract 0 (Nat.min s.size dLen)).data.map (fun b=>Value.int .u8 (b.toNat:Int))=(cellsB cs).toArray:=by rw[<-hn];exact hfc
  have hfc3:(Builtin.firstCells 1 (Nat.min s.size dLen) (.string s)).run P w= .ok (cellsB cs).toArray w:=by
   show Sem.run P (pure _) w=_
   rw[hfc2];rfl
  simp[Builtin.copy_,run_underlying hu,Builtin.lenOf,sizeOf,typeInfo,hq,hi]
  rw[hfc3]
  simp only[Result.andThen_ok]
  rw[hst]
  simp[<-hn]
theorem setRow_blk{w:World}{g:Nat}{t:TypeId}{cs:Array Value}(h:Blk w g t cs)(cs':Array Value):Blk (w.setRow g cs') g t cs':=setRow_heap w g cs cs' t (0,0) h
theorem setRow_below{w w':World}{b g:Nat}(h:Below b w w')(hg:b<=g)(cs:Array Value):Below b w (w'.setRow g cs):=
 ⟨h.os,h.tape,h.output,by simpa[World.setRow]using h.size,fun k hk=>by rw[setRow_other w' g k cs (by omega)];exact h.block k hk⟩
theorem info_u8:(Tryz.prog.info? 5).map (fun i=>(i.zero,i.size,i.bytes))=some (some (.int .u8 0),1,1):=by kernel_rfl
theorem bytesV_zero(k:Nat):(List.replicate k (Value.int .u8 0)).toArray=bytesV (List.replicate k 0):=by
 unfold bytesV cellsB
 rw[List.map_replicate];rfl
theorem conv_blk{P:Program}{w:World}{src dst e t:TypeId}(hs:P.underlying src=some (.slice e))(he:P.underlying e=some (.int .u8))(hd:P.underlying dst=some .string){g n:Nat}{l:List UInt8}(hb:Blk w g t (bytesV l))(hn:l.length=n)(cap:Nat):
  (convert src dst (.slice (some ⟨g,0,none⟩) n cap)).run P w= .ok (.string ⟨l.toArray⟩) w:=by
 subst hn
 refine run_convert_bytes_back w src dst e ⟨g,0,none⟩ cap l hs he hd fun j hj=>?_
 rw[Addr.add_lit,Nat.zero_add,hb.cell j]
 unfold bytesV cellsB
 simp[hj]
def cutF(d:ByteArray)(k:Nat):ByteArray:=⟨(d.data.toList.take (Nat.min d.size k)++(List.replicate k 0).drop (Nat.min d.size k)).toArray⟩
def pieceF(d:ByteArray)(off n:Nat):ByteArray:=if d.size<=off then⟨#[]⟩else d.extract off (min d.size (off+n))
set_option maxRecDepth 1000000 in
theorem cut_calls(s:ByteArray)(k:Nat)(hk:k<=1000)(w:World):Calls Tryz.prog 131 #[.string s,.int .i64 k] w fun e w'=>e= .returned (.string (cutF s k))/\Below w.heap.size w w':=by
 obtain⟨i0_,hi,hz0,hz1,hz2⟩:=info_parts info_u8
 have hmk:(Instr.makeSlice 95 (.int .i64 k) (.int .i64 k)).run Tryz.prog w= .ok (.slice (some ⟨w.heap.size,0,none⟩) k k) (w.alloc (.cells (bytesV (List.replicate k 0)) 5)):=by
  have h:=run_make_rowN (P:=Tryz.prog) (w:=w) 95 5 i0_ _ Tryz.underlying95 hi hz0 .i64 .i64 k k (Nat.le_refl _) (by rw[hz2];omega) (by omega)
  simp only[hz1,Nat.mul_one,Value.cells,madeCells_one,bytesV_zero]at h
  exact h
 have HB:=lhi (Blk.new w 5 (bytesV (List.replicate k 0)))
 obtain⟨n,hn⟩: ∃n,n=Nat.min s.size k:=⟨_,rfl⟩
 obtain⟨l',hl'⟩: ∃l',l'=(List.replicate k (0:UInt8)).take 0++s.data.toList.take n++(List.replicate k 0).drop (0+n):=⟨_,rfl⟩
 have hlk:l'.length=k:=by
  have h1:n<=k:=by rw[hn];exact Nat.min_le_right _ _
  have h2:n<=s.size:=by rw[hn];exact Nat.min_le_left _ _
  have h3:s.data.toList.length=s.size:=by simp
  rw[hl',List.length_append,List.length_append,List.length_take,List.length_take,List.length_drop,List.length_replicate,h3];omega
 have hcp:=run_copy_str (P:=Tryz.prog) (dT:=95) (sT:=9) (ty:=3) (elem:=5) Tryz.underlying95 (by rw[hi];simp[hz1]) (g:=w.heap.size) (o:=0) (dLen:=k) (dCap:=k) HB.out (by simp) s hn
 rw[<-hl']at hcp
 have hcv:=conv_blk (P:=Tryz.prog) (w:=(w.alloc (.cells (bytesV (List.replicate k 0)) 5)).setRow w.heap.size (bytesV l')) (src:=95) (dst:=9) (e:=5) Tryz.underlying95 Tryz.underlying5 Tryz.underlying9 (setRow_blk HB.out (bytesV l')) hlk k
 have HE:=lhi (show(⟨l'.toArray⟩:ByteArray)=cutF s k by rw[hl',hn];simp[cutF])
 clear hl' hn hlk
 go_enter Tryz.func131,Tryz.ntmps131
 go_wp2_with (fail)
 refine bodyPost_ret (results_tmp rfl _ _ _) rfl ?_
 refine⟨?_,setRow_below (below_alloc w _) (Nat.le_refl _) _⟩
 rw[<-HE.out]
 rfl
theorem piece_calls(s:ByteArray)(off n:Nat)(hs:s.size<=1000)(ho:off<=1000)(hn:n<=1000)(w:World):Calls Tryz.prog 129 #[.string s,.int .i64 off,.int .i64 n] w fun e w'=>e= .returned (.string (pieceF s off n))/\w=w':=by
 unfold pieceF
 by_cases h:s.size<=off
 ·have h':decide (s.size<=off)=true:=by simpa using h
  rw[if_pos h]
  go_enter Tryz.func129,Tryz.ntmps129
  go_wp2_with (fail)
  go_ret
  exact⟨rfl,rfl⟩
 ·have h':decide (s.size<=off)=false:=by simpa using h
  rw[if_neg h]
  by_cases h2:s.size<=off+n
  ·have h3:(s.size:Int)<=off+n:=by omega
   rw[show min s.size (off+n)=s.size by omega]
   have hm:min (s.size:Int) ((off:Int)+n)=s.size:=by omega
   clear h2
   go_enter Tryz.func129,Tryz.ntmps129
   go_wp2_with (fail)
   all_goals
    go_ret
    exact⟨rfl,rfl⟩
  ·have h3:(off:Int)+n<s.size:=by omega
   rw[show min s.size (off+n)=((off:Int)+n).toNat by omega]
   have hm:min (s.size:Int) ((off:Int)+n)=(off:Int)+n:=by omega
   clear h2
   go_enter Tryz.func129,Tryz.ntmps129
   go_wp2_with (fail)
   go_ret
   exact⟨rfl,rfl⟩
theorem pagesOf_calls(n:Nat)(hn:n<=1000)(w:World):Calls Tryz.prog 141 #[.int .i64 n] w fun e w'=>e= .returned (.int .i64 (((n+15) / 16:Nat):Int))/\w=w':=by
 go_enter Tryz.func141,Tryz.ntmps141
 go_wp2_with (fail)
 go_ret
 exact⟨ret_int (by omega),rfl⟩
end
section
open Go.RowKit
set_option maxHeartbeats 2000000
def layL(had:ByteArray)(off:Nat)(d:ByteArray)(k:Nat):List UInt8:=
 let l:=(List.replicate k (0:UInt8)).take 0++had.data.toList.take (Nat.min had.size k)++(List.replicate k 0).drop (0+Nat.min had.size k)
 l.take off++d.data.toList.take (Nat.min d.size (k - off))++l.drop (off+Nat.min d.size (k - off))
def layF(had:ByteArray)(off:Nat)(d:ByteArray):ByteArray:=if d.size=0 then had else⟨(layL had off d (max had.size (off+d.size))).toArray⟩
theorem first_len(had:ByteArray)(k:Nat):((List.replicate k (0:UInt8)).take 0++had.data.toList.take (Nat.min had.size k)++(List.replicate k 0).drop (0+Nat.min had.size k)).length=k:=by
 have h1:Nat.min had.size k<=k:=Nat.min_le_right _ _
 have h2:Nat.min had.size k<=had.size:=Nat.min_le_left _ _
 have h3:had.data.toList.length=had.size:=by simp
 rw[List.length_append,List.length_append,List.length_take,List.length_take,List.length_drop,List.length_replicate,h3];omega
theorem layL_len(had:ByteArray)(off:Nat)(d:ByteArray){k:Nat}(hk:off<=k):(layL had off d k).length=k:=by
 have h1:Nat.min d.size (k - off)<=k - off:=Nat.min_le_right _ _
 have h2:Nat.min d.size (k - off)<=d.size:=Nat.min_le_left _ _
 have h3:d.data.toList.length=d.size:=by simp
 unfold layL
 simp only
 rw[List.length_append,List.length_append,List.length_take,List.length_take,List.length_drop,first_len,h3];omega
theorem layF_len(had:ByteArray)(off:Nat)(d:ByteArray):(layF had off d).size<=max had.size (off+d.size):=by
 unfold layF
 split
 ·omega
 ·show(List.toArray _).size<=_
  rw[List.size_toArray,layL_len had off d (by omega)];exact Nat.le_refl _
set_option maxRecDepth 1000000 in
theorem mlay_calls(had d:ByteArray)(off:Nat)(h1:had.size<=256)(h2:off+d.size<=256)(w:World):Calls Tryz.prog 130 #[.string had,.int .i64 off,.string d] w fun e w'=>e= .returned (.string (layF had off d))/\Below w.heap.size w w':=by
 by_cases h0:d.size=0
 ·have he:d.toList.isEmpty=true:=by
   rw[ByteArray.toList_eq]
   have:d.data.toList.length=0:=h0
   rw[List.length_eq_zero_iff.1 this];rfl
  rw[show layF had off d=had by unfold layF;rw[if_pos h0]]
  clear h0
  go_enter Tryz.func130,Tryz.ntmps130
  go_wp2_with (fail)
  go_ret
  exact⟨rfl,Below.refl _ _⟩
 ·have he:d.toList.isEmpty=false:=by
   rw[ByteArray.toList_eq]
   have:d.data.toList.length=d.size:=by simp
   cases e:d.data.toList with
   | nil=>rw[e]at this;exact absurd this.symm h0
   | cons=>rfl
  obtain⟨i0_,hi,hz0,hz1,hz2⟩:=info_parts info_u8
  have hdp:(0:Int)<d.size:=by omega
  obtain⟨k,hk⟩: ∃k,k=max had.size (off+d.size):=⟨_,rfl⟩
  have hmk:(Instr.makeSlice 95 (.int .i64 k) (.int .i64 k)).run Tryz.prog w= .ok (.slice (some ⟨w.heap.size,0,none⟩) k k) (w.alloc (.cells (bytesV (List.replicate k 0)) 5)):=by
   have h:=run_make_rowN (P:=Tryz.prog) (w:=w) 95 5 i0_ _ Tryz.underlying95 hi hz0 .i64 .i64 k k (Nat.le_refl _) (by rw[hz2];omega) (by omega)
   simp only[hz1,Nat.mul_one,Value.cells,madeCells_one,bytesV_zero]at h
   exact h
  have HB:=lhi (Blk.new w 5 (bytesV (List.replicate k 0)))
  obtain⟨n,hn⟩: ∃n,n=Nat.min had.size k:=⟨_,rfl⟩
  obtain⟨l',hl'⟩: ∃l',l'=(List.replicate k (0:UInt8)).take 0++had.data.toList.take n++(List.replicate k 0).drop (0+n):=⟨_,rfl⟩
  have hlk:l'.length=k:=by rw[hl',hn];exact first_len had k
  have hcp:=run_copy_str (P:=Tryz.prog) (dT:=95) (sT:=9) (ty:=3) (elem:=5) Tryz.underlying95 (by rw[hi];simp[hz1]) (g:=w.heap.size) (o:=0) (dLen:=k) (dCap:=k) HB.out (by simp) had hn
  rw[<-hl']at hcp
  obtain⟨n2,hn2⟩: ∃n,n=Nat.min d.size (k - off):=⟨_,rfl⟩
  obtain⟨l2,hl2⟩: ∃l2,l2=l'.take off++d.data.toList.take n2++l'.drop (off+n2):=⟨_,rfl⟩
  have hcp2:=run_copy_str (P:=Tryz.prog) (w:=(w.alloc (.cells (bytesV (List.replicate k 0)) 5)).setRow w.heap.size (bytesV l')) (dT:=95) (sT:=9) (ty:=3) (elem:=5) Tryz.underlying95 (by rw[hi];simp[hz1]) (g:=w.heap.size) (o:=off) (dLen:=k - off) (dCap:=k - off) (setRow_blk HB.out (bytesV l')) (by omega) d hn2
  rw[<-hl2]at hcp2
  have hl2k:l2.length=k:=by
   have:=layL_len had off d (k:=k) (by omega)
   rw[<-this,hl2,hl',hn,hn2];rfl
  have hcv:=conv_blk (P:=Tryz.prog) (w:=((w.alloc (.cells (bytesV (List.replicate k 0)) 5)).setRow w.heap.size (bytesV l')).setRow w.heap.size (bytesV l2)) (src:=95) (dst:=9) (e:=5) Tryz.underlying95 Tryz.underlying5 Tryz.underlying9 (setRow_blk (setRow_blk HB.out (bytesV l')) (bytesV l2)) hl2k k
  have HE:=lhi (show(⟨l2.toArray⟩:ByteArray)=layF had off d by
   unfold layF layL
   rw[if_neg h0,hl2,hl',hn,hn2,hk])
  have hok:(off:Int)<k:=by omega
  have hkk:((k - off:Nat):Int)=(k:Int) - off:=by omega
  rw[show had.size=had.size from rfl]at hk
  rcases Nat.lt_or_ge had.size (off+d.size)with hc | hc
  ·have hke:(k:Int)=(off:Int)+d.size:=by omega
   have hc1:(had.size:Int)< (off:Int)+d.size:=by omega
   have hm:max (had.size:Int) ((off:Int)+d.size)=(off:Int)+d.size:=by omega
   rw[hke]at hmk
   clear hl' hn hlk hl2 hn2 hl2k hk h0 hc
   go_enter Tryz.func130,Tryz.ntmps130
   go_wp2_with (fail)
   refine bodyPost_ret (results_tmp rfl _ _ _) rfl ?_
   refine⟨?_,setRow_below (setRow_below (below_alloc w _) (Nat.le_refl _) _) (Nat.le_refl _) _⟩
   rw[<-HE.out]
   rfl
  ·have hke:(k:Int)=had.size:=by omega
   have hc1:(off:Int)+d.size<=had.size:=by omega
   have hm:max (had.size:Int) ((off:Int)+d.size)=had.size:=by omega
   rw[hke]at hmk
   clear hl' hn hlk hl2 hn2 hl2k hk h0 hc
   go_enter Tryz.func130,Tryz.ntmps130
   go_wp2_with (fail)
   all_goals
    refine bodyPost_ret (results_tmp rfl _ _ _) rfl ?_
    refine⟨?_,setRow_below (setRow_below (below_alloc w _) (Nat.le_refl _) _) (Nat.le_refl _) _⟩
    rw[<-HE.out]
    rfl
end
section
open Go.RowKit
set_option maxHeartbeats 2000000
def cntF(es:List (ByteArray×Int))(s but:ByteArray)(k:Nat):Nat:=((es.take k).filter fun e=>!decide (e.1=but)&& (nbucket e.1==nbucket s)).length
def fullS(es:List (ByteArray×Int))(s but:ByteArray):Bool:=decide (4<=cntF es s but es.length)
theorem cntF_succ{es:List (ByteArray×Int)}{s but:ByteArray}{k:Nat}(hk:k<es.length):cntF es s but (k+1)=cntF es s but k+if(!decide (enmL es k=but)&& (nbucket (enmL es k)==nbucket s))=true then 1 else 0:=by
 unfold cntF
 rw[take_snoc es (ByteArray.empty,0) hk,List.filter_append,List.length_append]
 congr 1
 show([es.getD k (ByteArray.empty,0)].filter _).length=if(!decide ((es.getD k (ByteArray.empty,0)).1=but)&& (nbucket (es.getD k (ByteArray.empty,0)).1==nbucket s))=true then 1 else 0
 rw[List.filter_cons]
 split <;> simp_all
theorem cntF_le(es:List (ByteArray×Int))(s but:ByteArray)(k:Nat):cntF es s but k<=k:=by
 unfold cntF
 refine Nat.le_trans (List.length_filter_le _ _) ?_
 rw[List.length_take]
 omega
set_option maxRecDepth 1000000 in
theorem full_calls{W:World}{g o:Nat}{ev:Value}{es:List (ByteArray×Int)}(hc:W.cell? ⟨g,o+2,none⟩=some ev)(he:RowAt W ev es.length 2 (entL es))(hn:es.length<=1000)(s but:ByteArray):
  Calls Tryz.prog 117 #[.pointer (some ⟨g,o,none⟩),.string s,.string but] W fun e w'=>e= .returned (.bool (fullS es s but))/\Below W.heap.size W w':=by
 have HE:=lhi he
 obtain⟨EA,ecap,rfl,-,-⟩:=he
 obtain⟨n,hnn⟩: ∃n,es.length=n:=⟨_,rfl⟩
 have HN:=lhi hnn
 rw[hnn]at hc hn HE
 clear hnn
 obtain⟨RES,hres⟩: ∃R,fullS es s but=R:=⟨_,rfl⟩
 have HF:=lhi (show∀N,cntF es s but n=N->RES=decide (4<=N)from fun N h=>by rw[<-hres];unfold fullS;rw[HN.out,h])
 rw[hres]
 clear hres
 go_enter Tryz.func117,Tryz.ntmps117
 go_wp2_with (fail)
 go_loopw [15,7] (fun i q wr=>∃k:Nat,i= .int .i64 k/\q= .int .i64 (cntF es s but k)/\k<=n/\Below W.heap.size W wr) (fun i _ _=>n - (intOf i).toNat)
 case atStart=>exact⟨0,rfl,rfl,by omega,Below.refl _ _⟩
 case round=>
  obtain⟨k,rfl,rfl,hk,hb⟩:=hrel
  have HB:=lhi hb
  have hck:=cntF_le es s but k
  by_cases hp:k<n
  ·have hp1:(k:Int)<n:=by omega
   obtain⟨-,-,eg,eoff,rfl,hcell⟩:=(HE.out.keep hb).at_ hp
   have q0:wr.cell? ⟨eg,eoff+k*2,none⟩=some (.string (enmL es k)):=hcell 0 (by omega)
   have q1:wr.cell? ⟨eg,eoff+k*2+1,none⟩=some (.int .i64 (enuL es k)):=hcell 1 (by omega)
   have HS:=lhi (cntF_succ (s:=s) (but:=but) (show k<es.length by rw[HN.out];exact hp))
   clear hcell hb
   obtain⟨x,hx⟩: ∃x,enmL es k=x:=⟨_,rfl⟩
   obtain⟨y,hy⟩: ∃y,enuL es k=y:=⟨_,rfl⟩
   obtain⟨ck,hck2⟩: ∃c,cntF es s but k=c:=⟨_,rfl⟩
   rw[hx]at q0 HS
   rw[hy]at q1
   rw[hck2]at hck HS
   rw[hck2]
   have HEN:=lhi (Blk.new wr 132 #[.string x,.int .i64 y])
   have HBA:=lhi (HB.out.alloc HB.out.size (Obj.cells #[.string x,.int .i64 y] 132))
   have HBX:=lhi (bucket_calls x)
   have HBS:=lhi (bucket_calls s)
   clear hx hy hck2
   go_upto_region 5 with(fail)
   obtain⟨wy,hwy⟩: ∃wy,wy=wr.alloc (Obj.cells #[.string x,.int .i64 y] 132):=⟨_,rfl⟩
   obtain⟨eb,heb⟩: ∃eb,wr.heap.size=eb:=⟨_,rfl⟩
   rw[<-hwy]at HEN HBA⊢
   rw[heb]at HEN⊢
   clear hwy heb q0 q1
   have e0:wy.cell? ⟨eb,0,none⟩=some (.string x):=HEN.out.cell 0
   by_cases hxb:x=but
   ·subst hxb
    go_wp2_with (fail)
    go_roundw
    case rel=>exact⟨k+1,by go_num,by rw[HS.out];simp,by omega,HBA.out⟩
    case measure=>
     simp only[intOf]
     omega
   ·have l1:(x.toList==but.toList)=false:=by
     cases h:x.toList==but.toList with
     | false=>rfl
     | true=>
      have h:x.toList=but.toList:=by simpa using h
      exact absurd (toList_inj h) hxb
    by_cases hbs:nbucket x=nbucket s
    ·have d:(((nbucket x:Nat):Int)==((nbucket s:Nat):Int))=true:=by rw[beq_iff_eq];omega
     have hc1:cntF es s but (k+1)=ck+1:=by rw[HS.out];simp[hxb,hbs]
     go_wp2_with (go_at_call 62;first | (refine(HBX.out _).mono ?_;rintro e w5 ⟨rfl,hb5⟩) | (refine(HBS.out _).mono ?_;rintro e w6 ⟨rfl,hb6⟩))
     go_roundw
     case rel=>exact⟨k+1,by go_num,by rw[hc1];go_num,by omega,HBA.out.trans ((hb5.mono HBA.out.size).trans (hb6.mono (Nat.le_trans HBA.out.size hb5.size)))⟩
     case measure=>
      simp only[intOf]
      omega
    ·have d:(((nbucket x:Nat):Int)==((nbucket s:Nat):Int))=false:=by rw[beq_eq_false_iff_ne];omega
     have hc1:cntF es s but (k+1)=ck:=by rw[HS.out];simp[hxb,hbs]
     go_wp2_with (go_at_call 62;first | (refine(HBX.out _).mono ?_;rintro e w5 ⟨rfl,hb5⟩) | (refine(HBS.out _).mono ?_;rintro e w6 ⟨rfl,hb6⟩))
     go_roundw
     case rel=>exact⟨k+1,by go_num,by rw[hc1],by omega,HBA.out.trans ((hb5.mono HBA.out.size).trans (hb6.mono (Nat.le_trans HBA.out.size hb5.size)))⟩
     case measure=>
      simp only[intOf]
      omega
  ·have e:k=n:=by omega
   subst e
   obtain⟨N,hN⟩: ∃N,cntF es s but k=N:=⟨_,rfl⟩
   have HR:=lhi (HF.out N hN)
   rw[hN]
   have hd:decide ((4:Int)<= (N:Int))=decide (4<=N):=by
    by_cases q:4<=N
    ·rw[decide_eq_true q,decide_eq_true (by omega)]
    ·rw[decide_eq_false q,decide_eq_false (by omega)]
   clear hN hck
   go_wp2_with (fail)
   go_ret
   exact⟨by rw[HR.out];rfl,HB.out⟩
end
section
set_option maxHeartbeats 1000000
def insBy{A:Type}(lt:A->A->Bool)(p:A):List A->List A
 | []=>[p]
 | e::l=>if lt p e=true then p::e::l else e::insBy lt p l
section
variable{A:Type}{lt:A->A->Bool}{p:A}
theorem perm_insBy: ∀l:List A,(insBy lt p l).Perm (p::l)
 | []=>.rfl
 | e::l=>by
  unfold insBy
  split
  ·exact .rfl
  ·exact((perm_insBy l).cons e).trans (List.Perm.swap ..)
theorem mem_insBy{l:List A}{y:A}:y∈insBy lt p l↔y=p∨y∈l:=by
 rw[(perm_insBy l).mem_iff,List.mem_cons]
theorem pair_insBy{R:A->A->Prop}(ht: ∀a b c,R a b->R b c->R a c): ∀{l:List A},l.Pairwise R->(∀e∈l,lt p e=true->R p e)->(∀e∈l,lt p e=false->R e p)->(insBy lt p l).Pairwise R
 | [],_,_,_=>List.pairwise_singleton ..
 | e::l,h,h1,h2=>by
  obtain⟨ha,hb⟩:=List.pairwise_cons.1 h
  unfold insBy
  by_cases q:lt p e=true
  ·rw[if_pos q]
   refine List.pairwise_cons.2 ⟨fun y hy=>?_,h⟩
   have hpe:=h1 e (List.mem_cons_self ..) q
   rcases List.mem_cons.1 hy with rfl | hy
   ·exact hpe
   ·exact ht _ _ _ hpe (ha y hy)
  ·rw[if_neg q]
   refine List.pairwise_cons.2 ⟨fun y hy=>?_,pair_insBy ht hb (fun e he=>h1 e (List.mem_cons_of_mem _ he)) fun e he=>h2 e (List.mem_cons_of_mem _ he)⟩
   rcases mem_insBy.1 hy with rfl | hy
   ·exact h2 e (List.mem_cons_self ..) (by simpa using q)
   ·exact ha y hy
theorem insBy_head{a:A}{l:List A}(h:lt p a=false):insBy lt p (a::l)=a::insBy lt p l:=by
 show(if lt p a=true then _ else _)=_
 rw[if_neg (by simp[h])]
end
theorem sum_turn{h h':Ino->Nat}{d:Int}: ∀{l:List Ino},l.Pairwise (fun x y=>x.num<y.num)-> ∀{x0:Ino},x0∈l->x0.num=d->(∀x∈l,x.num≠d->h' x=h x)->(l.map h').sum+h x0=(l.map h).sum+h' x0
 | [],_,_,hx,_,_=>by cases hx
 | x::l,hp,x0,hx,hd,hh=>by
  obtain⟨ha,hb⟩:=List.pairwise_cons.1 hp
  simp only[List.map_cons,List.sum_cons]
  rcases List.mem_cons.1 hx with rfl | hx
  ·have:l.map h'=l.map h:=List.map_congr_left fun y hy=>hh y (List.mem_cons_of_mem _ hy) (by have:=ha y hy;omega)
   rw[this];omega
  ·have h1:=hh x (List.mem_cons_self ..) (by have:=ha x0 hx;omega)
   have ih:=sum_turn hb hx hd fun y hy=>hh y (List.mem_cons_of_mem _ hy)
   rw[h1];omega
theorem count_links(S:St)(y:Int):(links S).count y=(S.inodes.map fun x=>(linksOf x).count y).sum:=by
 unfold links
 rw[List.count_flatMap];rfl
end
end Go.Proofs.YtkebjgebkneijaaGreat
