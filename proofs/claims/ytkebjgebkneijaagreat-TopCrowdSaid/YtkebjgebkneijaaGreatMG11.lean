/- Texts of one's own that a claim's last text rests on: Mf13 Mf14 Mf15 Mf16. -/
import Derived.Test.YtkebjgebkneijaaGreatMG10
import Derived.Deep.MidRow
import Derived.Defers
import Derived.Recover
import Derived.Laws.Pointers
set_option linter.unusedVariables false
set_option linter.unusedSimpArgs false
namespace Go.Proofs.YtkebjgebkneijaaGreat
section
open Go.RowKit
set_option maxHeartbeats 2000000
theorem nm_init{w:World}{A:Option Addr}{cap:Nat}{ns:List ByteArray}{nm:ByteArray}(h:NmB w (.slice A (ns.length+1) cap) (ns++[nm])): ∃g off cs,A=some ⟨g,off,none⟩/\ns.length+1<=cap/\Blk w g 9 cs/\NmB w (.slice (some ⟨g,off,none⟩) ns.length cap) ns/\w.cell? ⟨g,off+ns.length,none⟩=some (.string nm):=by
 have hl:(ns++[nm]).length=ns.length+1:=by simp
 obtain⟨A',cap',e,h2,h3⟩:=h
 injection e with e1 e2 e3
 subst e1 e3
 obtain⟨g,off,cs,rfl,h4,h5,h6⟩:=h3 (by omega)
 refine⟨g,off,cs,rfl,by omega,h5,⟨_,_,rfl,by omega,fun _=>⟨g,off,cs,rfl,h4,h5,fun i j hi hj=>?_⟩⟩,?_⟩
 ·rw[h6 i j (by omega) hj]
  unfold nmC
  simp only[List.getD_eq_getElem?_getD]
  rw[List.getElem?_append_left hi]
 ·have h7:=h6 ns.length 0 (by omega) (by omega)
  rw[Nat.mul_one,Nat.add_zero]at h7
  rw[h5.cell,h7]
  unfold nmC
  simp[List.getD_eq_getElem?_getD]
structure Mem.same (M M':Mem):Prop where
 ws:M'.ws=M.ws
 nm:M'.nm=M.nm
 ts:M'.ts.length=M.ts.length
theorem Mem.same.refl(M:Mem):M.same M:=⟨rfl,rfl,rfl⟩
theorem Mem.same.trans{M M' M'':Mem}(h:M.same M')(k:M'.same M''):M.same M'':=⟨k.ws.trans h.ws,k.nm.trans h.nm,k.ts.trans h.ts⟩
theorem Mem.same.see(M:Mem)(c i:Int):M.same (M.see c i):=by
 unfold Mem.see Mem.note
 split
 ·exact⟨rfl,rfl,rfl⟩
 ·exact⟨rfl,rfl,by simp⟩
theorem Mem.same.thing{M M':Mem}(h:M.same M')(n:Int):M'.thing n=M.thing n:=by unfold Mem.thing;rw[h.nm]
theorem Mem.same.at_{M M':Mem}(h:M.same M')(i:Int):M'.at_ i=M.at_ i:=by unfold Mem.at_;rw[h.thing,h.ws]
theorem Mem.same.bkt{M M':Mem}(h:M.same M')(n b:Int):M'.bkt n b=M.bkt n b:=by unfold Mem.bkt;rw[h.at_]
theorem Mem.same.bas{M M':Mem}(h:M.same M')(n:Int):M'.bas n=M.bas n:=by unfold Mem.bas;rw[h.at_]
theorem Mem.same.fine{M M':Mem}(h:M.same M')(i:Int):M'.fine i↔M.fine i:=by unfold Mem.fine;rw[h.thing,h.ws]
theorem Mem.same.fit{M M':Mem}(h:M.same M')(hf:M.fit):M'.fit:=by
 refine⟨fun num b h1 h2=>?_,fun num b h1 h2=>?_⟩
 ·obtain⟨⟨q1,q2⟩,q3⟩:=hf.bk num b h1 h2
  exact⟨⟨(h.fine _).2 q1,fun t ht=>q2 t (by rw[<-h.at_];exact ht)⟩,by rw[h.ws];exact q3⟩
 ·rw[h.bkt];exact hf.it num b h1 h2
theorem walkM_same(c:Int): ∀(ns:List ByteArray) (M:Mem) (it:Item),M.same (walkM c ns M it).2
 | [],M,it=>Mem.same.refl M
 | n::ns,M,it=>by
  rw[walkM]
  split
  ·exact Mem.same.refl M
  ·split
   ·exact Mem.same.see _ _ _
   ·exact(Mem.same.see _ _ _).trans (walkM_same c ns _ _)
theorem walkM_ok(c:Int): ∀(ns:List ByteArray) (M:Mem) (it:Item) (m:Nat),M.ok m->(walkM c ns M it).2.ok (m+ns.length)
 | [],M,it,m,h=>h
 | n::ns,M,it,m,h=>by
  rw[walkM]
  split
  ·exact h.mono (by simp)
  ·split
   ·exact(h.see _ _).mono (by simp only[List.length_cons];omega)
   ·have:=walkM_ok c ns (M.see c (wd it.num (nbucket n:Nat))) (by assumption) (m+1) (h.see _ _)
    rw[List.length_cons,show m+ (ns.length+1)=m+1+ns.length by omega]
    exact this
theorem walkM_num(c:Int): ∀(ns:List ByteArray) (M:Mem) (it it':Item),M.fit->(1<=it.num/\it.num<=257)->(walkM c ns M it).1= .at_ it'->1<=it'.num/\it'.num<=257
 | [],M,it,it',_,h,e=>by
  have:it=it':=by injection e
  exact this▸h
 | n::ns,M,it,it',hf,h,e=>by
  rw[walkM]at e
  split at e
  ·cases e
  ·split at e
   ·cases e
   ·rename_i i hi
    refine walkM_num c ns _ i it' (hf.see _ _) ?_ e
    exact(hf.it it.num (nbucket n:Nat) h (by have:=nbucket_lt n;omega)).2 _ (List.mem_of_find?_eq_some hi)
theorem there_of_blk{W:World}{g n:Nat}{t:TypeId}{cs:Array Value}(h:Blk W g t cs)(hn:n<=cs.size):W.there g 0 n:=fun j hj=>by
 rw[Nat.zero_add,h.cell]
 refine⟨?_,h.frozen j⟩
 rw[Array.getElem?_eq_getElem (by omega)];rfl
def fillA(cs:Array Value):Nat->List Value->Array Value
 | _,[]=>cs
 | i,u::us=>fillA (cs.setIfInBounds i u) (i+1) us
theorem KI.setsC{g:Nat}{t:TypeId}: ∀(us:List Value) (i:Nat) {W:World} {cs:Array Value},Blk W g t cs-> ¬ still t->KI W (W.setCells g i us)
 | [],_,_,_,_,_=>KI.refl _
 | u::us,i,_,_,h,ht=>(KI.set h ht i u).trans (KI.setsC us (i+1) (h.set_ i u) ht)
namespace Wk
theorem setAll{L:Nat->Prop}{w:World}{s:Nat}{M:Mem}{Bs:List LB}{Rs:List RB}(hl:Bd L w){g:Nat}{t:TypeId}: ∀(us:List Value) (i:Nat) (cs:Array Value) (W:World),Wk L w s M (⟨g,t,cs⟩::Bs) Rs W->Wk L w s M (⟨g,t,fillA cs i us⟩::Bs) Rs (W.setCells g i us)
 | [],_,_,_,h=>h
 | u::us,i,cs,W,h=>setAll hl us (i+1) _ _ (h.set0 hl i u)
theorem walk_wk{L:Nat->Prop}{w W:World}{s:Nat}{M:Mem}{Bs:List LB}{Rs:List RB}{m:Nat}(h:Wk L w s M Bs Rs W)(hok:M.ok m)(hm:m<=900000000){c:Int}(hc:0<=c/\c<M.ts.length)(hf:M.fit){sp:Nat}(hL:L sp)
  (s0:w.cell? ⟨sp,0,none⟩=some (.pointer (some ⟨s,0,none⟩))) (s1:w.cell? ⟨sp,1,none⟩=some (.int .i64 c)) {v:Value} {ns:List ByteArray} (hv:NmB W v ns) (hn:ns.length<=100) {it:Item} {M1:Mem} (hw:walkM c ns M rootItem=(.at_ it,M1)):
  Calls Tryz.prog 200 #[.pointer (some ⟨sp,0,none⟩),v] W fun e w'=>(∃tn tc ta,e= .returned (.agg #[.string it.name,.int .i64 it.num,.bool it.dir,.slice ta tn tc]))/\Wk L w s M1 Bs Rs w':=
 h.callL fun K hKL _ hK=>by
  refine(walk_calls hK hok hm hc hf (hKL _ hL) (h.old hL s0) (h.old hL s1) hv hn).mono ?_
  rintro e w' ⟨h1,h2⟩
  rw[hw]at h1 h2
  exact⟨h1,h2⟩
end Wk
set_option maxRecDepth 1000000 in
theorem parent_ok{L:Nat->Prop}{w:World}{s:Nat}{M M1:Mem}{m:Nat}(h:MemAt L w s M)(hok:M.ok m)(hm:m<=800000000){c:Int}(hc:0<=c/\c<M.ts.length)(hf:M.fit)
  {sp:Nat} (hL:L sp) (s0:w.cell? ⟨sp,0,none⟩=some (.pointer (some ⟨s,0,none⟩))) (s1:w.cell? ⟨sp,1,none⟩=some (.int .i64 c)) {path:ByteArray} (hs:path.size<=4611686018427387904)
  {ns:List ByteArray} {nm:ByteArray} (hp:parseF path= .ok (ns++[nm])) (hn:ns.length<=100) {it:Item} (hw:walkM c ns M rootItem=(.at_ it,M1)) (hd:it.dir=true):
  Calls Tryz.prog 197 #[.pointer (some ⟨sp,0,none⟩),.string path] w fun e w'=>(∃tn tc ta bv,e= .returned (.agg (spotA it (.slice ta tn tc) nm (wd it.num (nbucket nm:Nat)) bv))/\ItB w' bv (M.bkt it.num (nbucket nm:Nat)))/\MemAt L w' s (M1.see c (wd it.num (nbucket nm:Nat)))/\Kp L w w':=by
 have hsame:=walkM_same c ns M rootItem
 have hok1:=walkM_ok c ns M rootItem m hok
 have hnum:=walkM_num c ns M rootItem it hf ⟨by decide,by decide⟩ (by rw[hw])
 rw[hw]at hsame hok1
 have HOK1:=lhi (show M1.ok (m+ns.length)from hok1)
 have HF1:=lhi (hsame.fit hf)
 have HTS:=lhi (show Who M1 c from .inr ⟨hc.1,by rw[hsame.ts];exact hc.2⟩)
 have HSB:=lhi (hsame.bkt it.num (nbucket nm:Nat))
 have HNB:=lhi (show(0:Int)<= (nbucket nm:Nat)/\ ((nbucket nm:Nat):Int)<8 by have:=nbucket_lt nm;omega)
 have HNU:=lhi hnum
 have HBD:=lhi h.bd
 have HL:=lhi hL
 obtain⟨p4,hp4⟩: ∃p,p=w.heap.size:=⟨_,rfl⟩
 have HW0:=lhi ((Wk.start h).allocAt h.bd #[.string ⟨#[]⟩,.int .i64 0,.bool false,.slice none 0 0,.string ⟨#[]⟩,.int .i64 0,.slice none 0 0] 278 hp4)
 have HNA:=lhi (fun W=>names_ok hs W hp)
 have HWA:=lhi (fun(W:World) (v:Value) (Bs:List LB) (hW:Wk L w s M Bs [] W) (hv:NmB W v ns)=>hW.walk_wk hok (by omega) hc hf hL s0 s1 hv hn hw)
 have HS:=lhi (show∀(M':Mem) (Bs:List LB) (W:World),Wk L w s M' Bs [] W->W.cell? ⟨sp,0,none⟩=some (.pointer (some ⟨s,0,none⟩))/\W.cell? ⟨sp,1,none⟩=some (.int .i64 c)from fun M' Bs W hW=>⟨hW.old hL s0,hW.old hL s1⟩)
 have hml:m+ns.length<=1000000000:=by omega
 have HML:=lhi hml
 have HPL:=lhi (show∀v,NmB w v (ns++[nm])->True from fun _ _=>trivial)
 clear h hok hc hf hs hp hw hsame hok1 hnum hL hml HPL
 obtain⟨inm,inu,idr⟩:=it
 obtain rfl:idr=true:=hd
 go_enter Tryz.func197,Tryz.ntmps197
 go_wp2_with (fail)
 rw[<-hp4]
 clear hp4
 generalize w.alloc (.cells #[.string ⟨#[]⟩,.int .i64 0,.bool false,.slice none 0 0,.string ⟨#[]⟩,.int .i64 0,.slice none 0 0] 278)=w1 at*
 refine(HNA.out _).mono ?_
 rintro e w2 ⟨⟨v,rfl,hv,hvq⟩,hb⟩
 obtain⟨A,cap,rfl,-,-⟩:=RowT.at' hv
 have hvl:(ns++[nm]).length=ns.length+1:=by simp
 rw[hvl]at hv hvq⊢
 obtain⟨g,off,cs,rfl,hcap,hblk,hinit,hlast⟩:=nm_init hv
 have HINIT:=lhi hinit
 have HW2:=lhi (HW0.out.adopt HBD.out hb hblk (hvq g ⟨_,_,_,rfl⟩))
 have HCS:=lhi (show cs[off+ns.length]? =some (.string nm)by rw[<-hblk.cell];exact hlast)
 clear hv hvq hb hinit hblk hlast hvl HNA HW0
 obtain⟨k,hk⟩: ∃k,ns.length=k:=⟨_,rfl⟩
 rw[hk]at HINIT HCS hcap hn HOK1 HML⊢
 have e0:(((k+1:Nat):Int)==0)=false:=by rw[beq_eq_false_iff_ne];omega
 go_wp2_with (go_at_call 199;refine(throw_no _ _).mono ?_;rintro e w' ⟨rfl,rfl⟩)
 refine(HWA.out _ _ _ HW2.out HINIT.out).mono ?_
 rintro e w3 ⟨⟨tn,tc,ta,rfl⟩,hW3⟩
 obtain⟨p7,hp7⟩: ∃p,p=w3.heap.size:=⟨_,rfl⟩
 have HW4:=lhi ((hW3.allocAt HBD.out #[.string inm,.int .i64 inu,.bool true,.slice ta tn tc] 276 hp7).permB (Bs':=[⟨p4,278,#[.string ⟨#[]⟩,.int .i64 0,.bool false,.slice none 0 0,.string ⟨#[]⟩,.int .i64 0,.slice none 0 0]⟩,⟨p7,276,#[.string inm,.int .i64 inu,.bool true,.slice ta tn tc]⟩,⟨g,9,cs⟩]) (by
  refine(List.Perm.cons _ (List.Perm.swap ..)).trans (List.Perm.swap ..)))
 have b1:(w3.alloc (.cells #[.string inm,.int .i64 inu,.bool true,.slice ta tn tc] 276)).cell? ⟨g,off+k,none⟩=some (.string nm):=((HW4.out.bk (.tail _ (.tail _ (.head _)))).cell _).trans HCS.out
 clear hW3 HW2 HWA HINIT
 go_upto_region 7 with(first
  | (go_at_call 199;refine(throw_no _ _).mono ?_;rintro e w' ⟨rfl,rfl⟩)
  | (go_at_call 62;refine(bucket_calls nm _).mono ?_;rintro e w4 ⟨rfl,hb4⟩;have HW5:=lhi (HW4.out.below hb4 HBD.out);clear hb4))
 rw[<-hp7]
 clear hp7 b1
 have HS2:=lhi (show∀(M':Mem) (W:World) (x:LB),Wk L w s M' [x,⟨p7,276,#[.string inm,.int .i64 inu,.bool true,.slice ta tn tc]⟩,⟨g,9,cs⟩] [] W->(W.cell? ⟨p7,0,none⟩=some (.string inm)/\W.cell? ⟨p7,1,none⟩=some (.int .i64 inu)/\W.cell? ⟨p7,2,none⟩=some (.bool true)/\W.cell? ⟨p7,3,none⟩=some (.slice ta tn tc)/\W.cell? ⟨g,off+k,none⟩=some (.string nm)/\W.cell? ⟨sp,0,none⟩=some (.pointer (some ⟨s,0,none⟩))/\W.cell? ⟨sp,1,none⟩=some (.int .i64 c))from fun M' W x hW=>by
  have h1:=hW.bk (.tail _ (.head _))
  have h2:=hW.bk (.tail _ (.tail _ (.head _)))
  obtain⟨h3,h4⟩:=HS.out _ _ _ hW
  exact⟨h1.cell 0,h1.cell 1,h1.cell 2,h1.cell 3,(h2.cell _).trans HCS.out,h3,h4⟩)
 have H0:=lhi HW5.out.drew
 have HWD:=lhi (fun W=>word_calls inu (nbucket nm:Nat) (by have h:1<=inu/\inu<=257:=HNU.out;omega) (by have:=HNB.out;omega) W)
 clear HS
 have hk0:(0:Int)<= (k:Int):=by omega
 have hk1:(k:Int)< ((k+1:Nat):Int):=by omega
 have hk2:(k:Int)< (k:Int)+1:=by omega
 have hk3:k<k+1:=by omega
 refine wp_region_held_drew (S:=fun w'=>(w'.cell? ⟨p7,0,none⟩=some (.string inm)/\w'.cell? ⟨p7,1,none⟩=some (.int .i64 inu)/\w'.cell? ⟨p7,2,none⟩=some (.bool true)/\w'.cell? ⟨p7,3,none⟩=some (.slice ta tn tc)/\w'.cell? ⟨g,off+k,none⟩=some (.string nm)/\w'.cell? ⟨sp,0,none⟩=some (.pointer (some ⟨s,0,none⟩))/\w'.cell? ⟨sp,1,none⟩=some (.int .i64 c))) (by kernel_rfl) (HS2.out _ _ _ H0.out) (fun hHeld=>?_)
 refine wpAnyH_take (i:=0) (oi:=⟨some 33,_,_,_,_,_⟩) (v:=.agg #[.string inm,.int .i64 inu,.bool true,.slice ta tn tc]) rfl (by kernel_rfl) (by kernel_rfl) (by kernel_rfl) (fun _ _ _ h=>h) (Or.inl ⟨by kernel_rfl,fun w hSw=>by go_simp⟩) (by assumption) ?_
 simp only[Act.put,lTA,lC0,lCS]
 refine wpAnyH_take (i:=1) (oi:=⟨some 34,_,_,_,_,_⟩) (v:=.slice (some ⟨g,off,none⟩) (k+1) cap) rfl (by kernel_rfl) (by kernel_rfl) (by kernel_rfl) (fun _ _ _ h=>h) (Or.inl ⟨by kernel_rfl,fun w hSw=>by go_simp⟩) (by assumption) ?_
 simp only[Act.put,lTA,lC0,lCS]
 refine wpAnyH_take (i:=2) (oi:=⟨some 35,_,_,_,_,_⟩) (v:=.int .i64 (k:Int)) rfl (by kernel_rfl) (by kernel_rfl) (by kernel_rfl) (fun _ _ _ h=>h) (Or.inl ⟨by kernel_rfl,fun w hSw=>by go_simp⟩) (by assumption) ?_
 simp only[Act.put,lTA,lC0,lCS]
 refine wpAnyH_take (i:=3) (oi:=⟨some 36,_,_,_,_,_⟩) (v:=.pointer (some ⟨g,off+k,none⟩)) rfl (by kernel_rfl) (by kernel_rfl) (by kernel_rfl) (fun _ _ _ h=>h) (Or.inl ⟨by kernel_rfl,fun w hSw=>by go_simp⟩) (by assumption) ?_
 simp only[Act.put,lTA,lC0,lCS]
 refine wpAnyH_take (i:=4) (oi:=⟨some 37,_,_,_,_,_⟩) (v:=.string nm) rfl (by kernel_rfl) (by kernel_rfl) (by kernel_rfl) (fun _ _ _ h=>h) (Or.inl ⟨by kernel_rfl,fun w hSw=>by go_simp⟩) (by assumption) ?_
 simp only[Act.put,lTA,lC0,lCS]
 refine wpAnyH_take (i:=5) (oi:=⟨some 38,_,_,_,_,_⟩) (v:=.pointer (some ⟨p7,0,none⟩)) rfl (by kernel_rfl) (by kernel_rfl) (by kernel_rfl) (fun _ _ _ h=>h) (Or.inl ⟨by kernel_rfl,fun w hSw=>by go_simp⟩) (by assumption) ?_
 simp only[Act.put,lTA,lC0,lCS]
 refine wpAnyH_take (i:=6) (oi:=⟨some 39,_,_,_,_,_⟩) (v:=.pointer (some ⟨p7,1,none⟩)) rfl (by kernel_rfl) (by kernel_rfl) (by kernel_rfl) (fun _ _ _ h=>h) (Or.inl ⟨by kernel_rfl,fun w hSw=>by go_simp⟩) (by assumption) ?_
 simp only[Act.put,lTA,lC0,lCS]
 refine wpAnyH_take (i:=7) (oi:=⟨some 40,_,_,_,_,_⟩) (v:=.int .i64 inu) rfl (by kernel_rfl) (by kernel_rfl) (by kernel_rfl) (fun _ _ _ h=>h) (Or.inl ⟨by kernel_rfl,fun w hSw=>by go_simp⟩) (by assumption) ?_
 simp only[Act.put,lTA,lC0,lCS]
 refine wpAnyH_take (i:=8) (oi:=⟨some 41,_,_,_,_,_⟩) (v:=.int .i64 (nbucket nm:Nat)) rfl (by kernel_rfl) (by kernel_rfl) (by kernel_rfl) (fun _ _ _ h=>h) (Or.inl ⟨by kernel_rfl,fun w hSw=>by go_simp⟩) (by assumption) ?_
 simp only[Act.put,lTA,lC0,lCS]
 refine wpAnyH_take (i:=10) (oi:=⟨some 43,_,_,_,_,_⟩) (v:=.pointer (some ⟨sp,0,none⟩)) rfl (by kernel_rfl) (by kernel_rfl) (by kernel_rfl) (fun _ _ _ h=>h) (Or.inl ⟨by kernel_rfl,fun w hSw=>by go_simp⟩) (by assumption) ?_
 simp only[Act.put,lTA,lC0,lCS]
 refine wpAnyH_take (i:=11) (oi:=⟨some 44,_,_,_,_,_⟩) (v:=.pointer (some ⟨sp,0,none⟩)) rfl (by kernel_rfl) (by kernel_rfl) (by kernel_rfl) (fun _ _ _ h=>h) (Or.inl ⟨by kernel_rfl,fun w hSw=>by go_simp⟩) (by assumption) ?_
 simp only[Act.put,lTA,lC0,lCS]
 refine wpAnyH_take (i:=12) (oi:=⟨some 45,_,_,_,_,_⟩) (v:=.pointer (some ⟨sp,0,none⟩)) rfl (by kernel_rfl) (by kernel_rfl) (by kernel_rfl) (fun _ _ _ h=>h) (Or.inl ⟨by kernel_rfl,fun w hSw=>by go_simp⟩) (by assumption) ?_
 simp only[Act.put,lTA,lC0,lCS]
 refine wpAnyH_take (i:=13) (oi:=⟨some 46,_,_,_,_,_⟩) (v:=.agg #[.pointer (some ⟨s,0,none⟩),.int .i64 c]) rfl (by kernel_rfl) (by kernel_rfl) (by kernel_rfl) (fun _ _ _ h=>h) (Or.inl ⟨by kernel_rfl,fun w hSw=>by go_simp⟩) (by assumption) ?_
 simp only[Act.put,lTA,lC0,lCS]
 refine wpAnyH_take (i:=14) (oi:=⟨some 47,_,_,_,_,_⟩) (v:=.pointer (some ⟨p7,0,none⟩)) rfl (by kernel_rfl) (by kernel_rfl) (by kernel_rfl) (fun _ _ _ h=>h) (Or.inl ⟨by kernel_rfl,fun w hSw=>by go_simp⟩) (by assumption) ?_
 simp only[Act.put,lTA,lC0,lCS]
 refine wpAnyH_take (i:=15) (oi:=⟨some 48,_,_,_,_,_⟩) (v:=.pointer (some ⟨p7,1,none⟩)) rfl (by kernel_rfl) (by kernel_rfl) (by kernel_rfl) (fun _ _ _ h=>h) (Or.inl ⟨by kernel_rfl,fun w hSw=>by go_simp⟩) (by assumption) ?_
 simp only[Act.put,lTA,lC0,lCS]
 refine wpAnyH_take (i:=16) (oi:=⟨some 49,_,_,_,_,_⟩) (v:=.int .i64 inu) rfl (by kernel_rfl) (by kernel_rfl) (by kernel_rfl) (fun _ _ _ h=>h) (Or.inl ⟨by kernel_rfl,fun w hSw=>by go_simp⟩) (by assumption) ?_
 simp only[Act.put,lTA,lC0,lCS]
 refine wpAnyH_take (i:=17) (oi:=⟨some 50,_,_,_,_,_⟩) (v:=.int .i64 (nbucket nm:Nat)) rfl (by kernel_rfl) (by kernel_rfl) (by kernel_rfl) (fun _ _ _ h=>h) (Or.inl ⟨by kernel_rfl,fun w hSw=>by go_simp⟩) (by assumption) ?_
 simp only[Act.put,lTA,lC0,lCS]
 refine wpAnyH_ready (rs:=[9]) (by kernel_rfl) (by simp) ?_
 refine AllReadyH.cons rfl (fun K hK=>?_) AllReadyH.nil
 go_simp
 refine(HWD.out _).mono ?_
 rintro e w' ⟨rfl,rfl⟩
 show K _ _
 refine hK.out _ _ (hHeld) (fun hHeld=>?_)
 clear hK K
 refine wpAnyH_ready (rs:=[18]) (by kernel_rfl) (by simp) ?_
 refine AllReadyH.cons rfl (fun K hK=>?_) AllReadyH.nil
 go_simp
 refine(Wk.bucket_wk H0.out HOK1.out HML.out HTS.out HNU.out HNB.out HF1.out).mono ?_
 rintro e w5 ⟨⟨bv,rfl,hbv⟩,hq⟩
 have HQ:=lhi hq
 have HBV:=lhi hbv
 obtain⟨BA,bcap,rfl,-,-⟩:=RowT.at' hbv
 clear hq hbv
 obtain⟨bn,hbn⟩: ∃n,(M1.bkt inu (nbucket nm:Nat)).length=n:=⟨_,rfl⟩
 have HBN:=lhi hbn
 rw[hbn]at HBV
 rw[hbn]
 clear hbn
 show K _ _
 refine hK.out _ _ (HS2.out _ _ _ HQ.out) (fun hHeld=>?_)
 clear hK K
 refine wpAnyH_take (i:=19) (oi:=⟨some 52,_,_,_,_,_⟩) (v:=.agg #[.string inm,.int .i64 inu,.bool true,.slice ta tn tc,.string nm,.int .i64 (wd inu (nbucket nm:Nat)),.slice BA bn bcap]) rfl (by kernel_rfl) (by kernel_rfl) (by kernel_rfl) (fun _ _ _ h=>h) (Or.inl ⟨by kernel_rfl,fun w hSw=>by go_simp⟩) (by assumption) ?_
 simp only[Act.put,lTA,lC0,lCS]
 refine wpAnyH_ready (rs:=[20]) (by kernel_rfl) (by simp) ?_
 refine AllReadyH.cons rfl (fun K hK=>?_) AllReadyH.nil
 rw[if_pos (by kernel_rfl)]
 refine wp_store_mid 278 (.tmp 4) (.tmp 52) rfl p4 0 #[.string inm,.int .i64 inu,.bool true,.slice ta tn tc,.string nm,.int .i64 (wd inu (nbucket nm:Nat)),.slice BA bn bcap] rfl rfl (there_of_blk (HQ.out.bk (.head _)) (Nat.le_refl 7)) (by kernel_rfl) (by simp[Value.oneCell']) ?_
 have HQF:=lhi (show Wk L w s (M1.see c (wd inu (nbucket nm:Nat))) [⟨p4,278,fillA #[.string ⟨#[]⟩,.int .i64 0,.bool false,.slice none 0 0,.string ⟨#[]⟩,.int .i64 0,.slice none 0 0] 0 [.string inm,.int .i64 inu,.bool true,.slice ta tn tc,.string nm,.int .i64 (wd inu (nbucket nm:Nat)),.slice BA bn bcap]⟩,⟨p7,276,#[.string inm,.int .i64 inu,.bool true,.slice ta tn tc]⟩,⟨g,9,cs⟩] [] (w5.setCells p4 0 [.string inm,.int .i64 inu,.bool true,.slice ta tn tc,.string nm,.int .i64 (wd inu (nbucket nm:Nat)),.slice BA bn bcap])from Wk.setAll HBD.out [.string inm,.int .i64 inu,.bool true,.slice ta tn tc,.string nm,.int .i64 (wd inu (nbucket nm:Nat)),.slice BA bn bcap] 0 _ _ HQ.out)
 show K _ _
 refine hK.out _ _ (HS2.out _ _ _ HQF.out) (fun hHeld=>?_)
 clear hK K
 refine wpAnyH_done (by kernel_rfl) ?_ _
 go_wp2_with (fail)
 have hki:=KI.setsC (t:=278) [.string inm,.int .i64 inu,.bool true,.slice ta tn tc,.string nm,.int .i64 (wd inu (nbucket nm:Nat)),.slice BA bn bcap] 0 (HQ.out.bk (.head _)) (by unfold still;decide)
 have hb:=HQF.out.bk (.head _)
 have c0:=hb.cell 0
 have c1:=hb.cell 1
 have c2:=hb.cell 2
 have c3:=hb.cell 3
 have c4:=hb.cell 4
 have c5:=hb.cell 5
 have c6:=hb.cell 6
 simp[fillA]at c0 c1 c2 c3 c4 c5 c6
 have hbv:=HSB.out▸HBV.out.ki hki
 refine bodyPost_ret (v:=.agg #[.string inm,.int .i64 inu,.bool true,.slice ta tn tc,.string nm,.int .i64 (wd inu (nbucket nm:Nat)),.slice BA bn bcap]) (by simp[results,Tryz.results197,go_sem,c0,c1,c2,c3,c4,c5,c6]) rfl ⟨⟨tn,tc,ta,_,rfl,hbv⟩,HQF.out.mem,HQF.out.kp⟩
end
section
open Go.RowKit
set_option maxHeartbeats 2000000
theorem num_in(c n:Int)(hc:0<=c/\c<8)(hn:0<=n/\n<1000)(w:World):Calls Tryz.prog 118 #[.int .i64 c,.int .i64 n] w fun e w'=>e= .returned (.int .i64 (2+c+8*n))/\w=w':=by
 obtain⟨h1,h2⟩:=hc
 obtain⟨h3,h4⟩:=hn
 go_enter Tryz.func118,Tryz.ntmps118
 go_wp2
 go_ret
 exact⟨rfl,rfl⟩
theorem load_v'{L:Nat->Prop}{w:World}{s:Nat}{M:Mem}{m:Nat}(h:MemAt L w s M)(hok:M.ok m)(hm:m<=1000000000){c i:Int}(hc:Who M c)(hi:0<=i/\i<9549){r:Int}(hr:rd M.ws i=r):
  Calls Tryz.prog 180 #[.agg #[.pointer (some ⟨s,0,none⟩),.int .i64 c],.int .i64 i] w fun e w'=>e= .returned (.int .i64 r)/\MemAt L w' s (M.see c i)/\Kp L w w':=hr▸load_v h hok hm hc hi
namespace Wk
variable{L:Nat->Prop}{w W W':World}{s:Nat}{M M':Mem}{Bs:List LB}{Rs:List RB}{m:Nat}
theorem store_wk(h:Wk L w s M Bs Rs W)(hok:M.ok m)(hm:m<=1000000000){c i v:Int}(hc:0<=c/\c<M.ts.length)(hi:0<=i/\i<9549){a:Nat}(ha:W.cell? ⟨s,0,none⟩=some (.pointer (some ⟨a,0,none⟩))):
  Calls Tryz.prog 163 #[.pointer (some ⟨a,0,none⟩),.int .i64 c,.int .i64 i,.int .i64 v] W fun e w'=>(e= .returned (.int .i64 0)/\w'.cell? ⟨s,0,none⟩=W.cell? ⟨s,0,none⟩)/\Wk L w s ((M.put i v).note c (i,true)) Bs Rs w':=
 h.call fun K hK=>store_m hK hok hm hc hi ha
theorem arena(h:Wk L w s M Bs Rs W): ∃a,W.cell? ⟨s,0,none⟩=some (.pointer (some ⟨a,0,none⟩)):=by
 obtain⟨a,L1,h0,-⟩:=h.mem.lend
 exact⟨a,h0⟩
theorem callKI(h:Wk L w s M Bs Rs W){P:FuncId}{args:Array Value}{R:Ending->Prop}
  (hc: ∀K,MemAt K W s M->Calls Tryz.prog P args W fun e w'=>R e/\MemAt K w' s M'/\Kp K W w'):
  Calls Tryz.prog P args W fun e w'=>R e/\Wk L w s M' Bs Rs w'/\KI W w':=by
 refine(h.call (R:=fun e w'=>R e/\KI W w') fun K hK=>(hc K hK).mono fun e w' ⟨h1,h2,h3⟩=>⟨⟨h1,h3.i⟩,h2,h3⟩).mono ?_
 rintro e w' ⟨⟨h1,h2⟩,h3⟩
 exact⟨h1,h3,h2⟩
theorem set_wk{W0:World}(h:Wk L w s M Bs Rs W0)(hl:Bd L w)(hb:Below W0.heap.size W0 W)(hok:M.ok m)(hm:m<=900000000){c i:Int}(hc:0<=c/\c<M.ts.length)(hi:0<=i/\i<9549){sp:Nat}(hL:L sp)(s0:w.cell? ⟨sp,0,none⟩=some (.pointer (some ⟨s,0,none⟩)))(s1:w.cell? ⟨sp,1,none⟩=some (.int .i64 c))
  {sv:Value} {l:List Item} (hi2:ItB W sv l) (hn: ∀q,svBlk sv q->W0.heap.size<=q):
  Calls Tryz.prog 195 #[.pointer (some ⟨sp,0,none⟩),.int .i64 i,.iface 129 sv] W fun e w'=>e= .returned (.tuple #[])/\Wk L w s (M.setW c i (.bucket l)) Bs Rs w':=
 h.callNew hl hb fun K hKL hKB hK=>set_calls hK hok hm hc hi (hKL _ hL) ((h.below hb hl).old hL s0) ((h.below hb hl).old hL s1) ⟨sv,rfl,hi2,fun _ q hq hk=>absurd (hKB q hk) (by have:=hn q hq;omega)⟩
end Wk
def createM(M:Mem)(c:Int)(it:Item)(nm:ByteArray)(kind n:Int):Mem:=
 let b:Int:=(nbucket nm:Nat)
 let num:=2+c+8*n
 let M1:=M.see c (mdw c)
 let M2:=(M1.put (mdw c) (n+1)).note c (mdw c,true)
 let M3:=M2.setW c (wd it.num b) (.bucket (M.bkt it.num b++[⟨nm,num,kind==1⟩]))
 if kind=0 then(M3.put (wd num (8+c)) 1).note c (wd num (8+c),true)else M3
theorem rd_wr_other'{ws:List Int}{i j v:Int}(h:j.toNat≠i.toNat):rd (wr ws i v) j=rd ws j:=by
 unfold rd wr
 simp[List.getD,Ne.symm h]
set_option maxRecDepth 1000000 in
theorem create_ok{L:Nat->Prop}{w:World}{s:Nat}{M M1:Mem}{m:Nat}(h:MemAt L w s M)(hok:M.ok m)(hm:m<=700000000){c:Int}(hc:0<=c/\c<M.ts.length)(hf:M.fit)
  {sp:Nat} (hL:L sp) (s0:w.cell? ⟨sp,0,none⟩=some (.pointer (some ⟨s,0,none⟩))) (s1:w.cell? ⟨sp,1,none⟩=some (.int .i64 c)) {kind:Int} (s2:w.cell? ⟨sp,2,none⟩=some (.int .i64 kind)) (hkind:kind=0∨kind=1) {path:ByteArray} (s7:w.cell? ⟨sp,7,none⟩=some (.string path)) (hs:path.size<=4611686018427387904)
  {ns:List ByteArray} {nm:ByteArray} (hp:parseF path= .ok (ns++[nm])) (hn:ns.length<=100) {it:Item} (hw:walkM c ns M rootItem=(.at_ it,M1)) (hd:it.dir=true) (hfr:freshC (M.bkt it.num (nbucket nm:Nat)) nm=0)
  {n:Int} (hmade:rd M.ws (mdw c)=n) (hn0:0<=n/\n<32):
  Calls Tryz.prog 160 #[.pointer (some ⟨sp,0,none⟩)] w fun e w'=>e= .returned (.tuple #[])/\MemAt L w' s (createM (M1.see c (wd it.num (nbucket nm:Nat))) c it nm kind n)/\Kp L w w':=by
 have hsame:=walkM_same c ns M rootItem
 have hok1:=walkM_ok c ns M rootItem m hok
 have hnum:=walkM_num c ns M rootItem it hf ⟨by decide,by decide⟩ (by rw[hw])
 rw[hw]at hsame hok1
 have hts8:=h.tsl
 have HPA:=lhi (parent_ok h hok (by omega) hc hf hL s0 s1 hs hp hn hw hd)
 have HBD:=lhi h.bd
 have HL:=lhi hL
 obtain⟨inm,inu,idr⟩:=it
 obtain rfl:idr=true:=hd
 have hnum:1<=inu/\inu<=257:=hnum
 have hnum0:=hnum
 obtain⟨M2,hM2⟩: ∃X,M1.see c (wd inu (nbucket nm:Nat))=X:=⟨_,rfl⟩
 have hsame2:M.same M2:=hM2▸hsame.trans (Mem.same.see _ _ _)
 have hok2:M2.ok (m+ns.length+1):=hM2▸hok1.see _ _
 obtain⟨l,hl⟩: ∃X,M.bkt inu (nbucket nm:Nat)=X:=⟨_,rfl⟩
 have hl2:M2.bkt inu (nbucket nm:Nat)=l:=by rw[hsame2.bkt,hl]
 have hll:l.length<=1000:=hl▸(hf.it inu (nbucket nm:Nat) hnum (by have:=nbucket_lt nm;omega)).1
 rw[hl]at hfr
 have HPA:=lhi (show Calls Tryz.prog 197 #[.pointer (some ⟨sp,0,none⟩),.string path] w fun e w'=>(∃tn tc ta bv,e= .returned (.agg #[.string inm,.int .i64 inu,.bool true,.slice ta tn tc,.string nm,.int .i64 (wd inu (nbucket nm:Nat)),bv])/\ItB w' bv l)/\MemAt L w' s M2/\Kp L w w' by have:=HPA.out;rw[hl,hM2]at this;exact this)
 have HOK2:=lhi hok2
 have HC2:=lhi (show 0<=c/\c<M2.ts.length by rw[hsame2.ts];exact hc)
 have HNB:=lhi (show(0:Int)<= (nbucket nm:Nat)/\ ((nbucket nm:Nat):Int)<8 by have:=nbucket_lt nm;omega)
 have HMD:=lhi (show rd M2.ws (mdw c)=n by rw[hsame2.ws];exact hmade)
 have HFR:=lhi hfr
 have HLL:=lhi hll
 have HCR:=lhi (show createM M2 c ⟨inm,inu,true⟩ nm kind n=(let M4:=(((M2.see c (mdw c)).put (mdw c) (n+1)).note c (mdw c,true)).setW c (wd inu (nbucket nm:Nat)) (.bucket (l++[⟨nm,2+c+8*n,kind==1⟩]));if kind=0 then(M4.put (wd (2+c+8*n) (8+c)) 1).note c (wd (2+c+8*n) (8+c),true)else M4)by rw[<-hl2];rfl)
 rw[hM2]
 have hc8:0<=c/\c<8:=⟨hc.1,by omega⟩
 obtain⟨hc0,hc1⟩:=hc8
 have hmn:m+ns.length+100<=800000000:=by omega
 obtain⟨mm,hmm⟩: ∃y,m+ns.length=y:=⟨_,rfl⟩
 rw[hmm]at HOK2 hmn
 clear h hok hc hf hp hw hsame hok1 hsame2 hok2 hM2 hl2 hl hfr hll hmade hs hmm hts8
 go_enter Tryz.func160,Tryz.ntmps160
 go_upto_region 2 with(first
  | (go_at_call 197;refine HPA.out.mono ?_;rintro e w1 ⟨⟨tn,tc,ta,bv,rfl,hbv⟩,hM,hK⟩;have HM:=lhi hM;have HK:=lhi hK;have HBV:=lhi hbv;obtain⟨BA,bcap,rfl,-,-⟩:=RowT.at' hbv;clear hM hK hbv;obtain⟨bn,hbn⟩: ∃y,l.length=y:=⟨_,rfl⟩;have HBN:=lhi hbn;rw[hbn]at HBV HLL;rw[hbn];clear hbn)
  | (go_at_call 198;refine(fresh_ok (it:=⟨inm,inu,true⟩) (show Blk (w1.alloc (.cells #[.string inm,.int .i64 inu,.bool true,.slice ta tn tc,.string nm,.int .i64 (wd inu (nbucket nm:Nat)),.slice BA bn bcap] 278)) w1.heap.size 278 #[.string inm,.int .i64 inu,.bool true,.slice ta tn tc,.string nm,.int .i64 (wd inu (nbucket nm:Nat)),.slice BA bn bcap]from Blk.new _ _ _) (HBV.out.ki (KI.below (below_alloc _ _))) (by rw[HBN.out];exact HLL.out) HFR.out).mono ?_;rintro e w2 ⟨rfl,hb2⟩;have HB2:=lhi hb2;clear hb2))
 obtain⟨p2,hp2⟩: ∃p,p=w1.heap.size:=⟨_,rfl⟩
 have HW2:=lhi (((Wk.start HM.out).allocAt HM.out.bd #[.string inm,.int .i64 inu,.bool true,.slice ta tn tc,.string nm,.int .i64 (wd inu (nbucket nm:Nat)),.slice BA bn bcap] 278 hp2).below HB2.out HM.out.bd)
 have HBV2:=lhi (show ItB w2 (.slice BA bn bcap) l from(HBV.out.ki (KI.below (below_alloc _ _))).ki (KI.below HB2.out))
 have HBD1:=lhi HM.out.bd
 rw[<-hp2]
 have t0:=HK.out.cellOf (p:=⟨sp,0,none⟩) HL.out s0
 have t1:=HK.out.cellOf (p:=⟨sp,1,none⟩) HL.out s1
 have t2:=HK.out.cellOf (p:=⟨sp,2,none⟩) HL.out s2
 have HS:=lhi (show∀(M':Mem) (W:World),Wk L w1 s M' [⟨p2,278,#[.string inm,.int .i64 inu,.bool true,.slice ta tn tc,.string nm,.int .i64 (wd inu (nbucket nm:Nat)),.slice BA bn bcap]⟩] [] W->(W.cell? ⟨sp,0,none⟩=some (.pointer (some ⟨s,0,none⟩))/\W.cell? ⟨sp,1,none⟩=some (.int .i64 c)/\W.cell? ⟨sp,2,none⟩=some (.int .i64 kind)/\W.cell? ⟨p2,4,none⟩=some (.string nm)/\W.cell? ⟨p2,5,none⟩=some (.int .i64 (wd inu (nbucket nm:Nat)))/\W.cell? ⟨p2,6,none⟩=some (.slice BA bn bcap))from fun M' W hW=>by
  have h1:=hW.bk (.head _)
  exact⟨hW.old HL.out t0,hW.old HL.out t1,hW.old HL.out t2,h1.cell 4,h1.cell 5,h1.cell 6⟩)
 have HT0:=lhi t0
 have HT1:=lhi t1
 clear hp2 HM HB2 HBV s0 s1 s2 s7 t0 t1 t2 HPA HFR
 have H0:=lhi HW2.out.drew
 have HWH:=lhi (show Who M2 c from .inr HC2.out)
 have HMI:=lhi (show 0<=mdw c/\mdw c<9549 by unfold mdw;omega)
 go_cut [3] (fun s3 wx=>s3= .int .i64 n/\Wk L w1 s (M2.see c (mdw c)) [⟨p2,278,#[.string inm,.int .i64 inu,.bool true,.slice ta tn tc,.string nm,.int .i64 (wd inu (nbucket nm:Nat)),.slice BA bn bcap]⟩] [] wx/\KI w2 wx)
 case first=>
  go_region_held3 (fun w'=>(w'.cell? ⟨sp,0,none⟩=some (.pointer (some ⟨s,0,none⟩))/\w'.cell? ⟨sp,1,none⟩=some (.int .i64 c)/\w'.cell? ⟨sp,2,none⟩=some (.int .i64 kind)/\w'.cell? ⟨p2,4,none⟩=some (.string nm)/\w'.cell? ⟨p2,5,none⟩=some (.int .i64 (wd inu (nbucket nm:Nat)))/\w'.cell? ⟨p2,6,none⟩=some (.slice BA bn bcap)))
   (with_reducible first | exact HS.out _ _ H0.out | exact HS.out _ _ HQ.out)
   ((first
    | (go_at_call 69;refine(mfmade_calls c (by omega) _).mono ?_;rintro e w' ⟨rfl,rfl⟩)
    | (go_at_call 180;refine(H0.out.callKI (fun K hK=>load_v' hK HOK2.out (by omega) HWH.out HMI.out HMD.out)).mono ?_;rintro e wv1 ⟨rfl,hq,hki⟩;have HQ:=lhi hq;have HKI:=lhi hki;clear hq hki)))
  all_goals
   go_wp2_with (fail)
   go_meet
   case rel=>exact⟨rfl,HQ.out,HKI.out⟩
 case rest=>
  obtain⟨rfl,hq,hki⟩:=hcut
  have HQ:=lhi hq
  have HBV3:=lhi (HBV2.out.ki hki)
  obtain⟨r0,r1,r2,r3,r4,r5⟩:=HS.out _ _ hq
  obtain⟨a,ra⟩:=hq.arena
  have HRA:=lhi ra
  have hd32:decide ((32:Int)<=n)=false:=by simp;omega
  obtain⟨Ma,hMa⟩: ∃X,M2.see c (mdw c)=X:=⟨_,rfl⟩
  have HMA:=lhi hMa
  have HOKA:=lhi (show Ma.ok (mm+2)from hMa▸HOK2.out.see _ _)
  have HCA:=lhi (show 0<=c/\c<Ma.ts.length by rw[<-hMa,(Mem.same.see M2 _ _).ts];exact HC2.out)
  rw[hMa]at HQ
  obtain⟨num,hnum⟩: ∃x,2+c+8*n=x:=⟨_,rfl⟩
  have HNUM:=lhi hnum
  have hnb:2<=num/\num<=257:=by omega
  rw[hnum]at HCR
  have HNI:=lhi (fun W=>hnum▸num_in c n ⟨hc0,hc1⟩ ⟨hn0.1,by omega⟩ W)
  clear hq hki H0 HW2 HBV2 hMa hnum
  obtain⟨wb,hwb⟩: ∃x:World,x=wc:=⟨_,rfl⟩
  subst hwb
  go_upto_region 5 with(first
   | (go_at_call 199;refine(throw_no _ _).mono ?_;rintro e w' ⟨rfl,rfl⟩)
   | (go_at_call 118;refine(HNI.out _).mono ?_;rintro e w' ⟨rfl,rfl⟩))
  have H0:=lhi HQ.out.drew
  have HZC:=lhi (show(wb.drew.cell? ⟨sp,0,none⟩=some (.pointer (some ⟨s,0,none⟩))/\wb.drew.cell? ⟨sp,1,none⟩=some (.int .i64 c)/\wb.drew.cell? ⟨s,0,none⟩=some (.pointer (some ⟨a,0,none⟩)))from⟨r0,r1,ra⟩)
  have e1:IntKind.i64.wrap (n+1)=n+1:=IntWalk.i64_in _ (by omega)
  clear r0 r1 r2 r3 r4 r5 ra
  obtain⟨Mb,hMb⟩: ∃X,(Ma.put (mdw c) (n+1)).note c (mdw c,true)=X:=⟨_,rfl⟩
  have HMB:=lhi hMb
  have HST:=lhi (show Calls Tryz.prog 163 #[.pointer (some ⟨a,0,none⟩),.int .i64 c,.int .i64 (mdw c),.int .i64 (n+1)] wb.drew fun e w'=>((e= .returned (.int .i64 0)/\w'.cell? ⟨s,0,none⟩=wb.drew.cell? ⟨s,0,none⟩)/\KI wb.drew w')/\Wk L w1 s Mb [⟨p2,278,#[.string inm,.int .i64 inu,.bool true,.slice ta tn tc,.string nm,.int .i64 (wd inu (nbucket nm:Nat)),.slice BA bn bcap]⟩] [] w' by
   rw[<-hMb]
   exact H0.out.call (R:=fun e w'=>(e= .returned (.int .i64 0)/\w'.cell? ⟨s,0,none⟩=wb.drew.cell? ⟨s,0,none⟩)/\KI wb.drew w') fun K hK=>(store_m hK HOKA.out (by omega) HCA.out HMI.out HRA.out).mono fun e w' ⟨h1,h2,h3⟩=>⟨⟨h1,h3.i⟩,h2,h3⟩)
  have HOKB:=lhi (show Mb.ok (mm+3)from hMb▸(HOKA.out.put _ _).note _ _)
  have HCB:=lhi (show 0<=c/\c<Mb.ts.length by rw[<-hMb];simp only[Mem.note,Mem.put,noted_length];exact HCA.out)
  clear hMb
  go_cut [4] (fun s4 wx=>s4= .int .i64 num/\Wk L w1 s Mb [⟨p2,278,#[.string inm,.int .i64 inu,.bool true,.slice ta tn tc,.string nm,.int .i64 (wd inu (nbucket nm:Nat)),.slice BA bn bcap]⟩] [] wx/\KI wb wx)
  case first=>
   go_region_held3 (fun w'=>(w'.cell? ⟨sp,0,none⟩=some (.pointer (some ⟨s,0,none⟩))/\w'.cell? ⟨sp,1,none⟩=some (.int .i64 c)/\w'.cell? ⟨s,0,none⟩=some (.pointer (some ⟨a,0,none⟩))))
    (with_reducible first | exact HZC.out | exact⟨z0,z1,z2⟩)
    ((first
     | (go_at_call 69;refine(mfmade_calls c (by omega) _).mono ?_;rintro e w' ⟨rfl,rfl⟩)
     | (go_at_call 163;refine HST.out.mono ?_;rintro e wv1 ⟨⟨⟨rfl,hc0'⟩,hki⟩,hq⟩;have HQ5:=lhi hq;have HKI:=lhi hki;obtain⟨z0,z1,-⟩:=HS.out _ _ hq;have z2:=hc0'.trans HRA.out;clear hq hki hc0')))
   all_goals
    go_wp2_with (fail)
    go_meet
    case rel=>exact⟨rfl,HQ5.out,HKI.out⟩
  case rest=>
   obtain⟨rfl,hq,hki⟩:=hcut
   have HQ6:=lhi hq
   have HBV4:=lhi (HBV3.out.ki hki)
   clear hq hki H0 HQ HBV3 HST HZC e1
   obtain⟨wd6,hwd6⟩: ∃x:World,x=wc:=⟨_,rfl⟩
   subst hwd6
   have H6:=lhi HQ6.out.drew
   obtain⟨r0,r1,r2,r3,r4,r5⟩:=HS.out _ _ H6.out
   have HZD:=lhi (HS.out _ _ H6.out)
   clear r0 r1 r2 r3 r4 r5
   obtain⟨kb,hkb⟩: ∃x,(kind==1)=x:=⟨_,rfl⟩
   have HKB:=lhi hkb
   have HWT:=lhi (with_calls (HBV4.out.ki (KI.refl _):ItB wd6.drew _ l) (by rw[HBN.out];exact HLL.out) ⟨nm,num,kb⟩)
   have HWI:=lhi (show 0<=wd inu (nbucket nm:Nat)/\wd inu (nbucket nm:Nat)<9549 from wd_in hnum0 (by have:=HNB.out;omega))
   obtain⟨Mc,hMc⟩: ∃X,Mb.setW c (wd inu (nbucket nm:Nat)) (.bucket (l++[⟨nm,num,kb⟩]))=X:=⟨_,rfl⟩
   have HSE:=lhi (show∀(W:World) (sv:Value),Below wd6.drew.heap.size wd6.drew W->ItB W sv (l++[⟨nm,num,kb⟩])->(∀q,svBlk sv q->wd6.drew.heap.size<=q)->Calls Tryz.prog 195 #[.pointer (some ⟨sp,0,none⟩),.int .i64 (wd inu (nbucket nm:Nat)),.iface 129 sv] W fun e w'=>e= .returned (.tuple #[])/\Wk L w1 s Mc [⟨p2,278,#[.string inm,.int .i64 inu,.bool true,.slice ta tn tc,.string nm,.int .i64 (wd inu (nbucket nm:Nat)),.slice BA bn bcap]⟩] [] w' from fun W sv h1 h2 h3=>hMc▸H6.out.set_wk HBD1.out h1 HOKB.out (by omega) HCB.out HWI.out HL.out HT0.out HT1.out h2 h3)
   have HOKC:=lhi (show Mc.ok (mm+5)from hMc▸HOKB.out.setW _ _ _)
   have HCC:=lhi (show 0<=c/\c<Mc.ts.length by rw[<-hMc];simp only[Mem.setW,Mem.note,Mem.put,Mem.give,noted_length];exact HCB.out)
   have HMC:=lhi hMc
   clear hMc
   go_upto_region 6 with(fail)
   go_region_held3 (fun w'=>(w'.cell? ⟨sp,0,none⟩=some (.pointer (some ⟨s,0,none⟩))/\w'.cell? ⟨sp,1,none⟩=some (.int .i64 c)/\w'.cell? ⟨sp,2,none⟩=some (.int .i64 kind)/\w'.cell? ⟨p2,4,none⟩=some (.string nm)/\w'.cell? ⟨p2,5,none⟩=some (.int .i64 (wd inu (nbucket nm:Nat)))/\w'.cell? ⟨p2,6,none⟩=some (.slice BA bn bcap)))
    (with_reducible first | exact HZD.out | exact HS.out _ _ HQ61.out | exact HS.out _ _ HQ62.out)
    ((first
     | (go_at_call 63;refine HWT.out.mono ?_;rintro e wv1 ⟨⟨nv,rfl,hnv,hnq⟩,hb⟩;have HNV:=lhi hnv;have HNQ:=lhi hnq;have HNB2:=lhi hb;have HQ61:=lhi (H6.out.below hb HBD1.out);clear hnv hnq hb)
     | (go_at_call 195;refine(HSE.out _ _ HNB2.out HNV.out HNQ.out).mono ?_;rintro e wv2 ⟨rfl,hq⟩;have HQ62:=lhi hq;clear hq)))
   obtain⟨r0,r1,r2,r3,r4,r5⟩:=HS.out _ _ HQ62.out
   rcases hkind with rfl | rfl
   ·have HR:=lhi (show createM M2 c ⟨inm,inu,true⟩ nm 0 n=(Mc.put (wd num (8+c)) 1).note c (wd num (8+c),true)by rw[HCR.out,<-HMC.out,<-HMB.out,<-HMA.out,<-HKB.out];rfl)
    have HDI:=lhi (show 0<=wd num (8+c)/\wd num (8+c)<9549 from wd_in ⟨by omega,hnb.2⟩ ⟨by omega,by omega⟩)
    go_upto_region 8 with(fail)
    obtain⟨a8,ra8⟩:=HQ62.out.arena
    have H8:=lhi HQ62.out.drew
    have HZE:=lhi (show(wv2.drew.cell? ⟨sp,0,none⟩=some (.pointer (some ⟨s,0,none⟩))/\wv2.drew.cell? ⟨sp,1,none⟩=some (.int .i64 c)/\wv2.drew.cell? ⟨s,0,none⟩=some (.pointer (some ⟨a8,0,none⟩)))from⟨r0,r1,ra8⟩)
    have HST:=lhi (H8.out.store_wk HOKC.out (by omega) HCC.out HDI.out (v:=1) (a:=a8) ra8)
    have HWD:=lhi (fun W=>word_calls num (8+c) (by omega) (by omega) W)
    have HRA8:=lhi ra8
    have e8:IntKind.i64.wrap (8+c)=8+c:=IntWalk.i64_in _ (by omega)
    clear r0 r1 r2 r3 r4 r5 ra8
    go_region_held3 (fun w'=>(w'.cell? ⟨sp,0,none⟩=some (.pointer (some ⟨s,0,none⟩))/\w'.cell? ⟨sp,1,none⟩=some (.int .i64 c)/\w'.cell? ⟨s,0,none⟩=some (.pointer (some ⟨a8,0,none⟩))))
     (with_reducible first | exact HZE.out | exact⟨z0,z1,z2⟩)
     ((first
      | (go_at_call 65;refine(HWD.out _).mono ?_;rintro e w' ⟨rfl,rfl⟩)
      | (go_at_call 163;refine HST.out.mono ?_;rintro e wv3 ⟨⟨rfl,hc0'⟩,hq⟩;have HQ8:=lhi hq;obtain⟨z0,z1,-⟩:=HS.out _ _ hq;have z2:=hc0'.trans HRA8.out;clear hq hc0')))
    all_goals
     go_wp2_with (fail)
     go_end0
     exact⟨rfl,by rw[HR.out];exact HQ8.out.mem,HK.out.trans HQ8.out.kp⟩
   ·have HR:=lhi (show createM M2 c ⟨inm,inu,true⟩ nm 1 n=Mc by rw[HCR.out,<-HMC.out,<-HMB.out,<-HMA.out,<-HKB.out];rfl)
    go_wp2_with (fail)
    go_end0
    exact⟨rfl,by rw[HR.out];exact HQ62.out.mem,HK.out.trans HQ62.out.kp⟩
end
section
open Go.RowKit
set_option maxHeartbeats 1000000
abbrev begunV:Value:=.iface 99 (.agg #[])
theorem ta_looked(W:World):(Instr.typeAssert (.iface 99 (.agg #[])) 20 239 true).run Tryz.prog W= .ok (.tuple #[.agg #[.int .i64 0,.string ⟨#[]⟩,.bool false,.slice none 0 0,.string ⟨#[]⟩,.string ⟨#[]⟩,.bool false],.bool false]) W:=by kernel_rfl
theorem ta_holds(W:World):(Instr.typeAssert (.iface 99 (.agg #[])) 20 243 true).run Tryz.prog W= .ok (.tuple #[.agg #[.int .i64 0,.string ⟨#[]⟩,.bool false,.string ⟨#[]⟩,.int .i64 0],.bool false]) W:=by kernel_rfl
set_option maxRecDepth 1000000 in
theorem run_create{w:World}{sp:Nat}{kind:Int}(s2:w.cell? ⟨sp,2,none⟩=some (.int .i64 kind))(hk:kind=0∨kind=1){P:World->Prop}
  (hC: ∀W,Below w.heap.size w W->Calls Tryz.prog 160 #[.pointer (some ⟨sp,0,none⟩)] W fun e w'=>e= .returned (.tuple #[])/\P w'):
  Calls Tryz.prog 114 #[.pointer (some ⟨sp,0,none⟩),begunV] w fun e w'=>e= .returned (.tuple #[])/\P w':=by
 have hsl:=World.block_lt_of_cell? w _ s2
 have h1:=ta_looked
 have h2:=ta_holds
 have HC:=lhi (hC ((w.alloc (.cells #[.int .i64 0,.string ⟨#[]⟩,.bool false,.slice none 0 0,.string ⟨#[]⟩,.string ⟨#[]⟩,.bool false] 239)).alloc (.cells #[.int .i64 0,.string ⟨#[]⟩,.bool false,.string ⟨#[]⟩,.int .i64 0] 243)) (((Below.refl _ _).alloc (Nat.le_refl _) _).alloc (by simp) _))
 clear hC
 rcases hk with rfl | rfl
 all_goals
  go_enter Tryz.func114,Tryz.ntmps114
  go_wp2_with (go_at_call 160;refine HC.out.mono ?_;rintro e w' ⟨rfl,hp⟩;have HP:=lhi hp;clear hp)
  go_end0
  exact⟨rfl,HP.out⟩
def DoneQ(R:World->Prop)(e:Exit)(a:Act)(w:World):Prop:=(e= .normal∨e= .ret)/\a.defers=[]/\R w
theorem catch_idle(p q:Addr)(w:World):
  CallsD Tryz.prog 113 #[.pointer (some p),.pointer (some q)] .returning w fun e u' w'=>e= .returned (.tuple #[])/\u'= .returning/\w'=w:=by
 refine callsD_of_wpS Tryz.func113 rfl fun c₀ cs hu=>?_
 simp only[Tryz.ntmps113,List.size_toArray,List.length_cons,List.length_nil,Nat.reduceAdd,Nat.reduceSub,Array.replicate_succ,Array.replicate_zero,List.push_toArray,List.append_toArray,List.nil_append,List.cons_append]
 apply wpS_seq
 apply wpS_region
 simp[wpOpsS,go_sem,recoverD,hu,Exit.thenS]
 refine wpS_of_wp (Code.wp_mono (Q:=DoneQ (fun w'=>w'=w)) ?_ ?_)
 ·rintro e a w' ⟨he,hd,rfl⟩
  cases c₀
  rcases he with rfl | rfl <;> simp_all [bodyPostS,results,Tryz.results113]
 ·clear hu
  go_wp2_with (fail)
  exact⟨.inr rfl,rfl,rfl⟩
end
section
open Go.RowKit
set_option maxHeartbeats 1000000
structure CallV where
 kind:Int
 core:Int
 fd:Int
 off:Int
 num:Int
 path:ByteArray
 path2:ByteArray
 data:ByteArray
def CallV.cs(c:CallV):Array Value:=#[.int .i64 c.kind,.int .i64 c.core,.int .i64 c.fd,.int .i64 c.off,.int .i64 c.num,.string c.path,.string c.path2,.string c.data]
structure ResV where
 code:Int
 fd:Int
 num:Int
 dir:Bool
 data:ByteArray
 na:Option Addr
 nl:Nat
 nc:Nat
def ResV.cs(r:ResV):Array Value:=#[.int .i64 r.code,.int .i64 r.fd,.int .i64 r.num,.bool r.dir,.string r.data,Value.slice r.na r.nl r.nc]
def noRes:ResV:=⟨0,0,0,false,⟨#[]⟩,none,0,0⟩
def stepCs(s:Nat)(core:Int)(c:CallV)(r:ResV):Array Value:=#[.pointer (some ⟨s,0,none⟩),.int .i64 core,.int .i64 c.kind,.int .i64 c.core,.int .i64 c.fd,.int .i64 c.off,.int .i64 c.num,.string c.path,.string c.path2,.string c.data,.int .i64 r.code,.int .i64 r.fd,.int .i64 r.num,.bool r.dir,.string r.data,Value.slice r.na r.nl r.nc]
def stepBs(n s:Nat)(core:Int)(c:CallV)(r:ResV):List LB:=[⟨n+3,193,stepCs s core c r⟩,⟨n+2,20,#[.nilIface]⟩,⟨n+1,41,noRes.cs⟩,⟨n,24,c.cs⟩]
theorem step_cells{L:Nat->Prop}{w w1:World}{s n:Nat}{M':Mem}{core:Int}{c:CallV}{r:ResV}(hw1:Wk L w s M' (stepBs n s core c r) [] w1):
  w1.cell? ⟨n+3,10,none⟩=some (Value.int IntKind.i64 r.code)/\w1.cell? ⟨n+3,11,none⟩=some (Value.int IntKind.i64 r.fd)/\w1.cell? ⟨n+3,12,none⟩=some (Value.int IntKind.i64 r.num)/\w1.cell? ⟨n+3,13,none⟩=some (Value.bool r.dir)/\w1.cell? ⟨n+3,14,none⟩=some (Value.string r.data)/\w1.cell? ⟨n+3,15,none⟩=some (Value.slice r.na r.nl r.nc)/\w1.cell? ⟨n+1,0,none⟩=some (Value.int IntKind.i64 0)/\w1.frozen? ⟨n+1,0,none⟩=false/\w1.cell? ⟨n+1,1,none⟩=some (Value.int IntKind.i64 0)/\w1.frozen? ⟨n+1,1,none⟩=false/\w1.cell? ⟨n+1,2,none⟩=some (Value.int IntKind.i64 0)/\w1.frozen? ⟨n+1,2,none⟩=false/\w1.cell? ⟨n+1,3,none⟩=some (Value.bool false)/\w1.frozen? ⟨n+1,3,none⟩=false/\w1.cell? ⟨n+1,4,none⟩=some (Value.string ⟨#[]⟩)/\w1.frozen? ⟨n+1,4,none⟩=false/\w1.cell? ⟨n+1,5,none⟩=some (Value.slice none 0 0)/\w1.frozen? ⟨n+1,5,none⟩=false/\w1.cell? ⟨n+1+1,0,none⟩=some Value.nilIface/\w1.frozen? ⟨n+1+1,0,none⟩=false/\n+1<w1.heap.size:=by
 have B3:=hw1.bk (g:=n+3) (t:=193) (cs:=stepCs s core c r) (by simp[stepBs])
 have B2:=hw1.bk (g:=n+2) (t:=20) (cs:=#[.nilIface]) (by simp[stepBs])
 have B1:=hw1.bk (g:=n+1) (t:=41) (cs:=noRes.cs) (by simp[stepBs])
 exact⟨B3.cell 10,B3.cell 11,B3.cell 12,B3.cell 13,B3.cell 14,B3.cell 15,B1.cell 0,B1.frozen 0,B1.cell 1,B1.frozen 1,B1.cell 2,B1.frozen 2,B1.cell 3,B1.frozen 3,B1.cell 4,B1.frozen 4,B1.cell 5,B1.frozen 5,B2.cell 0,B2.frozen 0,B1.lt⟩
theorem step_fin{L:Nat->Prop}{w w1:World}{s n:Nat}{M':Mem}{core:Int}{c:CallV}{r r':ResV}(hl:Bd L w)(h:Wk L w s M' (stepBs n s core c r') [] w1):
  Wk L w s M' [⟨n+2,20,#[.nilIface]⟩,⟨n+1,41,r.cs⟩] [] ((w1.setCells (n+1) 0 [.int .i64 r.code,.int .i64 r.fd,.int .i64 r.num,.bool r.dir,.string r.data,.slice r.na r.nl r.nc]).setCell ⟨n+1+1,0,none⟩ .nilIface):=by
 have h2:Wk L w s M' [⟨n+2,20,#[.nilIface]⟩,⟨n+1,41,noRes.cs⟩] [] w1:=h.drop0.sub (List.sublist_append_left [_,_] [_])
 exact(Wk.setAll hl [.int .i64 r.code,.int .i64 r.fd,.int .i64 r.num,.bool r.dir,.string r.data,.slice r.na r.nl r.nc] 0 _ _ h2.swap).swap.set0 hl 0 .nilIface
set_option maxRecDepth 1000000 in
theorem step_ret{L:Nat->Prop}{w:World}{s:Nat}{M M':Mem}(h:MemAt L w s M){fb:Nat}(hf:w.cell? ⟨fb,0,none⟩=some (.pointer (some ⟨s,0,none⟩))){core:Int}{c:CallV}{at_:Value}{r:ResV}
  (hrun: ∀W,Wk L w s M (stepBs w.heap.size s core c noRes) [] W->Calls Tryz.prog 114 #[.pointer (some ⟨w.heap.size+3,0,none⟩),at_] W fun e w'=>e= .returned (.tuple #[])/\Wk L w s M' (stepBs w.heap.size s core c r) [] w'):
  Calls Tryz.prog 71 #[.pointer (some ⟨fb,0,none⟩),.int .i64 core,.agg c.cs,at_] w fun e w'=>e= .returned (.tuple #[.agg r.cs,.nilIface])/\MemAt L w' s M'/\Kp L w w':=by
 have hmf: ∀(fn:Fn) (first cap:Array Value) (w:World),(Instr.makeFunc fn first cap).run Tryz.prog w= .ok (.func fn first cap) w:=fun _ _ _ _=>rfl
 have hl:=h.bd
 have hfb:fb<w.heap.size:=World.block_lt_of_cell? w _ hf
 have q0:(((w.alloc (.cells #[Value.int IntKind.i64 c.kind,Value.int IntKind.i64 c.core,Value.int IntKind.i64 c.fd,Value.int IntKind.i64 c.off,Value.int IntKind.i64 c.num,Value.string c.path,Value.string c.path2,Value.string c.data] 24)).alloc (.cells #[.int .i64 0,.int .i64 0,.int .i64 0,.bool false,.string ⟨#[]⟩,.slice none 0 0] 41)).alloc (.cells #[.nilIface] 20)).cell? ⟨w.heap.size,0,none⟩=some (Value.int IntKind.i64 c.kind):=by simp[go_sem]
 have q1:(((w.alloc (.cells #[Value.int IntKind.i64 c.kind,Value.int IntKind.i64 c.core,Value.int IntKind.i64 c.fd,Value.int IntKind.i64 c.off,Value.int IntKind.i64 c.num,Value.string c.path,Value.string c.path2,Value.string c.data] 24)).alloc (.cells #[.int .i64 0,.int .i64 0,.int .i64 0,.bool false,.string ⟨#[]⟩,.slice none 0 0] 41)).alloc (.cells #[.nilIface] 20)).cell? ⟨w.heap.size,1,none⟩=some (Value.int IntKind.i64 c.core):=by simp[go_sem]
 have q2:(((w.alloc (.cells #[Value.int IntKind.i64 c.kind,Value.int IntKind.i64 c.core,Value.int IntKind.i64 c.fd,Value.int IntKind.i64 c.off,Value.int IntKind.i64 c.num,Value.string c.path,Value.string c.path2,Value.string c.data] 24)).alloc (.cells #[.int .i64 0,.int .i64 0,.int .i64 0,.bool false,.string ⟨#[]⟩,.slice none 0 0] 41)).alloc (.cells #[.nilIface] 20)).cell? ⟨w.heap.size,2,none⟩=some (Value.int IntKind.i64 c.fd):=by simp[go_sem]
 have q3:(((w.alloc (.cells #[Value.int IntKind.i64 c.kind,Value.int IntKind.i64 c.core,Value.int IntKind.i64 c.fd,Value.int IntKind.i64 c.off,Value.int IntKind.i64 c.num,Value.string c.path,Value.string c.path2,Value.string c.data] 24)).alloc (.cells #[.int .i64 0,.int .i64 0,.int .i64 0,.bool false,.string ⟨#[]⟩,.slice none 0 0] 41)).alloc (.cells #[.nilIface] 20)).cell? ⟨w.heap.size,3,none⟩=some (Value.int IntKind.i64 c.off):=by simp[go_sem]
 have q4:(((w.alloc (.cells #[Value.int IntKind.i64 c.kind,Value.int IntKind.i64 c.core,Value.int IntKind.i64 c.fd,Value.int IntKind.i64 c.off,Value.int IntKind.i64 c.num,Value.string c.path,Value.string c.path2,Value.string c.data] 24)).alloc (.cells #[.int .i64 0,.int .i64 0,.int .i64 0,.bool false,.string ⟨#[]⟩,.slice none 0 0] 41)).alloc (.cells #[.nilIface] 20)).cell? ⟨w.heap.size,4,none⟩=some (Value.int IntKind.i64 c.num):=by simp[go_sem]
 have q5:(((w.alloc (.cells #[Value.int IntKind.i64 c.kind,Value.int IntKind.i64 c.core,Value.int IntKind.i64 c.fd,Value.int IntKind.i64 c.off,Value.int IntKind.i64 c.num,Value.string c.path,Value.string c.path2,Value.string c.data] 24)).alloc (.cells #[.int .i64 0,.int .i64 0,.int .i64 0,.bool false,.string ⟨#[]⟩,.slice none 0 0] 41)).alloc (.cells #[.nilIface] 20)).cell? ⟨w.heap.size,5,none⟩=some (Value.string c.path):=by simp[go_sem]
 have q6:(((w.alloc (.cells #[Value.int IntKind.i64 c.kind,Value.int IntKind.i64 c.core,Value.int IntKind.i64 c.fd,Value.int IntKind.i64 c.off,Value.int IntKind.i64 c.num,Value.string c.path,Value.string c.path2,Value.string c.data] 24)).alloc (.cells #[.int .i64 0,.int .i64 0,.int .i64 0,.bool false,.string ⟨#[]⟩,.slice none 0 0] 41)).alloc (.cells #[.nilIface] 20)).cell? ⟨w.heap.size,6,none⟩=some (Value.string c.path2):=by simp[go_sem]
 have q7:(((w.alloc (.cells #[Value.int IntKind.i64 c.kind,Value.int IntKind.i64 c.core,Value.int IntKind.i64 c.fd,Value.int IntKind.i64 c.off,Value.int IntKind.i64 c.num,Value.string c.path,Value.string c.path2,Value.string c.data] 24)).alloc (.cells #[.int .i64 0,.int .i64 0,.int .i64 0,.bool false,.string ⟨#[]⟩,.slice none 0 0] 41)).alloc (.cells #[.nilIface] 20)).cell? ⟨w.heap.size,7,none⟩=some (Value.string c.data):=by simp[go_sem]
 have qf:(((w.alloc (.cells #[Value.int IntKind.i64 c.kind,Value.int IntKind.i64 c.core,Value.int IntKind.i64 c.fd,Value.int IntKind.i64 c.off,Value.int IntKind.i64 c.num,Value.string c.path,Value.string c.path2,Value.string c.data] 24)).alloc (.cells #[.int .i64 0,.int .i64 0,.int .i64 0,.bool false,.string ⟨#[]⟩,.slice none 0 0] 41)).alloc (.cells #[.nilIface] 20)).cell? ⟨fb,0,none⟩=some (.pointer (some ⟨s,0,none⟩)):=by rw[World.cell?_alloc_past _ _ _ (by simp only[World.size_alloc];omega),World.cell?_alloc_past _ _ _ (by simp only[World.size_alloc];omega),World.cell?_alloc_past _ _ _ hfb];exact hf
 have HS:(((w.alloc (.cells #[Value.int IntKind.i64 c.kind,Value.int IntKind.i64 c.core,Value.int IntKind.i64 c.fd,Value.int IntKind.i64 c.off,Value.int IntKind.i64 c.num,Value.string c.path,Value.string c.path2,Value.string c.data] 24)).alloc (.cells #[.int .i64 0,.int .i64 0,.int .i64 0,.bool false,.string ⟨#[]⟩,.slice none 0 0] 41)).alloc (.cells #[.nilIface] 20)).heap.size=w.heap.size+3:=by simp
 have HW:=lhi (show Wk L w s M [⟨w.heap.size+2,20,#[.nilIface]⟩,⟨w.heap.size+1,41,#[.int .i64 0,.int .i64 0,.int .i64 0,.bool false,.string ⟨#[]⟩,.slice none 0 0]⟩,⟨w.heap.size,24,#[Value.int IntKind.i64 c.kind,Value.int IntKind.i64 c.core,Value.int IntKind.i64 c.fd,Value.int IntKind.i64 c.off,Value.int IntKind.i64 c.num,Value.string c.path,Value.string c.path2,Value.string c.data]⟩] [] (((w.alloc (.cells #[Value.int IntKind.i64 c.kind,Value.int IntKind.i64 c.core,Value.int IntKind.i64 c.fd,Value.int IntKind.i64 c.off,Value.int IntKind.i64 c.num,Value.string c.path,Value.string c.path2,Value.string c.data] 24)).alloc (.cells #[.int .i64 0,.int .i64 0,.int .i64 0,.bool false,.string ⟨#[]⟩,.slice none 0 0] 41)).alloc (.cells #[.nilIface] 20))from by simpa using(((Wk.start h).alloc hl #[Value.int IntKind.i64 c.kind,Value.int IntKind.i64 c.core,Value.int IntKind.i64 c.fd,Value.int IntKind.i64 c.off,Value.int IntKind.i64 c.num,Value.string c.path,Value.string c.path2,Value.string c.data] 24).alloc hl #[.int .i64 0,.int .i64 0,.int .i64 0,.bool false,.string ⟨#[]⟩,.slice none 0 0] 41).alloc hl #[.nilIface] 20)
 have HL:=lhi hl
 have HR:=lhi hrun
 clear h hrun hf
 simp only[CallV.cs,ResV.cs]at⊢
 go_enter_defers Tryz.func71,Tryz.ntmps71
 go_wp2_with (fail)
 generalize hW:(((w.alloc (.cells #[Value.int IntKind.i64 c.kind,Value.int IntKind.i64 c.core,Value.int IntKind.i64 c.fd,Value.int IntKind.i64 c.off,Value.int IntKind.i64 c.num,Value.string c.path,Value.string c.path2,Value.string c.data] 24)).alloc (.cells #[.int .i64 0,.int .i64 0,.int .i64 0,.bool false,.string ⟨#[]⟩,.slice none 0 0] 41)).alloc (.cells #[.nilIface] 20))=w3 at*
 go_region
 have HK:=lhi (show Wk L w s M (stepBs w.heap.size s core c noRes) [] (w3.alloc (.cells #[.pointer (some ⟨s,0,none⟩),.int .i64 core,Value.int IntKind.i64 c.kind,Value.int IntKind.i64 c.core,Value.int IntKind.i64 c.fd,Value.int IntKind.i64 c.off,Value.int IntKind.i64 c.num,Value.string c.path,Value.string c.path2,Value.string c.data,Value.int IntKind.i64 0,Value.int IntKind.i64 0,Value.int IntKind.i64 0,Value.bool false,Value.string ⟨#[]⟩,Value.slice none 0 0] 193)).drew from by have:=(HW.out.alloc HL.out #[.pointer (some ⟨s,0,none⟩),.int .i64 core,Value.int IntKind.i64 c.kind,Value.int IntKind.i64 c.core,Value.int IntKind.i64 c.fd,Value.int IntKind.i64 c.off,Value.int IntKind.i64 c.num,Value.string c.path,Value.string c.path2,Value.string c.data,Value.int IntKind.i64 0,Value.int IntKind.i64 0,Value.int IntKind.i64 0,Value.bool false,Value.string ⟨#[]⟩,Value.slice none 0 0] 193).drew;rw[HS]at this;exact this)
 go_wp2_with (go_at_call 114;refine(HR.out _ HK.out).mono ?_;rintro e w1 ⟨rfl,hw1⟩;obtain⟨s0,s1,s2,s3,s4,s5,z0,y0,z1,y1,z2,y2,z3,y3,z4,y4,z5,y5,z6,y6,h1s⟩:=step_cells hw1;have H1:=lhi hw1;clear hw1)
 have HF:=lhi (step_fin (r:=r) HL.out H1.out)
 refine leaves_cons (f:=113) (args:=#[.pointer (some ⟨w.heap.size+1,0,none⟩),.pointer (some ⟨w.heap.size+1+1,0,none⟩)]) (by simp) (by simp[go_sem]) ?_
 refine(catch_idle _ _ _).mono ?_
 rintro e u' w'' ⟨rfl,rfl,rfl⟩
 refine⟨_,?_,rfl,HF.out.fin⟩
 simp[results,Tryz.results71,go_sem,z0,z1,z2,z3,z4,z5,z6]
end
end Go.Proofs.YtkebjgebkneijaaGreat
