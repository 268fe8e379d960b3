/- Texts of one's own that a claim's last text rests on: Mf20 Ml5 Ml6 Ml7 Ml8 Ml9 Ml10 Ml11 Ml12 NoP3 Ml13 Qin. -/
import Derived.Test.YtkebjgebkneijaaGreatMG13
import Derived.Test.YtkebjgebkneijaaGreatMG6
import Derived.Test.YtkebjgebkneijaaGreatMG9
import Derived.BigQuiet
import Derived.IntWalk
import Derived.Test.YtkebjgebkneijaaGreatMG7
set_option linter.unusedVariables false
set_option linter.unusedSimpArgs false
namespace Go.Proofs.YtkebjgebkneijaaGreat
section
open Go.RowKit
set_option maxHeartbeats 1000000
def zeroWs:List Int:=List.replicate 9549 0
theorem zeroWs_len:zeroWs.length=9549:=List.length_replicate
def Mem.new(k:Nat):Mem:=⟨zeroWs,List.replicate k [],List.replicate k []⟩
theorem Mem.new_ok(k:Nat):(Mem.new k).ok 0:=⟨zeroWs_len,fun t ht=>by
 simp only[Mem.new,List.mem_replicate]at ht
 rw[ht.2];simp,fun c=>by
 simp only[Mem.new,List.getD_eq_getElem?_getD,List.getElem?_replicate]
 split <;> simp⟩
theorem mem_new{L:Nat->Prop}{w w1:World}{a k:Nat}(hb:Bd L w)(hk:1<=k/\k<=8)(h:ArAt (fun b=>b<w.heap.size) w1 a zeroWs (List.replicate k []))(hle:w.heap.size<=w1.heap.size):
  MemAt L ((w1.alloc (.cells (Array.replicate k (.slice none 0 0)) 150)).alloc (.cells #[.pointer (some ⟨a,0,none⟩),.slice (some ⟨w1.heap.size,0,none⟩) k k] 78)) (w1.heap.size+1) (Mem.new k):=by
 have b1:Below w1.heap.size w1 ((w1.alloc (.cells (Array.replicate k (.slice none 0 0)) 150)).alloc (.cells #[.pointer (some ⟨a,0,none⟩),.slice (some ⟨w1.heap.size,0,none⟩) k k] 78)):=((Below.refl _ _).alloc (Nat.le_refl _) _).alloc (by simp) _
 refine⟨a,w1.heap.size,fun b=>b=w1.heap.size∨b=w1.heap.size+1,List.replicate k (.slice none 0 0),List.replicate k [],⟨fun b hl=>Nat.lt_of_lt_of_le (hb b hl) (Nat.le_trans hle b1.size),fun b hK hl=>?_,(h.belowNew b1).sub fun b hl=>?_,⟨fun b hK=>?_,.inr rfl,.inl rfl,?_,?_,by simp,fun c hc=>?_,fun c hc b hq=>?_,fun c c' hc hc' hne b hq=>?_⟩,⟨by simp[Mem.new],fun c hc=>?_⟩,by simp[Mem.new]⟩⟩
 ·have:=hb b hl;omega
 ·rcases hl with hl | hl
  ·exact .inl (hb b hl)
  ·exact .inr ⟨by omega,by simp;omega⟩
 ·simp;omega
 ·have:=Blk.newAt (w1.alloc (.cells (Array.replicate k (.slice none 0 0)) 150)) 78 #[.pointer (some ⟨a,0,none⟩),.slice (some ⟨w1.heap.size,0,none⟩) k k] (n:=w1.heap.size+1) (by simp)
  simpa using this
 ·rw[List.toArray_replicate];exact(Blk.new w1 _ _).alloc _
 ·have hc:c<k:=by simpa using hc
  simp only[List.getD_eq_getElem?_getD,List.getElem?_replicate,if_pos hc,Option.getD_some]
  exact⟨rfl,.inl ⟨rfl,rfl⟩⟩
 ·have hc:c<k:=by simpa using hc
  simp[List.getD_eq_getElem?_getD,hc,Value.ownBlock]at hq
 ·have hc:c<k:=by simpa using hc
  simp[List.getD_eq_getElem?_getD,hc,Value.ownBlock]at hq
 ·have hc:c<k:=by simpa[Mem.new]using hc
  simp[Mem.new,List.getD_eq_getElem?_getD,hc]
set_option maxRecDepth 1000000 in
theorem newStore_ok{L:Nat->Prop}{w:World}(hb:Bd L w){k:Nat}(hk:1<=k/\k<=8):
  Calls Tryz.prog 25 #[.int .i64 k] w fun e w'=>∃s,e= .returned (.pointer (some ⟨s,0,none⟩))/\MemAt L w' s (Mem.new k)/\Below w.heap.size w w'/\w.heap.size<=s:=by
 obtain⟨i2,hi2,hz20,hz21,hz22⟩:=info_parts info_anys
 have hm2:=run_make_rowN (P:=Tryz.prog) 76 150 i2 _ Tryz.underlying76 hi2 hz20 .i64 .i64 k k (Nat.le_refl _) (by rw[hz22];omega) (by omega)
 simp only[hz21,Nat.mul_one,Value.cells,madeCells_one]at hm2
 have HN:=lhi (new_to (L:=fun b=>b<w.heap.size) (fun b hb=>hb) (n:=9549) (k:=(k:Int)) (by decide) (by omega) rfl rfl)
 have HM:=lhi fun(w1:World) (a:Nat) h hle=>mem_new (w1:=w1) (a:=a) hb hk h hle
 clear hi2 hz20 hz21 hz22
 go_enter Tryz.func25,Tryz.ntmps25
 go_wp2_with (go_at_call 61;refine HN.out.mono ?_;rintro e w1 ⟨a,rfl,har,hkp⟩;have HA:=lhi har;have HK:=lhi hkp;clear har hkp)
 go_ret
 exact⟨_,rfl,HM.out w1 a HA.out HK.out.size,(⟨HK.out.os,HK.out.tape,HK.out.output,HK.out.size,HK.out.block⟩:Below w.heap.size w w1).trans (((Below.refl _ _).alloc HK.out.size _).alloc (by have:=HK.out.size;simp;omega) _),by have:=HK.out.size;omega⟩
end
section
open Go.RowKit
set_option maxHeartbeats 1000000
def zerosA(n:Nat):Array Value:=(List.replicate n (Value.int .i64 0)).toArray
set_option maxRecDepth 1000000 in
theorem mNew_calls(n:Nat)(h1:1<=n)(h8:n<=8)(w:World):Calls Tryz.prog 15 #[.int .i64 n] w fun e w'=>∃g gm,e= .returned (.tuple #[.agg #[.slice (some ⟨g,0,none⟩) 1 1,.slice none 0 0,.slice (some ⟨gm,0,none⟩) n n],.int .i64 0])/\Below w.heap.size w w'/\w.heap.size<=g/\w.heap.size<=gm/\Blk w' g 93 #[.int .i64 1,.bool true,.slice none 0 0,.string ⟨#[]⟩]/\Blk w' gm 3 (zerosA n):=by
 obtain⟨i0,hi,hz0,hz1,hz2⟩:=info_parts info_int
 have hmk: ∀W:World,(Instr.makeSlice 28 (.int .i64 n) (.int .i64 n)).run Tryz.prog W= .ok (.slice (some ⟨W.heap.size,0,none⟩) n n) (W.alloc (.cells (zerosA n) 3)):=by
  intro W
  have h:=run_make_rowN (P:=Tryz.prog) (w:=W) 28 3 i0 _ Tryz.underlying28 hi hz0 .i64 .i64 n n (Nat.le_refl _) (by rw[hz2];omega) (by omega)
  simp only[hz1,Nat.mul_one,Value.cells,madeCells_one]at h
  exact h
 have HMK:=lhi hmk
 clear hmk hi hz0 hz1 hz2
 have hn1: ¬ (n:Int)<1:=by omega
 have hn8: ¬ (8:Int)< (n:Int):=by omega
 have hmk:=HMK.out ((w.alloc (.cells #[.slice none 0 0,.slice none 0 0,.slice none 0 0] 30)).alloc (.cells #[.int .i64 1,.bool true,.slice none 0 0,.string ⟨#[]⟩] 93))
 go_enter Tryz.func15,Tryz.ntmps15
 go_wp2_with (fail)
 refine bodyPost_ret (v:=.tuple #[.agg #[.slice (some ⟨w.heap.size+1,0,none⟩) 1 1,.slice none 0 0,.slice (some ⟨w.heap.size+1+1,0,none⟩) n n],.int .i64 0]) (by simp[results,Tryz.results15,go_sem]) rfl ⟨_,_,rfl,?_⟩
 exact⟨(((Below.refl _ _).alloc (Nat.le_refl _) _).alloc (by simp) _).alloc (by simp;omega) _,by omega,by omega,(Blk.newAt _ _ _ (by simp)).alloc _,Blk.newAt _ _ _ (by simp)⟩
end
section
open Go.RowKit
set_option maxHeartbeats 1000000
structure Ord (S:St):Prop where
 n:S.inodes.length<=1000
 rise: ∀i j,i<j->j<S.inodes.length->S.num i<S.num j
 ents: ∀i,i<S.inodes.length->(S.ino i).ents.length<=1000/\RiseL (S.ino i).ents
 goal: ∀i k,i<S.inodes.length->k< (S.ino i).ents.length-> ∃g:Nat,g<S.inodes.length/\placeF S (S.enu i k)=g
def entF(l:List (ByteArray×Int))(x:ByteArray):Option Nat:=(List.range l.length).find? fun i=>decide (enmL l i=x)
theorem entF_yes{l:List (ByteArray×Int)}{x:ByteArray}{k:Nat}(hk:k<l.length)(h:enmL l k=x)(hb: ∀i,i<k->nlt (enmL l i) x=true):entF l x=some k:=by
 unfold entF
 rw[List.find?_eq_some_iff_getElem]
 refine⟨by simpa using h,k,by simpa using hk,by simp,fun j hj=>?_⟩
 have:=hb j hj
 simp only[List.getElem_range,Bool.not_eq_true',decide_eq_false_iff_not]
 rintro rfl
 rw[nlt_irrefl]at this
 cases this
theorem entF_no{l:List (ByteArray×Int)}{x:ByteArray}{k:Nat}(hr:RiseL l)(h1: ∀i,i<k->nlt (enmL l i) x=true)(h2: ∀i,k<=i->i<l.length->nlt (enmL l i) x=false)(h:(decide (k<l.length)&&decide (enmL l k=x))=false):entF l x=none:=by
 unfold entF
 rw[List.find?_eq_none]
 intro i hi hx
 have hi:i<l.length:=by simpa using hi
 have hx:enmL l i=x:=by simpa using hx
 by_cases e:i<k
 ·have:=h1 i e
  rw[hx,nlt_irrefl]at this
  cases this
 ·by_cases e2:i=k
  ·subst e2
   simp[hi,hx]at h
  ·have h3:=hr k i (by omega) hi
   have h4:=h2 k (Nat.le_refl _) (by omega)
   rw[hx]at h3
   rw[h3]at h4
   cases h4
theorem entry_no{w:World}{iv:Value}{l:List (ByteArray×Int)}(hS:RowAt w iv l.length 2 (entL l))(hn:l.length<=1000)(x:ByteArray)(hlt:RiseL l)(he:entF l x=none):
  Calls Tryz.prog 93 #[iv,.string x] w fun e w'=>(∃k:Nat,e= .returned (.tuple #[.int .i64 k,.bool false]))/\Below w.heap.size w w':=by
 refine(entry_calls hS hn x hlt).mono ?_
 rintro e w' ⟨⟨k,hk,h1,h2,rfl⟩,hb⟩
 cases hx:(decide (k<l.length)&&decide (enmL l k=x))with
 | false=>exact⟨⟨k,rfl⟩,hb⟩
 | true=>
  simp only[Bool.and_eq_true,decide_eq_true_eq]at hx
  rw[entF_yes hx.1 hx.2 h1]at he
  cases he
theorem entry_yes{w:World}{iv:Value}{l:List (ByteArray×Int)}(hS:RowAt w iv l.length 2 (entL l))(hn:l.length<=1000)(x:ByteArray)(hlt:RiseL l){k:Nat}(he:entF l x=some k):
  Calls Tryz.prog 93 #[iv,.string x] w fun e w'=>e= .returned (.tuple #[.int .i64 k,.bool true])/\Below w.heap.size w w':=by
 refine(entry_calls hS hn x hlt).mono ?_
 rintro e w' ⟨⟨k',hk,h1,h2,rfl⟩,hb⟩
 cases hx:(decide (k'<l.length)&&decide (enmL l k'=x))with
 | false=>
  rw[entF_no hlt h1 h2 hx]at he
  cases he
 | true=>
  simp only[Bool.and_eq_true,decide_eq_true_eq]at hx
  rw[entF_yes hx.1 hx.2 h1]at he
  injection he with he
  subst he
  exact⟨rfl,hb⟩
theorem entF_lt{l:List (ByteArray×Int)}{x:ByteArray}{k:Nat}(h:entF l x=some k):k<l.length:=by
 have:=List.mem_of_find?_eq_some h
 simpa using this
def walkS(S:St):List ByteArray->Nat->Int×Int
 | [],a=>(a,0)
 | x::l,a=>if S.dir a then match entF (S.ino a).ents x with
  | some k=>walkS S l (placeF S (S.enu a k)).toNat
  | none=>(0,1)else(0,7)
set_option maxRecDepth 1000000 in
theorem mwalk_calls{w:World}{sp:Nat}{iv ov mv:Value}{ev:Nat->Value}{S:St}(hS:StM w iv ov mv ev S)(hO:Ord S)(h1:0<S.inodes.length)(h0:w.cell? ⟨sp,0,none⟩=some iv){v:Value}{ns:List ByteArray}(hv:RowAt w v ns.length 1 (nmC ns))(hn:ns.length<=1000):
  Calls Tryz.prog 45 #[.pointer (some ⟨sp,0,none⟩),v] w fun e w'=>e= .returned (.tuple #[.int .i64 (walkS S ns 0).1,.int .i64 (walkS S ns 0).2])/\Below w.heap.size w w':=by
 have HS:=lhi hS
 have HV:=lhi hv
 obtain⟨A,cap,rfl,-,-⟩:=hv
 obtain⟨IA,icap,rfl,-,-⟩:=hS.ino
 obtain⟨n,hnn⟩: ∃n,ns.length=n:=⟨_,rfl⟩
 rw[hnn]at hn HV
 rw[hnn]
 obtain⟨RES,hres⟩: ∃r,walkS S ns 0=r:=⟨_,rfl⟩
 have HNN:=lhi hnn
 have HO:=lhi hO
 have HRES:=lhi hres
 rw[hres]
 clear hS hnn hO hres
 go_enter Tryz.func45,Tryz.ntmps45
 go_wp2_with (fail)
 go_loopw [6,13] (fun a i wr=>∃k p:Nat,i= .int .i64 k/\a= .int .i64 p/\k<=n/\p<S.inodes.length/\walkS S (ns.drop k) p=RES/\Below w.heap.size w wr) (fun _ i _=>n - (intOf i).toNat)
 case atStart=>exact⟨0,0,rfl,rfl,by omega,h1,by rw[List.drop_zero];exact HRES.out,Below.refl _ _⟩
 case round=>
  obtain⟨k,p,rfl,rfl,hk,hp,hw,hB⟩:=hrel
  have HB:=lhi hB
  have HW:=lhi hw
  have f0:wr.cell? ⟨sp,0,none⟩=some (.slice IA S.inodes.length icap):=(hB.cell (World.block_lt_of_cell? _ _ h0)).trans h0
  have hp1:(p:Int)<S.inodes.length:=by omega
  have hSm:=(HO.out).n
  clear hB hw
  by_cases hq:k<n
  ·have hq1:(k:Int)<n:=by omega
   obtain⟨-,-,ng,noff,rfl,ncell⟩:=(HV.out.keep HB.out).at_ hq
   have n0:wr.cell? ⟨ng,noff+k,none⟩=some (.string (ns.getD k ByteArray.empty)):=by have:=ncell 0 (by omega);simpa[nmC]using this
   have hdrop:ns.drop k=ns.getD k ByteArray.empty::ns.drop (k+1):=by
    have hl:k<ns.length:=by rw[HNN.out];exact hq
    rw[List.drop_eq_getElem_cons hl,List.getD_eq_getElem?_getD,List.getElem?_eq_getElem hl];rfl
   rw[hdrop]at HW
   obtain⟨x,hx⟩: ∃x,ns.getD k ByteArray.empty=x:=⟨_,rfl⟩
   rw[hx]at n0 HW
   obtain⟨-,-,ig,ioff,rfl,icell⟩:=(HS.out.ino.keep HB.out).at_ hp
   have q1:wr.cell? ⟨ig,ioff+p*4+1,none⟩=some (.bool (S.dir p)):=icell 1 (by omega)
   have q2:wr.cell? ⟨ig,ioff+p*4+2,none⟩=some (ev p):=icell 2 (by omega)
   clear ncell icell hdrop hx
   by_cases hd:S.dir p=true
   ·rw[hd]at q1
    have hW2:=HW.out
    unfold walkS at hW2
    rw[hd,if_pos rfl]at hW2
    have HEN:=lhi (show RowAt wr (ev p) (S.ino p).ents.length 2 (entL (S.ino p).ents)from(HS.out.ent p hp).keep HB.out)
    have HEO:=lhi ((HO.out).ents p hp)
    obtain⟨EA,ecap,hev,-,-⟩:=HEN.out
    rw[hev]at q2 HEN
    obtain⟨m,hm⟩: ∃m,(S.ino p).ents.length=m:=⟨_,rfl⟩
    cases hE:entF (S.ino p).ents x with
    | none=>
     rw[hE]at hW2
     have HC:=lhi (entry_no HEN.out HEO.out.1 x HEO.out.2 hE)
     rw[hm]at q2 HC
     clear hev hE
     go_wp2_with (go_at_call 93;refine HC.out.mono ?_;rintro e w1 ⟨⟨k1,rfl⟩,hb1⟩)
     go_ret2
     exact⟨by rw[<-hW2];rfl,HB.out.trans (hb1.mono HB.out.size)⟩
    | some k1=>
     have hk1:=entF_lt hE
     rw[hE]at hW2
     have HC:=lhi (entry_yes HEN.out HEO.out.1 x HEO.out.2 hE)
     obtain⟨g,hg,hgo⟩:=(HO.out).goal p k1 hp hk1
     have hgo:=hgo
     rw[hm]at q2 HC hk1
     have hm1:(k1:Int)<m:=by omega
     obtain⟨-,-,eg,eoff,rfl,ecell⟩:=(show RowAt wr (.slice EA m ecap) m 2 (entL (S.ino p).ents)from hm▸HEN.out).at_ hk1
     have e1:wr.cell? ⟨eg,eoff+k1*2+1,none⟩=some (.int .i64 (S.enu p k1)):=ecell 1 (by omega)
     have HFI:=lhi (fun(w1:World) (hb1:Below wr.heap.size wr w1)=>find_in (sp:=sp) (HS.out.keep (HB.out.trans (hb1.mono HB.out.size))) (HO.out).n (S.enu p k1) (HO.out).rise ((hb1.cell (World.block_lt_of_cell? _ _ f0)).trans f0))
     obtain⟨eu,heu⟩: ∃y,S.enu p k1=y:=⟨_,rfl⟩
     have hW3:walkS S (ns.drop (k+1)) g=RES:=by
      have:walkS S (ns.drop (k+1)) (placeF S (S.enu p k1)).toNat=RES:=hW2
      rwa [hgo,Int.toNat_natCast]at this
     rw[heu]at e1 HFI hgo
     have HGO:=lhi hgo
     have HW3:=lhi hW3
     clear hev hE hW2 ecell heu hgo hW3
     go_wp2_with (first
      | (go_at_call 93;refine HC.out.mono ?_;rintro e w1 ⟨rfl,hb1⟩;have e2:=(hb1.cell (World.block_lt_of_cell? _ _ e1)).trans e1;have f2:=(hb1.cell (World.block_lt_of_cell? _ _ f0)).trans f0;have q3:=(hb1.cell (World.block_lt_of_cell? _ _ q2)).trans q2;have HB1:=lhi hb1;clear hb1)
      | (go_at_call 94;refine(HFI.out _ HB1.out).mono ?_;rintro e w2 ⟨rfl,hb2⟩;rw[HGO.out]))
     go_roundw
     case rel=>exact⟨k+1,g,by simp,rfl,by omega,hg,HW3.out,(HB.out.trans (HB1.out.mono HB.out.size)).trans (hb2.mono (Nat.le_trans HB.out.size HB1.out.size))⟩
     case measure=>
      simp only[intOf]
      omega
   ·have hd:S.dir p=false:=by simpa using hd
    rw[hd]at q1
    have hW2:=HW.out
    unfold walkS at hW2
    rw[hd,if_neg (by decide)]at hW2
    go_wp2_with (fail)
    go_ret2
    exact⟨by rw[<-hW2];rfl,HB.out⟩
  ·have e:k=n:=by omega
   subst e
   have hW2:=HW.out
   rw[<-HNN.out,List.drop_length]at hW2
   go_wp2_with (fail)
   go_ret2
   exact⟨by rw[<-hW2];rfl,HB.out⟩
end
section
open Go.RowKit
set_option maxHeartbeats 1000000
def mfaultV(c:Int):Value:=.iface 84 (.agg #[.int .i64 c])
abbrev mthrown (c:Int):Ending:=.panicked [{v:=mfaultV c,recovered:=false}]
theorem mthrow_no(c:Int)(w:World):Calls Tryz.prog 116 #[.bool false,.int .i64 c] w fun e w'=>e= .returned (.tuple #[])/\w=w':=by
 go_enter Tryz.func116,Tryz.ntmps116
 go_wp2
 go_end0
 exact⟨rfl,rfl⟩
theorem mthrow_yes(c:Int)(w:World):Calls Tryz.prog 116 #[.bool true,.int .i64 c] w fun e w'=>e=mthrown c/\w=w':=by
 go_enter Tryz.func116,Tryz.ntmps116
 go_wp2
 exact⟨rfl,rfl,rfl⟩
theorem parse_okM{s:ByteArray}(hs:s.size<=4611686018427387904)(w:World){l:List ByteArray}(h:parseF s= .ok l):Calls Tryz.prog 171 #[.string s] w fun e w'=>(∃v,e= .returned v/\NmB w' v l/\ ∀q,svBlk v q->w.heap.size<=q)/\Below w.heap.size w w':=by
 have HP:=lhi (Parse_calls s hs w)
 rw[h]at HP
 clear hs
 go_enter Tryz.func171,Tryz.ntmps171
 go_wp2_with (first
  | (go_at_call 43;refine HP.out.mono ?_;rintro e w1 ⟨⟨v,rfl,hv,hvq⟩,hb⟩;have HVQ:=lhi hvq;clear hvq;have HV:=lhi hv;have HB:=lhi hb;clear hv hb)
  | (go_at_call 44;refine(code_calls 0 _).mono ?_;rintro e w' ⟨rfl,rfl⟩)
  | (go_at_call 116;refine(mthrow_no _ _).mono ?_;rintro e w' ⟨rfl,rfl⟩))
 go_ret
 exact⟨⟨_,rfl,HV.out,HVQ.out⟩,HB.out⟩
theorem parse_badM{s:ByteArray}(hs:s.size<=4611686018427387904)(w:World){k:Int}(h:parseF s= .err k)(hk:k≠0):Calls Tryz.prog 171 #[.string s] w fun e w'=>e=mthrown (codeF k)/\Below w.heap.size w w':=by
 have HP:=lhi (Parse_calls s hs w)
 rw[h]at HP
 have hk1:(k != 0)=true:=by rw[bne_iff_ne];exact hk
 have HC:=lhi (code_calls k)
 clear hs hk
 go_enter Tryz.func171,Tryz.ntmps171
 go_wp2_with (first
  | (go_at_call 43;refine HP.out.mono ?_;rintro e w1 ⟨hv,hb⟩;have hv:e= .returned (.tuple #[.slice none 0 0,.int .i64 k]):=hv;subst hv;have HB:=lhi hb;clear hb)
  | (go_at_call 44;refine(HC.out _).mono ?_;rintro e w' ⟨rfl,rfl⟩)
  | (go_at_call 116;refine(mthrow_yes _ _).mono ?_;rintro e w' ⟨rfl,rfl⟩))
 exact⟨rfl,rfl,HB.out⟩
end
section
open Go.RowKit
theorem num_get{S:St}{i:Nat}(h:i<S.inodes.length):S.num i=S.inodes[i].num:=by
 unfold St.num St.ino
 rw[getD_get h]
theorem ino_get{S:St}{i:Nat}(h:i<S.inodes.length):S.ino i=S.inodes[i]:=by
 unfold St.ino
 rw[getD_get h]
theorem placeF_of{S:St}(hr: ∀i j,i<j->j<S.inodes.length->S.num i<S.num j){y:Ino}(hy:y∈S.inodes): ∃g:Nat,g<S.inodes.length/\S.inodes[g]? =some y/\placeF S y.num=g:=by
 obtain⟨g,hg,e⟩:=List.mem_iff_getElem.1 hy
 refine⟨g,hg,by rw[List.getElem?_eq_getElem hg,e],placeF_at hg (by rw[num_get hg,e]) fun i hi=>?_⟩
 have:=hr i g hi hg
 rw[num_get hg,e]at this
 omega
theorem Inv.ord{S:St}(h:Inv S):Ord S:=by
 have hsm:=h.small
 have hr: ∀i j,i<j->j<S.inodes.length->S.num i<S.num j:=fun i j hij hj=>by
  rw[num_get hj,num_get (by omega:i<S.inodes.length)]
  exact List.pairwise_iff_getElem.1 h.rise i j (by omega) hj hij
 refine⟨hsm.ni,hr,fun i hi=>⟨hsm.en i,fun a b hab hb=>?_⟩,fun i k hi hk=>?_⟩
 ·have hp:=h.up _ (List.getElem_mem hi)
  rw[<-ino_get hi]at hp
  have:=List.pairwise_iff_getElem.1 hp a b (by omega) hb hab
  unfold enmL
  rw[getD_get hb,getD_get (by omega:a< (S.ino i).ents.length)]
  exact this
 ·have hk':k<S.inodes[i].ents.length:=by rw[<-ino_get hi];exact hk
  obtain⟨-,y,hy,e⟩:=h.goal _ (List.getElem_mem hi) _ (List.getElem_mem hk')
  obtain⟨g,hg,-,hp⟩:=placeF_of hr hy
  refine⟨g,hg,?_⟩
  have:S.enu i k=y.num:=by
   unfold St.enu
   rw[getD_get hk]
   rw[e]
   congr 1
   simp[ino_get hi]
  rw[this]
  exact hp
end
section
open Go.RowKit
set_option maxHeartbeats 1000000
set_option maxRecDepth 1000000 in
theorem mayMadec_no(x:Int)(hx:0<=x/\x<=32)(w:World):Calls Tryz.prog 96 #[.int .i64 x] w fun e w'=>e= .returned (.bool false)/\w'=w:=by
 have h1: ¬ x<0:=by omega
 have h2: ¬ 32<x:=by omega
 go_enter Tryz.func96,Tryz.ntmps96
 go_wp2
 go_ret
 exact⟨by simp[h2],rfl⟩
set_option maxRecDepth 1000000 in
theorem indexMade_no{w:World}{v:Value}{S:St}(hv:RowAt w v S.made.length 1 (madC S))(hn:S.made.length<=1000)(hm: ∀i,i<S.made.length->0<=S.mad i/\S.mad i<=32):
  Calls Tryz.prog 147 #[v,.func (.func 96) #[] #[]] w fun e w'=>e= .returned (.int .i64 (-1))/\Below w.heap.size w w':=by
 have HV:=lhi hv
 obtain⟨A,cap,rfl,-,-⟩:=hv
 obtain⟨n,hnn⟩: ∃n,S.made.length=n:=⟨_,rfl⟩
 rw[hnn]at hn HV hm
 rw[hnn]
 have HM:=lhi hm
 clear hnn hm
 go_enter Tryz.func147,Tryz.ntmps147
 go_wp2_with (fail)
 go_loopw [8] (fun i wr=>∃k:Nat,i= .int .i64 k/\k<=n/\Below w.heap.size w wr) (fun i _=>n - (intOf i).toNat)
 case atStart=>exact⟨0,rfl,by omega,Below.refl _ _⟩
 case round=>
  obtain⟨k,rfl,hk,hB⟩:=hrel
  have HB:=lhi hB
  by_cases hq:k<n
  ·have hq1:(k:Int)<n:=by omega
   obtain⟨-,-,g,off,rfl,hcell⟩:=(HV.out.keep hB).at_ hq
   have n0:wr.cell? ⟨g,off+k,none⟩=some (.int .i64 (S.mad k)):=by have:=hcell 0 (by omega);simpa[madC]using this
   have HC:=lhi (mayMadec_no (S.mad k) (HM.out k hq))
   clear hcell hB
   go_wp2_with (go_at_call 96;refine(HC.out _).mono ?_;rintro e w1 ⟨rfl,h⟩;have h:=h.symm;subst h)
   go_roundw
   case rel=>exact⟨k+1,by simp,by omega,HB.out⟩
   case measure=>
    simp only[intOf]
    omega
  ·have e:k=n:=by omega
   subst e
   clear hB
   go_wp2_with (fail)
   go_ret
   exact⟨rfl,HB.out⟩
theorem anyMade_no{w:World}{v:Value}{S:St}(hv:RowAt w v S.made.length 1 (madC S))(hn:S.made.length<=1000)(hm: ∀i,i<S.made.length->0<=S.mad i/\S.mad i<=32):
  Calls Tryz.prog 95 #[v,.func (.func 96) #[] #[]] w fun e w'=>e= .returned (.bool false)/\Below w.heap.size w w':=by
 have HC:=lhi (indexMade_no hv hn hm)
 clear hv hm
 go_enter Tryz.func95,Tryz.ntmps95
 go_wp2_with (go_at_call 147;refine HC.out.mono ?_;rintro e w1 ⟨rfl,hb1⟩)
 go_ret
 exact⟨rfl,hb1⟩
set_option maxRecDepth 1000000 in
theorem mayMade_yes{w:World}{sp:Nat}{iv ov mv:Value}{ev:Nat->Value}{S:St}(hS:StM w iv ov mv ev S)(hI:Inv S)(h2:w.cell? ⟨sp,2,none⟩=some mv):
  Calls Tryz.prog 46 #[.pointer (some ⟨sp,0,none⟩)] w fun e w'=>e= .returned (.bool true)/\Below w.heap.size w w':=by
 have HC:=lhi (anyMade_no hS.mad (by have:=hI.m8;omega) fun i hi=>by
  have:=hI.mb _ (List.getElem_mem hi)
  unfold St.mad
  rw[getD_get hi]
  exact this)
 have h1:=hI.m1
 have h8:=hI.m8
 obtain⟨A,cap,rfl,-,-⟩:=hS.mad
 have e1: ¬ ((S.made.length:Int)<1):=by omega
 have e2: ¬ ((8:Int)<S.made.length):=by omega
 clear hS hI
 go_enter Tryz.func46,Tryz.ntmps46
 go_wp2_with (go_at_call 95;refine HC.out.mono ?_;rintro e w1 ⟨rfl,hb1⟩)
 go_ret
 exact⟨rfl,hb1⟩
end
section
open Go.RowKit
set_option maxHeartbeats 1000000
set_option maxRecDepth 1000000 in
theorem mayNum_yes{w:World}{sp:Nat}{iv ov mv:Value}{ev:Nat->Value}{S:St}(hS:StM w iv ov mv ev S)(hI:Inv S)(h2:w.cell? ⟨sp,2,none⟩=some mv){x:Int}(hx:Given S.made x)(hb:x<=1000000):
  Calls Tryz.prog 97 #[.pointer (some ⟨sp,0,none⟩),.int .i64 x] w fun e w'=>e= .returned (.bool true)/\Below w.heap.size w w':=by
 obtain⟨g1,g2,g3⟩:=hx
 have hC:=core_calls x ⟨by omega,hb⟩
 have hM:=made_calls x ⟨g1,hb⟩
 have e1:coreF x=(x - 2) % 8:=by unfold coreF;rw[if_neg (by omega)]
 obtain⟨c,hc⟩: ∃c:Nat,(x - 2) % 8=c:=⟨((x - 2) % 8).toNat,by omega⟩
 rw[e1,hc]at hC
 rw[hc]at g2 g3
 have hcl:c<S.made.length:=by omega
 have h8:=hI.m8
 obtain⟨A,cap,rfl,-,hcell⟩:=hS.mad
 obtain⟨g,off,rfl,hcel⟩:=hcell (by omega)
 clear hcell
 have q0:w.cell? ⟨g,off+c,none⟩=some (.int .i64 (S.mad c)):=by have:=hcel c 0 hcl (by omega);simpa[madC]using this
 have e3:madeF x<S.mad c:=by unfold madeF St.mad;simpa using g3
 obtain⟨y,hy⟩: ∃y,madeF x=y:=⟨_,rfl⟩
 obtain⟨z,hz⟩: ∃z,S.mad c=z:=⟨_,rfl⟩
 rw[hy]at hM e3
 rw[hz]at q0 e3
 have d1:decide ((0:Int)<=c)=true:=by simp
 have d2:decide ((c:Int)<S.made.length)=true:=by simp;omega
 have d3:decide (y<z)=true:=by simpa using e3
 have HC:=lhi hC
 have HM:=lhi hM
 clear hS hI hcel hC hM e1 hc g1 g2 g3 hy hz e3
 go_enter Tryz.func97,Tryz.ntmps97
 go_wp2_with (go_at_call 102;refine(HC.out _).mono ?_;rintro e w' ⟨rfl,h⟩;have h:=h.symm;subst h)
 go_quiet ((go_at_call 103;exact Calls.quiet_of_same (HM.out _)))
 go_wp2_with (fail)
 go_ret
 exact⟨rfl,⟨rfl,rfl,rfl,Nat.le_refl _,fun _ _=>rfl⟩⟩
end
section
open Go.RowKit
set_option maxHeartbeats 1000000
set_option maxRecDepth 1000000 in
theorem openc_calls(c f n x:Int){p:Nat}{w:World}(hp:w.cell? ⟨p,0,none⟩=some (.int .i64 x)):Calls Tryz.prog 100 #[.agg #[.int .i64 c,.int .i64 f,.int .i64 n],.pointer (some ⟨p,0,none⟩)] w fun e w'=>e= .returned (.bool (n==x))/\Below w.heap.size w w':=by
 have hl:=World.block_lt_of_cell? w _ hp
 have HB:=lhi ((Below.refl w.heap.size w).alloc (Nat.le_refl _) (.cells #[.int .i64 c,.int .i64 f,.int .i64 n] 144))
 go_enter Tryz.func100,Tryz.ntmps100
 go_wp2
 go_ret
 exact⟨rfl,HB.out⟩
def openI(S:St)(x:Int):Int:=match(List.range S.opens.length).find? (fun i=>S.on i==x)with
 | some k=>k
 | none=> -1
theorem openI_at{S:St}{x:Int}{k:Nat}(hk:k<S.opens.length)(h:S.on k=x)(hlt: ∀i,i<k->S.on i≠x):openI S x=k:=by
 have:(List.range S.opens.length).find? (fun i=>S.on i==x)=some k:=by
  rw[List.find?_eq_some_iff_getElem]
  exact⟨by simpa using h,k,by simpa using hk,by simp,fun j hj=>by simpa using hlt j hj⟩
 unfold openI
 rw[this]
theorem openI_no{S:St}{x:Int}(h: ∀i,i<S.opens.length->S.on i≠x):openI S x= -1:=by
 have:(List.range S.opens.length).find? (fun i=>S.on i==x)=none:=by
  rw[List.find?_eq_none]
  intro i hi
  simpa using h i (by simpa using hi)
 unfold openI
 rw[this]
set_option maxRecDepth 1000000 in
theorem openIdx_calls{w:World}{v:Value}{S:St}(hv:RowAt w v S.opens.length 3 (opnC S))(hn:S.opens.length<=1000){x:Int}{p:Nat}(hp:w.cell? ⟨p,0,none⟩=some (.int .i64 x)):
  Calls Tryz.prog 125 #[v,.func (.func 100) #[] #[.pointer (some ⟨p,0,none⟩)]] w fun e w'=>e= .returned (.int .i64 (openI S x))/\Below w.heap.size w w':=by
 have HV:=lhi hv
 have H1:=lhi (fun(k:Nat) a b c=>openI_at (S:=S) (x:=x) (k:=k) a b c)
 have H2:=lhi (fun a=>openI_no (S:=S) (x:=x) a)
 obtain⟨A,cap,rfl,-,-⟩:=hv
 obtain⟨n,hnn⟩: ∃n,S.opens.length=n:=⟨_,rfl⟩
 rw[hnn]at hn HV H1 H2
 rw[hnn]
 clear hnn
 go_enter Tryz.func125,Tryz.ntmps125
 go_wp2_with (fail)
 go_loopw [8] (fun i wr=>∃k:Nat,i= .int .i64 k/\k<=n/\ (∀j,j<k->S.on j≠x)/\Below w.heap.size w wr) (fun i _=>n - (intOf i).toNat)
 case atStart=>exact⟨0,rfl,by omega,fun j hj=>absurd hj (by omega),Below.refl _ _⟩
 case round=>
  obtain⟨k,rfl,hk,hl,hB⟩:=hrel
  have HB:=lhi hB
  have HL:=lhi hl
  clear hl
  by_cases hq:k<n
  ·have hq1:(k:Int)<n:=by omega
   obtain⟨-,-,g,off,rfl,hcell⟩:=(HV.out.keep hB).at_ hq
   have q0:wr.cell? ⟨g,off+k*3,none⟩=some (.int .i64 (S.oc k)):=hcell 0 (by omega)
   have q1:wr.cell? ⟨g,off+k*3+1,none⟩=some (.int .i64 (S.of k)):=hcell 1 (by omega)
   have q2:wr.cell? ⟨g,off+k*3+2,none⟩=some (.int .i64 (S.on k)):=hcell 2 (by omega)
   have HC:=lhi (openc_calls (S.oc k) (S.of k) (S.on k) x ((hB.cell (World.block_lt_of_cell? _ _ hp)).trans hp))
   clear hcell hB
   by_cases e:S.on k=x
   ·have e1:(S.on k==x)=true:=by simp[e]
    have HR:=lhi (H1.out k hq e HL.out)
    rw[e1]at HC
    clear e e1
    go_wp2_with (go_at_call 100;refine HC.out.mono ?_;rintro e w1 ⟨rfl,hb1⟩)
    go_ret
    exact⟨by rw[HR.out];rfl,HB.out.trans (hb1.mono HB.out.size)⟩
   ·have e1:(S.on k==x)=false:=by simp[e]
    rw[e1]at HC
    have HE:=lhi e
    clear e
    go_wp2_with (go_at_call 100;refine HC.out.mono ?_;rintro e w1 ⟨rfl,hb1⟩)
    go_roundw
    case rel=>exact⟨k+1,by simp,by omega,fun j hj=>by
     by_cases h:j=k
     ·subst h;exact HE.out
     ·exact HL.out j (by omega),HB.out.trans (hb1.mono HB.out.size)⟩
    case measure=>
     simp only[intOf]
     omega
  ·have e:k=n:=by omega
   subst e
   have HR:=lhi (H2.out HL.out)
   clear hB
   go_wp2_with (fail)
   go_ret
   exact⟨by rw[HR.out];rfl,HB.out⟩
theorem openAny_calls{w:World}{v:Value}{S:St}(hv:RowAt w v S.opens.length 3 (opnC S))(hn:S.opens.length<=1000){x:Int}{p:Nat}(hp:w.cell? ⟨p,0,none⟩=some (.int .i64 x)):
  Calls Tryz.prog 99 #[v,.func (.func 100) #[] #[.pointer (some ⟨p,0,none⟩)]] w fun e w'=>e= .returned (.bool (decide (0<=openI S x)))/\Below w.heap.size w w':=by
 have HC:=lhi (openIdx_calls hv hn hp)
 clear hv
 go_enter Tryz.func99,Tryz.ntmps99
 go_wp2_with (go_at_call 125;refine HC.out.mono ?_;rintro e w1 ⟨rfl,hb1⟩)
 go_ret
 exact⟨rfl,hb1⟩
set_option maxRecDepth 1000000 in
theorem open_calls'{w:World}{sp:Nat}{iv ov mv:Value}{ev:Nat->Value}{S:St}(hS:StM w iv ov mv ev S)(hn:S.opens.length<=1000)(h1:w.cell? ⟨sp,1,none⟩=some ov)(x:Int):
  Calls Tryz.prog 50 #[.pointer (some ⟨sp,0,none⟩),.int .i64 x] w fun e w'=>e= .returned (.bool (decide (0<=openI S x)))/\Below w.heap.size w w':=by
 have hl:=World.block_lt_of_cell? w _ h1
 have hmf: ∀(fn:Fn) (first cap:Array Value) (w:World),(Instr.makeFunc fn first cap).run Tryz.prog w= .ok (.func fn first cap) w:=fun _ _ _ _=>rfl
 have hb:=(Below.refl w.heap.size w).alloc (Nat.le_refl _) (.cells #[.int .i64 x] 3)
 have HC:=lhi (openAny_calls (hS.opn.keep hb) hn (x:=x) (p:=w.heap.size) (by simp[go_sem]))
 have HB:=lhi hb
 obtain⟨A,cap,rfl,-,-⟩:=hS.opn
 clear hS hb
 go_enter Tryz.func50,Tryz.ntmps50
 go_wp2_with (go_at_call 99;refine HC.out.mono ?_;rintro e w1 ⟨rfl,hb1⟩)
 go_ret
 exact⟨rfl,HB.out.trans (hb1.mono HB.out.size)⟩
end
section
open Go.RowKit
set_option maxHeartbeats 1000000
def cntE(S:St)(x:Int)(a:Nat):Nat->Nat
 | 0=>0
 | k+1=>cntE S x a k+if S.dir a&& (S.enu a k==x)then 1 else 0
def cntI(S:St)(x:Int):Nat->Nat
 | 0=>0
 | a+1=>cntI S x a+cntE S x a (S.ne a)
theorem cntE_le(S:St)(x:Int)(a:Nat): ∀k,cntE S x a k<=k
 | 0=>Nat.le_refl _
 | k+1=>by have:=cntE_le S x a k;unfold cntE;split <;> omega
theorem cntI_le{S:St}(h: ∀i,S.ne i<=1000)(x:Int): ∀a,cntI S x a<=a*1000
 | 0=>Nat.le_refl _
 | a+1=>by have:=cntI_le h x a;have:=cntE_le S x a (S.ne a);have:=h a;unfold cntI;omega
set_option maxRecDepth 1000000 in
theorem links_calls{w:World}{iv ov mv:Value}{ev:Nat->Value}{S:St}(hS:StM w iv ov mv ev S)(hsm:S.small)(x:Int):
  Calls Tryz.prog 67 #[.agg #[iv,ov,mv],.int .i64 x] w fun e w'=>e= .returned (.int .i64 (cntI S x S.inodes.length:Nat))/\Below w.heap.size w w':=by
 have hb:=(Below.refl w.heap.size w).alloc (Nat.le_refl _) (.cells #[iv,ov,mv] 30)
 have HS:=lhi (hS.keep hb)
 have HB0:=lhi hb
 have HI:=lhi (hS.ino.keep hb)
 obtain⟨OA,ocap,rfl,-,-⟩:=hS.opn
 obtain⟨MA,mcap,rfl,-,-⟩:=hS.mad
 obtain⟨A,cap,rfl,-,-⟩:=hS.ino
 obtain⟨n,hnn⟩: ∃n,S.inodes.length=n:=⟨_,rfl⟩
 have hn:=hsm.ni
 have HEN:=lhi hsm.en
 rw[hnn]at hn HI
 rw[hnn]
 have HNN:=lhi hnn
 clear hS hb hsm hnn
 go_enter Tryz.func67,Tryz.ntmps67
 go_wp2_with (fail)
 obtain⟨w1,hw1⟩: ∃W,W=(w.alloc (.cells #[.slice A n cap,.slice OA S.opens.length ocap,.slice MA S.made.length mcap] 30)):=⟨_,rfl⟩
 rw[<-hw1]
 have HSE:=lhi (show∀i,i<n->RowAt w1 (ev i) (S.ne i) 2 (entC S i)from fun i hi=>by rw[hw1];have:=HS.out.ent i (by rw[HNN.out];exact hi);rw[HNN.out]at this;exact this)
 have HI1:=lhi (show RowAt w1 (.slice A n cap) n 4 (inoC S ev)by rw[hw1];exact HI.out)
 have HB1:=lhi (show Below w.heap.size w w1 by rw[hw1];have:=HB0.out;rw[HNN.out]at this;exact this)
 have HCL:=lhi (fun a=>cntI_le HEN.out x a)
 clear HS HI HB0 hw1
 go_loopw [5,13] (fun m i wr=>∃a:Nat,i= .int .i64 a/\m= .int .i64 (cntI S x a:Nat)/\a<=n/\Below w1.heap.size w1 wr) (fun _ i _=>n - (intOf i).toNat)
 case atStart=>exact⟨0,rfl,rfl,by omega,Below.refl _ _⟩
 case round=>
  obtain⟨a,rfl,rfl,ha,hB⟩:=hrel
  have HB:=lhi hB
  obtain⟨ci,hci⟩: ∃c,cntI S x a=c:=⟨_,rfl⟩
  have HCI:=lhi hci
  have hcl:=HCL.out a
  rw[hci]at hcl
  rw[hci]
  clear hci
  by_cases hp:a<n
  ·have hp1:(a:Int)<n:=by omega
   obtain⟨-,-,g,off,rfl,hcell⟩:=(HI1.out.keep hB).at_ hp
   have q0:wr.cell? ⟨g,off+a*4,none⟩=some (.int .i64 (S.num a)):=hcell 0 (by omega)
   have q1:wr.cell? ⟨g,off+a*4+1,none⟩=some (.bool (S.dir a)):=hcell 1 (by omega)
   have q2:wr.cell? ⟨g,off+a*4+2,none⟩=some (ev a):=hcell 2 (by omega)
   have q3:wr.cell? ⟨g,off+a*4+3,none⟩=some (.string (S.dat a)):=hcell 3 (by omega)
   have HE:=lhi (HSE.out a hp)
   obtain⟨EA,ecap,hev,-,-⟩:=HE.out
   rw[hev]at q2 HE
   obtain⟨ne,hne⟩: ∃e,S.ne a=e:=⟨_,rfl⟩
   have HNE:=lhi hne
   have hne2:=HEN.out a
   rw[hne]at q2 HE hne2
   have HQ:=lhi (Blk.new wr 93 #[.int .i64 (S.num a),.bool (S.dir a),.slice EA ne ecap,.string (S.dat a)])
   have HBA:=lhi (hB.alloc hB.size (.cells #[.int .i64 (S.num a),.bool (S.dir a),.slice EA ne ecap,.string (S.dat a)] 93))
   clear hcell hev hne hB
   obtain⟨qb,hqb⟩: ∃q,q=wr.heap.size:=⟨_,rfl⟩
   rw[<-hqb]at HQ
   go_wp2_with (fail)
   rw[<-hqb]
   clear hqb
   go_loopw [5,20] (fun m i wi=>∃k:Nat,i= .int .i64 k/\m= .int .i64 (ci+cntE S x a k:Nat)/\k<=ne/\Below w1.heap.size w1 wi/\Blk wi qb 93 #[.int .i64 (S.num a),.bool (S.dir a),.slice EA ne ecap,.string (S.dat a)]) (fun _ i _=>ne - (intOf i).toNat)
   case atStart=>exact⟨0,rfl,rfl,by omega,HBA.out,HQ.out⟩
   case round=>
    obtain⟨k,rfl,rfl,hk,hBi,hQi⟩:=hrel
    have HBI:=lhi hBi
    have HQI:=lhi hQi
    obtain⟨ck,hck⟩: ∃c,cntE S x a k=c:=⟨_,rfl⟩
    have hcl2:=cntE_le S x a k
    have HCK:=lhi hck
    rw[hck]at hcl2
    rw[hck]
    clear hck
    by_cases hkp:k<ne
    ·have hkp1:(k:Int)<ne:=by omega
     obtain⟨-,-,eg,eoff,rfl,ecell⟩:=(HE.out.keep hBi).at_ hkp
     have e0:wr.cell? ⟨eg,eoff+k*2,none⟩=some (.string (S.enm a k)):=ecell 0 (by omega)
     have e1:wr.cell? ⟨eg,eoff+k*2+1,none⟩=some (.int .i64 (S.enu a k)):=ecell 1 (by omega)
     have v1:wr.cell? ⟨qb,1,none⟩=some (.bool (S.dir a)):=hQi.cell 1
     have hql:=hQi.lt
     have HB2:=lhi (hBi.alloc hBi.size (.cells #[.string (S.enm a k),.int .i64 (S.enu a k)] 132))
     have HQ2:=lhi (hQi.alloc (.cells #[.string (S.enm a k),.int .i64 (S.enu a k)] 132))
     clear ecell hBi hQi
     have HS1:=lhi (show cntE S x a (k+1)=ck+if S.dir a&& (S.enu a k==x)then 1 else 0 by rw[<-HCK.out];rfl)
     obtain⟨y,hy⟩: ∃y,S.enu a k=y:=⟨_,rfl⟩
     rw[hy]at e1 HB2 HQ2 HS1
     clear hy
     cases hd:S.dir a with
     | false=>
      rw[hd]at v1 HS1 HQ2
      clear hd
      go_wp2_with (fail)
      go_roundw
      case rel=>exact⟨k+1,by simp,by rw[HS1.out];simp,by omega,HB2.out,HQ2.out⟩
      case measure=>
       simp only[intOf]
       omega
     | true=>
      rw[hd]at v1 HS1 HQ2
      clear hd
      by_cases hx:y=x
      ·have hx1:(y==x)=true:=by simp[hx]
       rw[hx1]at HS1
       clear hx
       go_wp2_with (fail)
       go_roundw
       case rel=>exact⟨k+1,by simp,by rw[HS1.out];simp;omega,by omega,HB2.out,HQ2.out⟩
       case measure=>
        simp only[intOf]
        omega
      ·have hx1:(y==x)=false:=by simp[hx]
       rw[hx1]at HS1
       go_wp2_with (fail)
       go_roundw
       case rel=>exact⟨k+1,by simp,by rw[HS1.out];simp,by omega,HB2.out,HQ2.out⟩
       case measure=>
        simp only[intOf]
        omega
    ·have e:k=ne:=by omega
     subst e
     clear hBi hQi
     go_wp2_with (fail)
     go_roundw
     case rel=>exact⟨a+1,by simp,by rw[cntI,HCI.out,HNE.out,HCK.out],by omega,HBI.out⟩
     case measure=>
      simp only[intOf]
      omega
  ·have e:a=n:=by omega
   subst e
   clear hB
   go_wp2_with (fail)
   go_ret
   exact⟨by rw[HCI.out];rfl,HB1.out.trans (HB.out.mono HB1.out.size)⟩
end
section
set_option maxHeartbeats 1000000
theorem flat_nil{A:Type}{f:Nat->List A}{n:Nat}(h: ∀i,i<n->f i=[]):(List.range n).flatMap f=[]:=by
 rw[List.flatMap_eq_nil_iff]
 intro i hi
 exact h i (by simpa using hi)
theorem one_nil{k x:Int}{s:ByteArray}{b:Bool}(h:b=false):one k x s b=[]:=by subst h;rfl
theorem range_flat{A B:Type}(g:A->List B)(d:A): ∀l:List A,(List.range l.length).flatMap (fun i=>g (l.getD i d))=l.flatMap g
 | []=>rfl
 | x::l=>by
  rw[List.length_cons,List.range_succ_eq_map,List.flatMap_cons,List.flatMap_cons,List.flatMap_map]
  have h:=range_flat g d l
  congr 1
theorem entsOf_eq(S:St)(i:Nat):entsOf S i=(S.ino i).ents.map (·.2):=by
 unfold entsOf St.ne St.enu
 refine List.ext_getElem? fun k=>?_
 rw[List.getElem?_map,List.getElem?_map]
 rcases Nat.lt_or_ge k (S.ino i).ents.length with q | q
 ·rw[List.getElem?_range q,List.getElem?_eq_getElem q]
  simp only[Option.map_some]
  rw[getD_get q]
 ·rw[List.getElem?_eq_none (by simpa using q),List.getElem?_eq_none q];rfl
theorem manyF_eq(S:St)(x:Int):manyF S x=(links S).count x:=by
 unfold manyF manyTo links
 have h:(fun i=>if S.dir i then entsOf S i else [])=fun i=>linksOf (S.inodes.getD i noIno):=by
  funext i
  rw[entsOf_eq]
  rfl
 rw[h,range_flat linksOf noIno]
theorem mem_links{S:St}{y:Int}:y∈links S↔ ∃d,Edge S d y:=by
 unfold links Edge linksOf
 rw[List.mem_flatMap]
 constructor
 ·rintro⟨x,hx,hy⟩
  by_cases hd:x.dir=true
  ·rw[if_pos hd]at hy
   obtain⟨e,he,rfl⟩:=List.mem_map.1 hy
   exact⟨x.num,x,hx,rfl,hd,e,he,rfl⟩
  ·rw[if_neg hd]at hy;cases hy
 ·rintro⟨d,x,hx,rfl,hd,e,he,rfl⟩
  exact⟨x,hx,by rw[if_pos hd];exact List.mem_map.2 ⟨e,he,rfl⟩⟩
theorem bl_asymm{s t:ByteArray}(h:nlt s t=true):nle t s=false:=by
 unfold nle
 rw[Bool.or_eq_false_iff]
 constructor
 ·cases h2:Op.bytesLess t.toList s.toList with
  | false=>rfl
  | true=>have:=nlt_trans h (show nlt t s=true from h2);rw[nlt_irrefl]at this;cases this
 ·rw[Bool.eq_false_iff]
  intro h2
  have h3:t.toList=s.toList:=by simpa using h2
  unfold nlt at h
  rw[h3,bl_irrefl]at h
  cases h
namespace Inv
variable{S:St}
theorem found_of_reach(h:Inv S){x:Int}(hr:Reach S x):x∈foundF S:=by
 have hc:=found_closed S
 induction hr with
 | root=>exact hc.1
 | step _ he ih=>
  obtain⟨z,hz,rfl,hd,e,hm,rfl⟩:=he
  obtain⟨i,hi,e1,e2⟩:=h.firstIx_mem hz
  refine hc.2 _ ih _ ?_
  unfold kids
  rw[e2]
  show _∈if S.dir i=true then entsOf S i else []
  rw[if_pos (by unfold St.dir;rw[e1];exact hd),entsOf_eq,e1]
  exact List.mem_map.2 ⟨e,hm,rfl⟩
theorem numbers_nil(h:Inv S):numbersF S=[]:=by
 unfold numbersF
 have h0:=h.num0
 rw[one_nil (by unfold rootB;have:=h.pos;simp only[Bool.or_eq_false_iff,decide_eq_false_iff_not];exact⟨⟨by omega,by rw[h0.1];rfl⟩,by rw[h0.2];rfl⟩),one_nil (b:=manyB S) (by unfold manyB;have:=h.m1;have:=h.m8;simp only[Bool.or_eq_false_iff,decide_eq_false_iff_not];omega),
  flat_nil (fun i hi=>?_),flat_nil (fun i hi=>?_)]
 ·rfl
 ·refine one_nil ?_
  have:=h.mb _ (getD_mem (d:=0) hi)
  unfold madB St.mad
  simp only[Bool.or_eq_false_iff,decide_eq_false_iff_not];omega
 ·have hb:=h.num_bound (ino_mem hi)
  have e1:b1 S i=false:=by
   unfold b1
   have h1:1<=S.num i:=hb.1
   by_cases hp:0<i
   ·have:=h.num_lt hi (by omega:i - 1<i)
    simp;omega
   ·simp;omega
  have e8:b8 S i=false:=by
   unfold b8
   by_cases e:S.num i=1
   ·simp[e]
   ·obtain⟨h1,h2,h3⟩:=h.given _ (ino_mem hi) e
    have hc:coreF (S.num i)=(S.num i - 2) % 8:=by
     unfold coreF
     rw[if_neg (by show ¬ (S.ino i).num<2;omega)]
    rw[hc]
    have h2':(S.num i - 2) % 8<S.made.length:=h2
    have h3':(S.num i - 2) / 8<S.mad ((S.num i - 2) % 8).toNat:=h3
    unfold madeF
    simp;omega
  unfold numAt
  rw[one_nil e1,one_nil e8];rfl
theorem bodies_nil(h:Inv S):bodiesF S=[]:=by
 unfold bodiesF
 refine flat_nil fun i hi=>?_
 have hm:=ino_mem hi
 unfold bodyAt
 have e6:b6 S i=false:=by
  have h1:=h.dat _ hm
  unfold b6 St.dir St.dat St.ne
  cases hd:(S.ino i).dir with
  | true=>
   have h2:=h.isDir _ hm hd
   have h3:(S.ino i).data.toList=[]:=by
    rw[ByteArray.toList_eq]
    exact List.length_eq_zero_iff.1 (by rw[Array.length_toList];exact h2)
   simp[h3];omega
  | false=>
   have h2:=h.isFile _ hm hd
   simp[h2];omega
 rw[one_nil e6]
 show(if S.dir i=true then _ else _)=[]
 by_cases hd:S.dir i=true
 ·rw[if_pos hd]
  refine flat_nil fun k hk=>?_
  have hke:k< (S.ino i).ents.length:=hk
  have hmem:(S.ino i).ents.getD k (ByteArray.empty,0)∈(S.ino i).ents:=getD_mem hke
  obtain⟨g1,y,hy,g2⟩:=h.goal _ hm _ hmem
  have e2:b2 S i k=false:=by
   obtain⟨j,-,-,hj⟩:=h.firstIx_mem hy
   unfold b2 St.enu
   rw[<-g2,hj]
   have:y.num≠1:=by rw[g2];exact g1
   simp[this]
  have e5:b5 S i k=false:=by
   have hn:=h.nam _ hm _ hmem
   unfold b5 St.enm
   rw[hn]
   by_cases hp:0<k
   ·have h1:=List.pairwise_iff_getElem.1 (h.up _ hm) (k - 1) k (by omega) hke (by omega)
    rw[getD_get hke,getD_get (by omega:k - 1<_),bl_asymm h1]
    simp
   ·have:k=0:=by omega
    subst this;simp
  have e7:b7 S i k=false:=by
   unfold b7 cnt
   rw[Bool.eq_false_iff]
   intro hc
   have hc:((List.range k).filter fun j=>nbucket (S.enm i j)==nbucket (S.enm i k)).length=4:=by simpa using hc
   have h4:=h.slots _ hm (nbucket (S.enm i k))
   have h5:((S.ino i).ents.take (k+1)).length=k+1:=by simp;omega
   have h6:(((S.ino i).ents.take (k+1)).filter fun e=>nbucket e.1==nbucket (S.enm i k)).length<=4:=
    Nat.le_trans ((List.take_sublist _ _).filter _).length_le h4
   have h7:(S.ino i).ents.take (k+1)=(List.range (k+1)).map fun j=>(S.ino i).ents.getD j (ByteArray.empty,0):=by
    refine List.ext_getElem? fun j=>?_
    rw[List.getElem?_map,List.getElem?_take]
    by_cases q:j<k+1
    ·rw[if_pos q,List.getElem?_range q,List.getElem?_eq_getElem (by omega)]
     simp only[Option.map_some]
     rw[getD_get (by omega:j<_)]
    ·rw[if_neg q,List.getElem?_eq_none (by simpa using q)];rfl
   rw[h7,List.filter_map,List.length_map,List.range_succ,List.filter_append,List.length_append]at h6
   have h8:(List.filter ((fun e:ByteArray×Int=>nbucket e.1==nbucket (S.enm i k))∘fun j=>(S.ino i).ents.getD j (ByteArray.empty,0)) [k]).length=1:=by
    rw[List.filter_cons,if_pos (by simp[St.enm])];rfl
   have h9:(List.filter ((fun e:ByteArray×Int=>nbucket e.1==nbucket (S.enm i k))∘fun j=>(S.ino i).ents.getD j (ByteArray.empty,0)) (List.range k)).length=4:=hc
   omega
  unfold entAt
  rw[one_nil e2,one_nil e5,one_nil e7];rfl
 ·rw[if_neg hd]
theorem tree_nil(h:Inv S):treeF S=[]:=by
 unfold treeF
 refine flat_nil fun i hi=>?_
 have hm:=ino_mem hi
 unfold treeAt
 have e3:b3 S i=false:=by
  unfold b3
  rw[manyF_eq]
  by_cases hd:S.dir i=true
  ·by_cases e:S.num i=1
   ·simp[e]
   ·have h1:=h.one _ hm hd e
    have h1:(links S).count (S.num i)=1:=h1
    simp[h1]
  ·simp[hd]
 have e4:b4 S i=false:=by
  unfold b4 opB foundB
  rw[h.firstIx_at hi]
  have hf:(foundF S).contains (S.num i)=true∨(!S.dir i&&isOpenB S (S.num i))=true:=by
   by_cases hd:S.dir i=true
   ·exact .inl (by rw[List.contains_eq_mem];exact decide_eq_true (h.found_of_reach (h.reach _ hm hd)))
   ·have hd:S.dir i=false:=by simpa using hd
    rcases h.file _ hm hd with q | ⟨o,ho,q⟩
    ·obtain⟨d,hE⟩:=mem_links.1 q
     obtain⟨x,hx,rfl,hxd,e⟩:=id hE
     exact .inl (by rw[List.contains_eq_mem];exact decide_eq_true (h.found_of_reach ((h.reach x hx hxd).step hE)))
    ·refine .inr ?_
     rw[hd]
     obtain⟨j,hj,e⟩:=List.getElem_of_mem ho
     unfold isOpenB
     simp only[Bool.not_false,Bool.true_and,List.any_eq_true]
     refine⟨j,by simpa using hj,?_⟩
     unfold St.on
     rw[getD_get hj,e,q]
     simp[St.num]
  rcases hf with q | q
  ·rw[q];simp
  ·rw[q];simp
 rw[one_nil e3,one_nil e4];rfl
theorem open_nil(h:Inv S):openF S=[]:=by
 unfold openF
 refine flat_nil fun i hi=>one_nil ?_
 have hmem:S.opens.getD i (0,0,0)∈S.opens:=getD_mem hi
 obtain⟨h1,h2,h3,h4,y,hy,h5,h6⟩:=h.ok _ hmem
 have ea:b9a S i=false:=by
  obtain⟨j,-,e1,hj⟩:=h.firstIx_mem hy
  unfold b9a dirAt St.on St.oc St.of
  rw[<-h5,hj]
  show(S.dir j||_||_||_||_)=false
  unfold St.dir
  rw[e1,h6]
  simp only[Bool.or_eq_false_iff,decide_eq_false_iff_not];exact⟨⟨⟨⟨trivial,by omega⟩,by omega⟩,by omega⟩,by omega⟩
 unfold b9
 rw[ea]
 by_cases hp:0<i
 ·have h7:=List.pairwise_iff_getElem.1 h.osort (i - 1) i (by omega) hi (by omega)
  unfold St.oc St.of
  rw[getD_get hi,getD_get (by omega:i - 1<_)]
  simp;omega
 ·simp;omega
theorem raw_nil(h:Inv S):rawF S=[]:=by
 unfold rawF
 rw[h.numbers_nil,h.bodies_nil,h.tree_nil,h.open_nil];rfl
end Inv
end
section
open Go.RowKit
set_option maxHeartbeats 1000000
def RowB(w:World)(b:Nat)(t:TypeId)(n:Nat)(g:Nat->Value):Prop:=∃cs,Blk w b t cs/\cs.size=n/\ ∀i,i<n->cs[i]? =some (g i)
namespace RowB
variable{w w':World}{b n:Nat}{t:TypeId}{g h:Nat->Value}
theorem cell(r:RowB w b t n g){i:Nat}(hi:i<n):w.cell? ⟨b,i,none⟩=some (g i):=by
 obtain⟨cs,h1,h2,h3⟩:=r
 rw[h1.cell];exact h3 i hi
theorem lt(r:RowB w b t n g):b<w.heap.size:=by obtain⟨cs,h1,h2,h3⟩:=r;exact h1.lt
theorem heap(r:RowB w b t n g)(e:w'.heap[b]? =w.heap[b]?):RowB w' b t n g:=by
 obtain⟨cs,h1,h2,h3⟩:=r
 exact⟨cs,Blk.of_heap e h1,h2,h3⟩
theorem drew(r:RowB w b t n g):RowB w.drew b t n g:=r
theorem below(r:RowB w b t n g)(hb:Below w.heap.size w w'):RowB w' b t n g:=r.heap (hb.block _ r.lt)
theorem alloc(r:RowB w b t n g)(o:Obj):RowB (w.alloc o) b t n g:=r.below ((Below.refl _ _).alloc (Nat.le_refl _) o)
theorem far(r:RowB w b t n g){p:Addr}(hp:p.block≠b)(v:Value):RowB (w.setCell p v) b t n g:=r.heap (Below.heap_setCell _ _ _ _ (Ne.symm hp))
theorem set(r:RowB w b t n g){i:Nat}(v:Value)(hg: ∀j,j<n->h j=if j=i then v else g j):RowB (w.setCell ⟨b,i,none⟩ v) b t n h:=by
 obtain⟨cs,h1,h2,h3⟩:=r
 refine⟨cs.setIfInBounds i v,h1.set_ i v,by simpa using h2,fun j hj=>?_⟩
 rw[hg j hj]
 by_cases e:j=i
 ·subst e
  rw[if_pos rfl,Array.getElem?_setIfInBounds_self,if_pos (by omega)]
 ·rw[if_neg e,Array.getElem?_setIfInBounds_ne (fun q=>e q.symm)]
  exact h3 j hj
theorem congr(r:RowB w b t n g)(hg: ∀j,j<n->h j=g j):RowB w b t n h:=by
 obtain⟨cs,h1,h2,h3⟩:=r
 exact⟨cs,h1,h2,fun i hi=>by rw[hg i hi];exact h3 i hi⟩
theorem made(w:World)(t:TypeId)(n:Nat)(v:Value):RowB (w.alloc (.cells (Array.replicate n v) t)) w.heap.size t n (fun _=>v):=
 ⟨_,Blk.new _ _ _,by simp,fun i hi=>by simp[hi]⟩
end RowB
def manyU(S:St)(i:Nat):List Int:=(List.range i).flatMap (entsOf S)
theorem manyU_succ(S:St)(i:Nat):manyU S (i+1)=manyU S i++entsOf S i:=flat_succ _ i
theorem manyU_len{S:St}(hs:S.small)(i:Nat)(hi:i<=1000):(manyU S i).length<=1000000:=by
 unfold manyU
 have:=flat_len (f:=entsOf S) (c:=1000) (fun i=>by rw[entsOf_len];exact hs.en i) i
 have h2:i*1000<=1000*1000:=Nat.mul_le_mul_right _ hi
 omega
theorem Inv.ents_file{S:St}(h:Inv S){i:Nat}(hi:i<S.inodes.length)(hd:S.dir i=false):entsOf S i=[]:=by
 rw[entsOf_eq,h.isFile _ (Inv.ino_mem hi) hd];rfl
theorem Inv.manyU_eq{S:St}(h:Inv S): ∀i,i<=S.inodes.length->manyU S i=manyTo S i
 | 0,_=>rfl
 | i+1,hi=>by
  rw[manyU_succ,manyTo_succ,h.manyU_eq i (by omega)]
  cases hd:S.dir i with
  | true=>rw[if_pos rfl]
  | false=>rw[if_neg (by decide),h.ents_file (by omega) hd]
theorem Inv.may_dir{S:St}(h:Inv S){i:Nat}(hi:i<S.inodes.length)(h0:0<i)(hd:S.dir i=true):manyF S (S.num i)=1/\foundB S (S.num i)=true:=by
 refine⟨?_,?_⟩
 ·rw[manyF_eq]
  have h1:=h.num_lt hi h0
  have h2:=h.num0.1
  exact h.one _ (Inv.ino_mem hi) hd (by show S.num i≠1;omega)
 ·unfold foundB
  rw[List.contains_eq_mem]
  exact decide_eq_true (h.found_of_reach (h.reach _ (Inv.ino_mem hi) hd))
theorem Inv.may_file{S:St}(h:Inv S){i:Nat}(hi:i<S.inodes.length)(hd:S.dir i=false):foundB S (S.num i)=true∨(manyF S (S.num i)=0/\0<=openI S (S.num i)):=by
 by_cases hl:S.num i∈links S
 ·obtain⟨d,hE⟩:=mem_links.1 hl
  obtain⟨x,hx,rfl,hxd,e⟩:=id hE
  left
  unfold foundB
  rw[List.contains_eq_mem]
  exact decide_eq_true (h.found_of_reach ((h.reach x hx hxd).step hE))
 ·right
  refine⟨by rw[manyF_eq];exact List.count_eq_zero.2 hl,?_⟩
  rcases h.file _ (Inv.ino_mem hi) hd with q | ⟨o,ho,q⟩
  ·exact absurd q hl
  ·by_cases hn:0<=openI S (S.num i)
   ·exact hn
   ·exfalso
    have hx:(List.range S.opens.length).find? (fun j=>S.on j==S.num i)=none:=by
     cases e:(List.range S.opens.length).find? (fun j=>S.on j==S.num i)with
     | none=>rfl
     | some k=>unfold openI at hn;rw[e]at hn;exact absurd (show(0:Int)<= (k:Nat)by omega) hn
    rw[List.find?_eq_none]at hx
    obtain⟨j,hj,e⟩:=List.getElem_of_mem ho
    have:=hx j (by simpa using hj)
    unfold St.on at this
    rw[getD_get hj,e,q]at this
    exact this (by simp[St.num])
theorem Inv.enu_in{S:St}(h:Inv S){i k:Nat}(hi:i<S.inodes.length)(hk:k<S.ne i): ∃g:Nat,g<S.inodes.length/\placeF S (S.enu i k)=g/\S.num g=S.enu i k/\S.enu i k≠1:=by
 have hm:=Inv.ino_mem hi
 have hke:k< (S.ino i).ents.length:=hk
 have hmem:(S.ino i).ents.getD k (ByteArray.empty,0)∈(S.ino i).ents:=getD_mem hke
 obtain⟨g1,y,hy,g2⟩:=h.goal _ hm _ hmem
 obtain⟨g,hg,h1,h2⟩:=placeF_of (h.ord).rise hy
 have h3:S.enu i k=y.num:=g2.symm
 refine⟨g,hg,by rw[h3];exact h2,?_,g1⟩
 rw[h3]
 unfold St.num St.ino
 rw[List.getD_eq_getElem?_getD,h1];rfl
theorem count_at(L:List Int)(S:St)(h:Inv S){j g:Nat}(hj:j<S.inodes.length)(hg:g<S.inodes.length){x:Int}(hx:S.num g=x):((L++[x]).count (S.num j):Int)=if j=g then(L.count (S.num g):Int)+1 else(L.count (S.num j):Int):=by
 subst hx
 rw[count_snoc]
 by_cases e:j=g
 ·subst e;simp
 ·rw[if_neg e,if_neg fun q=>e (h.num_inj hj hg q)]
theorem contains_at(F:List Int)(S:St)(h:Inv S){j g:Nat}(hj:j<S.inodes.length)(hg:g<S.inodes.length){x:Int}(hx:S.num g=x):(F++[x]).contains (S.num j)=if j=g then true else F.contains (S.num j):=by
 subst hx
 rw[contains_snoc]
 by_cases e:j=g
 ·subst e;simp
 ·rw[if_neg e,if_neg fun q=>e (h.num_inj hj hg q)]
theorem Inv.kids_at{S:St}(h:Inv S){i:Nat}(hi:i<S.inodes.length):kids S (S.num i)=entsOf S i:=by
 unfold kids
 rw[h.firstIx_at hi]
 show(if S.dir i then entsOf S i else [])=_
 cases hd:S.dir i with
 | true=>rw[if_pos rfl]
 | false=>rw[if_neg (by decide),h.ents_file hi hd]
def NamesS(S:St)(F:List Int):Prop:=∀x∈F,∃g:Nat,g<S.inodes.length/\S.num g=x/\placeF S x=g
theorem Inv.names1{S:St}(h:Inv S):NamesS S [1]:=fun x hx=>by
 have hx:x=1:=by simpa using hx
 subst hx
 have h0:=h.num0.1
 exact⟨0,h.pos,h0,placeF_at h.pos h0 fun i hi=>absurd hi (by omega)⟩
end
section
open Go.RowKit
set_option maxHeartbeats 400000
structure WIn (C:World->Prop) where
 v:World
 h:C v
theorem wp_region_in{P:Program}{id:Nat}{Q:Exit->Act->World->Prop}{a:Act}{w:World}{l:List Oper}{C:World->Prop}(hm:P.follows .mixedOrders=true)(hB:Region.lexB .any l.toArray=true)(hC:C w.drew)
  (h:wpQuiet P l.toArray (fun w'=>∃x:WIn C,w'=x.v) (fun a'=>∀w',(∃x:WIn C,w'=x.v)->Q .normal a' w') l a):(Code.region id l.toArray true).wp P Q a w:=
 wp_region_quiet (C:=fun w'=>∃x:WIn C,w'=x.v) hm hB ⟨⟨w.drew,hC⟩,rfl⟩ (by simpa using h)
theorem Calls.win{P:Program}{f:FuncId}{args:Array Value}{C:World->Prop}{W:World}{v:Value}(h:Calls P f args W fun e w'=>e= .returned v/\C w'):Calls P f args W fun e w''=>e= .returned v/\ ∃x:WIn C,w''=x.v:=
 h.mono fun _ w' ⟨he,hc⟩=>⟨he,⟨w',hc⟩,rfl⟩
def Bel(w:World):World->Prop:=fun W=>Below w.heap.size w W
instance (w:World):Nonempty (WIn (Bel w)):=⟨⟨w,Below.refl _ _⟩⟩
theorem Bel.drew(w:World):Bel w w.drew:=⟨rfl,rfl,rfl,Nat.le_refl _,fun _ _=>rfl⟩
theorem WIn.cell{w:World}(x:WIn (Bel w)){p:Addr}{v:Value}(h:w.cell? p=some v):x.v.cell? p=some v:=(x.h.cell (World.block_lt_of_cell? _ _ h)).trans h
theorem Calls.bel{P:Program}{f:FuncId}{args:Array Value}{w:World}(x:WIn (Bel w)){v:Value}(h:Calls P f args x.v fun e w'=>e= .returned v/\Below x.v.heap.size x.v w'):Calls P f args x.v fun e w''=>e= .returned v/\ ∃y:WIn (Bel w),w''=y.v:=
 Calls.win (h.mono fun _ w' ⟨he,hc⟩=>⟨he,x.h.trans (hc.mono x.h.size)⟩)
end
end Go.Proofs.YtkebjgebkneijaaGreat
