/- Texts of one's own that a claim's last text rests on: ArNote2 ArOps ArNew ArSame ArTo Bits Do1 Do3 App. -/
import Derived.Test.YtkebjgebkneijaaGreatMG6
import Derived.Test.YtkebjgebkneijaaGreatMG1
import Derived.Laws.BitsAllLaws
import Derived.Test.YtkebjgebkneijaaGreatMG5
import Derived.Deep.Upon
set_option linter.unusedVariables false
set_option linter.unusedSimpArgs false
namespace Go.Proofs.YtkebjgebkneijaaGreat
section
open Go.RowKit
set_option maxHeartbeats 400000
section
variable{L:Nat->Prop}{w:World}{a bw bt:Nat}{vs:List Value}{ws:List Int}{ts:List (List Acc)}
theorem note_end{w1:World}{o:Obj}{v:Value}{g cap c:Nat}{x:Acc}{ex:Value}(h:ArIn L w a bw bt vs ws ts)(hc:c<ts.length)(hv:vs.getD c undef=v)(hx:encAcc x=ex){tt:List Acc}(htt:tr ts c=tt)
  (hown:w1.ownsRow 0 20 1 (.slice (some ⟨g,0,none⟩) (tt.length+1) cap) (tt.length+1) (tt.map encAcc++[ex]))
  (hg:(w.alloc o).drew.grownBy w1 v.ownBlock) (hat:v.ownBlock=some g∨g=w.heap.size+1):
  ArIn L (w1.setCell ⟨bt,c,none⟩ (.slice (some ⟨g,0,none⟩) (tt.length+1) cap)) a bw bt (vs.set c (.slice (some ⟨g,0,none⟩) (tt.length+1) cap)) ws (noted ts (c:Int) x)/\
  Keeps L w (w1.setCell ⟨bt,c,none⟩ (.slice (some ⟨g,0,none⟩) (tt.length+1) cap)):=by
 subst htt
 have etr:tr ts (c:Int)=ts.getD c []:=rfl
 rw[etr]at hown⊢
 clear etr
 subst hv
 have old: ∀b,b<w.heap.size->some b≠(vs.getD c undef).ownBlock->w1.heap[b]? =w.heap[b]?:=fun b hb hn=>
  (hg.block b (by simp;omega) hn).trans (Below.heap_alloc _ _ _ hb)
 have na:=own_blk_ne (h.row c hc) h.ba (by decide)
 have nw:=own_blk_ne (h.row c hc) h.bws (by decide)
 have nt:=own_blk_ne (h.row c hc) h.bts (by decide)
 have sz:w.heap.size<=w1.heap.size:=by have:=hg.size;simp at this;omega
 have ba1:Blk w1 a _ _:=Blk.of_heap (old _ h.ba.lt (Ne.symm na)) h.ba
 have bw1:Blk w1 bw _ _:=Blk.of_heap (old _ h.bws.lt (Ne.symm nw)) h.bws
 have bt1:Blk w1 bt _ _:=Blk.of_heap (old _ h.bts.lt (Ne.symm nt)) h.bts
 have nab:a≠bt:=h.ba.ne_ h.bts (by decide)
 have nwb:bw≠bt:=h.bws.ne_ h.bts (by decide)
 have ngb:g≠bt:=fun e=>own_blk_ne hown bt1 (by decide) (by simp[Value.ownBlock,e])
 have ngL: ¬ L g:=by
  rcases hat with e | e
  ·exact h.lrow c hc g e
  ·exact h.bd.ge (by omega)
 have hl':=h.vl
 constructor
 ·refine⟨fun b hb=>Nat.lt_of_lt_of_le (h.bd b hb) (by simpa[World.setCell]using sz),h.la,h.lw,h.lt,?_,bw1.far nwb _,?_,?_,?_,?_,?_,h.wsl,?_⟩
  ·rw[noted_length];exact ba1.far nab _
  ·have:=bt1.set_ c (.slice (some ⟨g,0,none⟩) ((ts.getD c []).length+1) cap)
   simpa using this
  ·simp[noted_length,hl']
  ·intro c' hc'
   rw[noted_length]at hc'
   by_cases e:c'=c
   ·subst e
    have h1:(vs.set c' (Value.slice (some ⟨g,0,none⟩) ((ts.getD c' []).length+1) cap)).getD c' undef= .slice (some ⟨g,0,none⟩) ((ts.getD c' []).length+1) cap:=by
     simp[List.getD,hl',hc']
    have h2:(noted ts (c':Int) x).getD c' []=ts.getD c' []++[x]:=by simp[noted,tr,List.getD,hc']
    rw[h1,h2]
    have h3:((ts.getD c' []++[x]).map encAcc)=(ts.getD c' []).map encAcc++[ex]:=by simp[hx]
    rw[h3,List.length_append,List.length_singleton]
    exact ownsRow_setCell_other hown (a:=⟨bt,c',none⟩) (by simp[Value.ownBlock];exact ngb) _
   ·have h1:(vs.set c (Value.slice (some ⟨g,0,none⟩) ((ts.getD c []).length+1) cap)).getD c' undef=vs.getD c' undef:=by
     simp[List.getD,Ne.symm e]
    have h2:(noted ts (c:Int) x).getD c' []=ts.getD c' []:=by simp[noted,tr,List.getD,Ne.symm e]
    rw[h1,h2]
    have r:=h.row c' hc'
    have r1:w1.ownsRow 0 20 1 (vs.getD c' undef) (ts.getD c' []).length ((ts.getD c' []).map encAcc):=by
     refine⟨r.1,?_⟩
     rcases r.2 with r2 | ⟨g',cap',cur,hv',hg',hh,rest⟩
     ·exact .inl r2
     ·refine .inr ⟨g',cap',cur,hv',hg',?_,rest⟩
      rw[old g' (lt_of_block hh) (fun e'=>h.apart c' c hc' hc e g' (by rw[hv'];rfl) e'.symm)]
      exact hh
    exact ownsRow_setCell_other r1 (a:=⟨bt,c,none⟩) (own_blk_ne r1 bt1 (by decide)) _
  ·intro c' hc' b hb
   rw[noted_length]at hc'
   by_cases e:c'=c
   ·subst e
    simp[List.getD,hl',hc',Value.ownBlock]at hb
    exact hb▸ngL
   ·have h1:(vs.set c (Value.slice (some ⟨g,0,none⟩) ((ts.getD c []).length+1) cap)).getD c' undef=vs.getD c' undef:=by
     simp[List.getD,Ne.symm e]
    rw[h1]at hb
    exact h.lrow c' hc' b hb
  ·intro c1 c2 hc1 hc2 hne b hb1 hb2
   rw[noted_length]at hc1 hc2
   have oldlt: ∀c',c'<ts.length-> ∀b,(vs.getD c' undef).ownBlock=some b->b<w.heap.size:=fun c' hc' b hb=>((h.row c' hc').lt b hb).2
   have get: ∀c',c'≠c->(vs.set c (Value.slice (some ⟨g,0,none⟩) ((ts.getD c []).length+1) cap)).getD c' undef=vs.getD c' undef:=fun c' e=>by
    simp[List.getD,Ne.symm e]
   have getc:(vs.set c (Value.slice (some ⟨g,0,none⟩) ((ts.getD c []).length+1) cap)).getD c undef= .slice (some ⟨g,0,none⟩) ((ts.getD c []).length+1) cap:=by
    simp[List.getD,hl',hc]
   have key: ∀c',c'<ts.length->c'≠c->(vs.getD c' undef).ownBlock=some g->False:=fun c' hc' e hb=>by
    rcases hat with e2 | e2
    ·exact h.apart c' c hc' hc e g hb e2
    ·have:=oldlt c' hc' g hb;omega
   by_cases e1:c1=c
   ·subst e1
    have e2:c2≠c1:=Ne.symm hne
    rw[getc]at hb1
    rw[get c2 e2]at hb2
    simp[Value.ownBlock]at hb1
    subst hb1
    exact key c2 hc2 e2 hb2
   ·rw[get c1 e1]at hb1
    by_cases e2:c2=c
    ·subst e2
     rw[getc]at hb2
     simp[Value.ownBlock]at hb2
     subst hb2
     exact key c1 hc1 e1 hb1
    ·rw[get c2 e2]at hb2
     exact h.apart c1 c2 hc1 hc2 hne b hb1 hb2
  ·rw[noted_length];exact h.tsl
 ·have k0:Keeps L w w1:=by
   have k:=(((Keeps.refl L w).alloc h.bd o).drew).grown hg ((h.bd.alloc o).drew) (fun b hb=>h.lrow c hc b hb)
   exact k
  exact k0.setCell h.lt _
theorem note_in(h:ArIn L w a bw bt vs ws ts)(c:Int)(h0:0<=c)(h1:c<ts.length)(x:Acc)(hs:(tr ts c).length<=1099511627776):
  Calls Tryz.prog 203 #[.pointer (some ⟨a,0,none⟩),.int .i64 c,encAcc x] w fun e w'=>e= .returned (.tuple #[])/\ (∃vs',ArIn L w' a bw bt vs' ws (noted ts c x))/\Keeps L w w':=by
 obtain⟨c,rfl⟩:=Int.eq_ofNat_of_zero_le h0
 have hc:c<ts.length:=by omega
 obtain⟨i0,hi,hz0,hz1,hz2⟩:=info_parts info_any
 have c1:=h.c1
 have ct:=h.ct hc
 have la:=h.ba.lt
 have lt:=h.bts.lt
 have hl:=h.tsl
 have hown:=lhi (h.row c hc)
 have NE:=lhi (own_blk_ne (h.row c hc) h.bts (by decide))
 have NA:=lhi (own_blk_ne (h.row c hc) h.ba (by decide))
 have FB:=lhi (h.bts.frozen)
 have H:=lhi h
 clear h
 generalize hv:vs.getD c undef=v at*
 have HV:=lhi hv
 clear hv
 have etr:ts.getD c []=tr ts (c:Int):=rfl
 rw[etr]at hown
 clear etr
 generalize ht:tr ts (c:Int)=tt at*
 have HT:=lhi ht
 clear ht
 obtain⟨ty,n,hx⟩: ∃ty n,encAcc x= .iface ty (.int .i64 n):=⟨_,_,rfl⟩
 have HX:=lhi hx
 rw[hx]
 clear hx
 go_enter Tryz.func203,Tryz.ntmps203
 have fbt:w.frozen? ⟨bt,c,none⟩=false:=FB.out c
 go_region_law ((refine step_append_lies _ rfl (.tmp 17) (.tmp 19) 150 rfl 0 20 i0 .nilIface 1 16 Tryz.underlying150 hi hz0 hz1 hz2 rfl (by decide) v _ _ rfl ((hown.out.alloc (Obj.cells #[.iface ty (.int .i64 n)] 20))) ⟨w.heap.size,0,none⟩ 1 1 [.iface ty (.int .i64 n)] rfl rfl (cell_one_new _ _ _) (by intro u hu;simp at hu;subst hu;rfl) (by decide) (by simp only[maxLen];omega) (by omega) (Nat.zero_le _) _ rfl ?_;intro g cap w1 hown1 hgrow hat hlt;have ne1:some bt≠v.ownBlock:=fun e=>NE.out e.symm;have k1:w1.cell? ⟨bt,c,none⟩=some v:=(hgrow.cell_far ⟨bt,c,none⟩ (by simp;omega) ne1).trans ((World.cell?_alloc_past _ _ _ lt).trans ct);have k2:w1.frozen? ⟨bt,c,none⟩=false:=(hgrow.frozen_far ⟨bt,c,none⟩ (by simp;omega) ne1).trans ((World.frozen?_alloc_past _ _ _ lt).trans fbt);have ne2:some a≠v.ownBlock:=fun e=>NA.out e.symm;have k3:w1.cell? ⟨a,1,none⟩=some (.slice (some ⟨bt,0,none⟩) ts.length ts.length):=(hgrow.cell_far ⟨a,1,none⟩ (by simp;omega) ne2).trans ((World.cell?_alloc_past _ _ _ la).trans c1);clear ne1 ne2))
 all_goals
  go_end0
  have hend:=note_end H.out hc HV.out HX.out HT.out hown1 hgrow (by simpa using hat)
  exact⟨rfl,⟨_,hend.1⟩,hend.2⟩
end
end
section
open Go.RowKit
set_option maxHeartbeats 400000
section
variable{L:Nat->Prop}{w:World}{a bw bt:Nat}{vs:List Value}{ws:List Int}{ts:List (List Acc)}
theorem ArIn.cwI(h:ArIn L w a bw bt vs ws ts){i:Int}(h0:0<=i)(h1:i<ws.length):w.cell? ⟨bw,i.toNat,none⟩=some (.int .i64 (rd ws i)):=h.cw (by omega)
theorem ArIn.fw(h:ArIn L w a bw bt vs ws ts)(i:Nat):w.frozen? ⟨bw,i,none⟩=false:=h.bws.frozen i
theorem ArIn.poke(h:ArIn L w a bw bt vs ws ts)(i:Nat)(v:Int):ArIn L (w.setCell ⟨bw,i,none⟩ (.int .i64 v)) a bw bt vs (ws.set i v) ts/\Keeps L w (w.setCell ⟨bw,i,none⟩ (.int .i64 v)):=by
 have k:Keeps L w (w.setCell ⟨bw,i,none⟩ (.int .i64 v)):=(Keeps.refl L w).setCell h.lw _
 refine⟨⟨h.bd.setCell _ _,h.la,h.lw,h.lt,?_,?_,h.bts.far (h.bts.ne_ h.bws (by decide)) _,h.vl,fun c hc=>ownsRow_setCell_other (h.row c hc) (own_blk_ne (h.row c hc) h.bws (by decide)) _,h.lrow,h.apart,by simpa using h.wsl,h.tsl⟩,k⟩
 ·have:=h.ba.far (p:=⟨bw,i,none⟩) (h.ba.ne_ h.bws (by decide)) (.int .i64 v)
  simpa using this
 ·have:=h.bws.set_ i (.int .i64 v)
  simpa[List.map_set]using this
theorem note_calls_in(h:ArIn L w a bw bt vs ws ts)(c:Int)(h0:0<=c)(h1:c<ts.length)(wr:Bool)(at_:Int)(t:TypeId)(ht:t=if wr then 153 else 155){m:Nat}(hs:Short m ts)(hm:m<=1099511627776):
  Calls Tryz.prog 203 #[.pointer (some ⟨a,0,none⟩),.int .i64 c,.iface t (.int .i64 at_)] w fun e w'=>e= .returned (.tuple #[])/\ ∃vs',ArIn L w' a bw bt vs' ws (noted ts c (at_,wr))/\Keeps L w w':=by
 subst ht
 refine(note_in h c h0 h1 (at_,wr) (Nat.le_trans (hs.at_) hm)).mono ?_
 rintro e w' ⟨h1,⟨vs',h2⟩,h3⟩
 exact⟨h1,vs',h2,h3⟩
theorem load_ok(h:ArAt L w a ws ts)(c i:Int)(h0:0<=c)(h1:c<ts.length)(h2:0<=i)(h3:i<ws.length){m:Nat}(hs:Short m ts)(hm:m<=1099511627776):
  Calls Tryz.prog 227 #[.pointer (some ⟨a,0,none⟩),.int .i64 c,.int .i64 i] w fun e w'=>e= .returned (.tuple #[.int .i64 (rd ws i),.int .i64 0])/\
   ArAt L w' a ws (noted ts c (i,false))/\Keeps L w w':=by
 have hp:=lhi (place_ok h c i h0 h1 h2 h3)
 obtain⟨bw,bt,vs,h⟩:=h
 have hn:=lhi (note_calls_in h c h0 h1 false i _ rfl hs hm)
 have hl:=h.wsl
 clear h
 go_enter Tryz.func227,Tryz.ntmps227
 go_wp2_with (first
  | (go_at_call 202;refine hp.out.mono ?_;rintro e w' ⟨rfl,rfl⟩)
  | (go_at_call 203;refine hn.out.mono ?_;rintro e w' ⟨rfl,vs',hA,hK⟩;have c0:=hA.c0;have cw:=hA.cwI h2 h3;have HA:=lhi hA;clear hA))
 go_ret2
 exact⟨rfl,⟨_,_,_,HA.out⟩,hK⟩
theorem ArIn.pokeI(h:ArIn L w a bw bt vs ws ts)(i:Int)(v:Int):ArIn L (w.setCell ⟨bw,i.toNat,none⟩ (.int .i64 v)) a bw bt vs (wr ws i v) ts/\Keeps L w (w.setCell ⟨bw,i.toNat,none⟩ (.int .i64 v)):=h.poke i.toNat v
theorem store_ok(h:ArAt L w a ws ts)(c i v:Int)(h0:0<=c)(h1:c<ts.length)(h2:0<=i)(h3:i<ws.length){m:Nat}(hs:Short m ts)(hm:m<=1099511627776):
  Calls Tryz.prog 163 #[.pointer (some ⟨a,0,none⟩),.int .i64 c,.int .i64 i,.int .i64 v] w fun e w'=>e= .returned (.int .i64 0)/\
   ArAt L w' a (wr ws i v) (noted ts c (i,true))/\Keeps L w w':=by
 have hp:=lhi (place_ok h c i h0 h1 h2 h3)
 obtain⟨bw,bt,vs,h⟩:=h
 have hn:=lhi (note_calls_in h c h0 h1 true i _ rfl hs hm)
 have hl:=h.wsl
 clear h
 go_enter Tryz.func163,Tryz.ntmps163
 go_wp2_with (first
  | (go_at_call 202;refine hp.out.mono ?_;rintro e w' ⟨rfl,rfl⟩)
  | (go_at_call 203;refine hn.out.mono ?_;rintro e w' ⟨rfl,vs',hA,hK⟩;have c0:=hA.c0;have cw:=hA.cwI h2 h3;have cf:=hA.fw i.toNat;have HA:=lhi hA;clear hA))
 go_ret
 have hp:=HA.out.pokeI i v
 exact⟨rfl,⟨_,_,_,hp.1⟩,hK.trans hp.2⟩
theorem cores_calls(h:ArAt L w a ws ts):Calls Tryz.prog 89 #[.pointer (some ⟨a,0,none⟩)] w fun e w'=>e= .returned (.int .i64 ts.length)/\w=w':=by
 obtain⟨bw,bt,vs,h⟩:=h
 have c1:=h.c1
 clear h
 go_enter Tryz.func89,Tryz.ntmps89
 go_wp2
 go_ret
 exact⟨rfl,rfl⟩
theorem poke_ok(h:ArAt L w a ws ts)(i v:Int)(h2:0<=i)(h3:i<ws.length):
  Calls Tryz.prog 64 #[.pointer (some ⟨a,0,none⟩),.int .i64 i,.int .i64 v] w fun e w'=>e= .returned (.tuple #[])/\ArAt L w' a (wr ws i v) ts/\Keeps L w w':=by
 obtain⟨bw,bt,vs,h⟩:=h
 have c0:=h.c0
 have cw:=h.cwI h2 h3
 have cf:=h.fw i.toNat
 have hl:=h.wsl
 have HA:=lhi h
 clear h
 go_enter Tryz.func64,Tryz.ntmps64
 go_wp2
 go_end0
 have hp:=HA.out.pokeI i v
 exact⟨rfl,⟨_,_,_,hp.1⟩,hp.2⟩
theorem clear_ok(h:ArAt L w a ws ts)(c:Int)(h0:0<=c)(h1:c<ts.length):
  Calls Tryz.prog 37 #[.pointer (some ⟨a,0,none⟩),.int .i64 c] w fun e w'=>e= .returned (.int .i64 0)/\ArAt L w' a ws (ts.set c.toNat [])/\Keeps L w w':=by
 have hp:=lhi (core_ok h c h0 h1)
 obtain⟨bw,bt,vs,h⟩:=h
 have c1:=h.c1
 have ct:=h.ct (c:=c.toNat) (by omega)
 have cf:=h.bts.frozen c.toNat
 have hl:=h.tsl
 have HA:=lhi h
 clear h
 go_enter Tryz.func37,Tryz.ntmps37
 go_wp2_with (go_at_call 72;refine hp.out.mono ?_;rintro e w' ⟨rfl,rfl⟩)
 go_ret
 have h:=HA.out
 refine⟨rfl,⟨bw,bt,vs.set c.toNat (.slice none 0 0),?_⟩,(Keeps.refl _ _).setCell h.lt _⟩
 have hvl:=h.vl
 have get: ∀j,(vs.set c.toNat (Value.slice none 0 0)).getD j undef=if j=c.toNat then .slice none 0 0 else vs.getD j undef:=fun j=>by
  by_cases e:j=c.toNat
  ·subst e;simp[List.getD,hvl,show c.toNat<ts.length by omega]
  ·simp[List.getD,Ne.symm e,e]
 have gett: ∀j,(ts.set c.toNat []).getD j []=if j=c.toNat then []else ts.getD j []:=fun j=>by
  by_cases e:j=c.toNat
  ·subst e;simp[List.getD,show c.toNat<ts.length by omega]
  ·simp[List.getD,Ne.symm e,e]
 refine⟨h.bd.setCell _ _,h.la,h.lw,h.lt,?_,h.bws.far (h.bws.ne_ h.bts (by decide)) _,?_,?_,?_,?_,?_,h.wsl,by simpa using h.tsl⟩
 ·have:=h.ba.far (p:=⟨bt,c.toNat,none⟩) (h.ba.ne_ h.bts (by decide)) (.slice none 0 0)
  simpa using this
 ·have:=h.bts.set_ c.toNat (.slice none 0 0)
  simpa using this
 ·simpa using hvl
 ·intro j hj
  rw[List.length_set]at hj
  rw[get,gett]
  by_cases e:j=c.toNat
  ·rw[if_pos e,if_pos e];exact World.ownsRow_nil _ _ _ _
  ·rw[if_neg e,if_neg e]
   exact ownsRow_setCell_other (h.row j hj) (own_blk_ne (h.row j hj) h.bts (by decide)) _
 ·intro j hj b hb
  rw[List.length_set]at hj
  rw[get]at hb
  by_cases e:j=c.toNat
  ·rw[if_pos e]at hb;cases hb
  ·rw[if_neg e]at hb;exact h.lrow j hj b hb
 ·intro j k hj hk hne b hb1 hb2
  rw[List.length_set]at hj hk
  rw[get]at hb1 hb2
  by_cases e:j=c.toNat
  ·rw[if_pos e]at hb1;cases hb1
  ·by_cases e':k=c.toNat
   ·rw[if_pos e']at hb2;cases hb2
   ·rw[if_neg e]at hb1;rw[if_neg e']at hb2
    exact h.apart j k hj hk hne b hb1 hb2
end
end
section
open Go.RowKit
set_option maxHeartbeats 400000
theorem run_make_rowN{P:Program}(t e:TypeId)(i:TypeInfo)(z:Value)(ht:P.underlying t=some (.slice e))(hi:P.info? e=some i)(hz:i.zero=some z)
  (kl kc:IntKind) (n c:Nat) (hnc:n<=c) (hbytes:i.bytes*c<=281474976710656) (h63:c<=9223372036854775807) (w:World):
  (Instr.makeSlice t (.int kl (n:Int)) (.int kc (c:Int))).run P w= .ok (.slice (some ⟨w.heap.size,0,none⟩) n c) (w.alloc (.cells (madeCells z.cells (c*i.size)) e)):=by
 have hb:(i.bytes:Int)* (c:Int)<=281474976710656:=by
  have h:((i.bytes*c:Nat):Int)<=281474976710656:=by omega
  rwa [Int.natCast_mul]at h
 have hr:=run_make (P:=P) w t e i z ht hi hz kl kc n c (by omega) (by omega) hb (by omega)
 simp only[Int.toNat_natCast]at hr
 exact hr
theorem madeCells_one(v:Value)(n:Nat):madeCells #[v] n=(List.replicate n v).toArray:=by
 apply Array.ext
 ·simp[madeCells]
 ·intro i h1 h2
  simp[madeCells,Nat.mod_one]
theorem info_int:(Tryz.prog.info? 3).map (fun i=>(i.zero,i.size,i.bytes))=some (some (.int .i64 0),1,8):=by kernel_rfl
theorem info_anys:(Tryz.prog.info? 150).map (fun i=>(i.zero,i.size,i.bytes))=some (some (.slice none 0 0),1,24):=by kernel_rfl
section
variable{L:Nat->Prop}{w:World}{a bw bt:Nat}{vs:List Value}{ws:List Int}{ts:List (List Acc)}
theorem new_in{W:World}{a bw bt n k:Nat}(hb:Bd L W)(ha: ¬ L a)(hw: ¬ L bw)(ht: ¬ L bt)(hn:n<=65536)(hk:k<=8)
  (ba:Blk W a 152 #[.slice (some ⟨bw,0,none⟩) n n,.slice (some ⟨bt,0,none⟩) k k]) (b1:Blk W bw 3 (List.replicate n (Value.int .i64 0)).toArray) (b2:Blk W bt 150 (List.replicate k (Value.slice none 0 0)).toArray):
  ArAt L W a (List.replicate n 0) (List.replicate k []):=by
 have get: ∀c,c<k->(List.replicate k (Value.slice none 0 0)).getD c undef= .slice none 0 0:=fun c hc=>by simp[List.getD,hc]
 refine⟨bw,bt,List.replicate k (.slice none 0 0),hb,ha,hw,ht,?_,?_,b2,by simp,?_,?_,?_,by simpa using hn,by simpa using hk⟩
 ·simpa using ba
 ·simpa using b1
 ·intro c hc
  simp only[List.length_replicate]at hc
  rw[get c hc]
  have:(List.replicate k ([]:List Acc)).getD c []=[]:=by simp[List.getD,hc]
  rw[this]
  exact World.ownsRow_nil _ _ _ _
 ·intro c hc b hb
  simp only[List.length_replicate]at hc
  rw[get c hc]at hb;cases hb
 ·intro c c' hc _ _ b hb
  simp only[List.length_replicate]at hc
  rw[get c hc]at hb;cases hb
theorem new_ok(hb:Bd L w)(n k:Int)(h0:1<=n)(h1:n<=65536)(h2:1<=k)(h3:k<=8):
  Calls Tryz.prog 61 #[.int .i64 n,.int .i64 k] w fun e w'=>∃a,e= .returned (.tuple #[.pointer (some ⟨a,0,none⟩),.int .i64 0])/\
   ArAt L w' a (List.replicate n.toNat 0) (List.replicate k.toNat [])/\Keeps L w w':=by
 obtain⟨n,rfl⟩:=Int.eq_ofNat_of_zero_le (show 0<=n by omega)
 obtain⟨k,rfl⟩:=Int.eq_ofNat_of_zero_le (show 0<=k by omega)
 obtain⟨i1,hi1,hz10,hz11,hz12⟩:=info_parts info_int
 obtain⟨i2,hi2,hz20,hz21,hz22⟩:=info_parts info_anys
 have hm1:=run_make_rowN (P:=Tryz.prog) 28 3 i1 _ Tryz.underlying28 hi1 hz10 .i64 .i64 n n (Nat.le_refl _) (by rw[hz12];omega) (by omega)
 have hm2:=run_make_rowN (P:=Tryz.prog) 76 150 i2 _ Tryz.underlying76 hi2 hz20 .i64 .i64 k k (Nat.le_refl _) (by rw[hz22];omega) (by omega)
 simp only[hz11,hz21,Nat.mul_one,Value.cells,madeCells_one]at hm1 hm2
 have e0:((n:Int)<1)=False:=by simp;omega
 have HM1:=lhi hm1
 have HM2:=lhi hm2
 clear hm1 hm2 hi1 hi2 hz10 hz11 hz12 hz20 hz21 hz22 e0
 go_enter Tryz.func61,Tryz.ntmps61
 go_wp2
 have hm1:=HM1.out
 have hm2:=HM2.out
 go_region
 all_goals go_wp2
 all_goals clear hm1 hm2 HM1 HM2
 ·go_ret2
  refine⟨_,rfl,?_,?_⟩
  ·simp only[Int.toNat_natCast]
   refine(new_in (W:=((w.alloc (Obj.cells (Array.replicate n (Value.int IntKind.i64 0)) 3)).alloc (Obj.cells (Array.replicate k (Value.slice none 0 0)) 150)).alloc (Obj.cells #[Value.slice (some ⟨w.heap.size,0,none⟩) n n,Value.slice (some ⟨w.heap.size+1,0,none⟩) k k] 152)) (bw:=w.heap.size) (bt:=w.heap.size+1)
    (((hb.alloc _).alloc _).alloc _) (hb.ge (by omega)) hb.new (hb.ge (by omega)) (by omega) (by omega) ?_ ?_ ?_).drew
   ·exact Blk.newAt _ _ _ (by simp)
   ·rw[List.toArray_replicate];exact((Blk.new w _ _).alloc _).alloc _
   ·rw[List.toArray_replicate];exact(Blk.newAt (w.alloc _) _ _ (by simp)).alloc _
  ·exact(((((Keeps.refl L w).alloc hb _).alloc (hb.alloc _) _).alloc ((hb.alloc _).alloc _) _).drew)
 ·go_ret2
  refine⟨_,rfl,?_,?_⟩
  ·simp only[Int.toNat_natCast]
   refine(new_in (W:=((w.alloc (Obj.cells (Array.replicate k (Value.slice none 0 0)) 150)).alloc (Obj.cells (Array.replicate n (Value.int IntKind.i64 0)) 3)).alloc (Obj.cells #[Value.slice (some ⟨w.heap.size+1,0,none⟩) n n,Value.slice (some ⟨w.heap.size,0,none⟩) k k] 152)) (bw:=w.heap.size+1) (bt:=w.heap.size)
    (((hb.alloc _).alloc _).alloc _) (hb.ge (by omega)) (hb.ge (by omega)) hb.new (by omega) (by omega) ?_ ?_ ?_).drew
   ·exact Blk.newAt _ _ _ (by simp)
   ·rw[List.toArray_replicate];exact(Blk.newAt (w.alloc _) _ _ (by simp)).alloc _
   ·rw[List.toArray_replicate];exact((Blk.new w _ _).alloc _).alloc _
  ·exact(((((Keeps.refl L w).alloc hb _).alloc (hb.alloc _) _).alloc ((hb.alloc _).alloc _) _).drew)
end
section
variable{p:Value}{c i k:Int}{w:World}
theorem num_calls(k:Int)(w:World):Calls Tryz.prog 9 #[.int .i64 k] w fun e w'=>e= .returned (.int .i64 k)/\w=w':=by
 go_enter Tryz.func9,Tryz.ntmps9
 go_wp2
 go_ret
 exact⟨rfl,rfl⟩
end
end
section
open Go.RowKit
set_option maxHeartbeats 400000
def Sl(w:World)(size:Nat)(v:Value)(n:Nat)(xs:List Value):Prop:=
 xs.length=n*size/\ ∃A cap,v= .slice A n cap/\n<=cap/\ (0<n-> ∃g off,A=some ⟨g,off,none⟩/\ ∀j u,xs[j]? =some u->w.cell? ⟨g,off+j,none⟩=some u)
theorem Sl.ofOwn{w:World}{base size n:Nat}{e:TypeId}{v:Value}{xs:List Value}(h:w.ownsRow base e size v n xs):Sl w size v n xs:=by
 refine⟨h.1,?_⟩
 rcases h.2 with⟨rfl,rfl⟩ | ⟨g,cap,cur,rfl,hb,hg,hnc,_⟩
 ·exact⟨none,0,rfl,Nat.le_refl _,fun h=>absurd h (by omega)⟩
 ·refine⟨some ⟨g,0,none⟩,cap,rfl,hnc,fun _=>⟨g,0,rfl,fun j u hu=>?_⟩⟩
  have:=h.cells (g:=g) rfl j u hu
  rw[Addr.add_lit]at this
  exact this
theorem Sl.keep{w w':World}{size n:Nat}{v:Value}{xs:List Value}(h:Sl w size v n xs)(hk: ∀(p:Addr) (u:Value),w.cell? p=some u->w'.cell? p=some u):Sl w' size v n xs:=by
 obtain⟨h1,A,cap,h2,h3,h4⟩:=h
 refine⟨h1,A,cap,h2,h3,fun hn=>?_⟩
 obtain⟨g,off,hA,hc⟩:=h4 hn
 exact⟨g,off,hA,fun j u hu=>hk _ _ (hc j u hu)⟩
theorem Sl.drewN{w:World}{size n:Nat}{v:Value}{xs:List Value}(h:Sl w size v n xs)(k:Nat):Sl (w.drewN k) size v n xs:=h
theorem Sl.below{w w':World}{size n:Nat}{v:Value}{xs:List Value}(h:Sl w size v n xs)(hb:Below w.heap.size w w'):Sl w' size v n xs:=
 h.keep fun p _ hu=>(hb.cell (World.block_lt_of_cell? w p hu)).trans hu
def encAccs(t:List Acc):List Value:=t.flatMap fun x=>[.int .i64 x.1,.bool x.2]
theorem encAccs_append(s t:List Acc):encAccs (s++t)=encAccs s++encAccs t:=by simp[encAccs]
theorem encAccs_at(t:List Acc): ∀(k:Nat) (h:k<t.length),(encAccs t)[k*2]? =some (.int .i64 t[k].1)/\ (encAccs t)[k*2+1]? =some (.bool t[k].2):=by
 induction t with
 | nil=>intro k h;simp at h
 | cons x t ih=>
  intro k h
  have e:encAccs (x::t)= .int .i64 x.1:: .bool x.2::encAccs t:=rfl
  rw[e]
  cases k with
  | zero=>exact⟨rfl,rfl⟩
  | succ k=>
   have:=ih k (by simpa using h)
   rw[show(k+1)*2=k*2+1+1 by omega]
   exact this
theorem ta_ww(x:Int)(W:World):(Instr.typeAssert (.iface 153 (.int .i64 x)) 20 153 true).run Tryz.prog W= .ok (.tuple #[.int .i64 x,.bool true]) W:=by kernel_rfl
theorem ta_rw(x:Int)(W:World):(Instr.typeAssert (.iface 155 (.int .i64 x)) 20 153 true).run Tryz.prog W= .ok (.tuple #[.int .i64 0,.bool false]) W:=by kernel_rfl
theorem ta_rr(x:Int)(W:World):(Instr.typeAssert (.iface 155 (.int .i64 x)) 20 155 true).run Tryz.prog W= .ok (.tuple #[.int .i64 x,.bool true]) W:=by kernel_rfl
theorem info_acc:(Tryz.prog.info? 149).map (fun i=>(i.zero,i.size,i.bytes))=some (some (.agg #[.int .i64 0,.bool false]),2,16):=by kernel_rfl
theorem encAccs_take_succ(t:List Acc)(k:Nat)(h:k<t.length):encAccs (t.take (k+1))=encAccs (t.take k)++[.int .i64 t[k].1,.bool t[k].2]:=by
 rw[List.take_succ_eq_append_getElem h,encAccs_append];rfl
section
variable{L:Nat->Prop}{w:World}{a bw bt:Nat}{vs:List Value}{ws:List Int}{ts:List (List Acc)}
set_option maxRecDepth 100000 in
theorem trace_in(h:ArIn L w a bw bt vs ws ts)(c:Int)(h0:0<=c)(h1:c<ts.length)(hs:(tr ts c).length<=1099511627776):
  Calls Tryz.prog 29 #[.pointer (some ⟨a,0,none⟩),.int .i64 c] w fun e w'=>∃v,e= .returned v/\w'.ownsRow w.heap.size 149 2 v (tr ts c).length (encAccs (tr ts c))/\Below w.heap.size w w':=by
 have hp:=lhi (core_ok ⟨bw,bt,vs,h⟩ c h0 h1)
 obtain⟨i0,hi,hz0,hz1,hz2⟩:=info_parts info_acc
 have c1:=h.c1
 have ct:=h.ct (c:=c.toNat) (by omega)
 have hl:=h.tsl
 have hrow:=h.row c.toNat (by omega)
 have htr:ts.getD c.toNat []=tr ts c:=rfl
 rw[htr]at hrow
 clear htr h
 generalize tr ts c=t at*
 generalize vs.getD c.toNat undef=v0 at*
 obtain⟨hlen,A,cap,rfl,hcap,hcell⟩:=Sl.ofOwn hrow
 have HC:=lhi hcell
 clear hcell hrow hlen
 go_enter Tryz.func29,Tryz.ntmps29
 go_wp2_with (go_at_call 72;refine hp.out.mono ?_;rintro e w' ⟨rfl,rfl⟩)
 go_loopw [5,24] (fun out i wr=>∃k:Nat,k<=t.length/\i= .int .i64 k/\wr.ownsRow w.heap.size 149 2 out (t.take k).length (encAccs (t.take k))/\Below w.heap.size w wr) (fun _ i _=>t.length - (intOf i).toNat)
 case atStart=>exact⟨0,Nat.zero_le _,rfl,World.ownsRow_nil _ _ _ _,Below.refl _ _⟩
 case round=>
  obtain⟨k,hk,rfl,hown,hb⟩:=hrel
  by_cases hlt:k<t.length
  ·obtain⟨g,off,rfl,hcell⟩:=HC.out (by omega)
   have q0:=hcell k (encAcc t[k]) (by simp[hlt])
   have qb:=World.block_lt_of_cell? w _ q0
   have q1:=(hb.cell (p:=⟨g,off+k,none⟩) qb).trans q0
   have HS:=lhi (encAccs_take_succ t k hlt)
   have hsz:=hb.size
   clear hcell HC q0
   have tl:(t.take k).length=k:=List.length_take_of_le hk
   rw[tl]at hown
   have HOWN:=lhi hown
   have HB:=lhi hb
   clear hown hb tl
   rw[encAcc]at q1
   generalize u5=out at*
   generalize t[k].1=x1 at*
   generalize t[k].2=x2 at*
   cases x2
   ·simp only[Bool.false_eq_true,if_false]at q1
    have ta1:=ta_rw x1
    have ta2:=ta_rr x1
    go_wp2_with (first | (at_builtin;refine wpList_append_lies _ rfl (.tmp 45) (.tmp 48) 44 rfl w.heap.size 149 i0 _ 2 16 Tryz.underlying44 hi hz0 hz1 hz2 rfl (by decide) out _ _ rfl (HOWN.out.alloc (Obj.cells #[.int .i64 x1,.bool false] 149)) ⟨wr.heap.size,0,none⟩ 1 1 [.int .i64 x1,.bool false] rfl rfl (cell_two_new _ _ _ _) (by intro u hu;simp at hu;rcases hu with rfl | rfl <;> rfl) (by decide) (by simp only[maxLen];omega) (by omega) (by simp;omega) _ rfl ?_;intro g1 cap1 w1 hown1 hgrow1 hat1 hlt1))
    go_roundw
    case rel=>
     refine⟨k+1,by omega,by go_num,?_,?_⟩
     ·rw[HS.out,List.length_take_of_le (by omega)]
      exact hown1
     ·exact(HB.out.alloc hsz _).grown hgrow1 (by simp;omega) (fun b hb=>(HOWN.out.lt b hb).1)
    case measure=>simp[intOf];omega
   ·simp only[if_true]at q1
    have ta1:=ta_ww x1
    go_wp2_with (first | (at_builtin;refine wpList_append_lies _ rfl (.tmp 34) (.tmp 37) 44 rfl w.heap.size 149 i0 _ 2 16 Tryz.underlying44 hi hz0 hz1 hz2 rfl (by decide) out _ _ rfl (HOWN.out.alloc (Obj.cells #[.int .i64 x1,.bool true] 149)) ⟨wr.heap.size,0,none⟩ 1 1 [.int .i64 x1,.bool true] rfl rfl (cell_two_new _ _ _ _) (by intro u hu;simp at hu;rcases hu with rfl | rfl <;> rfl) (by decide) (by simp only[maxLen];omega) (by omega) (by simp;omega) _ rfl ?_;intro g1 cap1 w1 hown1 hgrow1 hat1 hlt1))
    go_roundw
    case rel=>
     refine⟨k+1,by omega,by go_num,?_,?_⟩
     ·rw[HS.out,List.length_take_of_le (by omega)]
      exact hown1
     ·exact(HB.out.alloc hsz _).grown hgrow1 (by simp;omega) (fun b hb=>(HOWN.out.lt b hb).1)
    case measure=>simp[intOf];omega
  ·go_wp2
   go_ret
   have hkt:t.take k=t:=List.take_of_length_le (by omega)
   rw[hkt]at hown
   exact⟨_,rfl,hown,hb⟩
end
end
section
open Go.RowKit
set_option maxHeartbeats 400000
section
variable{L:Nat->Prop}{w w':World}{a:Nat}{ws ws':List Int}{ts ts':List (List Acc)}
def Room(ts:List (List Acc)):Prop:=Short 1099511627776 ts
instance (ts:List (List Acc)):Decidable (Room ts):=inferInstanceAs (Decidable (∀t∈ts,t.length<=1099511627776))
theorem Room.of{m:Nat}(h:Short m ts)(hm:m<=1099511627776):Room ts:=h.mono hm
theorem load_to(h:ArAt L w a ws ts)(hm:Room ts){c i:Int}(h0:0<=c/\c<ts.length)(h1:0<=i/\i<ws.length){r:Int}(hr:rd ws i=r)(ht:noted ts c (i,false)=ts'):
  Calls Tryz.prog 227 #[.pointer (some ⟨a,0,none⟩),.int .i64 c,.int .i64 i] w fun e w'=>e= .returned (.tuple #[.int .i64 r,.int .i64 0])/\ArAt L w' a ws ts'/\Keeps L w w':=by
 subst hr ht
 exact load_ok h c i h0.1 h0.2 h1.1 h1.2 hm (Nat.le_refl _)
theorem store_to(h:ArAt L w a ws ts)(hm:Room ts){c i v:Int}(h0:0<=c/\c<ts.length)(h1:0<=i/\i<ws.length)(hw:wr ws i v=ws')(ht:noted ts c (i,true)=ts'):
  Calls Tryz.prog 163 #[.pointer (some ⟨a,0,none⟩),.int .i64 c,.int .i64 i,.int .i64 v] w fun e w'=>e= .returned (.int .i64 0)/\ArAt L w' a ws' ts'/\Keeps L w w':=by
 subst hw ht
 exact store_ok h c i v h0.1 h0.2 h1.1 h1.2 hm (Nat.le_refl _)
theorem clear_to(h:ArAt L w a ws ts){c:Int}(h0:0<=c/\c<ts.length)(ht:ts.set c.toNat []=ts'):
  Calls Tryz.prog 37 #[.pointer (some ⟨a,0,none⟩),.int .i64 c] w fun e w'=>e= .returned (.int .i64 0)/\ArAt L w' a ws ts'/\Keeps L w w':=by
 subst ht
 exact clear_ok h c h0.1 h0.2
theorem poke_to(h:ArAt L w a ws ts){i v:Int}(h1:0<=i/\i<ws.length)(hw:wr ws i v=ws'):
  Calls Tryz.prog 64 #[.pointer (some ⟨a,0,none⟩),.int .i64 i,.int .i64 v] w fun e w'=>e= .returned (.tuple #[])/\ArAt L w' a ws' ts/\Keeps L w w':=by
 subst hw
 exact poke_ok h i v h1.1 h1.2
theorem new_to(hb:Bd L w){n k:Int}(h0:1<=n/\n<=65536)(h1:1<=k/\k<=8)(hw:List.replicate n.toNat 0=ws)(ht:List.replicate k.toNat []=ts):
  Calls Tryz.prog 61 #[.int .i64 n,.int .i64 k] w fun e w'=>∃a,e= .returned (.tuple #[.pointer (some ⟨a,0,none⟩),.int .i64 0])/\ArAt L w' a ws ts/\Keeps L w w':=by
 subst hw ht
 exact new_ok hb n k h0.1 h0.2 h1.1 h1.2
theorem trace_to(h:ArAt L w a ws ts)(hm:Room ts){c:Int}(h0:0<=c/\c<ts.length){t:List Acc}(ht:tr ts c=t):
  Calls Tryz.prog 29 #[.pointer (some ⟨a,0,none⟩),.int .i64 c] w fun e w'=>∃v,e= .returned v/\w'.ownsRow w.heap.size 149 2 v t.length (encAccs t)/\Below w.heap.size w w':=by
 subst ht
 obtain⟨bw,bt,vs,h⟩:=h
 exact trace_in h c h0.1 h0.2 hm.at_
theorem ArAt.below(h:ArAt L w a ws ts)(hb:Below w.heap.size w w'):ArAt L w' a ws ts:=
 h.move (fun b hl=>Nat.lt_of_lt_of_le (h.bd b hl) hb.size) (fun _ hl _=>hl) (fun b hlt _=>hb.block b hlt)
theorem ArAt.belowNew(h:ArAt L w a ws ts)(hb:Below w.heap.size w w'):ArAt (fun b=>L b∨(w.heap.size<=b/\b<w'.heap.size)) w' a ws ts:=
 h.move (fun b hl=>by
  rcases hl with hl | hl
  ·exact Nat.lt_of_lt_of_le (h.bd b hl) hb.size
  ·exact hl.2) (fun b hl hlt=>by
  rcases hl with hl | hl
  ·exact hl
  ·omega) (fun b hlt _=>hb.block b hlt)
theorem Keeps.ofNew(hb:Bd L w)(h:Below w.heap.size w w'):Keeps L w w':=(Keeps.ofBelow h).sub hb
end
theorem Sl.lit(w:World){cs:Array Value}{T:TypeId}{n size:Nat}{xs:List Value}(hx:cs.toList=xs)(hn:xs.length=n*size):
  Sl (w.alloc (.cells cs T)) size (.slice (some ⟨w.heap.size,0,none⟩) n n) n xs:=by
 subst hx
 refine⟨hn,_,_,rfl,Nat.le_refl _,fun _=>⟨_,_,rfl,fun j u hu=>?_⟩⟩
 have hc:=(Blk.new w T cs).cell j
 rw[Nat.zero_add]
 exact hc.trans (by simpa using hu)
end
section
open Go.RowKit
theorem ofInt_toNat(x:Int):((BitVec.ofInt 64 x).toNat:Int)=x % 18446744073709551616:=by
 rw[BitVec.toNat_ofInt]
 have:(0:Int)<=x % (2 ^ 64:Nat):=Int.emod_nonneg _ (by decide)
 omega
theorem and_pow(x:Int)(k:Nat)(hk:k<=62):bits .and .i64 x ((2 ^ k - 1:Nat):Int)=x % ((2 ^ k:Nat):Int):=by
 show IntKind.i64.wrap ((BitVec.ofInt 64 x&&& BitVec.ofInt 64 ((2 ^ k - 1:Nat):Int)).toNat:Int)=_
 have h2:2 ^ k<=2 ^ 62:=Nat.pow_le_pow_right (by omega) hk
 have h62:(2:Nat) ^ 62=4611686018427387904:=by decide
 have hp:0<2 ^ k:=Nat.two_pow_pos k
 have e1:(BitVec.ofInt 64 ((2 ^ k - 1:Nat):Int)).toNat=2 ^ k - 1:=by
  rw[BitVec.ofInt_natCast,BitVec.toNat_ofNat];exact Nat.mod_eq_of_lt (by omega)
 rw[BitVec.toNat_and,e1,Nat.and_two_pow_sub_one_eq_mod]
 have hlt:=Nat.mod_lt (BitVec.ofInt 64 x).toNat hp
 have hx:=ofInt_toNat x
 have e2:(((BitVec.ofInt 64 x).toNat % 2 ^ k:Nat):Int)=x % ((2 ^ k:Nat):Int):=by
  rw[Int.natCast_emod,hx]
  have hd:((2 ^ k:Nat):Int)∣18446744073709551616:=by
   have:(2 ^ k:Nat)∣2 ^ 64:=Nat.pow_dvd_pow 2 (by omega)
   have h3:(((2 ^ k:Nat)):Int)∣((2 ^ 64:Nat):Int):=Int.natCast_dvd_natCast.2 this
   simpa using h3
  exact Int.emod_emod_of_dvd x hd
 rw[e2,IntKind.wrap_i64]
 have b0:0<=x % ((2 ^ k:Nat):Int):=Int.emod_nonneg _ (by omega)
 have b1:x % ((2 ^ k:Nat):Int)< ((2 ^ k:Nat):Int):=Int.emod_lt_of_pos _ (by omega)
 omega
theorem and_bit(x:Int)(k:Nat)(hk:k<=61):bits .and .i64 x ((2 ^ k:Nat):Int)=x / ((2 ^ k:Nat):Int) % 2* ((2 ^ k:Nat):Int):=by
 show IntKind.i64.wrap ((BitVec.ofInt 64 x&&& BitVec.ofInt 64 ((2 ^ k:Nat):Int)).toNat:Int)=_
 have h2:2 ^ k<=2 ^ 61:=Nat.pow_le_pow_right (by omega) hk
 have h61:(2:Nat) ^ 61=2305843009213693952:=by decide
 have hp:0<2 ^ k:=Nat.two_pow_pos k
 have e1:(BitVec.ofInt 64 ((2 ^ k:Nat):Int)).toNat=2 ^ k:=by
  rw[BitVec.ofInt_natCast,BitVec.toNat_ofNat];exact Nat.mod_eq_of_lt (by omega)
 rw[BitVec.toNat_and,e1,nat_bit]
 have hx:=ofInt_toNat x
 have e2:(((BitVec.ofInt 64 x).toNat / 2 ^ k % 2:Nat):Int)=x / ((2 ^ k:Nat):Int) % 2:=by
  rw[Int.natCast_emod,Int.natCast_ediv,hx]
  have hd:(18446744073709551616:Int)=((2 ^ k:Nat):Int)* (2* ((2 ^ (63 - k):Nat):Int)):=by
   have:(2:Nat) ^ k* (2*2 ^ (63 - k))=2 ^ 64:=by
    rw[<-Nat.pow_succ',<-Nat.pow_add];congr 1;omega
   have h3:(((2:Nat) ^ k* (2*2 ^ (63 - k)):Nat):Int)=((2 ^ 64:Nat):Int):=by rw[this]
   rw[Int.natCast_mul,Int.natCast_mul]at h3
   have h4:((2 ^ 64:Nat):Int)=18446744073709551616:=by decide
   rw[h4]at h3
   exact h3.symm
  have hq:=Int.emod_add_mul_ediv x 18446744073709551616
  generalize hr:x % 18446744073709551616=r at*
  generalize x / 18446744073709551616=q at*
  have hx2:x=r+ ((2 ^ k:Nat):Int)* (2* ((2 ^ (63 - k):Nat):Int)*q):=by
   rw[<-hq];rw[hd];rw[Int.mul_assoc]
  rw[hx2,Int.add_mul_ediv_left _ _ (by omega)]
  rw[Int.mul_assoc,Int.add_mul_emod_self_left]
  rfl
 rw[Int.natCast_mul,e2,IntKind.wrap_i64]
 have b0:x / ((2 ^ k:Nat):Int) % 2=0∨x / ((2 ^ k:Nat):Int) % 2=1:=by omega
 rcases b0 with b | b <;> rw[b] <;> omega
@[go_sem] theorem and1 (x:Int):bits .and .i64 x 1=x % 2:=and_pow x 1 (by omega)
@[go_sem] theorem and3 (x:Int):bits .and .i64 x 3=x % 4:=and_pow x 2 (by omega)
@[go_sem] theorem and7 (x:Int):bits .and .i64 x 7=x % 8:=and_pow x 3 (by omega)
@[go_sem] theorem and15 (x:Int):bits .and .i64 x 15=x % 16:=and_pow x 4 (by omega)
@[go_sem] theorem and31 (x:Int):bits .and .i64 x 31=x % 32:=and_pow x 5 (by omega)
@[go_sem] theorem and63 (x:Int):bits .and .i64 x 63=x % 64:=and_pow x 6 (by omega)
@[go_sem] theorem and255 (x:Int):bits .and .i64 x 255=x % 256:=and_pow x 8 (by omega)
@[go_sem] theorem and511 (x:Int):bits .and .i64 x 511=x % 512:=and_pow x 9 (by omega)
@[go_sem] theorem and1023 (x:Int):bits .and .i64 x 1023=x % 1024:=and_pow x 10 (by omega)
@[go_sem] theorem and2047 (x:Int):bits .and .i64 x 2047=x % 2048:=and_pow x 11 (by omega)
@[go_sem] theorem and4 (x:Int):bits .and .i64 x 4=x / 4 % 2*4:=and_bit x 2 (by omega)
@[go_sem] theorem and8 (x:Int):bits .and .i64 x 8=x / 8 % 2*8:=and_bit x 3 (by omega)
@[go_sem] theorem and16 (x:Int):bits .and .i64 x 16=x / 16 % 2*16:=and_bit x 4 (by omega)
@[go_sem] theorem and64 (x:Int):bits .and .i64 x 64=x / 64 % 2*64:=and_bit x 6 (by omega)
theorem u64_nn(x:Int):0<=IntKind.u64.wrap x/\IntKind.u64.wrap x<18446744073709551616:=by
 rw[IntKind.wrap_u64];omega
theorem u64_tmod(x y:Int)(hy:0<y): ∃n:Nat,(IntKind.u64.wrap x).tmod y=n/\ (n:Int)<y:=by
 have h:=u64_nn x
 rw[Int.tmod_eq_emod_of_nonneg h.1]
 have h1:=Int.emod_nonneg (IntKind.u64.wrap x) (show y≠0 by omega)
 have h2:=Int.emod_lt_of_pos (IntKind.u64.wrap x) hy
 exact⟨(IntKind.u64.wrap x % y).toNat,by omega,by omega⟩
end
section
open Go.RowKit
set_option maxHeartbeats 1000000
attribute [local go_sem↓] Go.wp_at_zero Go.wp_at_succ
theorem below_alloc(w:World)(o:Obj):Below w.heap.size w (w.alloc o):=(Below.refl _ _).alloc (Nat.le_refl _) o
end
section
open Go.RowKit
set_option maxHeartbeats 1000000
def RowT(w:World)(base:Nat)(t:TypeId)(k:Nat)(v:Value)(n:Nat)(C:Nat->Nat->Value):Prop:=
 ∃A cap,v= .slice A n cap/\n<=cap/\ (0<n-> ∃g off cs,A=some ⟨g,off,none⟩/\base<=g/\Blk w g t cs/\ ∀i j,i<n->j<k->cs[off+ (i*k+j)]? =some (C i j))
namespace RowT
variable{w w':World}{base:Nat}{t:TypeId}{k n:Nat}{v:Value}{C:Nat->Nat->Value}
theorem at'(h:RowT w base t k v n C):RowAt w v n k C:=by
 obtain⟨A,cap,h1,h2,h3⟩:=h
 refine⟨A,cap,h1,h2,fun hn=>?_⟩
 obtain⟨g,off,cs,hA,-,hb,hc⟩:=h3 hn
 exact⟨g,off,hA,fun i j hi hj=>(hb.cell _).trans (hc i j hi hj)⟩
theorem heap(h:RowT w base t k v n C)(hb: ∀q cs,base<=q->Blk w q t cs->Blk w' q t cs):RowT w' base t k v n C:=by
 obtain⟨A,cap,h1,h2,h3⟩:=h
 refine⟨A,cap,h1,h2,fun hn=>?_⟩
 obtain⟨g,off,cs,hA,h4,h5,h6⟩:=h3 hn
 exact⟨g,off,cs,hA,h4,hb g cs h4 h5,h6⟩
theorem below(h:RowT w base t k v n C)(hb:Below w.heap.size w w'):RowT w' base t k v n C:=h.heap fun q _ _ hq=>Blk.of_heap (hb.block q hq.lt) hq
theorem far(h:RowT w base t k v n C){g:Nat}{u:TypeId}{cs:Array Value}(hg:Blk w g u cs)(ht:t≠u)(i:Nat)(x:Value):RowT (w.setCell ⟨g,i,none⟩ x) base t k v n C:=
 h.heap fun _ _ _ hq=>hq.far (p:=⟨g,i,none⟩) (Blk.ne_ hq hg ht) x
theorem congr{C':Nat->Nat->Value}(h:RowT w base t k v n C)(he: ∀i j,i<n->j<k->C i j=C' i j):RowT w base t k v n C':=by
 obtain⟨A,cap,h1,h2,h3⟩:=h
 refine⟨A,cap,h1,h2,fun hn=>?_⟩
 obtain⟨g,off,cs,hA,h4,h5,h6⟩:=h3 hn
 exact⟨g,off,cs,hA,h4,h5,fun i j hi hj=>(h6 i j hi hj).trans (by rw[he i j hi hj])⟩
theorem base_le{base':Nat}(h:RowT w base t k v n C)(hb:base'<=base):RowT w base' t k v n C:=by
 obtain⟨A,cap,h1,h2,h3⟩:=h
 refine⟨A,cap,h1,h2,fun hn=>?_⟩
 obtain⟨g,off,cs,hA,h4,h5⟩:=h3 hn
 exact⟨g,off,cs,hA,Nat.le_trans hb h4,h5⟩
theorem nil_(w:World)(base:Nat)(t:TypeId)(k:Nat)(C:Nat->Nat->Value):RowT w base t k (.slice none 0 0) 0 C:=⟨_,_,rfl,Nat.le_refl _,fun h=>absurd h (by omega)⟩
theorem set(h:RowT w base t k v n C){i j:Nat}(hi:i<n)(hj:j<k): ∃g off cap cs,v= .slice (some ⟨g,off,none⟩) n cap/\n<=cap/\base<=g/\Blk w g t cs/\w.cell? ⟨g,off+ (i*k+j),none⟩=some (C i j)/\ ∀x,RowT (w.setCell ⟨g,off+ (i*k+j),none⟩ x) base t k v n fun a b=>if a=i/\b=j then x else C a b:=by
 obtain⟨A,cap,rfl,h2,h3⟩:=h
 obtain⟨g,off,cs,rfl,h4,h5,h6⟩:=h3 (by omega)
 refine⟨g,off,cap,cs,rfl,h2,h4,h5,(h5.cell _).trans (h6 i j hi hj),fun x=>⟨_,_,rfl,h2,fun hn=>⟨g,off,_,rfl,h4,h5.set_ _ x,fun a b ha hb=>?_⟩⟩⟩
 have hlt:off+ (i*k+j)<cs.size:=(Array.getElem?_eq_some_iff.1 (h6 i j hi hj)).1
 by_cases e:a=i/\b=j
 ·obtain⟨rfl,rfl⟩:=e
  show _=some (if _ then _ else _)
  rw[if_pos ⟨rfl,rfl⟩,Array.getElem?_setIfInBounds_self,if_pos hlt]
 ·show _=some (if _ then _ else _)
  rw[if_neg e,Array.getElem?_setIfInBounds_ne]
  ·exact h6 a b ha hb
  ·intro q
   have q:i*k+j=a*k+b:=by omega
   apply e
   have e1:(i*k+j) / k=(a*k+b) / k:=by rw[q]
   have e2:(i*k+j) % k=(a*k+b) % k:=by rw[q]
   rw[Nat.mul_comm i k,Nat.mul_comm a k,Nat.mul_add_div (by omega),Nat.mul_add_div (by omega),Nat.div_eq_of_lt hj,Nat.div_eq_of_lt hb]at e1
   rw[Nat.mul_comm i k,Nat.mul_comm a k,Nat.mul_add_mod,Nat.mul_add_mod,Nat.mod_eq_of_lt hj,Nat.mod_eq_of_lt hb]at e2
   omega
end RowT
section
variable{A:Type}{enc:A->List Value}{k:Nat}
theorem flat_get_k(hk:0<k)(h: ∀x,(enc x).length=k): ∀(L:List A) (t:Nat),(L.flatMap enc)[t]? =(L[t / k]?).bind fun e=>(enc e)[t % k]?
 | [],t=>by simp
 | e::L,t=>by
  rw[List.flatMap_cons]
  by_cases q:t<k
  ·rw[List.getElem?_append_left (by rw[h];exact q),Nat.div_eq_of_lt q,Nat.mod_eq_of_lt q];rfl
  ·have e1:t / k=(t - k) / k+1:=by
    rw[Nat.div_eq_sub_div hk (by omega)]
   have e2:t % k=(t - k) % k:=Nat.mod_eq_sub_mod (by omega)
   rw[List.getElem?_append_right (by rw[h];omega),h,e1,List.getElem?_cons_succ,e2,<-flat_get_k hk h L (t - k)]
theorem flat_len_k(h: ∀x,(enc x).length=k)(L:List A):(L.flatMap enc).length=L.length*k:=by
 induction L with
 | nil=>simp
 | cons e L ih=>rw[List.flatMap_cons,List.length_append,ih,h,List.length_cons,Nat.succ_mul];omega
def CL(enc:A->List Value)(L:List A)(C:Nat->Nat->Value)(k:Nat):Prop:=∀i j (hi:i<L.length),j<k->(enc L[i])[j]? =some (C i j)
theorem CL.get{L:List A}{C:Nat->Nat->Value}(hk:0<k)(h: ∀x,(enc x).length=k)(hC:CL enc L C k){i j:Nat}(hi:i<L.length)(hj:j<k):(L.flatMap enc)[i*k+j]? =some (C i j):=by
 rw[flat_get_k hk h,Nat.mul_comm,Nat.mul_add_div hk,Nat.div_eq_of_lt hj,Nat.mul_add_mod,Nat.mod_eq_of_lt hj,Nat.add_zero,List.getElem?_eq_getElem hi]
 exact hC i j hi hj
theorem own_rowT{w:World}{base:Nat}{t:TypeId}{v:Value}{L:List A}{C:Nat->Nat->Value}(hk:0<k)(h: ∀x,(enc x).length=k)(hw:w.ownsRow base t k v L.length (L.flatMap enc))(hC:CL enc L C k):RowT w base t k v L.length C:=by
 rcases hw.2 with⟨rfl,h0⟩ | ⟨g,cap,cur,rfl,hb,hh,h1,-,h3,h4⟩
 ·rw[h0];exact RowT.nil_ _ _ _ _ _
 ·refine⟨_,_,rfl,h1,fun hn=>⟨g,0,cur,rfl,hb,hh,fun i j hi hj=>?_⟩⟩
  have h5:=hC.get hk h hi hj
  rw[<-h4,List.getElem?_take]at h5
  split at h5
  ·rw[Nat.zero_add];simpa using h5
  ·cases h5
variable{ops:Array Oper}{rest:List Oper}{o:Oper}{a:Act}{Q:Exit->Act->World->Prop}
end
end
section
open Go.RowKit
set_option maxHeartbeats 1000000
def svBlk(v:Value)(q:Nat):Prop:=∃off n cap,v= .slice (some ⟨q,off,none⟩) n cap
theorem svBlk_nil{q:Nat}: ¬ svBlk (.slice none 0 0) q:=by
 rintro⟨o,n,c,e⟩
 injection e with e
 cases e
section
variable{A:Type}{enc:A->List Value}{k:Nat}
theorem run_app(w:World)(t ty e:TypeId)(i:TypeInfo)(z:Value)(bytes:Nat)(ht:Tryz.prog.underlying t=some (.slice e))(hi:Tryz.prog.info? e=some i)(hz:i.zero=some z)(hsize:i.size=k)(hby:i.bytes=bytes)(hzs:z.cells.size=k)(hk:0<k)
  (base:Nat) (v:Value) (L:List A) (hown:w.ownsRow base e k v L.length (L.flatMap enc)) (xv:Value) (M:List A) {C:Nat->Nat->Value} (hM:RowAt w xv M.length k C) (hC:CL enc M C k)
  (hl: ∀x,(enc x).length=k) (h1: ∀x∈M,∀u∈enc x,u.oneCell'=true) (h63:L.length+M.length<=100000) (hbytes:bytes<=1000) (hbase:base<=w.heap.size):
  ∃A' cap' w',(Builtin.append_ #[t,t] ty #[v,xv]).run Tryz.prog w= .ok (.slice A' (L++M).length cap') w'/\w'.ownsRow base e k (.slice A' (L++M).length cap') (L++M).length ((L++M).flatMap enc)/\w.grownBy w' v.ownBlock:=by
 obtain⟨A1,cap1,rfl,hc1,hA1⟩:=hM
 have hbb:(L.length+M.length)*bytes<=140737488355328:=Nat.le_trans (Nat.mul_le_mul h63 hbytes) (by decide)
 have hrun: ∃v' w',(Builtin.append_ #[t,t] ty #[v,.slice A1 M.length cap1]).run Tryz.prog w= .ok v' w'/\w'.ownsRow base e k v' (L++M).length ((L++M).flatMap enc)/\w.grownBy w' v.ownBlock:=by
  rcases Nat.eq_zero_or_pos M.length with h0 | h0
  ·have hM0:M=[]:=List.length_eq_zero_iff.1 h0
   subst hM0
   rw[List.append_nil]
   cases A1 with
   | none=>
    have hb: ∃b n' c',v= .slice b n' c'/\n'<=c':=by
     rcases hown.2 with⟨rfl,_⟩ | ⟨g,cap,cur,rfl,_,_,h6,_⟩
     ·exact⟨_,_,_,rfl,Nat.le_refl _⟩
     ·exact⟨_,_,_,rfl,h6⟩
    obtain⟨b,n',c',rfl,hle⟩:=hb
    exact⟨_,_,run_append_nothing (P:=Tryz.prog) w t t ty e i ht hi b n' c' hle _ (Src.ofNil w ht cap1),hown,⟨rfl,rfl,rfl,Nat.le_refl _,fun _ _ _=>rfl⟩⟩
   | some ad=>
    obtain⟨v',w',r1,r2,r3,-,-⟩:=run_append_own_at (P:=Tryz.prog) w base t ty e i z k bytes ht hi hz hsize hby hzs hk v L.length _ hown ad 0 cap1 [] (by simp) (fun j u hu=>by simp at hu) (fun u hu=>by simp at hu) (by simp only[maxLen];omega) (by simpa using hbb) hbase
    rw[List.append_nil,Nat.add_zero]at r2
    exact⟨v',w',r1,r2,r3⟩
  ·obtain⟨g,off,rfl,hcell⟩:=hA1 h0
   obtain⟨v',w',r1,r2,r3,-,-⟩:=run_append_own_at (P:=Tryz.prog) w base t ty e i z k bytes ht hi hz hsize hby hzs hk v L.length _ hown ⟨g,off,none⟩ M.length cap1 (M.flatMap enc) (flat_len_k hl M) (fun j u hu=>by
    have hj:j<M.length*k:=by rw[<-flat_len_k hl M];exact(List.getElem?_eq_some_iff.1 hu).1
    have e1:j=j / k*k+j % k:=by rw[Nat.mul_comm];exact(Nat.div_add_mod j k).symm
    have hq:j / k<M.length:=Nat.div_lt_of_lt_mul (by rw[Nat.mul_comm];exact hj)
    have h2:=hC.get hk hl hq (Nat.mod_lt j hk)
    rw[<-e1,hu]at h2
    rw[Addr.add_lit]
    have h3:=hcell (j / k) (j % k) hq (Nat.mod_lt j hk)
    rw[<-e1]at h3
    rw[h3,<-h2]) (fun u hu=>by
    obtain⟨x,hm,hx⟩:=List.mem_flatMap.1 hu
    exact h1 x hm u hx) (by simp only[maxLen];omega) hbb hbase
   rw[<-List.flatMap_append,<-List.length_append]at r2
   exact⟨v',w',r1,r2,r3⟩
 obtain⟨v',w',hrun,r2,r3⟩:=hrun
 have hf: ∃A' cap',v'= .slice A' (L++M).length cap':=by
  rcases r2.2 with⟨rfl,h0⟩ | ⟨g,cap,cur,rfl,_⟩
  ·exact⟨none,0,by rw[h0]⟩
  ·exact⟨_,_,rfl⟩
 obtain⟨A',cap',rfl⟩:=hf
 exact⟨A',cap',w',hrun,r2,r3⟩
variable{ops:Array Oper}{rest:List Oper}{o:Oper}{a:Act}{Q:Exit->Act->World->Prop}
theorem step_app(w:World){K:Act->World->Prop}{E:Prop}(hgd:o.guard=none)(s x:Operand)(t e:TypeId)(hop:o.op=Op.call {callee:=Callee.builtin Builtin.append,args:=#[s,x],argTypes:=#[t,t]})
  (i:TypeInfo) (z:Value) (bytes:Nat) (ht:Tryz.prog.underlying t=some (.slice e)) (hi:Tryz.prog.info? e=some i) (hz:i.zero=some z) (hsize:i.size=k) (hby:i.bytes=bytes) (hzs:z.cells.size=k) (hk:0<k)
  (base:Nat) (v:Value) (L:List A) (hs:a.eval s=v) (hown:w.ownsRow base e k v L.length (L.flatMap enc)) (xv:Value) (hx:a.eval x=xv) (M:List A) {C:Nat->Nat->Value} (hM:RowAt w xv M.length k C) (hC:CL enc M C k)
  (hl: ∀x,(enc x).length=k) (h1: ∀x∈M,∀u∈enc x,u.oneCell'=true) (h63:L.length+M.length<=100000) (hbytes:bytes<=1000) (hbase:base<=w.heap.size)
  (hK: ∀A' n' cap' w',n'=(L++M).length->w'.ownsRow base e k (.slice A' n' cap') (L++M).length ((L++M).flatMap enc)->w.grownBy w' v.ownBlock->K (a.put o.dst (.slice A' n' cap')) w'):
  if Region.wanted o (yielded ops a.tmps)=true then Oper.wp Tryz.prog o a w K Q else E:=by
 have hw:Region.wanted o (yielded ops a.tmps)=true:=by simp[Region.wanted,hgd]
 rw[if_pos hw]
 obtain⟨A',cap',w',hrun,r2,r3⟩:=run_app w t o.type e i z bytes ht hi hz hsize hby hzs hk base v L hown xv M hM hC hl h1 h63 hbytes hbase
 unfold Oper.wp execOp
 simp only[hop,resolve,invoke,builtin,Sem.run_bind,Sem.run_pure,Result.andThen_ok,List.map_toArray,List.map_cons,List.map_nil,hs,hx,hrun]
 exact hK A' _ cap' w' rfl r2 r3
end
end
end Go.Proofs.YtkebjgebkneijaaGreat
