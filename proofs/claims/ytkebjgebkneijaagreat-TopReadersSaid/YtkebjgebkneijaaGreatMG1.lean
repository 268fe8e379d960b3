/- Texts of one's own that a claim's last text rests on: Base ArDef ArNote ArNote2 ArOps ArNew ArSame ArTo Bits Names Names2 Names3. -/
import Derived.WalkKit
import Derived.WalkSpells
import Derived.WalkLawsBesides
import Derived.Deep.RegionLaw
import Derived.Deep.AppendLies
import Derived.Deep.QuietTactic
import Derived.BigQuiet
import Derived.Deep.LoopGhost
import Derived.Deep.DeepFit
import Derived.Lib.Hide
import Derived.Maps.AppendAt
import Derived.Test.YtkebjgebkneijaaGreatProg
import Derived.Laws.BitsAllLaws
import Derived.Laws.RangeAny
import Derived.Laws.RangeString
import Derived.Lib.RuneCount
import Derived.Lib.DecodeN
import Derived.Laws.Strings
import Derived.Laws.Strings2
import Derived.Laws.Strings3
set_option linter.unusedVariables false
set_option linter.unusedSimpArgs false
namespace Go.Proofs.YtkebjgebkneijaaGreat
open Go.RowKit
set_option maxHeartbeats 16000000
set_option maxRecDepth 1000000
theorem xx{α:Sort _}(a:α): ∃x,a=x:=⟨_,rfl⟩
theorem yy{α:Sort _}(a:α): ∃x,x=a:=⟨_,rfl⟩
theorem Ama(n:Nat):n<=n:=Nat.le_refl n
theorem Amb{α:Type _}{a:α}{l:List α}:a∈a::l:=List.mem_cons_self 
theorem Amc{α:Type _}(y:α){a:α}{l:List α}(h:a∈l):a∈y::l:=List.mem_cons_of_mem y h
theorem Amd(w:World)(a:Addr){u:Value}(h:w.cell? a=some u):a.block<w.heap.size:=World.block_lt_of_cell? w a h
theorem Ame{α:Type _}{l:List α}{i:Nat}{a:α}:l.getD i a=l[i]?.getD a:=List.getD_eq_getElem?_getD 
theorem Amf(B:Nat)(w:World):Below B w w:=Below.refl B w
theorem Amg{α:Type _}{x y:α}(h:some x=some y):x=y:=Option.some.inj h
theorem Amh{α:Type _}{l:List α}{i:Nat}(h:i<l.length):l[i]? =some l[i]:=List.getElem?_eq_getElem h
theorem Ami{α:Type _}{a b:List α}:(a++b).length=a.length+b.length:=List.length_append 
theorem Amj{w:World}(o:Obj)(n i:Nat)(h:n<w.heap.size):(w.alloc o).cell? ⟨n,i,none⟩=w.cell? ⟨n,i,none⟩:=World.cell?_alloc_past o n i h
theorem Amk{n m k:Nat}(h:n<m)(j:m<=k):n<k:=Nat.lt_of_lt_of_le h j
theorem Aml{n m k:Nat}(h:n<=m)(j:m<=k):n<=k:=Nat.le_trans h j
theorem lTA {T : Type} (l : List T) (i : Nat) (a : T) : l.toArray.setIfInBounds i a = (l.set i a).toArray := List.setIfInBounds_toArray ..
theorem lC0 {T : Type} (a b : T) (l : List T) : (a :: l).set 0 b = b :: l := rfl
theorem lCS {T : Type} (a b : T) (n : Nat) (l : List T) : (a :: l).set (n + 1) b = a :: l.set n b := rfl
theorem lhi {p : Prop} (h : p) : Go.RowKit.Hid p := Lib.hid h
def Blk(w:World)(g:Nat)(t:TypeId)(cs:Array Value):Prop:=w.heap[g]? =some (.cells cs t (0,0))
section
variable{w w':World}{g:Nat}{t:TypeId}{cs:Array Value}
theorem Blk.lt(h:Blk w g t cs):g<w.heap.size:=by
 rcases Nat.lt_or_ge g w.heap.size with hlt | hge
 ·exact hlt
 ·unfold Blk at h;rw[Array.getElem?_eq_none hge]at h;cases h
theorem Blk.cell(h:Blk w g t cs)(i:Nat):w.cell? ⟨g,i,none⟩=cs[i]?:=cell_of_row w g i cs t (0,0) h
theorem Blk.frozen(h:Blk w g t cs)(i:Nat):w.frozen? ⟨g,i,none⟩=false:=by
 unfold Blk at h
 simp[World.frozen?,h]
theorem Blk.new(w:World)(t:TypeId)(cs:Array Value):Blk (w.alloc (.cells cs t)) w.heap.size t cs:=heap_alloc_new w _
theorem Blk.newAt(w:World)(t:TypeId)(cs:Array Value){n:Nat}(hn:n=w.heap.size):Blk (w.alloc (.cells cs t)) n t cs:=hn▸heap_alloc_new w _
theorem Blk.alloc(h:Blk w g t cs)(o:Obj):Blk (w.alloc o) g t cs:=(Below.heap_alloc w o g h.lt).trans h
theorem Blk.set_(h:Blk w g t cs)(i:Nat)(u:Value):Blk (w.setCell ⟨g,i,none⟩ u) g t (cs.setIfInBounds i u):=by
 unfold Blk at h⊢
 simp[World.setCell,Array.getElem?_modify,h]
theorem Blk.far(h:Blk w g t cs){p:Addr}(hp:g≠p.block)(u:Value):Blk (w.setCell p u) g t cs:=(Below.heap_setCell w p u g hp).trans h
theorem Blk.ne_{g':Nat}{t':TypeId}{cs':Array Value}(h:Blk w g t cs)(h':Blk w g' t' cs')(hne:t≠t'):g≠g':=by
 rintro rfl
 unfold Blk at h h'
 rw[h]at h'
 injection h' with h'
 injection h' with _ ht
 exact hne ht
theorem Blk.of_heap(h:w'.heap[g]? =w.heap[g]?)(hb:Blk w g t cs):Blk w' g t cs:=h.trans hb
theorem Ah{base:Nat}{e:TypeId}{size n:Nat}{v:Value}{xs:List Value}(h:w.ownsRow base e size v n xs)(hg:Blk w g t cs)(hne:e≠t):v.ownBlock≠some g:=by
 rcases h.2 with⟨rfl,_⟩ | ⟨g',cap,cur,rfl,_,hh,_⟩
 ·simp[Value.ownBlock]
 ·intro he
  have:g'=g:=by simpa[Value.ownBlock]using he
  subst this
  exact Blk.ne_ (t:=e) hh hg hne rfl
end
structure Az (L:Nat->Prop) (w w':World):Prop where
 os:w'.os=w.os
 tape:w'.tape=w.tape
 output:w'.output=w.output
 size:w.heap.size<=w'.heap.size
 block: ∀k,L k->w'.heap[k]? =w.heap[k]?
def Bd(L:Nat->Prop)(w:World):Prop:=∀b,L b->b<w.heap.size
namespace Az
variable{L L':Nat->Prop}{w w' w'':World}
theorem refl(L:Nat->Prop)(w:World):Az L w w:=⟨rfl,rfl,rfl,Ama _,fun _ _=>rfl⟩
theorem trans(h:Az L w w')(k:Az L w' w''):Az L w w'':=
 ⟨k.os.trans h.os,k.tape.trans h.tape,k.output.trans h.output,Aml h.size k.size,fun i hi=>(k.block i hi).trans (h.block i hi)⟩
theorem sub(h:Az L w w')(hs: ∀b,L' b->L b):Az L' w w':=⟨h.os,h.tape,h.output,h.size,fun k hk=>h.block k (hs k hk)⟩
theorem alloc(h:Az L w w')(hb:Bd L w')(o:Obj):Az L w (w'.alloc o):=
 h.trans ⟨rfl,rfl,rfl,by simp,fun k hk=>Below.heap_alloc _ _ _ (hb k hk)⟩
theorem setCell(h:Az L w w'){p:Addr}(hp: ¬ L p.block)(u:Value):Az L w (w'.setCell p u):=
 h.trans ⟨rfl,rfl,rfl,by simp[World.setCell],fun k hk=>Below.heap_setCell _ _ _ _ (fun e=>hp (e▸hk))⟩
theorem drew(h:Az L w w'):Az L w w'.drew:=⟨h.os,h.tape,h.output,h.size,h.block⟩
theorem drewN(h:Az L w w')(n:Nat):Az L w (w'.drewN n):=⟨h.os,h.tape,h.output,h.size,h.block⟩
theorem grown(h:Az L w w'){row:Option Nat}(hg:w'.grownBy w'' row)(hb:Bd L w')(hr: ∀k,row=some k-> ¬ L k):Az L w w'':=
 h.trans ⟨hg.os,hg.tape,hg.output,hg.size,fun k hk=>hg.block k (hb k hk) (fun e=>hr k e.symm hk)⟩
theorem blk(h:Az L w w'){g:Nat}{t:TypeId}{cs:Array Value}(hb:Blk w g t cs)(hg:L g):Blk w' g t cs:=(h.block g hg).trans hb
theorem cell(h:Az L w w'){p:Addr}(hp:L p.block):w'.cell? p=w.cell? p:=World.cell?_of_block (w:=w) (h.block p.block hp)
theorem frozen(h:Az L w w'){p:Addr}(hp:L p.block):w'.frozen? p=w.frozen? p:=World.frozen?_of_block (w:=w) (h.block p.block hp)
theorem cellOf(h:Az L w w'){p:Addr}{v:Value}(hp:L p.block)(hc:w.cell? p=some v):w'.cell? p=some v:=(h.cell hp).trans hc
theorem bd(h:Az L w w')(hb:Bd L' w):Bd L' w':=fun b hl=>Amk (hb b hl) h.size
theorem below(h:Az L w w'){B:Nat}(hB: ∀b,b<B->L b):Below B w w':=⟨h.os,h.tape,h.output,h.size,fun k hk=>h.block k (hB k hk)⟩
theorem ofBelow{B:Nat}(h:Below B w w'):Az (· <B) w w':=⟨h.os,h.tape,h.output,h.size,fun k hk=>h.block k hk⟩
theorem undrew(h:Az L w.drew w'):Az L w w':=⟨h.os,h.tape,h.output,h.size,h.block⟩
end Az
namespace Bd
variable{L L':Nat->Prop}{w w':World}
theorem alloc(h:Bd L w)(o:Obj):Bd L (w.alloc o):=fun b hb=>by have:=h b hb;simp;omega
theorem setCell(h:Bd L w)(p:Addr)(u:Value):Bd L (w.setCell p u):=fun b hb=>by have:=h b hb;simpa[World.setCell]using this
theorem drew(h:Bd L w):Bd L w.drew:=h
theorem drewN(h:Bd L w)(n:Nat):Bd L (w.drewN n):=h
theorem below(w:World):Bd (· <w.heap.size) w:=fun _ h=>h
theorem new(h:Bd L w): ¬ L w.heap.size:=fun hl=>absurd (h _ hl) (Nat.lt_irrefl _)
theorem ge(h:Bd L w){n:Nat}(hn:w.heap.size<=n): ¬ L n:=fun hl=>absurd (h _ hl) (by omega)
theorem sub(h:Bd L w)(hs: ∀b,L' b->L b):Bd L' w:=fun b hb=>h b (hs b hb)
theorem insert(h:Bd L w){n:Nat}(hn:n<w.heap.size):Bd (fun b=>L b∨b=n) w:=fun b hb=>by
 rcases hb with hb | rfl
 ·exact h b hb
 ·exact hn
end Bd
def ins(L:Nat->Prop)(n:Nat):Nat->Prop:=fun b=>L b∨b=n
theorem ins.old{L:Nat->Prop}{n b:Nat}(h:L b):ins L n b:=.inl h
theorem ins.new(L:Nat->Prop)(n:Nat):ins L n n:=.inr rfl
theorem Bd.ins{L:Nat->Prop}{w:World}(h:Bd L w){n:Nat}(hn:n<w.heap.size):Bd (ins L n) w:=h.insert hn
theorem Az.out{L:Nat->Prop}{n:Nat}{w w':World}(h:Az (ins L n) w w'):Az L w w':=h.sub fun _=>ins.old
abbrev Acc:=Int×Bool
def Ii(x:Acc):Value:=.iface (if x.2 then 153 else 155) (.int .i64 x.1)
structure ArIn (L:Nat->Prop) (w:World) (a bw bt:Nat) (vs:List Value) (ws:List Int) (ts:List (List Acc)):Prop where
 bd:Bd L w
 la: ¬ L a
 lw: ¬ L bw
 lt: ¬ L bt
 ba:Blk w a 152 #[.slice (some ⟨bw,0,none⟩) ws.length ws.length,.slice (some ⟨bt,0,none⟩) ts.length ts.length]
 bws:Blk w bw 3 (ws.map (Value.int .i64)).toArray
 bts:Blk w bt 150 vs.toArray
 vl:vs.length=ts.length
 row: ∀c,c<ts.length->w.ownsRow 0 20 1 (vs.getD c undef) (ts.getD c []).length ((ts.getD c []).map Ii)
 lrow: ∀c,c<ts.length-> ∀b,(vs.getD c undef).ownBlock=some b-> ¬ L b
 apart: ∀c c',c<ts.length->c'<ts.length->c≠c'-> ∀b,(vs.getD c undef).ownBlock=some b->(vs.getD c' undef).ownBlock≠some b
 wsl:ws.length<=65536
 tsl:ts.length<=8
def ArAt(L:Nat->Prop)(w:World)(a:Nat)(ws:List Int)(ts:List (List Acc)):Prop:=∃bw bt vs,ArIn L w a bw bt vs ws ts
section
variable{L L':Nat->Prop}{w w':World}{a bw bt:Nat}{vs:List Value}{ws:List Int}{ts:List (List Acc)}
theorem ArIn.move(h:ArIn L w a bw bt vs ws ts)(hb:Bd L' w')(hl: ∀b,L' b->b<w.heap.size->L b)
  (hk: ∀b,b<w.heap.size-> ¬ L b->w'.heap[b]? =w.heap[b]?):ArIn L' w' a bw bt vs ws ts:=by
 have nl: ∀b,b<w.heap.size-> ¬ L b-> ¬ L' b:=fun b hlt hn hc=>hn (hl b hc hlt)
 refine⟨hb,nl _ h.ba.lt h.la,nl _ h.bws.lt h.lw,nl _ h.bts.lt h.lt,Blk.of_heap (hk _ h.ba.lt h.la) h.ba,Blk.of_heap (hk _ h.bws.lt h.lw) h.bws,Blk.of_heap (hk _ h.bts.lt h.lt) h.bts,h.vl,?_,?_,h.apart,h.wsl,h.tsl⟩
 ·intro c hc
  have r:=h.row c hc
  refine⟨r.1,?_⟩
  rcases r.2 with r2 | ⟨g,cap,cur,hv,hg,hh,rest⟩
  ·exact .inl r2
  ·refine .inr ⟨g,cap,cur,hv,hg,?_,rest⟩
   rw[hk g (lt_of_block hh) (h.lrow c hc g (by rw[hv];rfl))]
   exact hh
 ·intro c hc b hb'
  have:=(h.row c hc).lt b hb'
  exact nl b this.2 (h.lrow c hc b hb')
theorem ArAt.move(h:ArAt L w a ws ts)(hb:Bd L' w')(hl: ∀b,L' b->b<w.heap.size->L b)
  (hk: ∀b,b<w.heap.size-> ¬ L b->w'.heap[b]? =w.heap[b]?):ArAt L' w' a ws ts:=by
 obtain⟨bw,bt,vs,h⟩:=h
 exact⟨bw,bt,vs,h.move hb hl hk⟩
theorem ArAt.bd(h:ArAt L w a ws ts):Bd L w:=by obtain⟨bw,bt,vs,h⟩:=h;exact h.bd
theorem ArAt.lt(h:ArAt L w a ws ts):a<w.heap.size:=by obtain⟨bw,bt,vs,h⟩:=h;exact h.ba.lt
theorem ArAt.sub(h:ArAt L w a ws ts)(hs: ∀b,L' b->L b):ArAt L' w a ws ts:=h.move (h.bd.sub hs) (fun b hb _=>hs b hb) (fun _ _ _=>rfl)
theorem ArAt.alloc(h:ArAt L w a ws ts)(o:Obj):ArAt L (w.alloc o) a ws ts:=
 h.move (h.bd.alloc o) (fun _ hb _=>hb) (fun _ hb _=>Below.heap_alloc _ _ _ hb)
theorem ArAt.allocIns(h:ArAt L w a ws ts)(o:Obj):ArAt (ins L w.heap.size) (w.alloc o) a ws ts:=
 h.move ((h.bd.alloc o).ins (n:=w.heap.size) (by simp)) (fun b hb hlt=>by
  rcases hb with hb | hb
  ·exact hb
  ·omega) (fun _ hb _=>Below.heap_alloc _ _ _ hb)
theorem ArAt.setCell(h:ArAt L w a ws ts){p:Addr}(hp:L p.block)(u:Value):ArAt L (w.setCell p u) a ws ts:=
 h.move (h.bd.setCell p u) (fun _ hb _=>hb) (fun _ _ hn=>Below.heap_setCell _ _ _ _ (fun e=>hn (e▸hp)))
theorem ArAt.drew(h:ArAt L w a ws ts):ArAt L w.drew a ws ts:=h.move h.bd (fun _ hb _=>hb) (fun _ _ _=>rfl)
theorem ArAt.drewN(h:ArAt L w a ws ts)(n:Nat):ArAt L (w.drewN n) a ws ts:=h.move h.bd (fun _ hb _=>hb) (fun _ _ _=>rfl)
theorem ArAt.wsl(h:ArAt L w a ws ts):ws.length<=65536:=by obtain⟨bw,bt,vs,h⟩:=h;exact h.wsl
theorem ArAt.tsl(h:ArAt L w a ws ts):ts.length<=8:=by obtain⟨bw,bt,vs,h⟩:=h;exact h.tsl
end
def rd(ws:List Int)(i:Int):Int:=ws.getD i.toNat 0
def wr(ws:List Int)(i v:Int):List Int:=ws.set i.toNat v
def tr(ts:List (List Acc))(c:Int):List Acc:=ts.getD c.toNat []
def noted(ts:List (List Acc))(c:Int)(x:Acc):List (List Acc):=ts.set c.toNat (tr ts c++[x])
@[simp,go_sem] theorem Tz (ws:List Int) (i v:Int):(wr ws i v).length=ws.length:=by simp[wr]
@[simp,go_sem] theorem Dh (ts:List (List Acc)) (c:Int) (x:Acc):(noted ts c x).length=ts.length:=by simp[noted]
def Gq(m:Nat)(ts:List (List Acc)):Prop:=∀t∈ts,t.length<=m
theorem Gq.at_{m:Nat}{c:Int}{ts:List (List Acc)}(h:Gq m ts):(tr ts c).length<=m:=by
 unfold tr
 rw[Ame]
 rcases hx:ts[c.toNat]? with _ | t
 ·simp
 ·exact h t (List.mem_of_getElem? hx)
theorem Gq.noted{m:Nat}{c:Int}{ts:List (List Acc)}(h:Gq m ts)(x:Acc):Gq (m+1) (noted ts c x):=by
 intro t ht
 rcases List.mem_or_eq_of_mem_set ht with ht | rfl
 ·have:=h t ht;omega
 ·have:=h.at_ (c:=c)
  rw[Ami,List.length_singleton];omega
theorem Gq.mono{m m':Nat}{ts:List (List Acc)}(h:Gq m ts)(hm:m<=m'):Gq m' ts:=fun t ht=>Aml (h t ht) hm
theorem Zr:(Tryz.prog.info? 20).map (fun i=>(i.zero,i.size,i.bytes))=some (some .nilIface,1,16):=by kernel_rfl
section
variable{L:Nat->Prop}{w:World}{a bw bt:Nat}{vs:List Value}{ws:List Int}{ts:List (List Acc)}
theorem ArIn.c0(h:ArIn L w a bw bt vs ws ts):w.cell? ⟨a,0,none⟩=some (.slice (some ⟨bw,0,none⟩) ws.length ws.length):=by rw[h.ba.cell];rfl
theorem ArIn.c1(h:ArIn L w a bw bt vs ws ts):w.cell? ⟨a,1,none⟩=some (.slice (some ⟨bt,0,none⟩) ts.length ts.length):=by rw[h.ba.cell];rfl
theorem ArIn.cw(h:ArIn L w a bw bt vs ws ts){i:Nat}(hi:i<ws.length):w.cell? ⟨bw,i,none⟩=some (.int .i64 (ws.getD i 0)):=by
 rw[h.bws.cell];simp[hi,List.getD]
theorem ArIn.ct(h:ArIn L w a bw bt vs ws ts){c:Nat}(hc:c<ts.length):w.cell? ⟨bt,c,none⟩=some (vs.getD c undef):=by
 rw[h.bts.cell];simp[h.vl,hc,List.getD]
theorem Wn(h:ArAt L w a ws ts)(c:Int)(h0:0<=c)(h1:c<ts.length):
  Calls Tryz.prog 72 #[.pointer (some ⟨a,0,none⟩),.int .i64 c] w fun e w'=>e= .returned (.int .i64 0)/\w=w':=by
 obtain⟨bw,bt,vs,h⟩:=h
 have c1:=h.c1
 have hl:=h.tsl
 clear h
 go_enter Tryz.func72,Tryz.ntmps72
 go_wp2
 go_ret
 exact⟨rfl,rfl⟩
theorem Ye(h:ArAt L w a ws ts)(c i:Int)(h0:0<=c)(h1:c<ts.length)(h2:0<=i)(h3:i<ws.length):
  Calls Tryz.prog 202 #[.pointer (some ⟨a,0,none⟩),.int .i64 c,.int .i64 i] w fun e w'=>e= .returned (.int .i64 0)/\w=w':=by
 have hc:=Wn h c h0 h1
 have hc':=lhi hc
 clear hc
 obtain⟨bw,bt,vs,h⟩:=h
 have c0:=h.c0
 have hl:=h.wsl
 clear h
 go_enter Tryz.func202,Tryz.ntmps202
 go_wp2_with (go_at_call 72;refine hc'.out.mono ?_;rintro e w' ⟨rfl,rfl⟩)
 go_ret
 exact⟨rfl,rfl⟩
end
section
variable{L:Nat->Prop}{w:World}{a bw bt:Nat}{vs:List Value}{ws:List Int}{ts:List (List Acc)}
theorem Agq{w1:World}{o:Obj}{v:Value}{g cap c:Nat}{x:Acc}{ex:Value}(h:ArIn L w a bw bt vs ws ts)(hc:c<ts.length)(hv:vs.getD c undef=v)(hx:Ii x=ex){tt:List Acc}(htt:tr ts c=tt)
  (hown:w1.ownsRow 0 20 1 (.slice (some ⟨g,0,none⟩) (tt.length+1) cap) (tt.length+1) (tt.map Ii++[ex]))
  (hg:(w.alloc o).drew.grownBy w1 v.ownBlock) (hat:v.ownBlock=some g∨g=w.heap.size+1):
  ArIn L (w1.setCell ⟨bt,c,none⟩ (.slice (some ⟨g,0,none⟩) (tt.length+1) cap)) a bw bt (vs.set c (.slice (some ⟨g,0,none⟩) (tt.length+1) cap)) ws (noted ts (c:Int) x)/\
  Az L w (w1.setCell ⟨bt,c,none⟩ (.slice (some ⟨g,0,none⟩) (tt.length+1) cap)):=by
 subst htt
 have etr:tr ts (c:Int)=ts.getD c []:=rfl
 rw[etr]at hown⊢
 clear etr
 subst hv
 have old: ∀b,b<w.heap.size->some b≠(vs.getD c undef).ownBlock->w1.heap[b]? =w.heap[b]?:=fun b hb hn=>
  (hg.block b (by simp;omega) hn).trans (Below.heap_alloc _ _ _ hb)
 have na:=Ah (h.row c hc) h.ba (by decide)
 have nw:=Ah (h.row c hc) h.bws (by decide)
 have nt:=Ah (h.row c hc) h.bts (by decide)
 have sz:w.heap.size<=w1.heap.size:=by have:=hg.size;simp at this;omega
 have ba1:Blk w1 a _ _:=Blk.of_heap (old _ h.ba.lt (Ne.symm na)) h.ba
 have bw1:Blk w1 bw _ _:=Blk.of_heap (old _ h.bws.lt (Ne.symm nw)) h.bws
 have bt1:Blk w1 bt _ _:=Blk.of_heap (old _ h.bts.lt (Ne.symm nt)) h.bts
 have nab:a≠bt:=h.ba.ne_ h.bts (by decide)
 have nwb:bw≠bt:=h.bws.ne_ h.bts (by decide)
 have ngb:g≠bt:=fun e=>Ah hown bt1 (by decide) (by simp[Value.ownBlock,e])
 have ngL: ¬ L g:=by
  rcases hat with e | e
  ·exact h.lrow c hc g e
  ·exact h.bd.ge (by omega)
 have hl':=h.vl
 constructor
 ·refine⟨fun b hb=>Amk (h.bd b hb) (by simpa[World.setCell]using sz),h.la,h.lw,h.lt,?_,bw1.far nwb _,?_,?_,?_,?_,?_,h.wsl,?_⟩
  ·rw[Dh];exact ba1.far nab _
  ·have:=bt1.set_ c (.slice (some ⟨g,0,none⟩) ((ts.getD c []).length+1) cap)
   simpa using this
  ·simp[Dh,hl']
  ·intro c' hc'
   rw[Dh]at hc'
   by_cases e:c'=c
   ·subst e
    have h1:(vs.set c' (Value.slice (some ⟨g,0,none⟩) ((ts.getD c' []).length+1) cap)).getD c' undef= .slice (some ⟨g,0,none⟩) ((ts.getD c' []).length+1) cap:=by
     simp[List.getD,hl',hc']
    have h2:(noted ts (c':Int) x).getD c' []=ts.getD c' []++[x]:=by simp[noted,tr,List.getD,hc']
    rw[h1,h2]
    have h3:((ts.getD c' []++[x]).map Ii)=(ts.getD c' []).map Ii++[ex]:=by simp[hx]
    rw[h3,Ami,List.length_singleton]
    exact ownsRow_setCell_other hown (a:=⟨bt,c',none⟩) (by simp[Value.ownBlock];exact ngb) _
   ·have h1:(vs.set c (Value.slice (some ⟨g,0,none⟩) ((ts.getD c []).length+1) cap)).getD c' undef=vs.getD c' undef:=by
     simp[List.getD,Ne.symm e]
    have h2:(noted ts (c:Int) x).getD c' []=ts.getD c' []:=by simp[noted,tr,List.getD,Ne.symm e]
    rw[h1,h2]
    have r:=h.row c' hc'
    have r1:w1.ownsRow 0 20 1 (vs.getD c' undef) (ts.getD c' []).length ((ts.getD c' []).map Ii):=by
     refine⟨r.1,?_⟩
     rcases r.2 with r2 | ⟨g',cap',cur,hv',hg',hh,rest⟩
     ·exact .inl r2
     ·refine .inr ⟨g',cap',cur,hv',hg',?_,rest⟩
      rw[old g' (lt_of_block hh) (fun e'=>h.apart c' c hc' hc e g' (by rw[hv'];rfl) e'.symm)]
      exact hh
    exact ownsRow_setCell_other r1 (a:=⟨bt,c,none⟩) (Ah r1 bt1 (by decide)) _
  ·intro c' hc' b hb
   rw[Dh]at hc'
   by_cases e:c'=c
   ·subst e
    simp[List.getD,hl',hc',Value.ownBlock]at hb
    exact hb▸ngL
   ·have h1:(vs.set c (Value.slice (some ⟨g,0,none⟩) ((ts.getD c []).length+1) cap)).getD c' undef=vs.getD c' undef:=by
     simp[List.getD,Ne.symm e]
    rw[h1]at hb
    exact h.lrow c' hc' b hb
  ·intro c1 c2 hc1 hc2 hne b hb1 hb2
   rw[Dh]at hc1 hc2
   have oldlt: ∀c',c'<ts.length-> ∀b,(vs.getD c' undef).ownBlock=some b->b<w.heap.size:=fun c' hc' b hb=>((h.row c' hc').lt b hb).2
   have get: ∀c',c'≠c->(vs.set c (Value.slice (some ⟨g,0,none⟩) ((ts.getD c []).length+1) cap)).getD c' undef=vs.getD c' undef:=fun c' e=>by
    simp[List.getD,Ne.symm e]
   have getc:(vs.set c (Value.slice (some ⟨g,0,none⟩) ((ts.getD c []).length+1) cap)).getD c undef= .slice (some ⟨g,0,none⟩) ((ts.getD c []).length+1) cap:=by
    simp[List.getD,hl',hc]
   have key: ∀c',c'<ts.length->c'≠c->(vs.getD c' undef).ownBlock=some g->False:=fun c' hc' e hb=>by
    rcases hat with e2 | e2
    ·exact h.apart c' c hc' hc e g hb e2
    ·have:=oldlt c' hc' g hb;omega
   by_cases e1:c1=c
   ·subst e1
    have e2:c2≠c1:=Ne.symm hne
    rw[getc]at hb1
    rw[get c2 e2]at hb2
    simp[Value.ownBlock]at hb1
    subst hb1
    exact key c2 hc2 e2 hb2
   ·rw[get c1 e1]at hb1
    by_cases e2:c2=c
    ·subst e2
     rw[getc]at hb2
     simp[Value.ownBlock]at hb2
     subst hb2
     exact key c1 hc1 e1 hb1
    ·rw[get c2 e2]at hb2
     exact h.apart c1 c2 hc1 hc2 hne b hb1 hb2
  ·rw[Dh];exact h.tsl
 ·have k0:Az L w w1:=by
   have k:=(((Az.refl L w).alloc h.bd o).drew).grown hg ((h.bd.alloc o).drew) (fun b hb=>h.lrow c hc b hb)
   exact k
  exact k0.setCell h.lt _
theorem Ai3(h:ArIn L w a bw bt vs ws ts)(c:Int)(h0:0<=c)(h1:c<ts.length)(x:Acc)(hs:(tr ts c).length<=1099511627776):
  Calls Tryz.prog 203 #[.pointer (some ⟨a,0,none⟩),.int .i64 c,Ii x] w fun e w'=>e= .returned (.tuple #[])/\ (∃vs',ArIn L w' a bw bt vs' ws (noted ts c x))/\Az L w w':=by
 obtain⟨c,rfl⟩:=Int.eq_ofNat_of_zero_le h0
 have hc:c<ts.length:=by omega
 obtain⟨i0,hi,hz0,hz1,hz2⟩:=info_parts Zr
 have c1:=h.c1
 have ct:=h.ct hc
 have la:=h.ba.lt
 have lt:=h.bts.lt
 have hl:=h.tsl
 have hown:=lhi (h.row c hc)
 have NE:=lhi (Ah (h.row c hc) h.bts (by decide))
 have NA:=lhi (Ah (h.row c hc) h.ba (by decide))
 have FB:=lhi (h.bts.frozen)
 have H:=lhi h
 clear h
 generalize hv:vs.getD c undef=v at*
 have HV:=lhi hv
 clear hv
 have etr:ts.getD c []=tr ts (c:Int):=rfl
 rw[etr]at hown
 clear etr
 generalize ht:tr ts (c:Int)=tt at*
 have HT:=lhi ht
 clear ht
 obtain⟨ty,n,hx⟩: ∃ty n,Ii x= .iface ty (.int .i64 n):=⟨_,_,rfl⟩
 have HX:=lhi hx
 rw[hx]
 clear hx
 go_enter Tryz.func203,Tryz.ntmps203
 have fbt:w.frozen? ⟨bt,c,none⟩=false:=FB.out c
 go_region_law ((refine step_append_lies _ rfl (.tmp 17) (.tmp 19) 150 rfl 0 20 i0 .nilIface 1 16 Tryz.underlying150 hi hz0 hz1 hz2 rfl (by decide) v _ _ rfl ((hown.out.alloc (Obj.cells #[.iface ty (.int .i64 n)] 20))) ⟨w.heap.size,0,none⟩ 1 1 [.iface ty (.int .i64 n)] rfl rfl (cell_one_new _ _ _) (by intro u hu;simp at hu;subst hu;rfl) (by decide) (by simp only[maxLen];omega) (by omega) (Nat.zero_le _) _ rfl ?_;intro g cap w1 hown1 hgrow hat hlt;have ne1:some bt≠v.ownBlock:=fun e=>NE.out e.symm;have k1:w1.cell? ⟨bt,c,none⟩=some v:=(hgrow.cell_far ⟨bt,c,none⟩ (by simp;omega) ne1).trans ((Amj _ _ _ lt).trans ct);have k2:w1.frozen? ⟨bt,c,none⟩=false:=(hgrow.frozen_far ⟨bt,c,none⟩ (by simp;omega) ne1).trans ((World.frozen?_alloc_past _ _ _ lt).trans fbt);have ne2:some a≠v.ownBlock:=fun e=>NA.out e.symm;have k3:w1.cell? ⟨a,1,none⟩=some (.slice (some ⟨bt,0,none⟩) ts.length ts.length):=(hgrow.cell_far ⟨a,1,none⟩ (by simp;omega) ne2).trans ((Amj _ _ _ la).trans c1);clear ne1 ne2))
 all_goals
  go_end0
  have hend:=Agq H.out hc HV.out HX.out HT.out hown1 hgrow (by simpa using hat)
  exact⟨rfl,⟨_,hend.1⟩,hend.2⟩
end
section
variable{L:Nat->Prop}{w:World}{a bw bt:Nat}{vs:List Value}{ws:List Int}{ts:List (List Acc)}
theorem ArIn.cwI(h:ArIn L w a bw bt vs ws ts){i:Int}(h0:0<=i)(h1:i<ws.length):w.cell? ⟨bw,i.toNat,none⟩=some (.int .i64 (rd ws i)):=h.cw (by omega)
theorem ArIn.fw(h:ArIn L w a bw bt vs ws ts)(i:Nat):w.frozen? ⟨bw,i,none⟩=false:=h.bws.frozen i
theorem ArIn.poke(h:ArIn L w a bw bt vs ws ts)(i:Nat)(v:Int):ArIn L (w.setCell ⟨bw,i,none⟩ (.int .i64 v)) a bw bt vs (ws.set i v) ts/\Az L w (w.setCell ⟨bw,i,none⟩ (.int .i64 v)):=by
 have k:Az L w (w.setCell ⟨bw,i,none⟩ (.int .i64 v)):=(Az.refl L w).setCell h.lw _
 refine⟨⟨h.bd.setCell _ _,h.la,h.lw,h.lt,?_,?_,h.bts.far (h.bts.ne_ h.bws (by decide)) _,h.vl,fun c hc=>ownsRow_setCell_other (h.row c hc) (Ah (h.row c hc) h.bws (by decide)) _,h.lrow,h.apart,by simpa using h.wsl,h.tsl⟩,k⟩
 ·have:=h.ba.far (p:=⟨bw,i,none⟩) (h.ba.ne_ h.bws (by decide)) (.int .i64 v)
  simpa using this
 ·have:=h.bws.set_ i (.int .i64 v)
  simpa[List.map_set]using this
theorem Lt(h:ArIn L w a bw bt vs ws ts)(c:Int)(h0:0<=c)(h1:c<ts.length)(wr:Bool)(at_:Int)(t:TypeId)(ht:t=if wr then 153 else 155){m:Nat}(hs:Gq m ts)(hm:m<=1099511627776):
  Calls Tryz.prog 203 #[.pointer (some ⟨a,0,none⟩),.int .i64 c,.iface t (.int .i64 at_)] w fun e w'=>e= .returned (.tuple #[])/\ ∃vs',ArIn L w' a bw bt vs' ws (noted ts c (at_,wr))/\Az L w w':=by
 subst ht
 refine(Ai3 h c h0 h1 (at_,wr) (Aml (hs.at_) hm)).mono ?_
 rintro e w' ⟨h1,⟨vs',h2⟩,h3⟩
 exact⟨h1,vs',h2,h3⟩
theorem Aja(h:ArAt L w a ws ts)(c i:Int)(h0:0<=c)(h1:c<ts.length)(h2:0<=i)(h3:i<ws.length){m:Nat}(hs:Gq m ts)(hm:m<=1099511627776):
  Calls Tryz.prog 227 #[.pointer (some ⟨a,0,none⟩),.int .i64 c,.int .i64 i] w fun e w'=>e= .returned (.tuple #[.int .i64 (rd ws i),.int .i64 0])/\
   ArAt L w' a ws (noted ts c (i,false))/\Az L w w':=by
 have hp:=lhi (Ye h c i h0 h1 h2 h3)
 obtain⟨bw,bt,vs,h⟩:=h
 have hn:=lhi (Lt h c h0 h1 false i _ rfl hs hm)
 have hl:=h.wsl
 clear h
 go_enter Tryz.func227,Tryz.ntmps227
 go_wp2_with (first
  | (go_at_call 202;refine hp.out.mono ?_;rintro e w' ⟨rfl,rfl⟩)
  | (go_at_call 203;refine hn.out.mono ?_;rintro e w' ⟨rfl,vs',hA,hK⟩;have c0:=hA.c0;have cw:=hA.cwI h2 h3;have HA:=lhi hA;clear hA))
 go_ret2
 exact⟨rfl,⟨_,_,_,HA.out⟩,hK⟩
theorem ArIn.pokeI(h:ArIn L w a bw bt vs ws ts)(i:Int)(v:Int):ArIn L (w.setCell ⟨bw,i.toNat,none⟩ (.int .i64 v)) a bw bt vs (wr ws i v) ts/\Az L w (w.setCell ⟨bw,i.toNat,none⟩ (.int .i64 v)):=h.poke i.toNat v
theorem Af0(h:ArAt L w a ws ts)(c i v:Int)(h0:0<=c)(h1:c<ts.length)(h2:0<=i)(h3:i<ws.length){m:Nat}(hs:Gq m ts)(hm:m<=1099511627776):
  Calls Tryz.prog 163 #[.pointer (some ⟨a,0,none⟩),.int .i64 c,.int .i64 i,.int .i64 v] w fun e w'=>e= .returned (.int .i64 0)/\
   ArAt L w' a (wr ws i v) (noted ts c (i,true))/\Az L w w':=by
 have hp:=lhi (Ye h c i h0 h1 h2 h3)
 obtain⟨bw,bt,vs,h⟩:=h
 have hn:=lhi (Lt h c h0 h1 true i _ rfl hs hm)
 have hl:=h.wsl
 clear h
 go_enter Tryz.func163,Tryz.ntmps163
 go_wp2_with (first
  | (go_at_call 202;refine hp.out.mono ?_;rintro e w' ⟨rfl,rfl⟩)
  | (go_at_call 203;refine hn.out.mono ?_;rintro e w' ⟨rfl,vs',hA,hK⟩;have c0:=hA.c0;have cw:=hA.cwI h2 h3;have cf:=hA.fw i.toNat;have HA:=lhi hA;clear hA))
 go_ret
 have hp:=HA.out.pokeI i v
 exact⟨rfl,⟨_,_,_,hp.1⟩,hK.trans hp.2⟩
theorem Pw(h:ArAt L w a ws ts):Calls Tryz.prog 89 #[.pointer (some ⟨a,0,none⟩)] w fun e w'=>e= .returned (.int .i64 ts.length)/\w=w':=by
 obtain⟨bw,bt,vs,h⟩:=h
 have c1:=h.c1
 clear h
 go_enter Tryz.func89,Tryz.ntmps89
 go_wp2
 go_ret
 exact⟨rfl,rfl⟩
theorem Aiz(h:ArAt L w a ws ts)(i v:Int)(h2:0<=i)(h3:i<ws.length):
  Calls Tryz.prog 64 #[.pointer (some ⟨a,0,none⟩),.int .i64 i,.int .i64 v] w fun e w'=>e= .returned (.tuple #[])/\ArAt L w' a (wr ws i v) ts/\Az L w w':=by
 obtain⟨bw,bt,vs,h⟩:=h
 have c0:=h.c0
 have cw:=h.cwI h2 h3
 have cf:=h.fw i.toNat
 have hl:=h.wsl
 have HA:=lhi h
 clear h
 go_enter Tryz.func64,Tryz.ntmps64
 go_wp2
 go_end0
 have hp:=HA.out.pokeI i v
 exact⟨rfl,⟨_,_,_,hp.1⟩,hp.2⟩
theorem Ah5(h:ArAt L w a ws ts)(c:Int)(h0:0<=c)(h1:c<ts.length):
  Calls Tryz.prog 37 #[.pointer (some ⟨a,0,none⟩),.int .i64 c] w fun e w'=>e= .returned (.int .i64 0)/\ArAt L w' a ws (ts.set c.toNat [])/\Az L w w':=by
 have hp:=lhi (Wn h c h0 h1)
 obtain⟨bw,bt,vs,h⟩:=h
 have c1:=h.c1
 have ct:=h.ct (c:=c.toNat) (by omega)
 have cf:=h.bts.frozen c.toNat
 have hl:=h.tsl
 have HA:=lhi h
 clear h
 go_enter Tryz.func37,Tryz.ntmps37
 go_wp2_with (go_at_call 72;refine hp.out.mono ?_;rintro e w' ⟨rfl,rfl⟩)
 go_ret
 have h:=HA.out
 refine⟨rfl,⟨bw,bt,vs.set c.toNat (.slice none 0 0),?_⟩,(Az.refl _ _).setCell h.lt _⟩
 have hvl:=h.vl
 have get: ∀j,(vs.set c.toNat (Value.slice none 0 0)).getD j undef=if j=c.toNat then .slice none 0 0 else vs.getD j undef:=fun j=>by
  by_cases e:j=c.toNat
  ·subst e;simp[List.getD,hvl,show c.toNat<ts.length by omega]
  ·simp[List.getD,Ne.symm e,e]
 have gett: ∀j,(ts.set c.toNat []).getD j []=if j=c.toNat then []else ts.getD j []:=fun j=>by
  by_cases e:j=c.toNat
  ·subst e;simp[List.getD,show c.toNat<ts.length by omega]
  ·simp[List.getD,Ne.symm e,e]
 refine⟨h.bd.setCell _ _,h.la,h.lw,h.lt,?_,h.bws.far (h.bws.ne_ h.bts (by decide)) _,?_,?_,?_,?_,?_,h.wsl,by simpa using h.tsl⟩
 ·have:=h.ba.far (p:=⟨bt,c.toNat,none⟩) (h.ba.ne_ h.bts (by decide)) (.slice none 0 0)
  simpa using this
 ·have:=h.bts.set_ c.toNat (.slice none 0 0)
  simpa using this
 ·simpa using hvl
 ·intro j hj
  rw[List.length_set]at hj
  rw[get,gett]
  by_cases e:j=c.toNat
  ·rw[if_pos e,if_pos e];exact World.ownsRow_nil _ _ _ _
  ·rw[if_neg e,if_neg e]
   exact ownsRow_setCell_other (h.row j hj) (Ah (h.row j hj) h.bts (by decide)) _
 ·intro j hj b hb
  rw[List.length_set]at hj
  rw[get]at hb
  by_cases e:j=c.toNat
  ·rw[if_pos e]at hb;cases hb
  ·rw[if_neg e]at hb;exact h.lrow j hj b hb
 ·intro j k hj hk hne b hb1 hb2
  rw[List.length_set]at hj hk
  rw[get]at hb1 hb2
  by_cases e:j=c.toNat
  ·rw[if_pos e]at hb1;cases hb1
  ·by_cases e':k=c.toNat
   ·rw[if_pos e']at hb2;cases hb2
   ·rw[if_neg e]at hb1;rw[if_neg e']at hb2
    exact h.apart j k hj hk hne b hb1 hb2
end
theorem Ci{P:Program}(t e:TypeId)(i:TypeInfo)(z:Value)(ht:P.underlying t=some (.slice e))(hi:P.info? e=some i)(hz:i.zero=some z)
  (kl kc:IntKind) (n c:Nat) (hnc:n<=c) (hbytes:i.bytes*c<=281474976710656) (h63:c<=9223372036854775807) (w:World):
  (Instr.makeSlice t (.int kl (n:Int)) (.int kc (c:Int))).run P w= .ok (.slice (some ⟨w.heap.size,0,none⟩) n c) (w.alloc (.cells (madeCells z.cells (c*i.size)) e)):=by
 have hb:(i.bytes:Int)* (c:Int)<=281474976710656:=by
  have h:((i.bytes*c:Nat):Int)<=281474976710656:=by omega
  rwa [Int.natCast_mul]at h
 have hr:=run_make (P:=P) w t e i z ht hi hz kl kc n c (by omega) (by omega) hb (by omega)
 simp only[Int.toNat_natCast]at hr
 exact hr
theorem Dl(v:Value)(n:Nat):madeCells #[v] n=(List.replicate n v).toArray:=by
 apply Array.ext
 ·simp[madeCells]
 ·intro i h1 h2
  simp[madeCells,Nat.mod_one]
theorem Zp:(Tryz.prog.info? 3).map (fun i=>(i.zero,i.size,i.bytes))=some (some (.int .i64 0),1,8):=by kernel_rfl
theorem Uo:(Tryz.prog.info? 150).map (fun i=>(i.zero,i.size,i.bytes))=some (some (.slice none 0 0),1,24):=by kernel_rfl
section
variable{L:Nat->Prop}{w:World}{a bw bt:Nat}{vs:List Value}{ws:List Int}{ts:List (List Acc)}
theorem Ags{W:World}{a bw bt n k:Nat}(hb:Bd L W)(ha: ¬ L a)(hw: ¬ L bw)(ht: ¬ L bt)(hn:n<=65536)(hk:k<=8)
  (ba:Blk W a 152 #[.slice (some ⟨bw,0,none⟩) n n,.slice (some ⟨bt,0,none⟩) k k]) (b1:Blk W bw 3 (List.replicate n (Value.int .i64 0)).toArray) (b2:Blk W bt 150 (List.replicate k (Value.slice none 0 0)).toArray):
  ArAt L W a (List.replicate n 0) (List.replicate k []):=by
 have get: ∀c,c<k->(List.replicate k (Value.slice none 0 0)).getD c undef= .slice none 0 0:=fun c hc=>by simp[List.getD,hc]
 refine⟨bw,bt,List.replicate k (.slice none 0 0),hb,ha,hw,ht,?_,?_,b2,by simp,?_,?_,?_,by simpa using hn,by simpa using hk⟩
 ·simpa using ba
 ·simpa using b1
 ·intro c hc
  simp only[List.length_replicate]at hc
  rw[get c hc]
  have:(List.replicate k ([]:List Acc)).getD c []=[]:=by simp[List.getD,hc]
  rw[this]
  exact World.ownsRow_nil _ _ _ _
 ·intro c hc b hb
  simp only[List.length_replicate]at hc
  rw[get c hc]at hb;cases hb
 ·intro c c' hc _ _ b hb
  simp only[List.length_replicate]at hc
  rw[get c hc]at hb;cases hb
theorem new_ok(hb:Bd L w)(n k:Int)(h0:1<=n)(h1:n<=65536)(h2:1<=k)(h3:k<=8):
  Calls Tryz.prog 61 #[.int .i64 n,.int .i64 k] w fun e w'=>∃a,e= .returned (.tuple #[.pointer (some ⟨a,0,none⟩),.int .i64 0])/\
   ArAt L w' a (List.replicate n.toNat 0) (List.replicate k.toNat [])/\Az L w w':=by
 obtain⟨n,rfl⟩:=Int.eq_ofNat_of_zero_le (show 0<=n by omega)
 obtain⟨k,rfl⟩:=Int.eq_ofNat_of_zero_le (show 0<=k by omega)
 obtain⟨i1,hi1,hz10,hz11,hz12⟩:=info_parts Zp
 obtain⟨i2,hi2,hz20,hz21,hz22⟩:=info_parts Uo
 have hm1:=Ci (P:=Tryz.prog) 28 3 i1 _ Tryz.underlying28 hi1 hz10 .i64 .i64 n n (Ama _) (by rw[hz12];omega) (by omega)
 have hm2:=Ci (P:=Tryz.prog) 76 150 i2 _ Tryz.underlying76 hi2 hz20 .i64 .i64 k k (Ama _) (by rw[hz22];omega) (by omega)
 simp only[hz11,hz21,Nat.mul_one,Value.cells,Dl]at hm1 hm2
 have e0:((n:Int)<1)=False:=by simp;omega
 have HM1:=lhi hm1
 have HM2:=lhi hm2
 clear hm1 hm2 hi1 hi2 hz10 hz11 hz12 hz20 hz21 hz22 e0
 go_enter Tryz.func61,Tryz.ntmps61
 go_wp2
 have hm1:=HM1.out
 have hm2:=HM2.out
 go_region
 all_goals go_wp2
 all_goals clear hm1 hm2 HM1 HM2
 ·go_ret2
  refine⟨_,rfl,?_,?_⟩
  ·simp only[Int.toNat_natCast]
   refine(Ags (W:=((w.alloc (Obj.cells (Array.replicate n (Value.int IntKind.i64 0)) 3)).alloc (Obj.cells (Array.replicate k (Value.slice none 0 0)) 150)).alloc (Obj.cells #[Value.slice (some ⟨w.heap.size,0,none⟩) n n,Value.slice (some ⟨w.heap.size+1,0,none⟩) k k] 152)) (bw:=w.heap.size) (bt:=w.heap.size+1)
    (((hb.alloc _).alloc _).alloc _) (hb.ge (by omega)) hb.new (hb.ge (by omega)) (by omega) (by omega) ?_ ?_ ?_).drew
   ·exact Blk.newAt _ _ _ (by simp)
   ·rw[List.toArray_replicate];exact((Blk.new w _ _).alloc _).alloc _
   ·rw[List.toArray_replicate];exact(Blk.newAt (w.alloc _) _ _ (by simp)).alloc _
  ·exact(((((Az.refl L w).alloc hb _).alloc (hb.alloc _) _).alloc ((hb.alloc _).alloc _) _).drew)
 ·go_ret2
  refine⟨_,rfl,?_,?_⟩
  ·simp only[Int.toNat_natCast]
   refine(Ags (W:=((w.alloc (Obj.cells (Array.replicate k (Value.slice none 0 0)) 150)).alloc (Obj.cells (Array.replicate n (Value.int IntKind.i64 0)) 3)).alloc (Obj.cells #[Value.slice (some ⟨w.heap.size+1,0,none⟩) n n,Value.slice (some ⟨w.heap.size,0,none⟩) k k] 152)) (bw:=w.heap.size+1) (bt:=w.heap.size)
    (((hb.alloc _).alloc _).alloc _) (hb.ge (by omega)) (hb.ge (by omega)) hb.new (by omega) (by omega) ?_ ?_ ?_).drew
   ·exact Blk.newAt _ _ _ (by simp)
   ·rw[List.toArray_replicate];exact(Blk.newAt (w.alloc _) _ _ (by simp)).alloc _
   ·rw[List.toArray_replicate];exact((Blk.new w _ _).alloc _).alloc _
  ·exact(((((Az.refl L w).alloc hb _).alloc (hb.alloc _) _).alloc ((hb.alloc _).alloc _) _).drew)
end
section
variable{p:Value}{c i k:Int}{w:World}
theorem Gx(k:Int)(w:World):Calls Tryz.prog 9 #[.int .i64 k] w fun e w'=>e= .returned (.int .i64 k)/\w=w':=by
 go_enter Tryz.func9,Tryz.ntmps9
 go_wp2
 go_ret
 exact⟨rfl,rfl⟩
end
def Sl(w:World)(size:Nat)(v:Value)(n:Nat)(xs:List Value):Prop:=
 xs.length=n*size/\ ∃A cap,v= .slice A n cap/\n<=cap/\ (0<n-> ∃g off,A=some ⟨g,off,none⟩/\ ∀j u,xs[j]? =some u->w.cell? ⟨g,off+j,none⟩=some u)
theorem Sl.ofOwn{w:World}{base size n:Nat}{e:TypeId}{v:Value}{xs:List Value}(h:w.ownsRow base e size v n xs):Sl w size v n xs:=by
 refine⟨h.1,?_⟩
 rcases h.2 with⟨rfl,rfl⟩ | ⟨g,cap,cur,rfl,hb,hg,hnc,_⟩
 ·exact⟨none,0,rfl,Ama _,fun h=>absurd h (by omega)⟩
 ·refine⟨some ⟨g,0,none⟩,cap,rfl,hnc,fun _=>⟨g,0,rfl,fun j u hu=>?_⟩⟩
  have:=h.cells (g:=g) rfl j u hu
  rw[Addr.add_lit]at this
  exact this
theorem Sl.keep{w w':World}{size n:Nat}{v:Value}{xs:List Value}(h:Sl w size v n xs)(hk: ∀(p:Addr) (u:Value),w.cell? p=some u->w'.cell? p=some u):Sl w' size v n xs:=by
 obtain⟨h1,A,cap,h2,h3,h4⟩:=h
 refine⟨h1,A,cap,h2,h3,fun hn=>?_⟩
 obtain⟨g,off,hA,hc⟩:=h4 hn
 exact⟨g,off,hA,fun j u hu=>hk _ _ (hc j u hu)⟩
theorem Sl.drewN{w:World}{size n:Nat}{v:Value}{xs:List Value}(h:Sl w size v n xs)(k:Nat):Sl (w.drewN k) size v n xs:=h
theorem Sl.below{w w':World}{size n:Nat}{v:Value}{xs:List Value}(h:Sl w size v n xs)(hb:Below w.heap.size w w'):Sl w' size v n xs:=
 h.keep fun p _ hu=>(hb.cell (Amd w p hu)).trans hu
def Bq(t:List Acc):List Value:=t.flatMap fun x=>[.int .i64 x.1,.bool x.2]
theorem Sx(s t:List Acc):Bq (s++t)=Bq s++Bq t:=by simp[Bq]
theorem Sv(t:List Acc): ∀(k:Nat) (h:k<t.length),(Bq t)[k*2]? =some (.int .i64 t[k].1)/\ (Bq t)[k*2+1]? =some (.bool t[k].2):=by
 induction t with
 | nil=>intro k h;simp at h
 | cons x t ih=>
  intro k h
  have e:Bq (x::t)= .int .i64 x.1:: .bool x.2::Bq t:=rfl
  rw[e]
  cases k with
  | zero=>exact⟨rfl,rfl⟩
  | succ k=>
   have:=ih k (by simpa using h)
   rw[show(k+1)*2=k*2+1+1 by omega]
   exact this
theorem Alq(x:Int)(W:World):(Instr.typeAssert (.iface 153 (.int .i64 x)) 20 153 true).run Tryz.prog W= .ok (.tuple #[.int .i64 x,.bool true]) W:=by kernel_rfl
theorem Alr(x:Int)(W:World):(Instr.typeAssert (.iface 155 (.int .i64 x)) 20 153 true).run Tryz.prog W= .ok (.tuple #[.int .i64 0,.bool false]) W:=by kernel_rfl
theorem Als(x:Int)(W:World):(Instr.typeAssert (.iface 155 (.int .i64 x)) 20 155 true).run Tryz.prog W= .ok (.tuple #[.int .i64 x,.bool true]) W:=by kernel_rfl
theorem Ahf:(Tryz.prog.info? 149).map (fun i=>(i.zero,i.size,i.bytes))=some (some (.agg #[.int .i64 0,.bool false]),2,16):=by kernel_rfl
theorem Nx(t:List Acc)(k:Nat)(h:k<t.length):Bq (t.take (k+1))=Bq (t.take k)++[.int .i64 t[k].1,.bool t[k].2]:=by
 rw[List.take_succ_eq_append_getElem h,Sx];rfl
section
variable{L:Nat->Prop}{w:World}{a bw bt:Nat}{vs:List Value}{ws:List Int}{ts:List (List Acc)}
theorem Afr(h:ArIn L w a bw bt vs ws ts)(c:Int)(h0:0<=c)(h1:c<ts.length)(hs:(tr ts c).length<=1099511627776):
  Calls Tryz.prog 29 #[.pointer (some ⟨a,0,none⟩),.int .i64 c] w fun e w'=>∃v,e= .returned v/\w'.ownsRow w.heap.size 149 2 v (tr ts c).length (Bq (tr ts c))/\Below w.heap.size w w':=by
 have hp:=lhi (Wn ⟨bw,bt,vs,h⟩ c h0 h1)
 obtain⟨i0,hi,hz0,hz1,hz2⟩:=info_parts Ahf
 have c1:=h.c1
 have ct:=h.ct (c:=c.toNat) (by omega)
 have hl:=h.tsl
 have hrow:=h.row c.toNat (by omega)
 have htr:ts.getD c.toNat []=tr ts c:=rfl
 rw[htr]at hrow
 clear htr h
 generalize tr ts c=t at*
 generalize vs.getD c.toNat undef=v0 at*
 obtain⟨hlen,A,cap,rfl,hcap,hcell⟩:=Sl.ofOwn hrow
 have HC:=lhi hcell
 clear hcell hrow hlen
 go_enter Tryz.func29,Tryz.ntmps29
 go_wp2_with (go_at_call 72;refine hp.out.mono ?_;rintro e w' ⟨rfl,rfl⟩)
 go_loopw [5,24] (fun out i wr=>∃k:Nat,k<=t.length/\i= .int .i64 k/\wr.ownsRow w.heap.size 149 2 out (t.take k).length (Bq (t.take k))/\Below w.heap.size w wr) (fun _ i _=>t.length - (intOf i).toNat)
 case atStart=>exact⟨0,Nat.zero_le _,rfl,World.ownsRow_nil _ _ _ _,Amf _ _⟩
 case round=>
  obtain⟨k,hk,rfl,hown,hb⟩:=hrel
  by_cases hlt:k<t.length
  ·obtain⟨g,off,rfl,hcell⟩:=HC.out (by omega)
   have q0:=hcell k (Ii t[k]) (by simp[hlt])
   have qb:=Amd w _ q0
   have q1:=(hb.cell (p:=⟨g,off+k,none⟩) qb).trans q0
   have HS:=lhi (Nx t k hlt)
   have hsz:=hb.size
   clear hcell HC q0
   have tl:(t.take k).length=k:=List.length_take_of_le hk
   rw[tl]at hown
   have HOWN:=lhi hown
   have HB:=lhi hb
   clear hown hb tl
   rw[Ii]at q1
   generalize u5=out at*
   generalize t[k].1=x1 at*
   generalize t[k].2=x2 at*
   cases x2
   ·simp only[Bool.false_eq_true,if_false]at q1
    have ta1:=Alr x1
    have ta2:=Als x1
    go_wp2_with (first | (at_builtin;refine wpList_append_lies _ rfl (.tmp 45) (.tmp 48) 44 rfl w.heap.size 149 i0 _ 2 16 Tryz.underlying44 hi hz0 hz1 hz2 rfl (by decide) out _ _ rfl (HOWN.out.alloc (Obj.cells #[.int .i64 x1,.bool false] 149)) ⟨wr.heap.size,0,none⟩ 1 1 [.int .i64 x1,.bool false] rfl rfl (cell_two_new _ _ _ _) (by intro u hu;simp at hu;rcases hu with rfl | rfl <;> rfl) (by decide) (by simp only[maxLen];omega) (by omega) (by simp;omega) _ rfl ?_;intro g1 cap1 w1 hown1 hgrow1 hat1 hlt1))
    go_roundw
    case rel=>
     refine⟨k+1,by omega,by go_num,?_,?_⟩
     ·rw[HS.out,List.length_take_of_le (by omega)]
      exact hown1
     ·exact(HB.out.alloc hsz _).grown hgrow1 (by simp;omega) (fun b hb=>(HOWN.out.lt b hb).1)
    case measure=>simp[intOf];omega
   ·simp only[if_true]at q1
    have ta1:=Alq x1
    go_wp2_with (first | (at_builtin;refine wpList_append_lies _ rfl (.tmp 34) (.tmp 37) 44 rfl w.heap.size 149 i0 _ 2 16 Tryz.underlying44 hi hz0 hz1 hz2 rfl (by decide) out _ _ rfl (HOWN.out.alloc (Obj.cells #[.int .i64 x1,.bool true] 149)) ⟨wr.heap.size,0,none⟩ 1 1 [.int .i64 x1,.bool true] rfl rfl (cell_two_new _ _ _ _) (by intro u hu;simp at hu;rcases hu with rfl | rfl <;> rfl) (by decide) (by simp only[maxLen];omega) (by omega) (by simp;omega) _ rfl ?_;intro g1 cap1 w1 hown1 hgrow1 hat1 hlt1))
    go_roundw
    case rel=>
     refine⟨k+1,by omega,by go_num,?_,?_⟩
     ·rw[HS.out,List.length_take_of_le (by omega)]
      exact hown1
     ·exact(HB.out.alloc hsz _).grown hgrow1 (by simp;omega) (fun b hb=>(HOWN.out.lt b hb).1)
    case measure=>simp[intOf];omega
  ·go_wp2
   go_ret
   have hkt:t.take k=t:=List.take_of_length_le (by omega)
   rw[hkt]at hown
   exact⟨_,rfl,hown,hb⟩
end
section
variable{L:Nat->Prop}{w w':World}{a:Nat}{ws ws':List Int}{ts ts':List (List Acc)}
def Room(ts:List (List Acc)):Prop:=Gq 1099511627776 ts
instance (ts:List (List Acc)):Decidable (Room ts):=inferInstanceAs (Decidable (∀t∈ts,t.length<=1099511627776))
theorem Room.of{m:Nat}(h:Gq m ts)(hm:m<=1099511627776):Room ts:=h.mono hm
theorem Ai8(h:ArAt L w a ws ts)(hm:Room ts){c i:Int}(h0:0<=c/\c<ts.length)(h1:0<=i/\i<ws.length){r:Int}(hr:rd ws i=r)(ht:noted ts c (i,false)=ts'):
  Calls Tryz.prog 227 #[.pointer (some ⟨a,0,none⟩),.int .i64 c,.int .i64 i] w fun e w'=>e= .returned (.tuple #[.int .i64 r,.int .i64 0])/\ArAt L w' a ws ts'/\Az L w w':=by
 subst hr ht
 exact Aja h c i h0.1 h0.2 h1.1 h1.2 hm (Ama _)
theorem Afz(h:ArAt L w a ws ts)(hm:Room ts){c i v:Int}(h0:0<=c/\c<ts.length)(h1:0<=i/\i<ws.length)(hw:wr ws i v=ws')(ht:noted ts c (i,true)=ts'):
  Calls Tryz.prog 163 #[.pointer (some ⟨a,0,none⟩),.int .i64 c,.int .i64 i,.int .i64 v] w fun e w'=>e= .returned (.int .i64 0)/\ArAt L w' a ws' ts'/\Az L w w':=by
 subst hw ht
 exact Af0 h c i v h0.1 h0.2 h1.1 h1.2 hm (Ama _)
theorem Ah4(h:ArAt L w a ws ts){c:Int}(h0:0<=c/\c<ts.length)(ht:ts.set c.toNat []=ts'):
  Calls Tryz.prog 37 #[.pointer (some ⟨a,0,none⟩),.int .i64 c] w fun e w'=>e= .returned (.int .i64 0)/\ArAt L w' a ws ts'/\Az L w w':=by
 subst ht
 exact Ah5 h c h0.1 h0.2
theorem Aiy(h:ArAt L w a ws ts){i v:Int}(h1:0<=i/\i<ws.length)(hw:wr ws i v=ws'):
  Calls Tryz.prog 64 #[.pointer (some ⟨a,0,none⟩),.int .i64 i,.int .i64 v] w fun e w'=>e= .returned (.tuple #[])/\ArAt L w' a ws' ts/\Az L w w':=by
 subst hw
 exact Aiz h i v h1.1 h1.2
theorem Ak3(hb:Bd L w){n k:Int}(h0:1<=n/\n<=65536)(h1:1<=k/\k<=8)(hw:List.replicate n.toNat 0=ws)(ht:List.replicate k.toNat []=ts):
  Calls Tryz.prog 61 #[.int .i64 n,.int .i64 k] w fun e w'=>∃a,e= .returned (.tuple #[.pointer (some ⟨a,0,none⟩),.int .i64 0])/\ArAt L w' a ws ts/\Az L w w':=by
 subst hw ht
 exact new_ok hb n k h0.1 h0.2 h1.1 h1.2
theorem Xl(h:ArAt L w a ws ts)(hm:Room ts){c:Int}(h0:0<=c/\c<ts.length){t:List Acc}(ht:tr ts c=t):
  Calls Tryz.prog 29 #[.pointer (some ⟨a,0,none⟩),.int .i64 c] w fun e w'=>∃v,e= .returned v/\w'.ownsRow w.heap.size 149 2 v t.length (Bq t)/\Below w.heap.size w w':=by
 subst ht
 obtain⟨bw,bt,vs,h⟩:=h
 exact Afr h c h0.1 h0.2 hm.at_
theorem ArAt.below(h:ArAt L w a ws ts)(hb:Below w.heap.size w w'):ArAt L w' a ws ts:=
 h.move (fun b hl=>Amk (h.bd b hl) hb.size) (fun _ hl _=>hl) (fun b hlt _=>hb.block b hlt)
theorem ArAt.belowNew(h:ArAt L w a ws ts)(hb:Below w.heap.size w w'):ArAt (fun b=>L b∨(w.heap.size<=b/\b<w'.heap.size)) w' a ws ts:=
 h.move (fun b hl=>by
  rcases hl with hl | hl
  ·exact Amk (h.bd b hl) hb.size
  ·exact hl.2) (fun b hl hlt=>by
  rcases hl with hl | hl
  ·exact hl
  ·omega) (fun b hlt _=>hb.block b hlt)
theorem Az.ofNew(hb:Bd L w)(h:Below w.heap.size w w'):Az L w w':=(Az.ofBelow h).sub hb
end
theorem Sl.lit(w:World){cs:Array Value}{T:TypeId}{n size:Nat}{xs:List Value}(hx:cs.toList=xs)(hn:xs.length=n*size):
  Sl (w.alloc (.cells cs T)) size (.slice (some ⟨w.heap.size,0,none⟩) n n) n xs:=by
 subst hx
 refine⟨hn,_,_,rfl,Ama _,fun _=>⟨_,_,rfl,fun j u hu=>?_⟩⟩
 have hc:=(Blk.new w T cs).cell j
 rw[Nat.zero_add]
 exact hc.trans (by simpa using hu)
theorem Pi(x:Int):((BitVec.ofInt 64 x).toNat:Int)=x % 18446744073709551616:=by
 rw[BitVec.toNat_ofInt]
 have:(0:Int)<=x % (2 ^ 64:Nat):=Int.emod_nonneg _ (by decide)
 omega
theorem Fx(x:Int)(k:Nat)(hk:k<=62):bits .and .i64 x ((2 ^ k - 1:Nat):Int)=x % ((2 ^ k:Nat):Int):=by
 show IntKind.i64.wrap ((BitVec.ofInt 64 x&&& BitVec.ofInt 64 ((2 ^ k - 1:Nat):Int)).toNat:Int)=_
 have h2:2 ^ k<=2 ^ 62:=Nat.pow_le_pow_right (by omega) hk
 have h62:(2:Nat) ^ 62=4611686018427387904:=by decide
 have hp:0<2 ^ k:=Nat.two_pow_pos k
 have e1:(BitVec.ofInt 64 ((2 ^ k - 1:Nat):Int)).toNat=2 ^ k - 1:=by
  rw[BitVec.ofInt_natCast,BitVec.toNat_ofNat];exact Nat.mod_eq_of_lt (by omega)
 rw[BitVec.toNat_and,e1,Nat.and_two_pow_sub_one_eq_mod]
 have hlt:=Nat.mod_lt (BitVec.ofInt 64 x).toNat hp
 have hx:=Pi x
 have e2:(((BitVec.ofInt 64 x).toNat % 2 ^ k:Nat):Int)=x % ((2 ^ k:Nat):Int):=by
  rw[Int.natCast_emod,hx]
  have hd:((2 ^ k:Nat):Int)∣18446744073709551616:=by
   have:(2 ^ k:Nat)∣2 ^ 64:=Nat.pow_dvd_pow 2 (by omega)
   have h3:(((2 ^ k:Nat)):Int)∣((2 ^ 64:Nat):Int):=Int.natCast_dvd_natCast.2 this
   simpa using h3
  exact Int.emod_emod_of_dvd x hd
 rw[e2,IntKind.wrap_i64]
 have b0:0<=x % ((2 ^ k:Nat):Int):=Int.emod_nonneg _ (by omega)
 have b1:x % ((2 ^ k:Nat):Int)< ((2 ^ k:Nat):Int):=Int.emod_lt_of_pos _ (by omega)
 omega
theorem Qm(x:Int)(k:Nat)(hk:k<=61):bits .and .i64 x ((2 ^ k:Nat):Int)=x / ((2 ^ k:Nat):Int) % 2* ((2 ^ k:Nat):Int):=by
 show IntKind.i64.wrap ((BitVec.ofInt 64 x&&& BitVec.ofInt 64 ((2 ^ k:Nat):Int)).toNat:Int)=_
 have h2:2 ^ k<=2 ^ 61:=Nat.pow_le_pow_right (by omega) hk
 have h61:(2:Nat) ^ 61=2305843009213693952:=by decide
 have hp:0<2 ^ k:=Nat.two_pow_pos k
 have e1:(BitVec.ofInt 64 ((2 ^ k:Nat):Int)).toNat=2 ^ k:=by
  rw[BitVec.ofInt_natCast,BitVec.toNat_ofNat];exact Nat.mod_eq_of_lt (by omega)
 rw[BitVec.toNat_and,e1,nat_bit]
 have hx:=Pi x
 have e2:(((BitVec.ofInt 64 x).toNat / 2 ^ k % 2:Nat):Int)=x / ((2 ^ k:Nat):Int) % 2:=by
  rw[Int.natCast_emod,Int.natCast_ediv,hx]
  have hd:(18446744073709551616:Int)=((2 ^ k:Nat):Int)* (2* ((2 ^ (63 - k):Nat):Int)):=by
   have:(2:Nat) ^ k* (2*2 ^ (63 - k))=2 ^ 64:=by
    rw[<-Nat.pow_succ',<-Nat.pow_add];congr 1;omega
   have h3:(((2:Nat) ^ k* (2*2 ^ (63 - k)):Nat):Int)=((2 ^ 64:Nat):Int):=by rw[this]
   rw[Int.natCast_mul,Int.natCast_mul]at h3
   have h4:((2 ^ 64:Nat):Int)=18446744073709551616:=by decide
   rw[h4]at h3
   exact h3.symm
  have hq:=Int.emod_add_mul_ediv x 18446744073709551616
  generalize hr:x % 18446744073709551616=r at*
  generalize x / 18446744073709551616=q at*
  have hx2:x=r+ ((2 ^ k:Nat):Int)* (2* ((2 ^ (63 - k):Nat):Int)*q):=by
   rw[<-hq];rw[hd];rw[Int.mul_assoc]
  rw[hx2,Int.add_mul_ediv_left _ _ (by omega)]
  rw[Int.mul_assoc,Int.add_mul_emod_self_left]
  rfl
 rw[Int.natCast_mul,e2,IntKind.wrap_i64]
 have b0:x / ((2 ^ k:Nat):Int) % 2=0∨x / ((2 ^ k:Nat):Int) % 2=1:=by omega
 rcases b0 with b | b <;> rw[b] <;> omega
@[go_sem] theorem and1 (x:Int):bits .and .i64 x 1=x % 2:=Fx x 1 (by omega)
@[go_sem] theorem and3 (x:Int):bits .and .i64 x 3=x % 4:=Fx x 2 (by omega)
@[go_sem] theorem and7 (x:Int):bits .and .i64 x 7=x % 8:=Fx x 3 (by omega)
@[go_sem] theorem Al9 (x:Int):bits .and .i64 x 15=x % 16:=Fx x 4 (by omega)
@[go_sem] theorem Al7 (x:Int):bits .and .i64 x 31=x % 32:=Fx x 5 (by omega)
@[go_sem] theorem Al6 (x:Int):bits .and .i64 x 63=x % 64:=Fx x 6 (by omega)
@[go_sem] theorem Al4 (x:Int):bits .and .i64 x 255=x % 256:=Fx x 8 (by omega)
@[go_sem] theorem Al3 (x:Int):bits .and .i64 x 511=x % 512:=Fx x 9 (by omega)
@[go_sem] theorem Al2 (x:Int):bits .and .i64 x 1023=x % 1024:=Fx x 10 (by omega)
@[go_sem] theorem Al1 (x:Int):bits .and .i64 x 2047=x % 2048:=Fx x 11 (by omega)
@[go_sem] theorem and4 (x:Int):bits .and .i64 x 4=x / 4 % 2*4:=Qm x 2 (by omega)
@[go_sem] theorem and8 (x:Int):bits .and .i64 x 8=x / 8 % 2*8:=Qm x 3 (by omega)
@[go_sem] theorem Al8 (x:Int):bits .and .i64 x 16=x / 16 % 2*16:=Qm x 4 (by omega)
@[go_sem] theorem Al5 (x:Int):bits .and .i64 x 64=x / 64 % 2*64:=Qm x 6 (by omega)
def Ge(s:ByteArray):Nat->Nat->Nat->Nat
 | 0,_,acc=>acc
 | b+1,pos,acc=>if pos<s.size then Ge s b (pos+ (Utf8.decode s pos).2) ((31*acc+ (Utf8.decode s pos).1) % 4294967296)else acc
def Ru(s:ByteArray):Nat:=Ge s s.size 0 7
theorem We(s:ByteArray)(b pos acc:Nat)(h: ¬ pos<s.size):Ge s b pos acc=acc:=by
 cases b with
 | zero=>rfl
 | succ b=>simp[Ge,h]
theorem Pr(s:ByteArray): ∀b pos acc:Nat,acc<4294967296->Ge s b pos acc<4294967296
 | 0,_,acc,h=>h
 | b+1,pos,acc,h=>by
  unfold Ge
  split
  ·exact Pr s b _ _ (Nat.mod_lt _ (by omega))
  ·exact h
theorem Agr(s:ByteArray):Ru s<4294967296:=Pr s _ _ _ (by omega)
theorem Ae5(s:ByteArray)(i:Nat):(Utf8.decode s i).1<=1114111:=by
 rw[Lib.decode_at]
 have h0:=(s.get! i).toNat_lt
 unfold Lib.decodeN
 repeat' split
 all_goals simp only
 all_goals omega
theorem Ey(w:World)(s:ByteArray)(pos:Nat):Below w.heap.size w (w.iter s pos):=(Amf _ w).alloc (Ama _) _
theorem Abx(s:ByteArray)(w:World):
  Calls Tryz.prog 112 #[.string s] w fun e w'=>e= .returned (.int .i64 (Ru s:Nat))/\Below w.heap.size w w':=by
 go_enter Tryz.func112,Tryz.ntmps112
 go_wp2
 go_loopw [3] (fun n w'=>∃(pos b:Nat) (acc:Nat),w'=w.iter s pos/\n= .int .u32 acc/\Ge s b pos acc=Ru s/\s.size<=pos+b/\acc<4294967296) (fun _ w'=>s.size - w'.iterPos w.heap.size)
 case atStart=>exact⟨0,s.size,7,rfl,rfl,rfl,by omega,by omega⟩
 case round=>
  obtain⟨pos,b,acc,rfl,rfl,hc,hb,hacc⟩:=hrel
  by_cases hp:pos<s.size
  ·have hnx: ∀ty,(Instr.next (.pointer (some ⟨w.heap.size,0,none⟩)) true ty).run Tryz.prog (w.iter s pos)=_:=fun ty=>run_next_any w s pos ty hp
   go_wp2
   have hwd:=Lib.decode_width_pos s pos hp
   go_roundw
   case rel=>
    cases b with
    | zero=>omega
    | succ b=>
     have hr:=Ae5 s pos
     refine⟨pos+ (Utf8.decode s pos).2,b,(31*acc+ (Utf8.decode s pos).1) % 4294967296,rfl,?_,?_,by omega,Nat.mod_lt _ (by omega)⟩
     ·go_num
     ·rw[<-hc]
      simp[Ge,hp]
   case measure=>
    simp
    omega
  ·have hnx: ∀ty,(Instr.next (.pointer (some ⟨w.heap.size,0,none⟩)) true ty).run Tryz.prog (w.iter s pos)=_:=fun ty=>run_next_end w s pos ty hp
   go_wp2
   go_ret
   rw[We s b pos acc hp]at hc
   subst hc
   refine⟨?_,Ey _ _ _⟩
   go_num
def nx(s:ByteArray)(i:Nat):Int:=if i<s.size/\128<= (s.get! i).toNat/\ (s.get! i).toNat<=191 then((s.get! i).toNat:Int) - 128 else -1
theorem Sk(s:ByteArray)(i:Nat)(h:i<s.size):s.get! i=s[i]'h:=by
 simp[ByteArray.get!,getElem!_pos,h]
 rfl
def r3(c a b:Int):Int:=(c - 224)*4096+a*64+b
def r4(c a b d:Int):Int:=(c - 240)*262144+a*4096+b*64+d
def r1(c a b d:Int):Int×Int:=
 if c<128 then(c,1)
 else if 194<=c/\c<=223/\0<=a then((c - 192)*64+a,2)
 else if 224<=c/\c<=239/\0<=a/\0<=b then(if 2048<=r3 c a b/\ (r3 c a b<55296∨57343<r3 c a b)then(r3 c a b,3)else(65533,0))
 else if 240<=c/\c<=244/\0<=a/\0<=b/\0<=d then(if 65536<=r4 c a b d/\r4 c a b d<=1114111 then(r4 c a b d,4)else(65533,0))
 else(65533,0)
def fixp(p:Nat×Nat):Int×Int:=if p=(65533,1)then(65533,0)else(p.1,p.2)
def rn1(s:ByteArray)(i:Nat):Int×Int:=fixp (Utf8.decode s i)
end Go.Proofs.YtkebjgebkneijaaGreat
