/- Texts of one's own that a claim's last text rests on: Base Names Names2 Names3 Names4 Names5 Names6 Names7 Names8 NamesP NamesP2 Names9 Names10 Ck CkFirst. -/
import Derived.WalkKit
import Derived.WalkSpells
import Derived.WalkLawsBesides
import Derived.Deep.RegionLaw
import Derived.Deep.AppendLies
import Derived.Deep.QuietTactic
import Derived.BigQuiet
import Derived.Deep.LoopGhost
import Derived.Deep.DeepFit
import Derived.Lib.Hide
import Derived.Maps.AppendAt
import Derived.Test.YtkebjgebkneijaaGreatProg
import Derived.Laws.RangeAny
import Derived.Laws.RangeString
import Derived.Lib.RuneCount
import Derived.Lib.DecodeN
import Derived.Laws.Strings
import Derived.Laws.Strings2
import Derived.Laws.Strings3
import Derived.Deep.RegionHeld3
import Derived.Deep.DrawnRows
import Derived.Deep.DeepCutAuto
import Derived.Laws.OwnMore
import Derived.Maps.OwnSet
set_option linter.unusedVariables false
set_option linter.unusedSimpArgs false
namespace Go.Proofs.YtkebjgebkneijaaGreat
theorem lTA {T : Type} (l : List T) (i : Nat) (a : T) : l.toArray.setIfInBounds i a = (l.set i a).toArray := List.setIfInBounds_toArray ..
theorem lC0 {T : Type} (a b : T) (l : List T) : (a :: l).set 0 b = b :: l := rfl
theorem lCS {T : Type} (a b : T) (n : Nat) (l : List T) : (a :: l).set (n + 1) b = a :: l.set n b := rfl
theorem lhi {p : Prop} (h : p) : Go.RowKit.Hid p := Lib.hid h
section
open Go.RowKit
def Blk(w:World)(g:Nat)(t:TypeId)(cs:Array Value):Prop:=w.heap[g]? =some (.cells cs t (0,0))
section
variable{w w':World}{g:Nat}{t:TypeId}{cs:Array Value}
theorem Blk.lt(h:Blk w g t cs):g<w.heap.size:=by
 rcases Nat.lt_or_ge g w.heap.size with hlt | hge
 ·exact hlt
 ·unfold Blk at h;rw[Array.getElem?_eq_none hge]at h;cases h
theorem Blk.cell(h:Blk w g t cs)(i:Nat):w.cell? ⟨g,i,none⟩=cs[i]?:=cell_of_row w g i cs t (0,0) h
theorem Blk.frozen(h:Blk w g t cs)(i:Nat):w.frozen? ⟨g,i,none⟩=false:=by
 unfold Blk at h
 simp[World.frozen?,h]
theorem Blk.new(w:World)(t:TypeId)(cs:Array Value):Blk (w.alloc (.cells cs t)) w.heap.size t cs:=heap_alloc_new w _
theorem Blk.newAt(w:World)(t:TypeId)(cs:Array Value){n:Nat}(hn:n=w.heap.size):Blk (w.alloc (.cells cs t)) n t cs:=hn▸heap_alloc_new w _
theorem Blk.alloc(h:Blk w g t cs)(o:Obj):Blk (w.alloc o) g t cs:=(Below.heap_alloc w o g h.lt).trans h
theorem Blk.set_(h:Blk w g t cs)(i:Nat)(u:Value):Blk (w.setCell ⟨g,i,none⟩ u) g t (cs.setIfInBounds i u):=by
 unfold Blk at h⊢
 simp[World.setCell,Array.getElem?_modify,h]
theorem Blk.far(h:Blk w g t cs){p:Addr}(hp:g≠p.block)(u:Value):Blk (w.setCell p u) g t cs:=(Below.heap_setCell w p u g hp).trans h
theorem Blk.ne_{g':Nat}{t':TypeId}{cs':Array Value}(h:Blk w g t cs)(h':Blk w g' t' cs')(hne:t≠t'):g≠g':=by
 rintro rfl
 unfold Blk at h h'
 rw[h]at h'
 injection h' with h'
 injection h' with _ ht
 exact hne ht
theorem Blk.of_heap(h:w'.heap[g]? =w.heap[g]?)(hb:Blk w g t cs):Blk w' g t cs:=h.trans hb
theorem own_blk_ne{base:Nat}{e:TypeId}{size n:Nat}{v:Value}{xs:List Value}(h:w.ownsRow base e size v n xs)(hg:Blk w g t cs)(hne:e≠t):v.ownBlock≠some g:=by
 rcases h.2 with⟨rfl,_⟩ | ⟨g',cap,cur,rfl,_,hh,_⟩
 ·simp[Value.ownBlock]
 ·intro he
  have:g'=g:=by simpa[Value.ownBlock]using he
  subst this
  exact Blk.ne_ (t:=e) hh hg hne rfl
end
structure Keeps (L:Nat->Prop) (w w':World):Prop where
 os:w'.os=w.os
 tape:w'.tape=w.tape
 output:w'.output=w.output
 size:w.heap.size<=w'.heap.size
 block: ∀k,L k->w'.heap[k]? =w.heap[k]?
def Bd(L:Nat->Prop)(w:World):Prop:=∀b,L b->b<w.heap.size
namespace Keeps
variable{L L':Nat->Prop}{w w' w'':World}
theorem refl(L:Nat->Prop)(w:World):Keeps L w w:=⟨rfl,rfl,rfl,Nat.le_refl _,fun _ _=>rfl⟩
theorem trans(h:Keeps L w w')(k:Keeps L w' w''):Keeps L w w'':=
 ⟨k.os.trans h.os,k.tape.trans h.tape,k.output.trans h.output,Nat.le_trans h.size k.size,fun i hi=>(k.block i hi).trans (h.block i hi)⟩
theorem sub(h:Keeps L w w')(hs: ∀b,L' b->L b):Keeps L' w w':=⟨h.os,h.tape,h.output,h.size,fun k hk=>h.block k (hs k hk)⟩
theorem alloc(h:Keeps L w w')(hb:Bd L w')(o:Obj):Keeps L w (w'.alloc o):=
 h.trans ⟨rfl,rfl,rfl,by simp,fun k hk=>Below.heap_alloc _ _ _ (hb k hk)⟩
theorem setCell(h:Keeps L w w'){p:Addr}(hp: ¬ L p.block)(u:Value):Keeps L w (w'.setCell p u):=
 h.trans ⟨rfl,rfl,rfl,by simp[World.setCell],fun k hk=>Below.heap_setCell _ _ _ _ (fun e=>hp (e▸hk))⟩
theorem drew(h:Keeps L w w'):Keeps L w w'.drew:=⟨h.os,h.tape,h.output,h.size,h.block⟩
theorem drewN(h:Keeps L w w')(n:Nat):Keeps L w (w'.drewN n):=⟨h.os,h.tape,h.output,h.size,h.block⟩
theorem grown(h:Keeps L w w'){row:Option Nat}(hg:w'.grownBy w'' row)(hb:Bd L w')(hr: ∀k,row=some k-> ¬ L k):Keeps L w w'':=
 h.trans ⟨hg.os,hg.tape,hg.output,hg.size,fun k hk=>hg.block k (hb k hk) (fun e=>hr k e.symm hk)⟩
theorem blk(h:Keeps L w w'){g:Nat}{t:TypeId}{cs:Array Value}(hb:Blk w g t cs)(hg:L g):Blk w' g t cs:=(h.block g hg).trans hb
theorem cell(h:Keeps L w w'){p:Addr}(hp:L p.block):w'.cell? p=w.cell? p:=World.cell?_of_block (w:=w) (h.block p.block hp)
theorem frozen(h:Keeps L w w'){p:Addr}(hp:L p.block):w'.frozen? p=w.frozen? p:=World.frozen?_of_block (w:=w) (h.block p.block hp)
theorem cellOf(h:Keeps L w w'){p:Addr}{v:Value}(hp:L p.block)(hc:w.cell? p=some v):w'.cell? p=some v:=(h.cell hp).trans hc
theorem bd(h:Keeps L w w')(hb:Bd L' w):Bd L' w':=fun b hl=>Nat.lt_of_lt_of_le (hb b hl) h.size
theorem below(h:Keeps L w w'){B:Nat}(hB: ∀b,b<B->L b):Below B w w':=⟨h.os,h.tape,h.output,h.size,fun k hk=>h.block k (hB k hk)⟩
theorem ofBelow{B:Nat}(h:Below B w w'):Keeps (· <B) w w':=⟨h.os,h.tape,h.output,h.size,fun k hk=>h.block k hk⟩
theorem undrew(h:Keeps L w.drew w'):Keeps L w w':=⟨h.os,h.tape,h.output,h.size,h.block⟩
end Keeps
namespace Bd
variable{L L':Nat->Prop}{w w':World}
theorem alloc(h:Bd L w)(o:Obj):Bd L (w.alloc o):=fun b hb=>by have:=h b hb;simp;omega
theorem setCell(h:Bd L w)(p:Addr)(u:Value):Bd L (w.setCell p u):=fun b hb=>by have:=h b hb;simpa[World.setCell]using this
theorem drew(h:Bd L w):Bd L w.drew:=h
theorem drewN(h:Bd L w)(n:Nat):Bd L (w.drewN n):=h
theorem below(w:World):Bd (· <w.heap.size) w:=fun _ h=>h
theorem new(h:Bd L w): ¬ L w.heap.size:=fun hl=>absurd (h _ hl) (Nat.lt_irrefl _)
theorem ge(h:Bd L w){n:Nat}(hn:w.heap.size<=n): ¬ L n:=fun hl=>absurd (h _ hl) (by omega)
theorem sub(h:Bd L w)(hs: ∀b,L' b->L b):Bd L' w:=fun b hb=>h b (hs b hb)
theorem insert(h:Bd L w){n:Nat}(hn:n<w.heap.size):Bd (fun b=>L b∨b=n) w:=fun b hb=>by
 rcases hb with hb | rfl
 ·exact h b hb
 ·exact hn
end Bd
def ins(L:Nat->Prop)(n:Nat):Nat->Prop:=fun b=>L b∨b=n
theorem ins.old{L:Nat->Prop}{n b:Nat}(h:L b):ins L n b:=.inl h
theorem ins.new(L:Nat->Prop)(n:Nat):ins L n n:=.inr rfl
theorem Bd.ins{L:Nat->Prop}{w:World}(h:Bd L w){n:Nat}(hn:n<w.heap.size):Bd (ins L n) w:=h.insert hn
theorem Keeps.out{L:Nat->Prop}{n:Nat}{w w':World}(h:Keeps (ins L n) w w'):Keeps L w w':=h.sub fun _=>ins.old
end
section
open Go.RowKit
def hashFrom(s:ByteArray):Nat->Nat->Nat->Nat
 | 0,_,acc=>acc
 | b+1,pos,acc=>if pos<s.size then hashFrom s b (pos+ (Utf8.decode s pos).2) ((31*acc+ (Utf8.decode s pos).1) % 4294967296)else acc
def nhash(s:ByteArray):Nat:=hashFrom s s.size 0 7
theorem hashFrom_end(s:ByteArray)(b pos acc:Nat)(h: ¬ pos<s.size):hashFrom s b pos acc=acc:=by
 cases b with
 | zero=>rfl
 | succ b=>simp[hashFrom,h]
theorem hashFrom_lt(s:ByteArray): ∀b pos acc:Nat,acc<4294967296->hashFrom s b pos acc<4294967296
 | 0,_,acc,h=>h
 | b+1,pos,acc,h=>by
  unfold hashFrom
  split
  ·exact hashFrom_lt s b _ _ (Nat.mod_lt _ (by omega))
  ·exact h
theorem nhash_lt(s:ByteArray):nhash s<4294967296:=hashFrom_lt s _ _ _ (by omega)
theorem decode_le(s:ByteArray)(i:Nat):(Utf8.decode s i).1<=1114111:=by
 rw[Lib.decode_at]
 have h0:=(s.get! i).toNat_lt
 unfold Lib.decodeN
 repeat' split
 all_goals simp only
 all_goals omega
theorem below_iter(w:World)(s:ByteArray)(pos:Nat):Below w.heap.size w (w.iter s pos):=(Below.refl _ w).alloc (Nat.le_refl _) _
set_option maxRecDepth 1000000 in
theorem hash_calls(s:ByteArray)(w:World):
  Calls Tryz.prog 112 #[.string s] w fun e w'=>e= .returned (.int .i64 (nhash s:Nat))/\Below w.heap.size w w':=by
 go_enter Tryz.func112,Tryz.ntmps112
 go_wp2
 go_loopw [3] (fun n w'=>∃(pos b:Nat) (acc:Nat),w'=w.iter s pos/\n= .int .u32 acc/\hashFrom s b pos acc=nhash s/\s.size<=pos+b/\acc<4294967296) (fun _ w'=>s.size - w'.iterPos w.heap.size)
 case atStart=>exact⟨0,s.size,7,rfl,rfl,rfl,by omega,by omega⟩
 case round=>
  obtain⟨pos,b,acc,rfl,rfl,hc,hb,hacc⟩:=hrel
  by_cases hp:pos<s.size
  ·have hnx: ∀ty,(Instr.next (.pointer (some ⟨w.heap.size,0,none⟩)) true ty).run Tryz.prog (w.iter s pos)=_:=fun ty=>run_next_any w s pos ty hp
   go_wp2
   have hwd:=Lib.decode_width_pos s pos hp
   go_roundw
   case rel=>
    cases b with
    | zero=>omega
    | succ b=>
     have hr:=decode_le s pos
     refine⟨pos+ (Utf8.decode s pos).2,b,(31*acc+ (Utf8.decode s pos).1) % 4294967296,rfl,?_,?_,by omega,Nat.mod_lt _ (by omega)⟩
     ·go_num
     ·rw[<-hc]
      simp[hashFrom,hp]
   case measure=>
    simp
    omega
  ·have hnx: ∀ty,(Instr.next (.pointer (some ⟨w.heap.size,0,none⟩)) true ty).run Tryz.prog (w.iter s pos)=_:=fun ty=>run_next_end w s pos ty hp
   go_wp2
   go_ret
   rw[hashFrom_end s b pos acc hp]at hc
   subst hc
   refine⟨?_,below_iter _ _ _⟩
   go_num
end
section
open Go.RowKit
def nx(s:ByteArray)(i:Nat):Int:=if i<s.size/\128<= (s.get! i).toNat/\ (s.get! i).toNat<=191 then((s.get! i).toNat:Int) - 128 else -1
theorem get_at(s:ByteArray)(i:Nat)(h:i<s.size):s.get! i=s[i]'h:=by
 simp[ByteArray.get!,getElem!_pos,h]
 rfl
end
section
open Go.RowKit
def r3(c a b:Int):Int:=(c - 224)*4096+a*64+b
def r4(c a b d:Int):Int:=(c - 240)*262144+a*4096+b*64+d
def r1(c a b d:Int):Int×Int:=
 if c<128 then(c,1)
 else if 194<=c/\c<=223/\0<=a then((c - 192)*64+a,2)
 else if 224<=c/\c<=239/\0<=a/\0<=b then(if 2048<=r3 c a b/\ (r3 c a b<55296∨57343<r3 c a b)then(r3 c a b,3)else(65533,0))
 else if 240<=c/\c<=244/\0<=a/\0<=b/\0<=d then(if 65536<=r4 c a b d/\r4 c a b d<=1114111 then(r4 c a b d,4)else(65533,0))
 else(65533,0)
end
section
open Go.RowKit
end
section
open Go.RowKit
end
section
open Go.RowKit
def nbucket(s:ByteArray):Nat:=nhash s % 8
theorem nbucket_lt(s:ByteArray):nbucket s<8:=Nat.mod_lt _ (by omega)
set_option maxRecDepth 1000000 in
theorem bucket_calls(s:ByteArray)(w:World):
  Calls Tryz.prog 62 #[.string s] w fun e w'=>e= .returned (.int .i64 (nbucket s:Nat))/\Below w.heap.size w w':=by
 have hl:=nhash_lt s
 have hb:((nhash s:Nat):Int).tmod 8=(nbucket s:Nat):=by
  rw[Int.tmod_eq_emod_of_nonneg (by omega)]
  unfold nbucket
  omega
 have hb2:((nhash s:Nat):Int) % 8=(nbucket s:Nat):=by
  unfold nbucket
  omega
 have HB:=lhi hb2
 clear hb hb2
 go_enter Tryz.func62,Tryz.ntmps62
 go_wp2_with (fail)
 refine(hash_calls s w).mono ?_
 rintro e w' ⟨rfl,hB⟩
 generalize nhash s=h at*
 go_wp2_with (fail)
 go_ret
 refine⟨?_,hB⟩
 first | rw[<-HB.out];rfl | (rw[<-HB.out];go_num)
end
section
open Go.RowKit
def runeOk(p:Nat×Nat):Bool:=!(p.1==47||decide (p.1<32)||p.1==127||p==(65533,1))
def okFrom(s:ByteArray):Nat->Nat->Bool
 | 0,_=>true
 | b+1,pos=>if pos<s.size then(runeOk (Utf8.decode s pos)&&okFrom s b (pos+ (Utf8.decode s pos).2))else true
def ncheck(s:ByteArray):Int:=
 if 12<s.size then 801 else if(s.toList.isEmpty||s.toList==[46]||s.toList==[46,46])=true then 800 else if okFrom s s.size 0=true then 0 else 800
theorem okFrom_end(s:ByteArray)(b pos:Nat)(h: ¬ pos<s.size):okFrom s b pos=true:=by
 cases b with
 | zero=>rfl
 | succ b=>simp[okFrom,h]
end
section
open Go.RowKit
set_option maxRecDepth 1000000 in
theorem prefix_calls(s p:ByteArray)(w:World):
  Calls Tryz.prog 142 #[.string s,.string p] w fun e w'=>e= .returned (.bool (decide (p.size<=s.size)&& ((s.extract 0 p.size).toList==p.toList)))/\w=w':=by
 go_enter Tryz.func142,Tryz.ntmps142
 by_cases h:p.size<=s.size
 ·have h1:(p.size:Int)<= (s.size:Int):=by omega
  go_wp2
  all_goals go_ret
  all_goals exact⟨by first | rfl | simp[h],rfl⟩
 ·have h1: ¬ (p.size:Int)<= (s.size:Int):=by omega
  go_wp2
  all_goals go_ret
  all_goals exact⟨by first | rfl | simp[h],rfl⟩
end
section
theorem enc_ff(r:Nat)(h:r<55296∨(57344<=r/\r<=1114111)):(Utf8.encode (r:Int)).toList=[239,191,189]↔r=65533:=by
 rw[ByteArray.toList_eq]
 have hv:Utf8.valid (r:Int)=true:=by
  simp only[Utf8.valid,Bool.or_eq_true,Bool.and_eq_true,decide_eq_true_eq]
  omega
 constructor
 ·intro he
  unfold Utf8.encode at he
  simp only[hv,if_true,Int.toNat_natCast]at he
  split at he
  ·simp at he
  ·split at he
   ·simp at he
   ·split at he
    ·simp only[List.cons.injEq,and_true]at he
     obtain⟨h1,h2,h3⟩:=he
     have e1:=congrArg UInt8.toNat h1
     have e2:=congrArg UInt8.toNat h2
     have e3:=congrArg UInt8.toNat h3
     simp only[UInt8.toNat_ofNat']at e1 e2 e3
     have f1:(239:UInt8).toNat=239:=rfl
     have f2:(191:UInt8).toNat=191:=rfl
     have f3:(189:UInt8).toNat=189:=rfl
     rw[f1]at e1
     rw[f2]at e2
     rw[f3]at e3
     omega
    ·simp at he
 ·rintro rfl
  rfl
theorem decode_valid(s:ByteArray)(i:Nat):(Utf8.decode s i).1<55296∨(57344<= (Utf8.decode s i).1/\ (Utf8.decode s i).1<=1114111):=by
 rw[Lib.decode_at]
 have h0:=(s.get! i).toNat_lt
 unfold Lib.decodeN
 repeat' split
 all_goals simp only
 all_goals omega
theorem decode_three(s:ByteArray)(i:Nat)(h:(Utf8.decode s i).1=65533):(Utf8.decode s i=(65533,3))↔(i+3<=s.size/\ (s.get! i).toNat=239/\ (s.get! (i+1)).toNat=191/\ (s.get! (i+2)).toNat=189):=by
 rw[Lib.decode_at]at*
 have h0:=(s.get! i).toNat_lt
 have c2:(i+3<=s.size)=(2<s.size - i):=propext ⟨fun h=>by omega,fun h=>by omega⟩
 rw[c2]
 clear c2
 generalize s.size - i=n at*
 generalize (s.get! i).toNat=b0 at*
 generalize (s.get! (i+1)).toNat=b1 at*
 generalize (s.get! (i+2)).toNat=b2 at*
 generalize (s.get! (i+3)).toNat=b3 at*
 unfold Lib.decodeN at*
 constructor
 ·intro he
  split at he
  ·cases he
  ·split at he
   ·split at he <;> (injection he with e1 e2;omega)
   ·split at he
    ·split at he <;> (injection he with e1 e2;omega)
    ·split at he
     ·split at he <;> (injection he with e1 e2;omega)
     ·injection he with e1 e2;omega
 ·rintro⟨e1,e2,e3,e4⟩
  subst e2 e3 e4
  rw[if_neg (by omega),if_neg (by omega),if_pos (by omega),if_pos (by omega)]
end
section
theorem extract_three(s:ByteArray)(i:Nat)(h:i+3<=s.size):((s.extract i s.size).extract 0 3).toList=[s.get! i,s.get! (i+1),s.get! (i+2)]:=by
 rw[get_at s i (by omega),get_at s (i+1) (by omega),get_at s (i+2) (by omega),ByteArray.toList_eq]
 apply List.ext_getElem
 ·simp
  have:s.data.size=s.size:=rfl
  omega
 ·intro k h1 h2
  simp only[List.length_cons,List.length_nil]at h2
  have hk:k=0∨k=1∨k=2:=by omega
  rcases hk with rfl | rfl | rfl <;> simp <;> rfl
theorem prefix_ff(s:ByteArray)(i:Nat)(_:i<s.size)(hr:(Utf8.decode s i).1=65533):
  (decide ((⟨#[239,191,189]⟩:ByteArray).size<= (s.extract i s.size).size)&& (((s.extract i s.size).extract 0 (⟨#[239,191,189]⟩:ByteArray).size).toList==(⟨#[239,191,189]⟩:ByteArray).toList))=!(Utf8.decode s i==(65533,1)):=by
 have hsz:(s.extract i s.size).size=s.size - i:=by simp[ByteArray.size_extract]
 have e3:(⟨#[239,191,189]⟩:ByteArray).size=3:=rfl
 have eL:(⟨#[239,191,189]⟩:ByteArray).toList=[239,191,189]:=by rw[ByteArray.toList_eq]
 rw[hsz,e3,eL]
 have h13:Utf8.decode s i=(65533,1)∨Utf8.decode s i=(65533,3):=by
  have h0:=(s.get! i).toNat_lt
  have h:=hr
  have h2:(Utf8.decode s i).2=1∨(Utf8.decode s i).2=3:=by
   rw[Lib.decode_at]at h⊢
   unfold Lib.decodeN at h⊢
   generalize (s.get! i).toNat=b0 at*
   generalize (s.get! (i+1)).toNat=b1 at*
   generalize (s.get! (i+2)).toNat=b2 at*
   generalize (s.get! (i+3)).toNat=b3 at*
   revert h
   repeat' split
   all_goals intro h
   all_goals first
    | exact .inl rfl
    | exact .inr rfl
    | (exfalso;simp only at h;omega)
  exact h2.imp (fun h2=>Prod.ext h h2) (fun h2=>Prod.ext h h2)
 have ht:=decode_three s i hr
 rcases h13 with h | h
 ·have hn: ¬ (i+3<=s.size/\ (s.get! i).toNat=239/\ (s.get! (i+1)).toNat=191/\ (s.get! (i+2)).toNat=189):=fun h'=>by
   have:=ht.2 h'
   rw[h]at this
   cases this
  rw[h]
  by_cases h3:i+3<=s.size
  ·rw[extract_three s i h3,show decide (3<=s.size - i)=true by simp;omega,Bool.true_and]
   simp only[BEq.rfl,Bool.not_true,beq_eq_false_iff_ne,ne_eq,List.cons.injEq,and_true]
   rintro⟨a,b,c⟩
   rw[a,b,c]at hn
   exact hn ⟨h3,rfl,rfl,rfl⟩
  ·rw[show decide (3<=s.size - i)=false by simp;omega]
   rfl
 ·obtain⟨h3,a,b,c⟩:=ht.1 h
  rw[h,extract_three s i h3,show decide (3<=s.size - i)=true by simp;omega,Bool.true_and]
  have a':s.get! i=239:=UInt8.toNat_inj.1 a
  have b':s.get! (i+1)=191:=UInt8.toNat_inj.1 b
  have c':s.get! (i+2)=189:=UInt8.toNat_inj.1 c
  rw[a',b',c']
  rfl
end
section
open Go.RowKit
set_option maxHeartbeats 1000000 in
set_option maxRecDepth 1000000 in
theorem check_calls(s:ByteArray)(w:World):
  Calls Tryz.prog 92 #[.string s] w fun e w'=>e= .returned (.int .i64 (ncheck s))/\Below w.heap.size w w':=by
 go_enter Tryz.func92,Tryz.ntmps92
 by_cases h1:12<s.size
 ·have h2:(12:Int)< (s.size:Int):=by omega
  have H:=lhi (show ncheck s=801 by unfold ncheck;rw[if_pos h1])
  go_wp2_with (fail)
  go_ret
  exact⟨by rw[H.out];rfl,Below.refl _ _⟩
 ·have h2: ¬ (12:Int)< (s.size:Int):=by omega
  by_cases hf:(s.toList.isEmpty||s.toList==[46]||s.toList==[46,46])=true
  ·have H:=lhi (show ncheck s=800 by unfold ncheck;rw[if_neg h1,if_pos hf])
   have hx:s.toList.isEmpty=true∨(s.toList.isEmpty=false/\ (s.toList==[46])=true)∨(s.toList.isEmpty=false/\ (s.toList==[46])=false/\ (s.toList==[46,46])=true):=by
    revert hf
    cases s.toList.isEmpty <;> cases (s.toList==[46]) <;> cases (s.toList==[46,46]) <;> simp
   clear hf
   rcases hx with hx | ⟨hx,hy⟩ | ⟨hx,hy,hz⟩
   all_goals (
    go_wp2_with (fail)
    go_ret
    exact⟨by rw[H.out];rfl,Below.refl _ _⟩)
  ·have HN:=lhi (show ncheck s=if okFrom s s.size 0=true then 0 else 800 by unfold ncheck;rw[if_neg h1,if_neg hf])
   have hx:s.toList.isEmpty=false/\ (s.toList==[46])=false/\ (s.toList==[46,46])=false:=by
    revert hf
    cases s.toList.isEmpty <;> cases (s.toList==[46]) <;> cases (s.toList==[46,46]) <;> simp
   obtain⟨hx,hy,hz⟩:=hx
   clear hf
   go_wp2_with (fail)
   go_loopw [] (fun wr=>∃(pos b:Nat),wr=w.iter s pos/\okFrom s b pos=okFrom s s.size 0/\s.size<=pos+b) (fun w'=>s.size - w'.iterPos w.heap.size)
   case atStart=>exact⟨0,s.size,rfl,rfl,by omega⟩
   case round=>
    obtain⟨pos,b,rfl,hc,hb⟩:=hrel
    by_cases hp:pos<s.size
    ·have hnx: ∀ty,(Instr.next (.pointer (some ⟨w.heap.size,0,none⟩)) true ty).run Tryz.prog (w.iter s pos)=_:=fun ty=>run_next_any w s pos ty hp
     obtain⟨b',rfl⟩: ∃b',b=b'+1:=⟨b - 1,by omega⟩
     have hp1:(pos:Int)<= (s.size:Int):=by omega
     have hwd:=Lib.decode_width_pos s pos hp
     have HC:=lhi hc
     have HO:=lhi (show okFrom s (b'+1) pos=(runeOk (Utf8.decode s pos)&&okFrom s b' (pos+ (Utf8.decode s pos).2))by simp only[okFrom,hp,if_true])
     have HF:=lhi (show runeOk (Utf8.decode s pos)=false->ncheck s=800 from fun h=>by rw[HN.out,<-HC.out,HO.out,h];rfl)
     have HK:=lhi (show runeOk (Utf8.decode s pos)=true->okFrom s b' (pos+ (Utf8.decode s pos).2)=okFrom s s.size 0 from fun h=>by rw[<-HC.out,HO.out,h,Bool.true_and])
     have HV:=lhi (decode_valid s pos)
     clear hc HC HO HN
     have hr:(Utf8.decode s pos).1=47∨((Utf8.decode s pos).1≠47/\ (Utf8.decode s pos).1<32)∨(Utf8.decode s pos).1=127∨((Utf8.decode s pos).1≠47/\ ¬ (Utf8.decode s pos).1<32/\ (Utf8.decode s pos).1≠127):=by omega
     rcases hr with hr | ⟨hr,hr2⟩ | hr | ⟨hr,hr2,hr3⟩
     ·have H:=lhi (HF.out (by unfold runeOk;rw[hr];rfl))
      have k1:(((Utf8.decode s pos).1:Int)==47)=true:=by rw[hr];rfl
      clear HF HK hr
      go_wp2_with (fail)
      go_ret
      exact⟨by rw[H.out];rfl,below_iter _ _ _⟩
     ·have H:=lhi (HF.out (by unfold runeOk;simp[hr2]))
      have k1:(((Utf8.decode s pos).1:Int)==47)=false:=by simp;omega
      have k2:((Utf8.decode s pos).1:Int)<32:=by omega
      clear HF HK hr hr2
      go_wp2_with (fail)
      go_ret
      exact⟨by rw[H.out];rfl,below_iter _ _ _⟩
     ·have H:=lhi (HF.out (by unfold runeOk;rw[hr];rfl))
      have k1:(((Utf8.decode s pos).1:Int)==47)=false:=by rw[hr];rfl
      have k2: ¬ ((Utf8.decode s pos).1:Int)<32:=by omega
      have k3:(((Utf8.decode s pos).1:Int)==127)=true:=by rw[hr];rfl
      clear HF HK hr
      go_wp2_with (fail)
      go_ret
      exact⟨by rw[H.out];rfl,below_iter _ _ _⟩
     ·have k1:(((Utf8.decode s pos).1:Int)==47)=false:=by simp;omega
      have k2: ¬ ((Utf8.decode s pos).1:Int)<32:=by omega
      have k3:(((Utf8.decode s pos).1:Int)==127)=false:=by simp;omega
      have HR:=lhi (show runeOk (Utf8.decode s pos)=!(Utf8.decode s pos==(65533,1))by unfold runeOk;simp[hr,hr2,hr3])
      by_cases h5:(Utf8.decode s pos).1=65533
      ·have k4:((Utf8.encode ((Utf8.decode s pos).1:Int)).toList==[239,191,189])=true:=beq_iff_eq.2 ((enc_ff _ HV.out).2 h5)
       have HPF:=lhi (prefix_ff s pos hp h5)
       clear hr hr2 hr3 h5
       go_wp2_with (fail)
       refine(prefix_calls _ _ _).mono ?_
       rintro e w' ⟨rfl,rfl⟩
       rw[HPF.out,<-HR.out]
       by_cases hq:runeOk (Utf8.decode s pos)=true
       ·have H:=lhi (HK.out hq)
        rw[hq]
        clear HF HK HR HPF hq
        go_wp2_with (fail)
        go_roundw
        case rel=>exact⟨_,b',rfl,H.out,by omega⟩
        case measure=>
         simp
         omega
       ·have hq:=Bool.eq_false_iff.2 hq
        have H:=lhi (HF.out hq)
        rw[hq]
        clear HF HK HR HPF hq
        go_wp2_with (fail)
        go_ret
        exact⟨by rw[H.out];rfl,below_iter _ _ _⟩
      ·have k4:((Utf8.encode ((Utf8.decode s pos).1:Int)).toList==[239,191,189])=false:=by
        rw[beq_eq_false_iff_ne]
        exact fun h=>h5 ((enc_ff _ HV.out).1 h)
       have hq:runeOk (Utf8.decode s pos)=true:=by
        rw[HR.out,show(Utf8.decode s pos==(65533,1))=false by rw[beq_eq_false_iff_ne];exact fun h=>h5 (by rw[h])]
        rfl
       have H:=lhi (HK.out hq)
       clear HF HK HR hq hr hr2 hr3 h5
       go_wp2_with (fail)
       go_roundw
       case rel=>exact⟨_,b',rfl,H.out,by omega⟩
       case measure=>
        simp
        omega
    ·have hnx: ∀ty,(Instr.next (.pointer (some ⟨w.heap.size,0,none⟩)) true ty).run Tryz.prog (w.iter s pos)=_:=fun ty=>run_next_end w s pos ty hp
     have H:=lhi (show ncheck s=0 by rw[HN.out,<-hc,okFrom_end s b pos hp,if_pos rfl])
     clear hc HN
     go_wp2_with (fail)
     go_ret
     exact⟨by rw[H.out];rfl,below_iter _ _ _⟩
end
section
open Go.RowKit
set_option maxRecDepth 1000000 in
theorem may_calls(s:ByteArray)(w:World):
  Calls Tryz.prog 105 #[.string s] w fun e w'=>e= .returned (.bool (ncheck s==0))/\Below w.heap.size w w':=by
 go_enter Tryz.func105,Tryz.ntmps105
 go_wp2_with (fail)
 refine(check_calls s w).mono ?_
 rintro e w' ⟨rfl,hB⟩
 go_wp2_with (fail)
 go_ret
 exact⟨rfl,hB⟩
end
section
open Go.RowKit
set_option maxHeartbeats 400000
def RowAt(w:World)(v:Value)(n k:Nat)(C:Nat->Nat->Value):Prop:=
 ∃A cap,v= .slice A n cap/\n<=cap/\ (0<n-> ∃g off,A=some ⟨g,off,none⟩/\ ∀i j,i<n->j<k->w.cell? ⟨g,off+ (i*k+j),none⟩=some (C i j))
theorem RowAt.keep{w w':World}{v:Value}{n k:Nat}{C:Nat->Nat->Value}(h:RowAt w v n k C)(hb:Below w.heap.size w w'):RowAt w' v n k C:=by
 obtain⟨A,cap,h2,h3,h4⟩:=h
 refine⟨A,cap,h2,h3,fun hn=>?_⟩
 obtain⟨g,off,hA,hc⟩:=h4 hn
 exact⟨g,off,hA,fun i j hi hj=>(hb.cell (World.block_lt_of_cell? w _ (hc i j hi hj))).trans (hc i j hi hj)⟩
theorem RowAt.nil_(w:World)(k:Nat)(C:Nat->Nat->Value):RowAt w (.slice none 0 0) 0 k C:=⟨_,_,rfl,Nat.le_refl _,fun h=>absurd h (by omega)⟩
theorem RowAt.blk{w:World}{g n cap k:Nat}{t:TypeId}{cs:Array Value}{C:Nat->Nat->Value}(h:Blk w g t cs)(hn:n<=cap)(hC: ∀i j,i<n->j<k->cs[i*k+j]? =some (C i j)):RowAt w (.slice (some ⟨g,0,none⟩) n cap) n k C:=
 ⟨_,_,rfl,hn,fun _=>⟨g,0,rfl,fun i j hi hj=>by rw[Nat.zero_add,h.cell];exact hC i j hi hj⟩⟩
structure Ino where
 num:Int
 dir:Bool
 ents:List (ByteArray×Int)
 data:ByteArray
structure St where
 inodes:List Ino
 opens : List (Int × Int × Int)
 made:List Int
def noIno:Ino:=⟨0,false,[],ByteArray.empty⟩
def St.ino(S:St)(i:Nat):Ino:=S.inodes.getD i noIno
def St.num(S:St)(i:Nat):Int:=(S.ino i).num
def St.dir(S:St)(i:Nat):Bool:=(S.ino i).dir
def St.dat(S:St)(i:Nat):ByteArray:=(S.ino i).data
def St.ne(S:St)(i:Nat):Nat:=(S.ino i).ents.length
def St.enm(S:St)(i k:Nat):ByteArray:=((S.ino i).ents.getD k (ByteArray.empty,0)).1
def St.enu(S:St)(i k:Nat):Int:=((S.ino i).ents.getD k (ByteArray.empty,0)).2
def St.oc(S:St)(i:Nat):Int:=(S.opens.getD i (0,0,0)).1
def St.of(S:St)(i:Nat):Int:=(S.opens.getD i (0,0,0)).2.1
def St.on(S:St)(i:Nat):Int:=(S.opens.getD i (0,0,0)).2.2
def St.mad(S:St)(i:Nat):Int:=S.made.getD i 0
def inoC(S:St)(ev:Nat->Value):Nat->Nat->Value:=fun i j=>match j with
 | 0=>.int .i64 (S.num i)
 | 1=>.bool (S.dir i)
 | 2=>ev i
 | _=>.string (S.dat i)
def entC(S:St)(i:Nat):Nat->Nat->Value:=fun k j=>match j with
 | 0=>.string (S.enm i k)
 | _=>.int .i64 (S.enu i k)
def opnC(S:St):Nat->Nat->Value:=fun k j=>match j with
 | 0=>.int .i64 (S.oc k)
 | 1=>.int .i64 (S.of k)
 | _=>.int .i64 (S.on k)
def madC(S:St):Nat->Nat->Value:=fun k _=>.int .i64 (S.mad k)
structure StM (w:World) (iv ov mv:Value) (ev:Nat->Value) (S:St):Prop where
 ino:RowAt w iv S.inodes.length 4 (inoC S ev)
 ent: ∀i,i<S.inodes.length->RowAt w (ev i) (S.ne i) 2 (entC S i)
 opn:RowAt w ov S.opens.length 3 (opnC S)
 mad:RowAt w mv S.made.length 1 (madC S)
theorem StM.keep{w w':World}{iv ov mv:Value}{ev:Nat->Value}{S:St}(h:StM w iv ov mv ev S)(hb:Below w.heap.size w w'):StM w' iv ov mv ev S:=
 ⟨h.ino.keep hb,fun i hi=>(h.ent i hi).keep hb,h.opn.keep hb,h.mad.keep hb⟩
structure St.small (S:St):Prop where
 ni:S.inodes.length<=1000
 no:S.opens.length<=1000
 nm:S.made.length<=1000
 en: ∀i,S.ne i<=1000
 num: ∀i,-1000000<=S.num i/\S.num i<=1000000
 enu: ∀i k,-1000000<=S.enu i k/\S.enu i k<=1000000
 mad: ∀i,-1000000<=S.mad i/\S.mad i<=1000000
structure Fnd where
 kind:Int
 num:Int
 name:ByteArray
def encF(f:Fnd):List Value:=[.int .i64 f.kind,.int .i64 f.num,.string f.name]
def freeO:Obj->Prop
 | .cells _ t _=>t≠119/\t≠116
 | _=>True
structure KeepsT (w w':World):Prop where
 size:w.heap.size<=w'.heap.size
 block: ∀(k:Nat) (o:Obj),w.heap[k]? =some o->freeO o->w'.heap[k]? =some o
namespace KeepsT
variable{w w' w'':World}
theorem refl(w:World):KeepsT w w:=⟨Nat.le_refl _,fun _ _ h _=>h⟩
theorem trans(h:KeepsT w w')(k:KeepsT w' w''):KeepsT w w'':=⟨Nat.le_trans h.size k.size,fun i o hi hf=>k.block i o (h.block i o hi hf) hf⟩
theorem below(h:KeepsT w w')(hb:Below w'.heap.size w' w''):KeepsT w w'':=h.trans ⟨hb.size,fun k o hk _=>by
 rw[hb.block k (by rcases Nat.lt_or_ge k w'.heap.size with hl | hl;exact hl;rw[Array.getElem?_eq_none hl]at hk;cases hk)];exact hk⟩
theorem alloc(h:KeepsT w w')(o:Obj):KeepsT w (w'.alloc o):=h.below ((Below.refl _ _).alloc (Nat.le_refl _) o)
theorem drew(h:KeepsT w w'):KeepsT w w'.drew:=⟨h.size,h.block⟩
theorem drewN(h:KeepsT w w')(n:Nat):KeepsT w (w'.drewN n):=⟨h.size,h.block⟩
theorem undrew(h:KeepsT w.drew w'):KeepsT w w':=⟨h.size,h.block⟩
theorem blk(h:KeepsT w w'){g:Nat}{t:TypeId}{cs:Array Value}(hb:Blk w g t cs)(h1:t≠119)(h2:t≠116):Blk w' g t cs:=h.block g _ hb ⟨h1,h2⟩
end KeepsT
theorem blk_grown{w w':World}{q:Nat}{t:TypeId}{cs:Array Value}{row:Option Nat}(hg:w.grownBy w' row)(h:Blk w q t cs)(hne:row≠some q):Blk w' q t cs:=Blk.of_heap (hg.block _ h.lt (Ne.symm hne)) h
theorem heap_alloc_lt(w:World)(o:Obj){q:Nat}(h:q<w.heap.size):(w.alloc o).heap[q]? =w.heap[q]?:=Below.heap_alloc w o q h
theorem heap_lt{w:World}{q:Nat}{o:Obj}(h:w.heap[q]? =some o):q<w.heap.size:=by
 rcases Nat.lt_or_ge q w.heap.size with hl | hl
 ·exact hl
 ·rw[Array.getElem?_eq_none hl]at h;cases h
theorem own_type{w:World}{base:Nat}{e:TypeId}{size k:Nat}{v:Value}{xs:List Value}(h:w.ownsRow base e size v k xs){q:Nat}(hq:v.ownBlock=some q):base<=q/\ ∃cs,Blk w q e cs:=by
 rcases h.2 with⟨rfl,_⟩ | ⟨g,cap,cur,rfl,hb,hh,_⟩
 ·cases hq
 ·have:g=q:=by simpa[Value.ownBlock]using hq
  subst this
  exact⟨hb,cur,hh⟩
structure Ck (w0 w:World) (c sb:Nat) (iv ov mv:Value) (D:List Fnd):Prop where
 bel:Below w0.heap.size w0 w
 sB:w0.heap.size<=sb
 sat:Blk w sb 30 #[iv,ov,mv]
 cB:w0.heap.size<=c
 row: ∃v,Blk w c 116 #[.pointer (some ⟨sb,0,none⟩),v]/\w.ownsRow w0.heap.size 119 3 v D.length (D.flatMap encF)
theorem encF_len(D:List Fnd):(D.flatMap encF).length=D.length*3:=by
 induction D with
 | nil=>rfl
 | cons e D ih=>rw[List.flatMap_cons,List.length_append,ih];simp[encF];omega
theorem own_below{w w':World}{base:Nat}{e:TypeId}{size k:Nat}{v:Value}{xs:List Value}(h:w.ownsRow base e size v k xs)(hb:Below w.heap.size w w'):w'.ownsRow base e size v k xs:=by
 refine⟨h.1,?_⟩
 rcases h.2 with h2 | ⟨g,cap,cur,hv,hg,hh,rest⟩
 ·exact .inl h2
 ·refine .inr ⟨g,cap,cur,hv,hg,?_,rest⟩
  rw[hb.block g (Blk.lt (show Blk w g _ cur from hh))]
  exact hh
namespace Ck
variable{w0 w w':World}{c sb:Nat}{iv ov mv:Value}{D:List Fnd}
theorem below(h:Ck w0 w c sb iv ov mv D)(hb:Below w.heap.size w w'):Ck w0 w' c sb iv ov mv D:=by
 obtain⟨v,h1,h2⟩:=h.row
 exact⟨h.bel.trans (hb.mono h.bel.size),h.sB,Blk.of_heap (hb.block _ h.sat.lt) h.sat,h.cB,v,Blk.of_heap (hb.block _ h1.lt) h1,own_below h2 hb⟩
theorem alloc(h:Ck w0 w c sb iv ov mv D)(o:Obj):Ck w0 (w.alloc o) c sb iv ov mv D:=h.below ((Below.refl _ _).alloc (Nat.le_refl _) o)
theorem drew(h:Ck w0 w c sb iv ov mv D):Ck w0 w.drew c sb iv ov mv D:=by
 obtain⟨v,h1,h2⟩:=h.row
 exact⟨⟨h.bel.os,h.bel.tape,h.bel.output,h.bel.size,h.bel.block⟩,h.sB,h.sat,h.cB,v,h1,h2⟩
theorem drewN(h:Ck w0 w c sb iv ov mv D)(n:Nat):Ck w0 (w.drewN n) c sb iv ov mv D:=by
 obtain⟨v,h1,h2⟩:=h.row
 exact⟨⟨h.bel.os,h.bel.tape,h.bel.output,h.bel.size,h.bel.block⟩,h.sB,h.sat,h.cB,v,h1,h2⟩
theorem set(h:Ck w0 w c sb iv ov mv D){g:Nat}{t:TypeId}{cs:Array Value}(hg:Blk w g t cs)(hB:w0.heap.size<=g)(h1:t≠119)(h2:t≠116)(h3:t≠30)(i:Nat)(u:Value):Ck w0 (w.setCell ⟨g,i,none⟩ u) c sb iv ov mv D:=by
 obtain⟨v,r1,r2⟩:=h.row
 refine⟨h.bel.setCell (p:=⟨g,i,none⟩) hB _,h.sB,h.sat.far (p:=⟨g,i,none⟩) (Blk.ne_ h.sat hg (Ne.symm h3)) _,h.cB,v,r1.far (p:=⟨g,i,none⟩) (Blk.ne_ r1 hg (Ne.symm h2)) _,?_⟩
 refine⟨r2.1,?_⟩
 rcases r2.2 with q | ⟨g',cap,cur,hv,hg',hh,rest⟩
 ·exact .inl q
 ·exact .inr ⟨g',cap,cur,hv,hg',(Blk.far (p:=⟨g,i,none⟩) (show Blk w g' _ cur from hh) (Blk.ne_ (t:=119) hh hg (Ne.symm h1)) u),rest⟩
theorem c0(h:Ck w0 w c sb iv ov mv D):w.cell? ⟨c,0,none⟩=some (.pointer (some ⟨sb,0,none⟩)):=by
 obtain⟨v,h1,_⟩:=h.row
 exact h1.cell 0
theorem s0(h:Ck w0 w c sb iv ov mv D):w.cell? ⟨sb,0,none⟩=some iv:=h.sat.cell 0
theorem s1(h:Ck w0 w c sb iv ov mv D):w.cell? ⟨sb,1,none⟩=some ov:=h.sat.cell 1
theorem s2(h:Ck w0 w c sb iv ov mv D):w.cell? ⟨sb,2,none⟩=some mv:=h.sat.cell 2
theorem stm(h:Ck w0 w c sb iv ov mv D){ev:Nat->Value}{S:St}(hS:StM w0 iv ov mv ev S):StM w iv ov mv ev S:=hS.keep h.bel
end Ck
theorem info_fnd:(Tryz.prog.info? 119).map (fun i=>(i.zero,i.size,i.bytes))=some (some (.agg #[.int .i64 0,.int .i64 0,.string ⟨#[]⟩]),3,32):=by kernel_rfl
set_option maxRecDepth 1000000 in
theorem add_calls{w0 w:World}{c sb:Nat}{iv ov mv:Value}{D:List Fnd}(h:Ck w0 w c sb iv ov mv D)(hD:D.length<=1000000000)(k x:Int)(s:ByteArray):
  Calls Tryz.prog 101 #[.pointer (some ⟨c,0,none⟩),.int .i64 k,.int .i64 x,.string s] w fun e w'=>e= .returned (.tuple #[])/\Ck w0 w' c sb iv ov mv (D++[⟨k,x,s⟩])/\KeepsT w w':=by
 obtain⟨v,h1,h2⟩:=h.row
 have c1:w.cell? ⟨c,1,none⟩=some v:=h1.cell 1
 have f1:w.frozen? ⟨c,1,none⟩=false:=h1.frozen 1
 have HC:=lhi h
 have H1:=lhi h1
 have H2:=lhi h2
 have hcl:=h1.lt
 obtain⟨i0,hi,hz0,hz1,hz2⟩:=info_parts info_fnd
 clear h h1 h2
 have hbase:w0.heap.size<=w.heap.size:=HC.out.bel.size
 have hne: ¬ w.heap.size=c:=by omega
 go_enter Tryz.func101,Tryz.ntmps101
 go_wp2_with (at_builtin;refine wpList_append_lies _ rfl (.tmp 12) (.tmp 17) 64 rfl w0.heap.size 119 i0 _ 3 32 Tryz.underlying64 hi hz0 hz1 hz2 rfl (by decide) v _ _ rfl (H2.out.alloc (Obj.cells #[.int .i64 k,.int .i64 x,.string s] 119)) ⟨w.heap.size,0,none⟩ 1 1 [.int .i64 k,.int .i64 x,.string s] rfl rfl (World.news_of_block (heap_alloc_new _ _)) (by intro u hu;simp at hu;rcases hu with rfl | rfl | rfl <;> rfl) (by decide) (by simp only[maxLen];omega) (by omega) (by simp;omega) _ rfl ?_;intro g cap w1 hown hgrow hat hlt;have hB1:=blk_grown hgrow (H1.out.alloc (Obj.cells #[.int .i64 k,.int .i64 x,.string s] 119)) (own_blk_ne H2.out H1.out (by decide));have c2:w1.cell? ⟨c,1,none⟩=some v:=hB1.cell 1;have f2:w1.frozen? ⟨c,1,none⟩=false:=hB1.frozen 1)
 have HB1:=lhi hB1
 have hrow: ∀q,v.ownBlock=some q->w0.heap.size<=q/\ ∃cs,Blk w q 119 cs:=fun q hq=>own_type H2.out hq
 have hold: ∀q o,w.heap[q]? =some o->freeO o->w1.heap[q]? =some o:=fun q o hq hf=>by
  have hlt':=heap_lt hq
  rw[hgrow.block q (by simp;omega) (fun e=>by
   obtain⟨cs,hb⟩:=(hrow q e.symm).2
   unfold Blk at hb
   rw[hb]at hq
   obtain rfl:=Option.some.inj hq
   exact hf.1 rfl),heap_alloc_lt _ _ hlt']
  exact hq
 have hsz:w.heap.size<=w1.heap.size:=by have:=hgrow.size;simp at this;omega
 have hbel:Below w0.heap.size w0 w1:=HC.out.bel.trans ⟨hgrow.os,hgrow.tape,hgrow.output,hsz,fun q hq=>by
  rw[hgrow.block q (by simp;omega) (fun e=>by have:=(hrow q e.symm).1;omega),heap_alloc_lt _ _ (by omega)]⟩
 clear c2 f2
 go_end0
 refine⟨rfl,⟨hbel.setCell (p:=⟨c,1,none⟩) HC.out.cB _,HC.out.sB,?_,HC.out.cB,_,HB1.out.set_ 1 _,?_⟩,⟨by simpa[World.setCell]using hsz,fun q o hq hf=>?_⟩⟩
 ·exact Blk.far (p:=⟨c,1,none⟩) (hold _ _ HC.out.sat ⟨by decide,by decide⟩) (Blk.ne_ HC.out.sat H1.out (by decide)) _
 ·have e1:(D++[(⟨k,x,s⟩:Fnd)]).flatMap encF=D.flatMap encF++[.int .i64 k,.int .i64 x,.string s]:=by simp[encF]
  have e2:(D++[(⟨k,x,s⟩:Fnd)]).length=D.length+1:=by simp
  rw[e1,e2]
  refine⟨hown.1,?_⟩
  rcases hown.2 with q | ⟨g',cap',cur,hv,hg',hh,rest⟩
  ·exact .inl q
  ·exact .inr ⟨g',cap',cur,hv,hg',(Blk.far (p:=⟨c,1,none⟩) (show Blk w1 g' _ cur from hh) (Blk.ne_ (t:=119) hh HB1.out (by decide)) _),rest⟩
 ·rw[Below.heap_setCell _ _ _ _ (fun e:q=c=>by
   subst e
   have:=H1.out
   unfold Blk at this
   rw[this]at hq
   obtain rfl:=Option.some.inj hq
   exact hf.2 rfl)]
  exact hold q o hq hf
end
section
open Go.RowKit
set_option maxHeartbeats 1000000
def firstIx(S:St)(num:Int):Option Nat:=(List.range S.inodes.length).find? fun i=>S.num i==num
def inoPtr(iv:Value)(r:Option Nat):Value:=match r,iv with
 | some i,.slice (some a) _ _=>.pointer (some ⟨a.block,a.off+i*4,none⟩)
 | _,_=>.pointer none
theorem find_range_some{p:Nat->Bool}: ∀{n k:Nat},k<n->(∀j,j<k->p j=false)->p k=true->(List.range n).find? p=some k:=by
 intro n k hk hlt hp
 rw[List.find?_range_eq_some]
 exact⟨hp,by simpa using hk,fun j hj=>by simp[hlt j hj]⟩
theorem find_range_none{p:Nat->Bool}{n:Nat}(h: ∀j,j<n->p j=false):(List.range n).find? p=none:=by
 rw[List.find?_range_eq_none]
 intro j hj
 simp[h j hj]
theorem RowAt.at_{w:World}{A:Option Addr}{m cap n k:Nat}{C:Nat->Nat->Value}(h:RowAt w (.slice A m cap) n k C){i:Nat}(hi:i<n):m=n/\n<=cap/\ ∃g off,A=some ⟨g,off,none⟩/\ ∀j,j<k->w.cell? ⟨g,off+i*k+j,none⟩=some (C i j):=by
 obtain⟨A',cap',e,hc,h4⟩:=h
 injection e with e1 e2 e3
 subst e1 e2 e3
 obtain⟨g,off,hA,hcell⟩:=h4 (by omega)
 exact⟨rfl,hc,g,off,hA,fun j hj=>by rw[Nat.add_assoc];exact hcell i j hi hj⟩
theorem RowAt.form{w:World}{v:Value}{n k:Nat}{C:Nat->Nat->Value}(h:RowAt w v n k C): ∃A cap,v= .slice A n cap:=by
 obtain⟨A,cap,e,_⟩:=h
 exact⟨A,cap,e⟩
set_option maxRecDepth 1000000 in
theorem first_calls{w:World}{c sb:Nat}{iv:Value}{ev:Nat->Value}{S:St}(c0:w.cell? ⟨c,0,none⟩=some (.pointer (some ⟨sb,0,none⟩)))(s0:w.cell? ⟨sb,0,none⟩=some iv)(hI:RowAt w iv S.inodes.length 4 (inoC S ev))(hn:S.inodes.length<=1000)(num:Int):
  Calls Tryz.prog 104 #[.pointer (some ⟨c,0,none⟩),.int .i64 num] w fun e w'=>e= .returned (inoPtr iv (firstIx S num))/\w'=w:=by
 obtain⟨A,cap,rfl⟩:=hI.form
 obtain⟨n,hnn⟩: ∃n,S.inodes.length=n:=⟨_,rfl⟩
 have HF:=lhi (show∀r,(List.range n).find? (fun i=>S.num i==num)=r->firstIx S num=r from fun r h=>by unfold firstIx;rw[hnn,h])
 rw[hnn]at hn hI s0⊢
 have HI:=lhi hI
 clear hI hnn
 go_enter Tryz.func104,Tryz.ntmps104
 go_wp2_with (fail)
 go_loop [14] (fun i=>∃k:Nat,i= .int .i64 k/\k<=n/\ ∀j,j<k->(S.num j==num)=false) (fun i=>n - (intOf i).toNat)
 case atStart=>exact⟨0,rfl,by omega,fun j hj=>absurd hj (by omega)⟩
 case round=>
  obtain⟨k,rfl,hk,hlt⟩:=hrel
  have HL:=lhi hlt
  clear hlt
  by_cases hp:k<n
  ·obtain⟨_,hcap,g,off,rfl,hcell⟩:=HI.out.at_ hp
   have q0:w.cell? ⟨g,off+k*4,none⟩=some (.int .i64 (S.num k)):=hcell 0 (by omega)
   clear hcell
   have hp1:(k:Int)<n:=by omega
   by_cases e:(S.num k==num)=true
   ·go_wp2_with (fail)
    go_ret
    refine⟨?_,rfl⟩
    rw[HF.out _ (find_range_some hp HL.out e)]
    rfl
   ·have e:=Bool.eq_false_iff.2 e
    go_wp2_with (fail)
    go_round
    case rel=>
     refine⟨k+1,by go_num,by omega,fun j hj=>?_⟩
     by_cases h:j=k
     ·subst h;exact e
     ·exact HL.out j (by omega)
    case measure=>
     simp only[intOf]
     omega
  ·have e:k=n:=by omega
   subst e
   go_wp2_with (fail)
   go_ret
   refine⟨?_,rfl⟩
   rw[HF.out _ (find_range_none HL.out)]
   rfl
def coreF(x:Int):Int:=if x<2 then -1 else(x - 2) % 8
def madeF(x:Int):Int:=(x - 2) / 8
set_option maxRecDepth 1000000 in
theorem core_calls(x:Int)(hx: -1000000<=x/\x<=1000000)(w:World):
  Calls Tryz.prog 102 #[.int .i64 x] w fun e w'=>e= .returned (.int .i64 (coreF x))/\w'=w:=by
 obtain⟨h1,h2⟩:=hx
 by_cases h:x<2
 ·have H:=lhi (show coreF x= -1 by unfold coreF;rw[if_pos h])
  go_enter Tryz.func102,Tryz.ntmps102
  go_wp2_with (fail)
  go_ret
  exact⟨by rw[H.out];rfl,rfl⟩
 ·have H:=lhi (show coreF x=(x - 2) % 8 by unfold coreF;rw[if_neg h])
  have h3:2<=x:=by omega
  go_enter Tryz.func102,Tryz.ntmps102
  go_wp2_with (fail)
  go_ret
  exact⟨by rw[H.out];first | rfl | go_num,rfl⟩
set_option maxRecDepth 1000000 in
theorem made_calls(x:Int)(hx:2<=x/\x<=1000000)(w:World):
  Calls Tryz.prog 103 #[.int .i64 x] w fun e w'=>e= .returned (.int .i64 (madeF x))/\w'=w:=by
 obtain⟨h1,h2⟩:=hx
 have H:=lhi (show madeF x=(x - 2) / 8 from rfl)
 go_enter Tryz.func103,Tryz.ntmps103
 go_wp2_with (fail)
 go_ret
 exact⟨by rw[H.out];first | rfl | go_num,rfl⟩
end
end Go.Proofs.YtkebjgebkneijaaGreat
