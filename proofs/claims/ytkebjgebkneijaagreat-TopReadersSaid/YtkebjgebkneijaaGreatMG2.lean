/- Texts of one's own that a claim's last text rests on: Names4 Names5 Names6 Names7 Names8 NamesP NamesP2 Names9 Names10 Ck CkFirst CkNum CkBodS CkOpen Do1 Do3 App. -/
import Derived.Test.YtkebjgebkneijaaGreatMG1
import Derived.Deep.RegionHeld3
import Derived.Deep.DrawnRows
import Derived.Deep.DeepCutAuto
import Derived.Deep.AppendLies
import Derived.Laws.OwnMore
import Derived.Maps.OwnSet
import Derived.Deep.RegionHeldLaw
import Derived.IntWalk
import Derived.Deep.Upon
set_option linter.unusedVariables false
set_option linter.unusedSimpArgs false
namespace Go.Proofs.YtkebjgebkneijaaGreat
open Go.RowKit
set_option maxHeartbeats 16000000
set_option maxRecDepth 1000000
def Aa(s:ByteArray):Nat:=Ru s % 8
theorem Cz(s:ByteArray):Aa s<8:=Nat.mod_lt _ (by omega)
theorem Cj(s:ByteArray)(w:World):
  Calls Tryz.prog 62 #[.string s] w fun e w'=>e= .returned (.int .i64 (Aa s:Nat))/\Below w.heap.size w w':=by
 have hl:=Agr s
 have hb:((Ru s:Nat):Int).tmod 8=(Aa s:Nat):=by
  rw[Int.tmod_eq_emod_of_nonneg (by omega)]
  unfold Aa
  omega
 have hb2:((Ru s:Nat):Int) % 8=(Aa s:Nat):=by
  unfold Aa
  omega
 have HB:=lhi hb2
 clear hb hb2
 go_enter Tryz.func62,Tryz.ntmps62
 go_wp2_with (fail)
 refine(Abx s w).mono ?_
 rintro e w' ⟨rfl,hB⟩
 generalize Ru s=h at*
 go_wp2_with (fail)
 go_ret
 refine⟨?_,hB⟩
 first | rw[<-HB.out];rfl | (rw[<-HB.out];go_num)
def Hj(p:Nat×Nat):Bool:=!(p.1==47||decide (p.1<32)||p.1==127||p==(65533,1))
def Gk(s:ByteArray):Nat->Nat->Bool
 | 0,_=>true
 | b+1,pos=>if pos<s.size then(Hj (Utf8.decode s pos)&&Gk s b (pos+ (Utf8.decode s pos).2))else true
def Bu(s:ByteArray):Int:=
 if 12<s.size then 801 else if(s.toList.isEmpty||s.toList==[46]||s.toList==[46,46])=true then 800 else if Gk s s.size 0=true then 0 else 800
theorem Abj(s:ByteArray)(b pos:Nat)(h: ¬ pos<s.size):Gk s b pos=true:=by
 cases b with
 | zero=>rfl
 | succ b=>simp[Gk,h]
theorem Vu(s p:ByteArray)(w:World):
  Calls Tryz.prog 142 #[.string s,.string p] w fun e w'=>e= .returned (.bool (decide (p.size<=s.size)&& ((s.extract 0 p.size).toList==p.toList)))/\w=w':=by
 go_enter Tryz.func142,Tryz.ntmps142
 by_cases h:p.size<=s.size
 ·have h1:(p.size:Int)<= (s.size:Int):=by omega
  go_wp2
  all_goals go_ret
  all_goals exact⟨by first | rfl | simp[h],rfl⟩
 ·have h1: ¬ (p.size:Int)<= (s.size:Int):=by omega
  go_wp2
  all_goals go_ret
  all_goals exact⟨by first | rfl | simp[h],rfl⟩
theorem Ahr(r:Nat)(h:r<55296∨(57344<=r/\r<=1114111)):(Utf8.encode (r:Int)).toList=[239,191,189]↔r=65533:=by
 rw[ByteArray.toList_eq]
 have hv:Utf8.valid (r:Int)=true:=by
  simp only[Utf8.valid,Bool.or_eq_true,Bool.and_eq_true,decide_eq_true_eq]
  omega
 constructor
 ·intro he
  unfold Utf8.encode at he
  simp only[hv,if_true,Int.toNat_natCast]at he
  split at he
  ·simp at he
  ·split at he
   ·simp at he
   ·split at he
    ·simp only[List.cons.injEq,and_true]at he
     obtain⟨h1,h2,h3⟩:=he
     have e1:=congrArg UInt8.toNat h1
     have e2:=congrArg UInt8.toNat h2
     have e3:=congrArg UInt8.toNat h3
     simp only[UInt8.toNat_ofNat']at e1 e2 e3
     have f1:(239:UInt8).toNat=239:=rfl
     have f2:(191:UInt8).toNat=191:=rfl
     have f3:(189:UInt8).toNat=189:=rfl
     rw[f1]at e1
     rw[f2]at e2
     rw[f3]at e3
     omega
    ·simp at he
 ·rintro rfl
  rfl
theorem Wj(s:ByteArray)(i:Nat):(Utf8.decode s i).1<55296∨(57344<= (Utf8.decode s i).1/\ (Utf8.decode s i).1<=1114111):=by
 rw[Lib.decode_at]
 have h0:=(s.get! i).toNat_lt
 unfold Lib.decodeN
 repeat' split
 all_goals simp only
 all_goals omega
theorem Wl(s:ByteArray)(i:Nat)(h:(Utf8.decode s i).1=65533):(Utf8.decode s i=(65533,3))↔(i+3<=s.size/\ (s.get! i).toNat=239/\ (s.get! (i+1)).toNat=191/\ (s.get! (i+2)).toNat=189):=by
 rw[Lib.decode_at]at*
 have h0:=(s.get! i).toNat_lt
 have c2:(i+3<=s.size)=(2<s.size - i):=propext ⟨fun h=>by omega,fun h=>by omega⟩
 rw[c2]
 clear c2
 generalize s.size - i=n at*
 generalize (s.get! i).toNat=b0 at*
 generalize (s.get! (i+1)).toNat=b1 at*
 generalize (s.get! (i+2)).toNat=b2 at*
 generalize (s.get! (i+3)).toNat=b3 at*
 unfold Lib.decodeN at*
 constructor
 ·intro he
  split at he
  ·cases he
  ·split at he
   ·split at he <;> (injection he with e1 e2;omega)
   ·split at he
    ·split at he <;> (injection he with e1 e2;omega)
    ·split at he
     ·split at he <;> (injection he with e1 e2;omega)
     ·injection he with e1 e2;omega
 ·rintro⟨e1,e2,e3,e4⟩
  subst e2 e3 e4
  rw[if_neg (by omega),if_neg (by omega),if_pos (by omega),if_pos (by omega)]
theorem Lv(s:ByteArray)(i:Nat)(h:i+3<=s.size):((s.extract i s.size).extract 0 3).toList=[s.get! i,s.get! (i+1),s.get! (i+2)]:=by
 rw[Sk s i (by omega),Sk s (i+1) (by omega),Sk s (i+2) (by omega),ByteArray.toList_eq]
 apply List.ext_getElem
 ·simp
  have:s.data.size=s.size:=rfl
  omega
 ·intro k h1 h2
  simp only[List.length_cons,List.length_nil]at h2
  have hk:k=0∨k=1∨k=2:=by omega
  rcases hk with rfl | rfl | rfl <;> simp <;> rfl
theorem Ad5(s:ByteArray)(i:Nat)(_:i<s.size)(hr:(Utf8.decode s i).1=65533):
  (decide ((⟨#[239,191,189]⟩:ByteArray).size<= (s.extract i s.size).size)&& (((s.extract i s.size).extract 0 (⟨#[239,191,189]⟩:ByteArray).size).toList==(⟨#[239,191,189]⟩:ByteArray).toList))=!(Utf8.decode s i==(65533,1)):=by
 have hsz:(s.extract i s.size).size=s.size - i:=by simp[ByteArray.size_extract]
 have e3:(⟨#[239,191,189]⟩:ByteArray).size=3:=rfl
 have eL:(⟨#[239,191,189]⟩:ByteArray).toList=[239,191,189]:=by rw[ByteArray.toList_eq]
 rw[hsz,e3,eL]
 have h13:Utf8.decode s i=(65533,1)∨Utf8.decode s i=(65533,3):=by
  have h0:=(s.get! i).toNat_lt
  have h:=hr
  have h2:(Utf8.decode s i).2=1∨(Utf8.decode s i).2=3:=by
   rw[Lib.decode_at]at h⊢
   unfold Lib.decodeN at h⊢
   generalize (s.get! i).toNat=b0 at*
   generalize (s.get! (i+1)).toNat=b1 at*
   generalize (s.get! (i+2)).toNat=b2 at*
   generalize (s.get! (i+3)).toNat=b3 at*
   revert h
   repeat' split
   all_goals intro h
   all_goals first
    | exact .inl rfl
    | exact .inr rfl
    | (exfalso;simp only at h;omega)
  exact h2.imp (fun h2=>Prod.ext h h2) (fun h2=>Prod.ext h h2)
 have ht:=Wl s i hr
 rcases h13 with h | h
 ·have hn: ¬ (i+3<=s.size/\ (s.get! i).toNat=239/\ (s.get! (i+1)).toNat=191/\ (s.get! (i+2)).toNat=189):=fun h'=>by
   have:=ht.2 h'
   rw[h]at this
   cases this
  rw[h]
  by_cases h3:i+3<=s.size
  ·rw[Lv s i h3,show decide (3<=s.size - i)=true by simp;omega,Bool.true_and]
   simp only[BEq.rfl,Bool.not_true,beq_eq_false_iff_ne,ne_eq,List.cons.injEq,and_true]
   rintro⟨a,b,c⟩
   rw[a,b,c]at hn
   exact hn ⟨h3,rfl,rfl,rfl⟩
  ·rw[show decide (3<=s.size - i)=false by simp;omega]
   rfl
 ·obtain⟨h3,a,b,c⟩:=ht.1 h
  rw[h,Lv s i h3,show decide (3<=s.size - i)=true by simp;omega,Bool.true_and]
  have a':s.get! i=239:=UInt8.toNat_inj.1 a
  have b':s.get! (i+1)=191:=UInt8.toNat_inj.1 b
  have c':s.get! (i+2)=189:=UInt8.toNat_inj.1 c
  rw[a',b',c']
  rfl
theorem Pz(s:ByteArray)(w:World):
  Calls Tryz.prog 92 #[.string s] w fun e w'=>e= .returned (.int .i64 (Bu s))/\Below w.heap.size w w':=by
 go_enter Tryz.func92,Tryz.ntmps92
 by_cases h1:12<s.size
 ·have h2:(12:Int)< (s.size:Int):=by omega
  have H:=lhi (show Bu s=801 by unfold Bu;rw[if_pos h1])
  go_wp2_with (fail)
  go_ret
  exact⟨by rw[H.out];rfl,Amf _ _⟩
 ·have h2: ¬ (12:Int)< (s.size:Int):=by omega
  by_cases hf:(s.toList.isEmpty||s.toList==[46]||s.toList==[46,46])=true
  ·have H:=lhi (show Bu s=800 by unfold Bu;rw[if_neg h1,if_pos hf])
   have hx:s.toList.isEmpty=true∨(s.toList.isEmpty=false/\ (s.toList==[46])=true)∨(s.toList.isEmpty=false/\ (s.toList==[46])=false/\ (s.toList==[46,46])=true):=by
    revert hf
    cases s.toList.isEmpty <;> cases (s.toList==[46]) <;> cases (s.toList==[46,46]) <;> simp
   clear hf
   rcases hx with hx | ⟨hx,hy⟩ | ⟨hx,hy,hz⟩
   all_goals (
    go_wp2_with (fail)
    go_ret
    exact⟨by rw[H.out];rfl,Amf _ _⟩)
  ·have HN:=lhi (show Bu s=if Gk s s.size 0=true then 0 else 800 by unfold Bu;rw[if_neg h1,if_neg hf])
   have hx:s.toList.isEmpty=false/\ (s.toList==[46])=false/\ (s.toList==[46,46])=false:=by
    revert hf
    cases s.toList.isEmpty <;> cases (s.toList==[46]) <;> cases (s.toList==[46,46]) <;> simp
   obtain⟨hx,hy,hz⟩:=hx
   clear hf
   go_wp2_with (fail)
   go_loopw [] (fun wr=>∃(pos b:Nat),wr=w.iter s pos/\Gk s b pos=Gk s s.size 0/\s.size<=pos+b) (fun w'=>s.size - w'.iterPos w.heap.size)
   case atStart=>exact⟨0,s.size,rfl,rfl,by omega⟩
   case round=>
    obtain⟨pos,b,rfl,hc,hb⟩:=hrel
    by_cases hp:pos<s.size
    ·have hnx: ∀ty,(Instr.next (.pointer (some ⟨w.heap.size,0,none⟩)) true ty).run Tryz.prog (w.iter s pos)=_:=fun ty=>run_next_any w s pos ty hp
     obtain⟨b',rfl⟩: ∃b',b=b'+1:=⟨b - 1,by omega⟩
     have hp1:(pos:Int)<= (s.size:Int):=by omega
     have hwd:=Lib.decode_width_pos s pos hp
     have HC:=lhi hc
     have HO:=lhi (show Gk s (b'+1) pos=(Hj (Utf8.decode s pos)&&Gk s b' (pos+ (Utf8.decode s pos).2))by simp only[Gk,hp,if_true])
     have HF:=lhi (show Hj (Utf8.decode s pos)=false->Bu s=800 from fun h=>by rw[HN.out,<-HC.out,HO.out,h];rfl)
     have HK:=lhi (show Hj (Utf8.decode s pos)=true->Gk s b' (pos+ (Utf8.decode s pos).2)=Gk s s.size 0 from fun h=>by rw[<-HC.out,HO.out,h,Bool.true_and])
     have HV:=lhi (Wj s pos)
     clear hc HC HO HN
     have hr:(Utf8.decode s pos).1=47∨((Utf8.decode s pos).1≠47/\ (Utf8.decode s pos).1<32)∨(Utf8.decode s pos).1=127∨((Utf8.decode s pos).1≠47/\ ¬ (Utf8.decode s pos).1<32/\ (Utf8.decode s pos).1≠127):=by omega
     rcases hr with hr | ⟨hr,hr2⟩ | hr | ⟨hr,hr2,hr3⟩
     ·have H:=lhi (HF.out (by unfold Hj;rw[hr];rfl))
      have k1:(((Utf8.decode s pos).1:Int)==47)=true:=by rw[hr];rfl
      clear HF HK hr
      go_wp2_with (fail)
      go_ret
      exact⟨by rw[H.out];rfl,Ey _ _ _⟩
     ·have H:=lhi (HF.out (by unfold Hj;simp[hr2]))
      have k1:(((Utf8.decode s pos).1:Int)==47)=false:=by simp;omega
      have k2:((Utf8.decode s pos).1:Int)<32:=by omega
      clear HF HK hr hr2
      go_wp2_with (fail)
      go_ret
      exact⟨by rw[H.out];rfl,Ey _ _ _⟩
     ·have H:=lhi (HF.out (by unfold Hj;rw[hr];rfl))
      have k1:(((Utf8.decode s pos).1:Int)==47)=false:=by rw[hr];rfl
      have k2: ¬ ((Utf8.decode s pos).1:Int)<32:=by omega
      have k3:(((Utf8.decode s pos).1:Int)==127)=true:=by rw[hr];rfl
      clear HF HK hr
      go_wp2_with (fail)
      go_ret
      exact⟨by rw[H.out];rfl,Ey _ _ _⟩
     ·have k1:(((Utf8.decode s pos).1:Int)==47)=false:=by simp;omega
      have k2: ¬ ((Utf8.decode s pos).1:Int)<32:=by omega
      have k3:(((Utf8.decode s pos).1:Int)==127)=false:=by simp;omega
      have HR:=lhi (show Hj (Utf8.decode s pos)=!(Utf8.decode s pos==(65533,1))by unfold Hj;simp[hr,hr2,hr3])
      by_cases h5:(Utf8.decode s pos).1=65533
      ·have k4:((Utf8.encode ((Utf8.decode s pos).1:Int)).toList==[239,191,189])=true:=beq_iff_eq.2 ((Ahr _ HV.out).2 h5)
       have HPF:=lhi (Ad5 s pos hp h5)
       clear hr hr2 hr3 h5
       go_wp2_with (fail)
       refine(Vu _ _ _).mono ?_
       rintro e w' ⟨rfl,rfl⟩
       rw[HPF.out,<-HR.out]
       by_cases hq:Hj (Utf8.decode s pos)=true
       ·have H:=lhi (HK.out hq)
        rw[hq]
        clear HF HK HR HPF hq
        go_wp2_with (fail)
        go_roundw
        case rel=>exact⟨_,b',rfl,H.out,by omega⟩
        case measure=>
         simp
         omega
       ·have hq:=Bool.eq_false_iff.2 hq
        have H:=lhi (HF.out hq)
        rw[hq]
        clear HF HK HR HPF hq
        go_wp2_with (fail)
        go_ret
        exact⟨by rw[H.out];rfl,Ey _ _ _⟩
      ·have k4:((Utf8.encode ((Utf8.decode s pos).1:Int)).toList==[239,191,189])=false:=by
        rw[beq_eq_false_iff_ne]
        exact fun h=>h5 ((Ahr _ HV.out).1 h)
       have hq:Hj (Utf8.decode s pos)=true:=by
        rw[HR.out,show(Utf8.decode s pos==(65533,1))=false by rw[beq_eq_false_iff_ne];exact fun h=>h5 (by rw[h])]
        rfl
       have H:=lhi (HK.out hq)
       clear HF HK HR hq hr hr2 hr3 h5
       go_wp2_with (fail)
       go_roundw
       case rel=>exact⟨_,b',rfl,H.out,by omega⟩
       case measure=>
        simp
        omega
    ·have hnx: ∀ty,(Instr.next (.pointer (some ⟨w.heap.size,0,none⟩)) true ty).run Tryz.prog (w.iter s pos)=_:=fun ty=>run_next_end w s pos ty hp
     have H:=lhi (show Bu s=0 by rw[HN.out,<-hc,Abj s b pos hp,if_pos rfl])
     clear hc HN
     go_wp2_with (fail)
     go_ret
     exact⟨by rw[H.out];rfl,Ey _ _ _⟩
theorem Uj(s:ByteArray)(w:World):
  Calls Tryz.prog 105 #[.string s] w fun e w'=>e= .returned (.bool (Bu s==0))/\Below w.heap.size w w':=by
 go_enter Tryz.func105,Tryz.ntmps105
 go_wp2_with (fail)
 refine(Pz s w).mono ?_
 rintro e w' ⟨rfl,hB⟩
 go_wp2_with (fail)
 go_ret
 exact⟨rfl,hB⟩
def Ak(w:World)(v:Value)(n k:Nat)(C:Nat->Nat->Value):Prop:=
 ∃A cap,v= .slice A n cap/\n<=cap/\ (0<n-> ∃g off,A=some ⟨g,off,none⟩/\ ∀i j,i<n->j<k->w.cell? ⟨g,off+ (i*k+j),none⟩=some (C i j))
theorem Ak.keep{w w':World}{v:Value}{n k:Nat}{C:Nat->Nat->Value}(h:Ak w v n k C)(hb:Below w.heap.size w w'):Ak w' v n k C:=by
 obtain⟨A,cap,h2,h3,h4⟩:=h
 refine⟨A,cap,h2,h3,fun hn=>?_⟩
 obtain⟨g,off,hA,hc⟩:=h4 hn
 exact⟨g,off,hA,fun i j hi hj=>(hb.cell (Amd w _ (hc i j hi hj))).trans (hc i j hi hj)⟩
theorem Ak.nil_(w:World)(k:Nat)(C:Nat->Nat->Value):Ak w (.slice none 0 0) 0 k C:=⟨_,_,rfl,Ama _,fun h=>absurd h (by omega)⟩
theorem Ak.blk{w:World}{g n cap k:Nat}{t:TypeId}{cs:Array Value}{C:Nat->Nat->Value}(h:Blk w g t cs)(hn:n<=cap)(hC: ∀i j,i<n->j<k->cs[i*k+j]? =some (C i j)):Ak w (.slice (some ⟨g,0,none⟩) n cap) n k C:=
 ⟨_,_,rfl,hn,fun _=>⟨g,0,rfl,fun i j hi hj=>by rw[Nat.zero_add,h.cell];exact hC i j hi hj⟩⟩
structure Ino where
 num:Int
 dir:Bool
 ents:List (ByteArray×Int)
 data:ByteArray
structure St where
 inodes:List Ino
 opens : List (Int × Int × Int)
 made:List Int
def Ds:Ino:=⟨0,false,[],ByteArray.empty⟩
def St.ino(S:St)(i:Nat):Ino:=S.inodes.getD i Ds
def St.num(S:St)(i:Nat):Int:=(S.ino i).num
def St.dir(S:St)(i:Nat):Bool:=(S.ino i).dir
def St.dat(S:St)(i:Nat):ByteArray:=(S.ino i).data
def St.ne(S:St)(i:Nat):Nat:=(S.ino i).ents.length
def St.enm(S:St)(i k:Nat):ByteArray:=((S.ino i).ents.getD k (ByteArray.empty,0)).1
def St.enu(S:St)(i k:Nat):Int:=((S.ino i).ents.getD k (ByteArray.empty,0)).2
def St.oc(S:St)(i:Nat):Int:=(S.opens.getD i (0,0,0)).1
def St.of(S:St)(i:Nat):Int:=(S.opens.getD i (0,0,0)).2.1
def St.on(S:St)(i:Nat):Int:=(S.opens.getD i (0,0,0)).2.2
def St.mad(S:St)(i:Nat):Int:=S.made.getD i 0
def inoC(S:St)(ev:Nat->Value):Nat->Nat->Value:=fun i j=>match j with
 | 0=>.int .i64 (S.num i)
 | 1=>.bool (S.dir i)
 | 2=>ev i
 | _=>.string (S.dat i)
def entC(S:St)(i:Nat):Nat->Nat->Value:=fun k j=>match j with
 | 0=>.string (S.enm i k)
 | _=>.int .i64 (S.enu i k)
def opnC(S:St):Nat->Nat->Value:=fun k j=>match j with
 | 0=>.int .i64 (S.oc k)
 | 1=>.int .i64 (S.of k)
 | _=>.int .i64 (S.on k)
def madC(S:St):Nat->Nat->Value:=fun k _=>.int .i64 (S.mad k)
structure StM (w:World) (iv ov mv:Value) (ev:Nat->Value) (S:St):Prop where
 ino:Ak w iv S.inodes.length 4 (inoC S ev)
 ent: ∀i,i<S.inodes.length->Ak w (ev i) (S.ne i) 2 (entC S i)
 opn:Ak w ov S.opens.length 3 (opnC S)
 mad:Ak w mv S.made.length 1 (madC S)
theorem StM.keep{w w':World}{iv ov mv:Value}{ev:Nat->Value}{S:St}(h:StM w iv ov mv ev S)(hb:Below w.heap.size w w'):StM w' iv ov mv ev S:=
 ⟨h.ino.keep hb,fun i hi=>(h.ent i hi).keep hb,h.opn.keep hb,h.mad.keep hb⟩
structure St.small (S:St):Prop where
 ni:S.inodes.length<=1000
 no:S.opens.length<=1000
 nm:S.made.length<=1000
 en: ∀i,S.ne i<=1000
 num: ∀i,-1000000<=S.num i/\S.num i<=1000000
 enu: ∀i k,-1000000<=S.enu i k/\S.enu i k<=1000000
 mad: ∀i,-1000000<=S.mad i/\S.mad i<=1000000
structure Fnd where
 kind:Int
 num:Int
 name:ByteArray
def encF(f:Fnd):List Value:=[.int .i64 f.kind,.int .i64 f.num,.string f.name]
def Alx:Obj->Prop
 | .cells _ t _=>t≠119/\t≠116
 | _=>True
structure Dc (w w':World):Prop where
 size:w.heap.size<=w'.heap.size
 block: ∀(k:Nat) (o:Obj),w.heap[k]? =some o->Alx o->w'.heap[k]? =some o
namespace Dc
variable{w w' w'':World}
theorem refl(w:World):Dc w w:=⟨Nat.le_refl _,fun _ _ h _=>h⟩
theorem trans(h:Dc w w')(k:Dc w' w''):Dc w w'':=⟨Nat.le_trans h.size k.size,fun i o hi hf=>k.block i o (h.block i o hi hf) hf⟩
theorem below(h:Dc w w')(hb:Below w'.heap.size w' w''):Dc w w'':=h.trans ⟨hb.size,fun k o hk _=>by
 rw[hb.block k (by rcases Nat.lt_or_ge k w'.heap.size with hl | hl;exact hl;rw[Array.getElem?_eq_none hl]at hk;cases hk)];exact hk⟩
theorem alloc(h:Dc w w')(o:Obj):Dc w (w'.alloc o):=h.below ((Amf _ _).alloc (Ama _) o)
theorem drew(h:Dc w w'):Dc w w'.drew:=⟨h.size,h.block⟩
theorem drewN(h:Dc w w')(n:Nat):Dc w (w'.drewN n):=⟨h.size,h.block⟩
theorem undrew(h:Dc w.drew w'):Dc w w':=⟨h.size,h.block⟩
theorem blk(h:Dc w w'){g:Nat}{t:TypeId}{cs:Array Value}(hb:Blk w g t cs)(h1:t≠119)(h2:t≠116):Blk w' g t cs:=h.block g _ hb ⟨h1,h2⟩
end Dc
theorem Hy{w:World}{q:Nat}{o:Obj}(h:w.heap[q]? =some o):q<w.heap.size:=by
 rcases Nat.lt_or_ge q w.heap.size with hl | hl
 ·exact hl
 ·rw[Array.getElem?_eq_none hl]at h;cases h
theorem Ag{w:World}{base:Nat}{e:TypeId}{size k:Nat}{v:Value}{xs:List Value}(h:w.ownsRow base e size v k xs){q:Nat}(hq:v.ownBlock=some q):base<=q/\ ∃cs,Blk w q e cs:=by
 rcases h.2 with⟨rfl,_⟩ | ⟨g,cap,cur,rfl,hb,hh,_⟩
 ·cases hq
 ·have:g=q:=by simpa[Value.ownBlock]using hq
  subst this
  exact⟨hb,cur,hh⟩
structure Ck (w0 w:World) (c sb:Nat) (iv ov mv:Value) (D:List Fnd):Prop where
 bel:Below w0.heap.size w0 w
 sB:w0.heap.size<=sb
 sat:Blk w sb 30 #[iv,ov,mv]
 cB:w0.heap.size<=c
 row: ∃v,Blk w c 116 #[.pointer (some ⟨sb,0,none⟩),v]/\w.ownsRow w0.heap.size 119 3 v D.length (D.flatMap encF)
theorem Bc{w w':World}{base:Nat}{e:TypeId}{size k:Nat}{v:Value}{xs:List Value}(h:w.ownsRow base e size v k xs)(hb:Below w.heap.size w w'):w'.ownsRow base e size v k xs:=by
 refine⟨h.1,?_⟩
 rcases h.2 with h2 | ⟨g,cap,cur,hv,hg,hh,rest⟩
 ·exact .inl h2
 ·refine .inr ⟨g,cap,cur,hv,hg,?_,rest⟩
  rw[hb.block g (Blk.lt (show Blk w g _ cur from hh))]
  exact hh
namespace Ck
variable{w0 w w':World}{c sb:Nat}{iv ov mv:Value}{D:List Fnd}
theorem below(h:Ck w0 w c sb iv ov mv D)(hb:Below w.heap.size w w'):Ck w0 w' c sb iv ov mv D:=by
 obtain⟨v,h1,h2⟩:=h.row
 exact⟨h.bel.trans (hb.mono h.bel.size),h.sB,Blk.of_heap (hb.block _ h.sat.lt) h.sat,h.cB,v,Blk.of_heap (hb.block _ h1.lt) h1,Bc h2 hb⟩
theorem alloc(h:Ck w0 w c sb iv ov mv D)(o:Obj):Ck w0 (w.alloc o) c sb iv ov mv D:=h.below ((Amf _ _).alloc (Ama _) o)
theorem drew(h:Ck w0 w c sb iv ov mv D):Ck w0 w.drew c sb iv ov mv D:=by
 obtain⟨v,h1,h2⟩:=h.row
 exact⟨⟨h.bel.os,h.bel.tape,h.bel.output,h.bel.size,h.bel.block⟩,h.sB,h.sat,h.cB,v,h1,h2⟩
theorem drewN(h:Ck w0 w c sb iv ov mv D)(n:Nat):Ck w0 (w.drewN n) c sb iv ov mv D:=by
 obtain⟨v,h1,h2⟩:=h.row
 exact⟨⟨h.bel.os,h.bel.tape,h.bel.output,h.bel.size,h.bel.block⟩,h.sB,h.sat,h.cB,v,h1,h2⟩
theorem set(h:Ck w0 w c sb iv ov mv D){g:Nat}{t:TypeId}{cs:Array Value}(hg:Blk w g t cs)(hB:w0.heap.size<=g)(h1:t≠119)(h2:t≠116)(h3:t≠30)(i:Nat)(u:Value):Ck w0 (w.setCell ⟨g,i,none⟩ u) c sb iv ov mv D:=by
 obtain⟨v,r1,r2⟩:=h.row
 refine⟨h.bel.setCell (p:=⟨g,i,none⟩) hB _,h.sB,h.sat.far (p:=⟨g,i,none⟩) (Blk.ne_ h.sat hg (Ne.symm h3)) _,h.cB,v,r1.far (p:=⟨g,i,none⟩) (Blk.ne_ r1 hg (Ne.symm h2)) _,?_⟩
 refine⟨r2.1,?_⟩
 rcases r2.2 with q | ⟨g',cap,cur,hv,hg',hh,rest⟩
 ·exact .inl q
 ·exact .inr ⟨g',cap,cur,hv,hg',(Blk.far (p:=⟨g,i,none⟩) (show Blk w g' _ cur from hh) (Blk.ne_ (t:=119) hh hg (Ne.symm h1)) u),rest⟩
theorem c0(h:Ck w0 w c sb iv ov mv D):w.cell? ⟨c,0,none⟩=some (.pointer (some ⟨sb,0,none⟩)):=by
 obtain⟨v,h1,_⟩:=h.row
 exact h1.cell 0
theorem s0(h:Ck w0 w c sb iv ov mv D):w.cell? ⟨sb,0,none⟩=some iv:=h.sat.cell 0
theorem s1(h:Ck w0 w c sb iv ov mv D):w.cell? ⟨sb,1,none⟩=some ov:=h.sat.cell 1
theorem s2(h:Ck w0 w c sb iv ov mv D):w.cell? ⟨sb,2,none⟩=some mv:=h.sat.cell 2
theorem stm(h:Ck w0 w c sb iv ov mv D){ev:Nat->Value}{S:St}(hS:StM w0 iv ov mv ev S):StM w iv ov mv ev S:=hS.keep h.bel
end Ck
def Fw(S:St)(num:Int):Option Nat:=(List.range S.inodes.length).find? fun i=>S.num i==num
theorem Ak.at_{w:World}{A:Option Addr}{m cap n k:Nat}{C:Nat->Nat->Value}(h:Ak w (.slice A m cap) n k C){i:Nat}(hi:i<n):m=n/\n<=cap/\ ∃g off,A=some ⟨g,off,none⟩/\ ∀j,j<k->w.cell? ⟨g,off+i*k+j,none⟩=some (C i j):=by
 obtain⟨A',cap',e,hc,h4⟩:=h
 injection e with e1 e2 e3
 subst e1 e2 e3
 obtain⟨g,off,hA,hcell⟩:=h4 (by omega)
 exact⟨rfl,hc,g,off,hA,fun j hj=>by rw[Nat.add_assoc];exact hcell i j hi hj⟩
theorem Ak.form{w:World}{v:Value}{n k:Nat}{C:Nat->Nat->Value}(h:Ak w v n k C): ∃A cap,v= .slice A n cap:=by
 obtain⟨A,cap,e,_⟩:=h
 exact⟨A,cap,e⟩
def Nz(x:Int):Int:=if x<2 then -1 else(x - 2) % 8
def Uk(x:Int):Int:=(x - 2) / 8
theorem Mt(x:Int)(hx: -1000000<=x/\x<=1000000)(w:World):
  Calls Tryz.prog 102 #[.int .i64 x] w fun e w'=>e= .returned (.int .i64 (Nz x))/\w'=w:=by
 obtain⟨h1,h2⟩:=hx
 by_cases h:x<2
 ·have H:=lhi (show Nz x= -1 by unfold Nz;rw[if_pos h])
  go_enter Tryz.func102,Tryz.ntmps102
  go_wp2_with (fail)
  go_ret
  exact⟨by rw[H.out];rfl,rfl⟩
 ·have H:=lhi (show Nz x=(x - 2) % 8 by unfold Nz;rw[if_neg h])
  have h3:2<=x:=by omega
  go_enter Tryz.func102,Tryz.ntmps102
  go_wp2_with (fail)
  go_ret
  exact⟨by rw[H.out];first | rfl | go_num,rfl⟩
theorem Sb(x:Int)(hx:2<=x/\x<=1000000)(w:World):
  Calls Tryz.prog 103 #[.int .i64 x] w fun e w'=>e= .returned (.int .i64 (Uk x))/\w'=w:=by
 obtain⟨h1,h2⟩:=hx
 have H:=lhi (show Uk x=(x - 2) / 8 from rfl)
 go_enter Tryz.func103,Tryz.ntmps103
 go_wp2_with (fail)
 go_ret
 exact⟨by rw[H.out];first | rfl | go_num,rfl⟩
def nm0:ByteArray:=⟨#[]⟩
def one(k x:Int)(s:ByteArray)(b:Bool):List Fnd:=if b then [⟨k,x,s⟩]else []
theorem Zt{A:Type}{f:Nat->List A}{c:Nat}(h: ∀i,(f i).length<=c): ∀k,((List.range k).flatMap f).length<=k*c:=by
 intro k
 induction k with
 | zero=>simp
 | succ k ih=>
  rw[List.range_succ,List.flatMap_append,Ami,Nat.succ_mul]
  have:=h k
  simp only[List.flatMap_cons,List.flatMap_nil,List.append_nil]
  omega
theorem Us{A:Type}(f:Nat->List A)(k:Nat):(List.range (k+1)).flatMap f=(List.range k).flatMap f++f k:=by
 rw[List.range_succ,List.flatMap_append];simp
theorem Ql(b:Bool):b=true∨b=false:=by cases b <;> simp
def b1(S:St)(i:Nat):Bool:=decide (S.num i<1)|| (decide (0<i)&&decide (S.num i<=S.num (i - 1)))
def At(w0 w wx:World)(c sb:Nat)(iv ov mv:Value)(D:List Fnd):Prop:=Ck w0 wx c sb iv ov mv D/\Dc w wx
theorem At.start{w0 w:World}{c sb:Nat}{iv ov mv:Value}{D:List Fnd}(h:Ck w0 w c sb iv ov mv D):At w0 w w c sb iv ov mv D:=⟨h,Dc.refl _⟩
theorem At.alloc{w0 w wx:World}{c sb:Nat}{iv ov mv:Value}{D:List Fnd}(h:At w0 w wx c sb iv ov mv D)(o:Obj):At w0 w (wx.alloc o) c sb iv ov mv D:=⟨h.1.alloc o,h.2.alloc o⟩
theorem At.drewN{w0 w wx:World}{c sb:Nat}{iv ov mv:Value}{D:List Fnd}(h:At w0 w wx c sb iv ov mv D)(n:Nat):At w0 w (wx.drewN n) c sb iv ov mv D:=⟨h.1.drewN n,h.2.drewN n⟩
theorem At.below{w0 w wx wy:World}{c sb:Nat}{iv ov mv:Value}{D:List Fnd}(h:At w0 w wx c sb iv ov mv D)(hb:Below wx.heap.size wx wy):At w0 w wy c sb iv ov mv D:=⟨h.1.below hb,h.2.below hb⟩
theorem At.to{w0 w wx wy:World}{c sb:Nat}{iv ov mv:Value}{D D':List Fnd}(h:At w0 w wx c sb iv ov mv D)(h1:Ck w0 wy c sb iv ov mv D')(h2:Dc wx wy):At w0 w wy c sb iv ov mv D':=⟨h1,h.2.trans h2⟩
def nle(s t:ByteArray):Bool:=Op.bytesLess s.toList t.toList||s.toList==t.toList
def b6(S:St)(i:Nat):Bool:=(S.dir i&&!(S.dat i).toList.isEmpty)|| (!S.dir i&&decide (0<S.ne i))||decide (256< (S.dat i).size)
def b2(S:St)(i k:Nat):Bool:=S.enu i k==1|| (Fw S (S.enu i k)).isNone
def b5(S:St)(i k:Nat):Bool:=!(Bu (S.enm i k)==0)|| (decide (0<k)&&nle (S.enm i k) (S.enm i (k - 1)))
def cnt(S:St)(i k:Nat)(q:Nat):Nat:=((List.range k).filter fun j=>Aa (S.enm i j)==q).length
def b7(S:St)(i k:Nat):Bool:=cnt S i k (Aa (S.enm i k))==4
theorem cnt_le(S:St)(i k q:Nat):cnt S i k q<=k:=by
 unfold cnt
 have:=List.length_filter_le (fun j=>Aa (S.enm i j)==q) (List.range k)
 simpa using this
theorem Ah2(S:St)(i k q:Nat):cnt S i (k+1) q=cnt S i k q+if Aa (S.enm i k)=q then 1 else 0:=by
 unfold cnt
 rw[List.range_succ,List.filter_append,Ami]
 congr 1
 by_cases h:Aa (S.enm i k)=q
 ·simp[h]
 ·simp[h]
def cntA(f:Nat->Nat):Array Value:=#[.int .i64 (f 0),.int .i64 (f 1),.int .i64 (f 2),.int .i64 (f 3),.int .i64 (f 4),.int .i64 (f 5),.int .i64 (f 6),.int .i64 (f 7)]
theorem lt8{q:Nat}(h:q<8):q=0∨q=1∨q=2∨q=3∨q=4∨q=5∨q=6∨q=7:=by omega
theorem Ajx(f:Nat->Nat){q:Nat}(h:q<8):(cntA f)[q]? =some (.int .i64 (f q)):=by
 rcases lt8 h with rfl | rfl | rfl | rfl | rfl | rfl | rfl | rfl <;> rfl
theorem Ah3(f g:Nat->Nat){q:Nat}(h:q<8){v:Int}(hv:v=(g q:Nat))(hg: ∀j,j<8->j≠q->g j=f j):(cntA f).setIfInBounds q (.int .i64 v)=cntA g:=by
 subst hv
 rcases lt8 h with rfl | rfl | rfl | rfl | rfl | rfl | rfl | rfl <;> simp[cntA,hg]
theorem Dc.set{w w':World}(h:Dc w w'){g:Nat}(hg:w.heap.size<=g)(i:Nat)(u:Value):Dc w (w'.setCell ⟨g,i,none⟩ u):=
 ⟨by simpa[World.setCell]using h.size,fun k o hk hf=>by
  rw[Below.heap_setCell _ _ _ _ (fun e:k=g=>by have:=Hy hk;omega)]
  exact h.block k o hk hf⟩
section
attribute [local go_sem↓] Go.wp_at_zero Go.wp_at_succ
end
section
attribute [local go_sem↓] Go.wp_at_zero Go.wp_at_succ
theorem Br(w:World)(o:Obj):Below w.heap.size w (w.alloc o):=(Amf _ _).alloc (Ama _) o
end
def RowT(w:World)(base:Nat)(t:TypeId)(k:Nat)(v:Value)(n:Nat)(C:Nat->Nat->Value):Prop:=
 ∃A cap,v= .slice A n cap/\n<=cap/\ (0<n-> ∃g off cs,A=some ⟨g,off,none⟩/\base<=g/\Blk w g t cs/\ ∀i j,i<n->j<k->cs[off+ (i*k+j)]? =some (C i j))
namespace RowT
variable{w w':World}{base:Nat}{t:TypeId}{k n:Nat}{v:Value}{C:Nat->Nat->Value}
theorem at'(h:RowT w base t k v n C):Ak w v n k C:=by
 obtain⟨A,cap,h1,h2,h3⟩:=h
 refine⟨A,cap,h1,h2,fun hn=>?_⟩
 obtain⟨g,off,cs,hA,-,hb,hc⟩:=h3 hn
 exact⟨g,off,hA,fun i j hi hj=>(hb.cell _).trans (hc i j hi hj)⟩
theorem heap(h:RowT w base t k v n C)(hb: ∀q cs,base<=q->Blk w q t cs->Blk w' q t cs):RowT w' base t k v n C:=by
 obtain⟨A,cap,h1,h2,h3⟩:=h
 refine⟨A,cap,h1,h2,fun hn=>?_⟩
 obtain⟨g,off,cs,hA,h4,h5,h6⟩:=h3 hn
 exact⟨g,off,cs,hA,h4,hb g cs h4 h5,h6⟩
theorem below(h:RowT w base t k v n C)(hb:Below w.heap.size w w'):RowT w' base t k v n C:=h.heap fun q _ _ hq=>Blk.of_heap (hb.block q hq.lt) hq
theorem far(h:RowT w base t k v n C){g:Nat}{u:TypeId}{cs:Array Value}(hg:Blk w g u cs)(ht:t≠u)(i:Nat)(x:Value):RowT (w.setCell ⟨g,i,none⟩ x) base t k v n C:=
 h.heap fun _ _ _ hq=>hq.far (p:=⟨g,i,none⟩) (Blk.ne_ hq hg ht) x
theorem congr{C':Nat->Nat->Value}(h:RowT w base t k v n C)(he: ∀i j,i<n->j<k->C i j=C' i j):RowT w base t k v n C':=by
 obtain⟨A,cap,h1,h2,h3⟩:=h
 refine⟨A,cap,h1,h2,fun hn=>?_⟩
 obtain⟨g,off,cs,hA,h4,h5,h6⟩:=h3 hn
 exact⟨g,off,cs,hA,h4,h5,fun i j hi hj=>(h6 i j hi hj).trans (by rw[he i j hi hj])⟩
theorem base_le{base':Nat}(h:RowT w base t k v n C)(hb:base'<=base):RowT w base' t k v n C:=by
 obtain⟨A,cap,h1,h2,h3⟩:=h
 refine⟨A,cap,h1,h2,fun hn=>?_⟩
 obtain⟨g,off,cs,hA,h4,h5⟩:=h3 hn
 exact⟨g,off,cs,hA,Aml hb h4,h5⟩
theorem nil_(w:World)(base:Nat)(t:TypeId)(k:Nat)(C:Nat->Nat->Value):RowT w base t k (.slice none 0 0) 0 C:=⟨_,_,rfl,Ama _,fun h=>absurd h (by omega)⟩
theorem set(h:RowT w base t k v n C){i j:Nat}(hi:i<n)(hj:j<k): ∃g off cap cs,v= .slice (some ⟨g,off,none⟩) n cap/\n<=cap/\base<=g/\Blk w g t cs/\w.cell? ⟨g,off+ (i*k+j),none⟩=some (C i j)/\ ∀x,RowT (w.setCell ⟨g,off+ (i*k+j),none⟩ x) base t k v n fun a b=>if a=i/\b=j then x else C a b:=by
 obtain⟨A,cap,rfl,h2,h3⟩:=h
 obtain⟨g,off,cs,rfl,h4,h5,h6⟩:=h3 (by omega)
 refine⟨g,off,cap,cs,rfl,h2,h4,h5,(h5.cell _).trans (h6 i j hi hj),fun x=>⟨_,_,rfl,h2,fun hn=>⟨g,off,_,rfl,h4,h5.set_ _ x,fun a b ha hb=>?_⟩⟩⟩
 have hlt:off+ (i*k+j)<cs.size:=(Array.getElem?_eq_some_iff.1 (h6 i j hi hj)).1
 by_cases e:a=i/\b=j
 ·obtain⟨rfl,rfl⟩:=e
  show _=some (if _ then _ else _)
  rw[if_pos ⟨rfl,rfl⟩,Array.getElem?_setIfInBounds_self,if_pos hlt]
 ·show _=some (if _ then _ else _)
  rw[if_neg e,Array.getElem?_setIfInBounds_ne]
  ·exact h6 a b ha hb
  ·intro q
   have q:i*k+j=a*k+b:=by omega
   apply e
   have e1:(i*k+j) / k=(a*k+b) / k:=by rw[q]
   have e2:(i*k+j) % k=(a*k+b) % k:=by rw[q]
   rw[Nat.mul_comm i k,Nat.mul_comm a k,Nat.mul_add_div (by omega),Nat.mul_add_div (by omega),Nat.div_eq_of_lt hj,Nat.div_eq_of_lt hb]at e1
   rw[Nat.mul_comm i k,Nat.mul_comm a k,Nat.mul_add_mod,Nat.mul_add_mod,Nat.mod_eq_of_lt hj,Nat.mod_eq_of_lt hb]at e2
   omega
end RowT
section
variable{A:Type}{enc:A->List Value}{k:Nat}
theorem Hr(hk:0<k)(h: ∀x,(enc x).length=k): ∀(L:List A) (t:Nat),(L.flatMap enc)[t]? =(L[t / k]?).bind fun e=>(enc e)[t % k]?
 | [],t=>by simp
 | e::L,t=>by
  rw[List.flatMap_cons]
  by_cases q:t<k
  ·rw[List.getElem?_append_left (by rw[h];exact q),Nat.div_eq_of_lt q,Nat.mod_eq_of_lt q];rfl
  ·have e1:t / k=(t - k) / k+1:=by
    rw[Nat.div_eq_sub_div hk (by omega)]
   have e2:t % k=(t - k) % k:=Nat.mod_eq_sub_mod (by omega)
   rw[List.getElem?_append_right (by rw[h];omega),h,e1,List.getElem?_cons_succ,e2,<-Hr hk h L (t - k)]
theorem Cb(h: ∀x,(enc x).length=k)(L:List A):(L.flatMap enc).length=L.length*k:=by
 induction L with
 | nil=>simp
 | cons e L ih=>rw[List.flatMap_cons,Ami,ih,h,List.length_cons,Nat.succ_mul];omega
def CL(enc:A->List Value)(L:List A)(C:Nat->Nat->Value)(k:Nat):Prop:=∀i j (hi:i<L.length),j<k->(enc L[i])[j]? =some (C i j)
theorem CL.get{L:List A}{C:Nat->Nat->Value}(hk:0<k)(h: ∀x,(enc x).length=k)(hC:CL enc L C k){i j:Nat}(hi:i<L.length)(hj:j<k):(L.flatMap enc)[i*k+j]? =some (C i j):=by
 rw[Hr hk h,Nat.mul_comm,Nat.mul_add_div hk,Nat.div_eq_of_lt hj,Nat.mul_add_mod,Nat.mod_eq_of_lt hj,Nat.add_zero,Amh hi]
 exact hC i j hi hj
theorem Cc{w:World}{base:Nat}{t:TypeId}{v:Value}{L:List A}{C:Nat->Nat->Value}(hk:0<k)(h: ∀x,(enc x).length=k)(hw:w.ownsRow base t k v L.length (L.flatMap enc))(hC:CL enc L C k):RowT w base t k v L.length C:=by
 rcases hw.2 with⟨rfl,h0⟩ | ⟨g,cap,cur,rfl,hb,hh,h1,-,h3,h4⟩
 ·rw[h0];exact RowT.nil_ _ _ _ _ _
 ·refine⟨_,_,rfl,h1,fun hn=>⟨g,0,cur,rfl,hb,hh,fun i j hi hj=>?_⟩⟩
  have h5:=hC.get hk h hi hj
  rw[<-h4,List.getElem?_take]at h5
  split at h5
  ·rw[Nat.zero_add];simpa using h5
  ·cases h5
variable{ops:Array Oper}{rest:List Oper}{o:Oper}{a:Act}{Q:Exit->Act->World->Prop}
end
def Es(v:Value)(q:Nat):Prop:=∃off n cap,v= .slice (some ⟨q,off,none⟩) n cap
theorem Ads{q:Nat}: ¬ Es (.slice none 0 0) q:=by
 rintro⟨o,n,c,e⟩
 injection e with e
 cases e
section
variable{A:Type}{enc:A->List Value}{k:Nat}
theorem Aiw(w:World)(t ty e:TypeId)(i:TypeInfo)(z:Value)(bytes:Nat)(ht:Tryz.prog.underlying t=some (.slice e))(hi:Tryz.prog.info? e=some i)(hz:i.zero=some z)(hsize:i.size=k)(hby:i.bytes=bytes)(hzs:z.cells.size=k)(hk:0<k)
  (base:Nat) (v:Value) (L:List A) (hown:w.ownsRow base e k v L.length (L.flatMap enc)) (xv:Value) (M:List A) {C:Nat->Nat->Value} (hM:Ak w xv M.length k C) (hC:CL enc M C k)
  (hl: ∀x,(enc x).length=k) (h1: ∀x∈M,∀u∈enc x,u.oneCell'=true) (h63:L.length+M.length<=100000) (hbytes:bytes<=1000) (hbase:base<=w.heap.size):
  ∃A' cap' w',(Builtin.append_ #[t,t] ty #[v,xv]).run Tryz.prog w= .ok (.slice A' (L++M).length cap') w'/\w'.ownsRow base e k (.slice A' (L++M).length cap') (L++M).length ((L++M).flatMap enc)/\w.grownBy w' v.ownBlock:=by
 obtain⟨A1,cap1,rfl,hc1,hA1⟩:=hM
 have hbb:(L.length+M.length)*bytes<=140737488355328:=Aml (Nat.mul_le_mul h63 hbytes) (by decide)
 have hrun: ∃v' w',(Builtin.append_ #[t,t] ty #[v,.slice A1 M.length cap1]).run Tryz.prog w= .ok v' w'/\w'.ownsRow base e k v' (L++M).length ((L++M).flatMap enc)/\w.grownBy w' v.ownBlock:=by
  rcases Nat.eq_zero_or_pos M.length with h0 | h0
  ·have hM0:M=[]:=List.length_eq_zero_iff.1 h0
   subst hM0
   rw[List.append_nil]
   cases A1 with
   | none=>
    have hb: ∃b n' c',v= .slice b n' c'/\n'<=c':=by
     rcases hown.2 with⟨rfl,_⟩ | ⟨g,cap,cur,rfl,_,_,h6,_⟩
     ·exact⟨_,_,_,rfl,Ama _⟩
     ·exact⟨_,_,_,rfl,h6⟩
    obtain⟨b,n',c',rfl,hle⟩:=hb
    exact⟨_,_,run_append_nothing (P:=Tryz.prog) w t t ty e i ht hi b n' c' hle _ (Src.ofNil w ht cap1),hown,⟨rfl,rfl,rfl,Ama _,fun _ _ _=>rfl⟩⟩
   | some ad=>
    obtain⟨v',w',r1,r2,r3,-,-⟩:=run_append_own_at (P:=Tryz.prog) w base t ty e i z k bytes ht hi hz hsize hby hzs hk v L.length _ hown ad 0 cap1 [] (by simp) (fun j u hu=>by simp at hu) (fun u hu=>by simp at hu) (by simp only[maxLen];omega) (by simpa using hbb) hbase
    rw[List.append_nil,Nat.add_zero]at r2
    exact⟨v',w',r1,r2,r3⟩
  ·obtain⟨g,off,rfl,hcell⟩:=hA1 h0
   obtain⟨v',w',r1,r2,r3,-,-⟩:=run_append_own_at (P:=Tryz.prog) w base t ty e i z k bytes ht hi hz hsize hby hzs hk v L.length _ hown ⟨g,off,none⟩ M.length cap1 (M.flatMap enc) (Cb hl M) (fun j u hu=>by
    have hj:j<M.length*k:=by rw[<-Cb hl M];exact(List.getElem?_eq_some_iff.1 hu).1
    have e1:j=j / k*k+j % k:=by rw[Nat.mul_comm];exact(Nat.div_add_mod j k).symm
    have hq:j / k<M.length:=Nat.div_lt_of_lt_mul (by rw[Nat.mul_comm];exact hj)
    have h2:=hC.get hk hl hq (Nat.mod_lt j hk)
    rw[<-e1,hu]at h2
    rw[Addr.add_lit]
    have h3:=hcell (j / k) (j % k) hq (Nat.mod_lt j hk)
    rw[<-e1]at h3
    rw[h3,<-h2]) (fun u hu=>by
    obtain⟨x,hm,hx⟩:=List.mem_flatMap.1 hu
    exact h1 x hm u hx) (by simp only[maxLen];omega) hbb hbase
   rw[<-List.flatMap_append,<-Ami]at r2
   exact⟨v',w',r1,r2,r3⟩
 obtain⟨v',w',hrun,r2,r3⟩:=hrun
 have hf: ∃A' cap',v'= .slice A' (L++M).length cap':=by
  rcases r2.2 with⟨rfl,h0⟩ | ⟨g,cap,cur,rfl,_⟩
  ·exact⟨none,0,by rw[h0]⟩
  ·exact⟨_,_,rfl⟩
 obtain⟨A',cap',rfl⟩:=hf
 exact⟨A',cap',w',hrun,r2,r3⟩
variable{ops:Array Oper}{rest:List Oper}{o:Oper}{a:Act}{Q:Exit->Act->World->Prop}
theorem Af3(w:World){K:Act->World->Prop}{E:Prop}(hgd:o.guard=none)(s x:Operand)(t e:TypeId)(hop:o.op=Op.call {callee:=Callee.builtin Builtin.append,args:=#[s,x],argTypes:=#[t,t]})
  (i:TypeInfo) (z:Value) (bytes:Nat) (ht:Tryz.prog.underlying t=some (.slice e)) (hi:Tryz.prog.info? e=some i) (hz:i.zero=some z) (hsize:i.size=k) (hby:i.bytes=bytes) (hzs:z.cells.size=k) (hk:0<k)
  (base:Nat) (v:Value) (L:List A) (hs:a.eval s=v) (hown:w.ownsRow base e k v L.length (L.flatMap enc)) (xv:Value) (hx:a.eval x=xv) (M:List A) {C:Nat->Nat->Value} (hM:Ak w xv M.length k C) (hC:CL enc M C k)
  (hl: ∀x,(enc x).length=k) (h1: ∀x∈M,∀u∈enc x,u.oneCell'=true) (h63:L.length+M.length<=100000) (hbytes:bytes<=1000) (hbase:base<=w.heap.size)
  (hK: ∀A' n' cap' w',n'=(L++M).length->w'.ownsRow base e k (.slice A' n' cap') (L++M).length ((L++M).flatMap enc)->w.grownBy w' v.ownBlock->K (a.put o.dst (.slice A' n' cap')) w'):
  if Region.wanted o (yielded ops a.tmps)=true then Oper.wp Tryz.prog o a w K Q else E:=by
 have hw:Region.wanted o (yielded ops a.tmps)=true:=by simp[Region.wanted,hgd]
 rw[if_pos hw]
 obtain⟨A',cap',w',hrun,r2,r3⟩:=Aiw w t o.type e i z bytes ht hi hz hsize hby hzs hk base v L hown xv M hM hC hl h1 h63 hbytes hbase
 unfold Oper.wp execOp
 simp only[hop,resolve,invoke,builtin,Sem.run_bind,Sem.run_pure,Result.andThen_ok,List.map_toArray,List.map_cons,List.map_nil,hs,hx,hrun]
 exact hK A' _ cap' w' rfl r2 r3
end
end Go.Proofs.YtkebjgebkneijaaGreat
