/- Texts of one's own that a claim's last text rests on: Dr1 Dr2 NoP4 NoP5 NoP6 NoP7 NoP8 NoP9 NoP10 NoP11. -/
import Derived.Test.YtkebjgebkneijaaGreatMG15
import Derived.Test.YtkebjgebkneijaaGreatMG13
import Derived.Test.YtkebjgebkneijaaGreatMG19
import Derived.Test.YtkebjgebkneijaaGreatMG8
import Derived.Test.YtkebjgebkneijaaGreatMG12
set_option linter.unusedVariables false
set_option linter.unusedSimpArgs false
namespace Go.Proofs.YtkebjgebkneijaaGreat
open Go.RowKit
set_option maxHeartbeats 16000000
set_option maxRecDepth 1000000
def Sy(ob:Nat)(c:Ad)(r:ResV):Array Value:=#[.pointer (some ⟨ob,0,none⟩),.int .i64 c.kind,.int .i64 c.core,.int .i64 c.fd,.int .i64 c.off,.int .i64 c.num,.string c.path,.string c.path2,.string c.data,.int .i64 r.code,.int .i64 r.fd,.int .i64 r.num,.bool r.dir,.string r.data,Value.slice r.na r.nl r.nc]
structure Doer (W:World) (base ob db:Nat) (c:Ad) (r:ResV) (iv ov mv:Value) (Iv:List InV) (S:St):Prop where
 ob_:base<=ob
 db_:base<=db
 o:Blk W ob 30 #[iv,ov,mv]
 d:Blk W db 88 (Sy ob c r)
 st:StO W base iv ov mv Iv S
namespace Doer
variable{W W':World}{base ob db:Nat}{c:Ad}{r:ResV}{iv ov mv:Value}{Iv:List InV}{S:St}
theorem bs(h:Doer W base ob db c r iv ov mv Iv S):base<=W.heap.size:=Nat.le_of_lt (Nat.lt_of_le_of_lt h.ob_ h.o.lt)
theorem below(h:Doer W base ob db c r iv ov mv Iv S)(hb:Below W.heap.size W W'):Doer W' base ob db c r iv ov mv Iv S:=
 ⟨h.ob_,h.db_,Blk.of_heap (hb.block _ h.o.lt) h.o,Blk.of_heap (hb.block _ h.d.lt) h.d,h.st.below hb⟩
theorem stm(h:Doer W base ob db c r iv ov mv Iv S):StM W iv ov mv (fun i=>(Iv.getD i (Ds,.int .i64 0)).2) S:=h.st.stv.stm
theorem row(h:Doer W base ob db c r iv ov mv Iv S)(hn:0<S.inodes.length): ∃g cap cs,iv= .slice (some ⟨g,0,none⟩) S.inodes.length cap/\base<=g/\Blk W g 93 cs/\S.inodes.length<=cap:=by
 have hl:Iv.length=S.inodes.length:=by rw[<-h.st.len,List.length_map]
 rcases h.st.ino.2 with⟨-,q⟩ | ⟨g,cap,cur,hv,hb,hh,h1,-⟩
 ·omega
 ·rw[hl]at hv h1
  exact⟨g,cap,cur,hv,hb,hh,h1⟩
end Doer
def Bo(S:St)(p:ByteArray):Except Int (Nat×ByteArray):=match Au p with
 | .err k=>.error (Jh k)
 | .ok ns=>match ns.getLast? with
  | none=>.error 9
  | some nm=>if(Ao S ns.dropLast 0).2=0 then(if S.dir (Ao S ns.dropLast 0).1.toNat=true then .ok ((Ao S ns.dropLast 0).1.toNat,nm)else .error 7)else .error (Ao S ns.dropLast 0).2
def Aj5(g:Nat)(e:Ending):Except Int (Nat×ByteArray)->Prop
 | .error k=>e=Cg k
 | .ok (k,nm)=>e= .returned (.tuple #[.pointer (some ⟨g,k*4,none⟩),.string nm])
theorem Cy{S:St}(hI:Inv S){p:ByteArray}{k:Nat}{nm:ByteArray}(h:Bo S p= .ok (k,nm)):k<S.inodes.length/\S.dir k=true:=by
 unfold Bo at h
 split at h
 ·cases h
 ·rename_i ns hp
  split at h
  ·cases h
  ·split at h
   ·rename_i h0
    split at h
    ·rename_i hd
     obtain⟨j,hj,e⟩:=Fy hI.ord ns.dropLast 0 hI.pos h0
     injection h with h
     injection h with h1 h2
     rw[e]at h1 hd
     simp only[Int.toNat_natCast]at h1 hd
     subst h1
     exact⟨hj,hd⟩
    ·cases h
   ·cases h
theorem Dy{W:World}{base ob db g icap:Nat}{c:Ad}{r:ResV}{ov mv:Value}{Iv:List InV}{S:St}(h:Doer W base ob db c r (.slice (some ⟨g,0,none⟩) S.inodes.length icap) ov mv Iv S)(hI:Inv S){p:ByteArray}(hp:p.size<=4611686018427387904):
  Calls Tryz.prog 115 #[.pointer (some ⟨db,0,none⟩),.string p] W fun e w'=>Aj5 g e (Bo S p)/\Below W.heap.size W w':=by
 have HS:=lhi h.stm
 have HI:=lhi hI
 have HD:=lhi h.d
 have HOB:=lhi h.o
 cases hpr:Au p with
 | err k=>
  have HPS:=lhi (Ro hp W hpr (Jr hpr))
  have HR:Bo S p= .error (Jh k):=by unfold Bo;rw[hpr]
  rw[HR]
  clear hpr h hI HR
  go_enter Tryz.func115,Tryz.ntmps115
  go_wp2_with (go_at_call 171;refine HPS.out.mono ?_;rintro e w1 ⟨rfl,hb1⟩)
  exact⟨rfl,rfl,hb1⟩
 | ok ns=>
  have HPS:=lhi (Ot hp W hpr)
  have hnl:=Ho hpr
  rcases(show ns=[]∨ ∃l nm,ns=l++[nm]from by
   rcases List.eq_nil_or_concat ns with h | ⟨l,nm,h⟩
   ·exact .inl h
   ·exact .inr ⟨l,nm,by rw[h,List.concat_eq_append]⟩)with rfl | ⟨l,nm,rfl⟩
  ·have HR:Bo S p= .error 9:=by unfold Bo;rw[hpr];rfl
   rw[HR]
   clear hpr h hI HR
   go_enter Tryz.func115,Tryz.ntmps115
   go_wp2_with (first
    | (go_at_call 171;refine HPS.out.mono ?_;rintro e w1 ⟨⟨v,rfl,hv,-⟩,hb1⟩;obtain⟨NA,ncap,rfl,-,-⟩:=hv.at';clear hv;simp only[List.length_nil]at*)
    | (go_at_call 116;refine(Al _ _).mono ?_;rintro e w2 ⟨rfl,rfl⟩))
   exact⟨rfl,rfl,hb1⟩
  ·have HR:Bo S p=if(Ao S l 0).2=0 then(if S.dir (Ao S l 0).1.toNat=true then .ok ((Ao S l 0).1.toNat,nm)else .error 7)else .error (Ao S l 0).2:=by
    unfold Bo
    rw[hpr]
    simp
   rw[HR]
   have HWA:=lhi (Fy hI.ord l 0 hI.pos)
   have hll:l.length<=1000:=by simp at hnl;omega
   clear hpr h hI HR hnl
   obtain⟨wp,hwp⟩: ∃q,Ao S l 0=q:=⟨_,rfl⟩
   have HWK:=lhi (fun(V:World) (NA:Option Addr) (ncap:Nat) (hv:Ak V (.slice NA l.length ncap) l.length 1 (nmC l)) (hb:Below W.heap.size W V)=>Gb (w:=V) (sp:=ob) (HS.out.keep hb) HI.out.ord HI.out.pos ((hb.cell (p:=⟨ob,0,none⟩) HOB.out.lt).trans (HOB.out.cell 0)) hv hll)
   rw[hwp]at HWK HWA⊢
   obtain⟨wa,wb⟩:=wp
   clear hwp
   obtain⟨RES,hres⟩: ∃R,(if wb=0 then(if S.dir wa.toNat=true then Except.ok (wa.toNat,nm)else Except.error 7)else Except.error wb:Except Int (Nat×ByteArray))=R:=⟨_,rfl⟩
   have HRES:=lhi hres
   rw[hres]
   clear hres
   go_enter Tryz.func115,Tryz.ntmps115
   go_upto_region 2 with(go_at_call 171;refine HPS.out.mono ?_;rintro e w1 ⟨⟨v,rfl,hv,-⟩,hb1⟩;obtain⟨NA,ncap,rfl,-,-⟩:=RowT.at' hv)
   rw[show(l++[nm]).length=l.length+1 by simp]at hv
   obtain⟨ng,noff,ncs,rfl,hncap,hblk,hinit,hlast⟩:=Ac2 hv
   have HIN:=lhi hinit
   have HB1:=lhi hb1
   have HNL:=lhi hlast
   have HNB:=lhi hblk
   have HWK1:=lhi (fun(V:World) (hb:Below w1.heap.size w1 V)=>HWK.out V _ ncap (hinit.at'.keep hb) (hb1.trans (hb.mono hb1.size)))
   clear hv hb1 hblk hinit hlast
   obtain⟨k,hk⟩:=xx l.length
   rw[hk]at HIN HNL HWK1 hncap hll⊢
   have e0:(((k+1:Nat):Int)==0)=false:=by rw[beq_eq_false_iff_ne];omega
   have hk0:(0:Int)<= (k:Int):=by omega
   have ek:((k+1:Nat):Int) - 1=(k:Int):=by omega
   go_upto_region 4 with(go_at_call 116;refine(Ar _ _).mono ?_;rintro e w' ⟨rfl,rfl⟩)
   have x0: ∀x:WIn (Bel w1),x.v.cell? ⟨db,0,none⟩=some (.pointer (some ⟨ob,0,none⟩)):=fun x=>x.cell ((HB1.out.cell (p:=⟨db,0,none⟩) HD.out.lt).trans (HD.out.cell 0))
   have HWX:=lhi (fun x:WIn (Bel w1)=>HWK1.out x.v x.h)
   refine Be (C:=Bel w1) (by kernel_rfl) (by kernel_rfl) (Bel.drew w1) ?_
   repeat (go_big_quiet_step (first | (go_at_call 45;exact Calls.bel _ (HWX.out _))))
   refine wpQuiet_nil ?_
   rintro w2 ⟨⟨w2',hb2⟩,hw⟩
   obtain rfl:w2=w2':=hw
   have HB2:=lhi hb2
   have HBW:=lhi (HB1.out.trans (hb2.mono HB1.out.size))
   clear hb2 x0
   by_cases h0:wb=0
   ·subst h0
    obtain⟨j,hj,rfl⟩:=HWA.out rfl
    have HOJ:=lhi (HBW.out.cell (p:=⟨ob,0,none⟩) HOB.out.lt)
    have d0:w2.cell? ⟨db,0,none⟩=some (.pointer (some ⟨ob,0,none⟩)):=(HBW.out.cell (p:=⟨db,0,none⟩) HD.out.lt).trans (HD.out.cell 0)
    have o0:w2.cell? ⟨ob,0,none⟩=some (.slice (some ⟨g,0,none⟩) S.inodes.length icap):=HOJ.out.trans (HOB.out.cell 0)
    have n0:w2.cell? ⟨ng,noff+k,none⟩=some (.string nm):=(HB2.out.cell (Amd _ _ HNL.out)).trans HNL.out
    have q1:w2.cell? ⟨g,j*4+1,none⟩=some (.bool (S.dir j)):=by
     obtain⟨-,-,g',off,hA,hcell⟩:=(HS.out.ino.keep HBW.out).at_ hj
     injection hA with hA
     injection hA with e1 e2
     subst e1 e2
     have:=hcell 1 (by omega)
     rw[Nat.zero_add]at this
     exact this
    have hj1:(j:Int)<S.inodes.length:=by omega
    have hkk:(k:Int)< (k:Int)+1:=by omega
    cases hd:S.dir j with
    | false=>
     rw[hd]at q1
     obtain rfl:RES= .error 7:=by rw[<-HRES.out,if_pos rfl,if_neg (by rw[Int.toNat_natCast,hd];decide)]
     clear HRES
     go_upto_region 6 with(go_at_call 116;refine(Ar _ _).mono ?_;rintro e w' ⟨rfl,rfl⟩)
     go_wp2_with (go_at_call 116;refine(Al _ _).mono ?_;rintro e w' ⟨rfl,rfl⟩)
     exact⟨rfl,rfl,HBW.out⟩
    | true=>
     rw[hd]at q1
     obtain rfl:RES= .ok (j,nm):=by rw[<-HRES.out,if_pos rfl,if_pos (by rw[Int.toNat_natCast];exact hd),Int.toNat_natCast]
     clear HRES
     go_upto_region 6 with(go_at_call 116;refine(Ar _ _).mono ?_;rintro e w' ⟨rfl,rfl⟩)
     go_upto_region 7 with(go_at_call 116;refine(Ar _ _).mono ?_;rintro e w' ⟨rfl,rfl⟩)
     go_region
     go_wp2_with (fail)
     go_ret2
     exact⟨rfl,HBW.out.trans ((Ae w2).mono HBW.out.size)⟩
   ·obtain rfl:RES= .error wb:=by rw[<-HRES.out,if_neg h0]
    have h1:(wb != 0)=true:=by rw[bne_iff_ne];exact h0
    go_wp2_with (go_at_call 116;refine(Al _ _).mono ?_;rintro e w' ⟨rfl,rfl⟩)
    exact⟨rfl,rfl,HBW.out⟩
def cntF(es:List (ByteArray×Int))(s but:ByteArray)(k:Nat):Nat:=((es.take k).filter fun e=>!decide (e.1=but)&& (Aa e.1==Aa s)).length
def Gn(es:List (ByteArray×Int))(s but:ByteArray):Bool:=decide (4<=cntF es s but es.length)
theorem Afb{es:List (ByteArray×Int)}{s but:ByteArray}{k:Nat}(hk:k<es.length):cntF es s but (k+1)=cntF es s but k+if(!decide (enmL es k=but)&& (Aa (enmL es k)==Aa s))=true then 1 else 0:=by
 unfold cntF
 rw[Uc es (ByteArray.empty,0) hk,List.filter_append,Ami]
 congr 1
 show([es.getD k (ByteArray.empty,0)].filter _).length=if(!decide ((es.getD k (ByteArray.empty,0)).1=but)&& (Aa (es.getD k (ByteArray.empty,0)).1==Aa s))=true then 1 else 0
 rw[List.filter_cons]
 split <;> simp_all
theorem Ajw(es:List (ByteArray×Int))(s but:ByteArray)(k:Nat):cntF es s but k<=k:=by
 unfold cntF
 refine Aml (List.length_filter_le _ _) ?_
 rw[List.length_take]
 omega
theorem Mo{W:World}{g o:Nat}{ev:Value}{es:List (ByteArray×Int)}(hc:W.cell? ⟨g,o+2,none⟩=some ev)(he:Ak W ev es.length 2 (entL es))(hn:es.length<=1000)(s but:ByteArray):
  Calls Tryz.prog 117 #[.pointer (some ⟨g,o,none⟩),.string s,.string but] W fun e w'=>e= .returned (.bool (Gn es s but))/\Below W.heap.size W w':=by
 have HE:=lhi he
 obtain⟨EA,ecap,rfl,-,-⟩:=he
 obtain⟨n,hnn⟩:=xx es.length
 have HN:=lhi hnn
 rw[hnn]at hc hn HE
 clear hnn
 obtain⟨RES,hres⟩: ∃R,Gn es s but=R:=⟨_,rfl⟩
 have HF:=lhi (show∀N,cntF es s but n=N->RES=decide (4<=N)from fun N h=>by rw[<-hres];unfold Gn;rw[HN.out,h])
 rw[hres]
 clear hres
 go_enter Tryz.func117,Tryz.ntmps117
 go_wp2_with (fail)
 go_loopw [15,7] (fun i q wr=>∃k:Nat,i= .int .i64 k/\q= .int .i64 (cntF es s but k)/\k<=n/\Below W.heap.size W wr) (fun i _ _=>n - (intOf i).toNat)
 case atStart=>exact⟨0,rfl,rfl,by omega,Amf _ _⟩
 case round=>
  obtain⟨k,rfl,rfl,hk,hb⟩:=hrel
  have HB:=lhi hb
  have hck:=Ajw es s but k
  by_cases hp:k<n
  ·have hp1:(k:Int)<n:=by omega
   obtain⟨-,-,eg,eoff,rfl,hcell⟩:=(HE.out.keep hb).at_ hp
   have q0:wr.cell? ⟨eg,eoff+k*2,none⟩=some (.string (enmL es k)):=hcell 0 (by omega)
   have q1:wr.cell? ⟨eg,eoff+k*2+1,none⟩=some (.int .i64 (enuL es k)):=hcell 1 (by omega)
   have HS:=lhi (Afb (s:=s) (but:=but) (show k<es.length by rw[HN.out];exact hp))
   clear hcell hb
   obtain⟨x,hx⟩:=xx (enmL es k)
   obtain⟨y,hy⟩:=xx (enuL es k)
   obtain⟨ck,hck2⟩: ∃c,cntF es s but k=c:=⟨_,rfl⟩
   rw[hx]at q0 HS
   rw[hy]at q1
   rw[hck2]at hck HS
   rw[hck2]
   have HEN:=lhi (Blk.new wr 132 #[.string x,.int .i64 y])
   have HBA:=lhi (HB.out.alloc HB.out.size (Obj.cells #[.string x,.int .i64 y] 132))
   have HBX:=lhi (Cj x)
   have HBS:=lhi (Cj s)
   clear hx hy hck2
   go_upto_region 5 with(fail)
   obtain⟨wy,hwy⟩:=yy (wr.alloc (Obj.cells #[.string x,.int .i64 y] 132))
   obtain⟨eb,heb⟩:=xx wr.heap.size
   rw[<-hwy]at HEN HBA⊢
   rw[heb]at HEN⊢
   clear hwy heb q0 q1
   have e0:wy.cell? ⟨eb,0,none⟩=some (.string x):=HEN.out.cell 0
   by_cases hxb:x=but
   ·subst hxb
    go_wp2_with (fail)
    go_roundw
    case rel=>exact⟨k+1,by go_num,by rw[HS.out];simp,by omega,HBA.out⟩
    case measure=>
     simp only[intOf]
     omega
   ·have l1:(x.toList==but.toList)=false:=by
     cases h:x.toList==but.toList with
     | false=>rfl
     | true=>
      have h:x.toList=but.toList:=by simpa using h
      exact absurd (toList_inj h) hxb
    by_cases hbs:Aa x=Aa s
    ·have d:(((Aa x:Nat):Int)==((Aa s:Nat):Int))=true:=by rw[beq_iff_eq];omega
     have hc1:cntF es s but (k+1)=ck+1:=by rw[HS.out];simp[hxb,hbs]
     go_wp2_with (go_at_call 62;first | (refine(HBX.out _).mono ?_;rintro e w5 ⟨rfl,hb5⟩) | (refine(HBS.out _).mono ?_;rintro e w6 ⟨rfl,hb6⟩))
     go_roundw
     case rel=>exact⟨k+1,by go_num,by rw[hc1];go_num,by omega,HBA.out.trans ((hb5.mono HBA.out.size).trans (hb6.mono (Aml HBA.out.size hb5.size)))⟩
     case measure=>
      simp only[intOf]
      omega
    ·have d:(((Aa x:Nat):Int)==((Aa s:Nat):Int))=false:=by rw[beq_eq_false_iff_ne];omega
     have hc1:cntF es s but (k+1)=ck:=by rw[HS.out];simp[hxb,hbs]
     go_wp2_with (go_at_call 62;first | (refine(HBX.out _).mono ?_;rintro e w5 ⟨rfl,hb5⟩) | (refine(HBS.out _).mono ?_;rintro e w6 ⟨rfl,hb6⟩))
     go_roundw
     case rel=>exact⟨k+1,by go_num,by rw[hc1],by omega,HBA.out.trans ((hb5.mono HBA.out.size).trans (hb6.mono (Aml HBA.out.size hb5.size)))⟩
     case measure=>
      simp only[intOf]
      omega
  ·have e:k=n:=by omega
   subst e
   obtain⟨N,hN⟩:=xx (cntF es s but k)
   have HR:=lhi (HF.out N hN)
   rw[hN]
   have hd:decide ((4:Int)<= (N:Int))=decide (4<=N):=by
    by_cases q:4<=N
    ·rw[decide_eq_true q,decide_eq_true (by omega)]
    ·rw[decide_eq_false q,decide_eq_false (by omega)]
   clear hN hck
   go_wp2_with (fail)
   go_ret
   exact⟨by rw[HR.out];rfl,HB.out⟩
def Gm{A:Type}(lt:A->A->Bool)(p:A):List A->List A
 | []=>[p]
 | e::l=>if lt p e=true then p::e::l else e::Gm lt p l
section
variable{A:Type}{lt:A->A->Bool}{p:A}
theorem Hn: ∀l:List A,(Gm lt p l).Perm (p::l)
 | []=>.rfl
 | e::l=>by
  unfold Gm
  split
  ·exact .rfl
  ·exact((Hn l).cons e).trans (List.Perm.swap ..)
theorem Iw{l:List A}{y:A}:y∈Gm lt p l↔y=p∨y∈l:=by
 rw[(Hn l).mem_iff,List.mem_cons]
theorem Js{R:A->A->Prop}(ht: ∀a b c,R a b->R b c->R a c): ∀{l:List A},l.Pairwise R->(∀e∈l,lt p e=true->R p e)->(∀e∈l,lt p e=false->R e p)->(Gm lt p l).Pairwise R
 | [],_,_,_=>List.pairwise_singleton ..
 | e::l,h,h1,h2=>by
  obtain⟨ha,hb⟩:=List.pairwise_cons.1 h
  unfold Gm
  by_cases q:lt p e=true
  ·rw[if_pos q]
   refine List.pairwise_cons.2 ⟨fun y hy=>?_,h⟩
   have hpe:=h1 e (Amb ..) q
   rcases List.mem_cons.1 hy with rfl | hy
   ·exact hpe
   ·exact ht _ _ _ hpe (ha y hy)
  ·rw[if_neg q]
   refine List.pairwise_cons.2 ⟨fun y hy=>?_,Js ht hb (fun e he=>h1 e (Amc _ he)) fun e he=>h2 e (Amc _ he)⟩
   rcases Iw.1 hy with rfl | hy
   ·exact h2 e (Amb ..) (by simpa using q)
   ·exact ha y hy
theorem Si{a:A}{l:List A}(h:lt p a=false):Gm lt p (a::l)=a::Gm lt p l:=by
 show(if lt p a=true then _ else _)=_
 rw[if_neg (by simp[h])]
end
theorem Re{h h':Ino->Nat}{d:Int}: ∀{l:List Ino},l.Pairwise (fun x y=>x.num<y.num)-> ∀{x0:Ino},x0∈l->x0.num=d->(∀x∈l,x.num≠d->h' x=h x)->(l.map h').sum+h x0=(l.map h).sum+h' x0
 | [],_,_,hx,_,_=>by cases hx
 | x::l,hp,x0,hx,hd,hh=>by
  obtain⟨ha,hb⟩:=List.pairwise_cons.1 hp
  simp only[List.map_cons,List.sum_cons]
  rcases List.mem_cons.1 hx with rfl | hx
  ·have:l.map h'=l.map h:=List.map_congr_left fun y hy=>hh y (Amc _ hy) (by have:=ha y hy;omega)
   rw[this];omega
  ·have h1:=hh x (Amb ..) (by have:=ha x0 hx;omega)
   have ih:=Re hb hx hd fun y hy=>hh y (Amc _ hy)
   rw[h1];omega
theorem Gg(S:St)(y:Int):(Bp S).count y=(S.inodes.map fun x=>(Aw x).count y).sum:=by
 unfold Bp
 rw[List.count_flatMap];rfl
def Eh(S:St)(d:Int)(f:Ino->Ino):St:={S with inodes:=S.inodes.map fun x=>if x.num=d then f x else x}
def setD(S:St)(d:Int)(b:ByteArray):St:=Eh S d fun x=>{x with data:=b}
def setE(S:St)(d:Int)(L:List (ByteArray×Int)):St:=Eh S d fun x=>{x with ents:=L}
theorem Dz{S:St}{d:Int}{f:Ino->Ino}{y:Ino}:y∈(Eh S d f).inodes↔ ∃x∈S.inodes,(if x.num=d then f x else x)=y:=by
 unfold Eh
 exact List.mem_map
theorem Ip{S:St}{d:Int}{f:Ino->Ino}(hf: ∀x,(f x).num=x.num)(h:S.inodes.Pairwise (fun x y=>x.num<y.num)):(Eh S d f).inodes.Pairwise (fun x y=>x.num<y.num):=by
 unfold Eh
 rw[List.pairwise_map]
 refine h.imp fun {x y} hxy=>?_
 have e: ∀x:Ino,(if x.num=d then f x else x).num=x.num:=fun x=>by
  split
  ·exact hf x
  ·rfl
 rw[e,e];exact hxy
theorem Im{S:St}{d:Int}{f:Ino->Ino}(hf: ∀x,(f x).num=x.num/\ (f x).dir=x.dir)(h: ∃x,S.inodes[0]? =some x/\x.num=1/\x.dir=true): ∃x,(Eh S d f).inodes[0]? =some x/\x.num=1/\x.dir=true:=by
 obtain⟨x,h0,h1,h2⟩:=h
 refine⟨if x.num=d then f x else x,?_,?_,?_⟩
 ·unfold Eh
  rw[List.getElem?_map,h0];rfl
 ·split
  ·rw[(hf x).1];exact h1
  ·exact h1
 ·split
  ·rw[(hf x).2];exact h2
  ·exact h2
theorem Aez{S:St}{d a y:Int}{b:ByteArray}:Edge (setD S d b) a y↔Edge S a y:=by
 unfold Edge
 constructor
 ·rintro⟨x,hx,h1,h2,h3⟩
  obtain⟨z,hz,rfl⟩:=Dz.1 hx
  refine⟨z,hz,?_⟩
  revert h1 h2 h3
  split <;> exact fun h1 h2 h3=>⟨h1,h2,h3⟩
 ·rintro⟨x,hx,h1,h2,h3⟩
  refine⟨_,Dz.2 ⟨x,hx,rfl⟩,?_⟩
  split <;> exact⟨h1,h2,h3⟩
theorem Hk{S S':St}(h: ∀a y,Edge S a y->Edge S' a y){x:Int}(hr:Fm S x):Fm S' x:=by
 induction hr with
 | root=>exact .root
 | step _ he ih=>exact .step ih (h _ _ he)
theorem Se(S:St)(d:Int)(b:ByteArray):Bp (setD S d b)=Bp S:=by
 unfold Bp setD Eh
 rw[List.flatMap_map]
 congr 1
 funext x
 unfold Aw
 split <;> rfl
theorem Inv.data{S:St}(h:Inv S){d:Int}{b:ByteArray}(hb:b.size<=256)(hf: ∃y∈S.inodes,y.num=d/\y.dir=false):Inv (setD S d b):=by
 have hE: ∀{y:Ino},y∈(setD S d b).inodes-> ∃x∈S.inodes,y.num=x.num/\y.dir=x.dir/\y.ents=x.ents/\ (y.data=x.data∨(x.num=d/\y.data=b)):=by
  intro y hy
  obtain⟨x,hx,rfl⟩:=Dz.1 hy
  refine⟨x,hx,?_⟩
  by_cases e:x.num=d
  ·rw[if_pos e];exact⟨rfl,rfl,rfl,.inr ⟨e,rfl⟩⟩
  ·rw[if_neg e];exact⟨rfl,rfl,rfl,.inl rfl⟩
 have hI: ∀{x:Ino},x∈S.inodes-> ∃y∈(setD S d b).inodes,y.num=x.num/\y.dir=x.dir:=by
  intro x hx
  refine⟨_,Dz.2 ⟨x,hx,rfl⟩,?_⟩
  split <;> exact⟨rfl,rfl⟩
 obtain⟨z,hz,hzd,hzf⟩:=hf
 refine⟨h.m1,h.m8,h.mb,Im (fun _=>⟨rfl,rfl⟩) h.root,Ip (fun _=>rfl) h.rise,?_,?_,?_,?_,?_,?_,?_,?_,?_,?_,?_,?_,h.osort⟩
 ·intro y hy;obtain⟨x,hx,e1,e2,e3,e4⟩:=hE hy;rw[e1];exact h.given x hx
 ·intro y hy hd
  obtain⟨x,hx,e1,e2,e3,e4⟩:=hE hy
  rcases e4 with e4 | ⟨e4,_⟩
  ·rw[e4];exact h.isDir x hx (e2▸hd)
  ·have:x=z:=h.ino_inj hx hz (by omega)
   subst this
   rw[e2,hzf]at hd;cases hd
 ·intro y hy hd;obtain⟨x,hx,e1,e2,e3,e4⟩:=hE hy;rw[e3];exact h.isFile x hx (e2▸hd)
 ·intro y hy
  obtain⟨x,hx,e1,e2,e3,e4⟩:=hE hy
  rcases e4 with e4 | ⟨_,e4⟩
  ·rw[e4];exact h.dat x hx
  ·rw[e4];exact hb
 ·intro y hy;obtain⟨x,hx,e1,e2,e3,e4⟩:=hE hy;rw[e3];exact h.nam x hx
 ·intro y hy e he
  obtain⟨x,hx,e1,e2,e3,e4⟩:=hE hy
  rw[e3]at he
  obtain⟨g1,q,hq,g2⟩:=h.goal x hx e he
  obtain⟨q2,hq2,e5,-⟩:=hI hq
  exact⟨g1,q2,hq2,e5.trans g2⟩
 ·intro y hy;obtain⟨x,hx,e1,e2,e3,e4⟩:=hE hy;rw[e3];exact h.up x hx
 ·intro y hy;obtain⟨x,hx,e1,e2,e3,e4⟩:=hE hy;rw[e3];exact h.slots x hx
 ·intro y hy hd;obtain⟨x,hx,e1,e2,e3,e4⟩:=hE hy;rw[e1,Se];exact h.one x hx (e2▸hd)
 ·intro y hy hd;obtain⟨x,hx,e1,e2,e3,e4⟩:=hE hy;rw[e1];exact Hk (fun a y q=>Aez.2 q) (h.reach x hx (e2▸hd))
 ·intro y hy hd;obtain⟨x,hx,e1,e2,e3,e4⟩:=hE hy;rw[e1,Se];exact h.file x hx (e2▸hd)
 ·intro o ho
  obtain⟨h1,h2,h3,h4,q,hq,h5,h6⟩:=h.ok o ho
  obtain⟨q2,hq2,e5,e6⟩:=hI hq
  exact⟨h1,h2,h3,h4,q2,hq2,e5.trans h5,e6.trans h6⟩
def ltO(a b:Int×Int×Int):Bool:=decide (a.1<b.1)|| (a.1==b.1&&decide (a.2.1<b.2.1))
def Ac8(S:St)(o:Int×Int×Int):St:={S with opens:=Gm ltO o S.opens}
theorem Inv.grab{S:St}(h:Inv S){o:Int×Int×Int}(h1:0<=o.1)(h2:o.1<S.made.length)(h3:0<=o.2.1)(h4:o.2.1<4)(h5: ∃y∈S.inodes,y.num=o.2.2/\y.dir=false)(h6: ∀q∈S.opens,¬ (q.1=o.1/\q.2.1=o.2.1)):Inv (Ac8 S o):=by
 refine⟨h.m1,h.m8,h.mb,h.root,h.rise,h.given,h.isDir,h.isFile,h.dat,h.nam,h.goal,h.up,h.slots,h.one,fun x hx hd=>Hk (S:=S) (S':=Ac8 S o) (fun _ _ q=>q) (h.reach x hx hd),fun x hx hd=>?_,fun q hq=>?_,?_⟩
 ·rcases h.file x hx hd with q | ⟨q,hq,e⟩
  ·exact .inl q
  ·exact .inr ⟨q,Iw.2 (.inr hq),e⟩
 ·rcases Iw.1 hq with rfl | hq
  ·exact⟨h1,h2,h3,h4,h5⟩
  ·exact h.ok q hq
 ·refine Js (fun a b c hab hbc=>?_) h.osort (fun e _ hl=>?_) fun e he hl=>?_
  ·rcases hab with q | ⟨q,q2⟩ <;> rcases hbc with q3 | ⟨q3,q4⟩ <;> omega
  ·unfold ltO at hl
   simp at hl
   omega
  ·unfold ltO at hl
   have h7:=h6 e he
   simp at hl
   omega
section
variable{S:St}{d:Int}{L:List (ByteArray×Int)}
theorem He{x0:Ino}(hx:x0∈S.inodes)(hd:x0.num=d)(hdir:x0.dir=true){a y:Int}:Edge (setE S d L) a y↔(a≠d/\Edge S a y)∨(a=d/\ ∃e∈L,e.2=y):=by
 unfold Edge
 constructor
 ·rintro⟨x,hx1,h1,h2,e,he,h3⟩
  obtain⟨z,hz,rfl⟩:=Dz.1 hx1
  by_cases q:z.num=d
  ·rw[if_pos q]at h1 h2 he
   exact .inr ⟨h1.symm.trans q,e,he,h3⟩
  ·rw[if_neg q]at h1 h2 he
   exact .inl ⟨fun e2=>q (h1.trans e2),z,hz,h1,h2,e,he,h3⟩
 ·rintro(⟨q,x,hx1,h1,h2,h3⟩ | ⟨rfl,e,he,h3⟩)
  ·exact⟨_,Dz.2 ⟨x,hx1,rfl⟩,by rw[if_neg (by omega)];exact h1,by rw[if_neg (by omega)];exact h2,by rw[if_neg (by omega)];exact h3⟩
  ·exact⟨_,Dz.2 ⟨x0,hx,rfl⟩,by rw[if_pos hd];exact hd,by rw[if_pos hd];exact hdir,by rw[if_pos hd];exact⟨e,he,h3⟩⟩
theorem Mr(h:Inv S){x0:Ino}(hx:x0∈S.inodes)(hd:x0.num=d)(hdir:x0.dir=true)(y:Int):(Bp (setE S d L)).count y+ (x0.ents.map (·.2)).count y=(Bp S).count y+ (L.map (·.2)).count y:=by
 rw[Gg,Gg]
 have e:((setE S d L).inodes.map fun x=>(Aw x).count y)=S.inodes.map fun x=>(Aw (if x.num=d then {x with ents:=L}else x)).count y:=by
  unfold setE Eh
  rw[List.map_map];rfl
 rw[e]
 have h1:=Re (h:=fun x=>(Aw x).count y) (h':=fun x=>(Aw (if x.num=d then {x with ents:=L}else x)).count y) h.rise hx hd (fun x _ q=>by simp only[if_neg q])
 have e1:Aw x0=x0.ents.map (·.2):=by unfold Aw;rw[if_pos hdir]
 have e2:Aw (if x0.num=d then {x0 with ents:=L}else x0)=L.map (·.2):=by
  rw[if_pos hd];unfold Aw;rw[if_pos (show({x0 with ents:=L}:Ino).dir=true from hdir)]
 rw[e1,e2]at h1
 exact h1
theorem Ax{y:Ino}(hy:y∈(setE S d L).inodes): ∃x∈S.inodes,y.num=x.num/\y.dir=x.dir/\y.data=x.data/\ ((x.num≠d/\y.ents=x.ents)∨(x.num=d/\y.ents=L)):=by
 obtain⟨x,hx,rfl⟩:=Dz.1 hy
 refine⟨x,hx,?_⟩
 by_cases e:x.num=d
 ·rw[if_pos e];exact⟨rfl,rfl,rfl,.inr ⟨e,rfl⟩⟩
 ·rw[if_neg e];exact⟨rfl,rfl,rfl,.inl ⟨e,rfl⟩⟩
theorem Hv{x:Ino}(hx:x∈S.inodes): ∃y∈(setE S d L).inodes,y.num=x.num/\y.dir=x.dir:=by
 refine⟨_,Dz.2 ⟨x,hx,rfl⟩,?_⟩
 split <;> exact⟨rfl,rfl⟩
theorem Inv.setE_(h:Inv S){x0:Ino}(hx:x0∈S.inodes)(hd:x0.num=d)(hdir:x0.dir=true)
  (hn: ∀e∈L,Bu e.1=0) (hu:L.Pairwise (fun a b=>nlt a.1 b.1=true)) (hs: ∀q,(L.filter fun e=>Aa e.1==q).length<=4)
  (hg: ∀e∈L,e.2≠1/\ ∃y∈S.inodes,y.num=e.2)
  (h1: ∀x∈S.inodes,x.dir=true->x.num≠1->(Bp (setE S d L)).count x.num=1)
  (h2: ∀x∈S.inodes,x.dir=true->Fm (setE S d L) x.num)
  (h3: ∀x∈S.inodes,x.dir=false->x.num∈Bp (setE S d L)∨ ∃o∈S.opens,o.2.2=x.num):Inv (setE S d L):=by
 refine⟨h.m1,h.m8,h.mb,Im (fun _=>⟨rfl,rfl⟩) h.root,Ip (fun _=>rfl) h.rise,?_,?_,?_,?_,?_,?_,?_,?_,?_,?_,?_,?_,h.osort⟩
 ·intro y hy;obtain⟨x,hx,e1,e2,e3,e4⟩:=Ax hy;rw[e1];exact h.given x hx
 ·intro y hy hd;obtain⟨x,hx,e1,e2,e3,e4⟩:=Ax hy;rw[e3];exact h.isDir x hx (e2▸hd)
 ·intro y hy hf
  obtain⟨x,hx1,e1,e2,e3,e4⟩:=Ax hy
  rcases e4 with⟨-,e4⟩ | ⟨e4,-⟩
  ·rw[e4];exact h.isFile x hx1 (e2▸hf)
  ·have:x=x0:=h.ino_inj hx1 hx (by omega)
   subst this
   rw[e2,hdir]at hf;cases hf
 ·intro y hy;obtain⟨x,hx,e1,e2,e3,e4⟩:=Ax hy;rw[e3];exact h.dat x hx
 ·intro y hy
  obtain⟨x,hx,e1,e2,e3,e4⟩:=Ax hy
  rcases e4 with⟨-,e4⟩ | ⟨-,e4⟩
  ·rw[e4];exact h.nam x hx
  ·rw[e4];exact hn
 ·intro y hy e he
  obtain⟨x,hx,e1,e2,e3,e4⟩:=Ax hy
  have hk:e.2≠1/\ ∃y∈S.inodes,y.num=e.2:=by
   rcases e4 with⟨-,e4⟩ | ⟨-,e4⟩
   ·rw[e4]at he;exact h.goal x hx e he
   ·rw[e4]at he;exact hg e he
  obtain⟨k1,q,hq,k2⟩:=hk
  obtain⟨q2,hq2,e5,-⟩:=Hv (d:=d) (L:=L) hq
  exact⟨k1,q2,hq2,e5.trans k2⟩
 ·intro y hy
  obtain⟨x,hx,e1,e2,e3,e4⟩:=Ax hy
  rcases e4 with⟨-,e4⟩ | ⟨-,e4⟩
  ·rw[e4];exact h.up x hx
  ·rw[e4];exact hu
 ·intro y hy
  obtain⟨x,hx,e1,e2,e3,e4⟩:=Ax hy
  rcases e4 with⟨-,e4⟩ | ⟨-,e4⟩
  ·rw[e4];exact h.slots x hx
  ·rw[e4];exact hs
 ·intro y hy hd;obtain⟨x,hx,e1,e2,e3,e4⟩:=Ax hy;rw[e1];exact h1 x hx (e2▸hd)
 ·intro y hy hd;obtain⟨x,hx,e1,e2,e3,e4⟩:=Ax hy;rw[e1];exact h2 x hx (e2▸hd)
 ·intro y hy hd;obtain⟨x,hx,e1,e2,e3,e4⟩:=Ax hy;rw[e1];exact h3 x hx (e2▸hd)
 ·intro o ho
  obtain⟨h1,h2,h3,h4,q,hq,h5,h6⟩:=h.ok o ho
  obtain⟨q2,hq2,e5,e6⟩:=Hv (d:=d) (L:=L) hq
  exact⟨h1,h2,h3,h4,q2,hq2,e5.trans h5,e6.trans h6⟩
end
def ltE(a b:ByteArray×Int):Bool:=nlt a.1 b.1
def insE(p:ByteArray×Int)(L:List (ByteArray×Int)):List (ByteArray×Int):=Gm ltE p L
def Et(nm:ByteArray)(L:List (ByteArray×Int)):List (ByteArray×Int):=L.filter fun e=>!decide (e.1=nm)
theorem Wc{p:ByteArray×Int}{L:List (ByteArray×Int)}(h:L.Pairwise (fun a b=>nlt a.1 b.1=true))(hp: ∀e∈L,e.1≠p.1):(insE p L).Pairwise (fun a b=>nlt a.1 b.1=true):=
 Js (lt:=ltE) (p:=p) (R:=fun a b:ByteArray×Int=>nlt a.1 b.1=true) (fun _ _ _=>Ep) h (fun _ _ q=>q) fun e he q=>by
  rcases Qh p.1 e.1 with q2 | q2 | q2
  ·rw[show nlt p.1 e.1=false from q]at q2;cases q2
  ·exact absurd q2.symm (hp e he)
  ·exact q2
theorem Mm{p:ByteArray×Int}{L:List (ByteArray×Int)}(h: ∀q,(L.filter fun e=>Aa e.1==q).length<=4)(hp:(L.filter fun e=>Aa e.1==Aa p.1).length<4)(q:Nat):((insE p L).filter fun e=>Aa e.1==q).length<=4:=by
 unfold insE
 rw[((Hn L).filter _).length_eq,List.filter_cons]
 by_cases e:Aa p.1=q
 ·subst e
  rw[if_pos (by simp)]
  simp only[List.length_cons]
  omega
 ·rw[if_neg (by simpa using e)]
  exact h q
theorem Eg{p e:ByteArray×Int}{L:List (ByteArray×Int)}:e∈insE p L↔e=p∨e∈L:=Iw
theorem Ms(p:ByteArray×Int)(L:List (ByteArray×Int))(y:Int):((insE p L).map (·.2)).count y=(L.map (·.2)).count y+if p.2=y then 1 else 0:=by
 unfold insE
 rw[((Hn L).map _).count_eq,List.map_cons,List.count_cons]
 congr 1
 by_cases e:p.2=y
 ·rw[if_pos e,if_pos (by simpa using e)]
 ·rw[if_neg e,if_neg (by simpa using e)]
section
variable{S:St}{d:Int}
theorem Inv.link(h:Inv S){x0:Ino}(hx:x0∈S.inodes)(hd:x0.num=d)(hdir:x0.dir=true){p:ByteArray×Int}(hn:Bu p.1=0)(hp: ∀e∈x0.ents,e.1≠p.1)
  (hs:(x0.ents.filter fun e=>Aa e.1==Aa p.1).length<4) (hf: ∃y∈S.inodes,y.num=p.2/\y.dir=false):Inv (setE S d (insE p x0.ents)):=by
 obtain⟨z,hz,hz1,hz2⟩:=hf
 have hE: ∀a y,Edge S a y->Edge (setE S d (insE p x0.ents)) a y:=by
  intro a y he
  rw[He hx hd hdir]
  by_cases q:a=d
  ·obtain⟨x,hx1,h1,h2,e,he,h3⟩:=he
   have:x=x0:=h.ino_inj hx1 hx (by omega)
   subst this
   exact .inr ⟨q,e,Eg.2 (.inr he),h3⟩
  ·exact .inl ⟨q,he⟩
 have hc: ∀y,(Bp (setE S d (insE p x0.ents))).count y=(Bp S).count y+if p.2=y then 1 else 0:=by
  intro y
  have h1:=Mr (L:=insE p x0.ents) h hx hd hdir y
  rw[Ms]at h1
  omega
 refine h.setE_ hx hd hdir (fun e he=>?_) (Wc (h.up _ hx) hp) (Mm (h.slots _ hx) hs) (fun e he=>?_) (fun x hx1 h1 h2=>?_) (fun x hx1 h1=>Hk hE (h.reach x hx1 h1)) (fun x hx1 h1=>?_)
 ·rcases Eg.1 he with rfl | he
  ·exact hn
  ·exact h.nam _ hx e he
 ·rcases Eg.1 he with rfl | he
  ·refine⟨fun q=>?_,z,hz,hz1⟩
   obtain⟨r,hr,h1,h2⟩:=h.root
   have hr':r∈S.inodes:=List.mem_of_getElem? hr
   have:z=r:=h.ino_inj hz hr' (by omega)
   subst this
   rw[h2]at hz2;cases hz2
  ·exact h.goal _ hx e he
 ·rw[hc,h.one x hx1 h1 h2,if_neg]
  intro q
  have:x=z:=h.ino_inj hx1 hz (by omega)
  subst this
  rw[h1]at hz2;cases hz2
 ·rcases h.file x hx1 h1 with q | q
  ·left
   have h3:=List.count_pos_iff.2 q
   exact List.count_pos_iff.1 (by rw[hc];omega)
  ·exact .inr q
end
section
structure InvB (S:St) (n:Int):Prop where
 m1:1<=S.made.length
 m8:S.made.length<=8
 mb: ∀m∈S.made,0<=m/\m<=32
 root: ∃x,S.inodes[0]? =some x/\x.num=1/\x.dir=true
 rise:S.inodes.Pairwise (fun x y=>x.num<y.num)
 given: ∀x∈S.inodes,x.num≠1->Vj S.made x.num
 isDir: ∀x∈S.inodes,x.dir=true->x.data.size=0
 isFile: ∀x∈S.inodes,x.dir=false->x.ents=[]
 dat: ∀x∈S.inodes,x.data.size<=256
 nam: ∀x∈S.inodes,∀e∈x.ents,Bu e.1=0
 goal: ∀x∈S.inodes,∀e∈x.ents,e.2≠1/\ ∃y∈S.inodes,y.num=e.2
 up: ∀x∈S.inodes,x.ents.Pairwise (fun a b=>nlt a.1 b.1=true)
 slots: ∀x∈S.inodes,∀q,(x.ents.filter fun e=>Aa e.1==q).length<=4
 one: ∀x∈S.inodes,x.dir=true->x.num≠1->x.num≠n->(Bp S).count x.num=1
 reach: ∀x∈S.inodes,x.dir=true->x.num≠n->Fm S x.num
 file: ∀x∈S.inodes,x.dir=false->x.num≠n->x.num∈Bp S∨ ∃o∈S.opens,o.2.2=x.num
 ok: ∀o∈S.opens,0<=o.1/\o.1<S.made.length/\0<=o.2.1/\o.2.1<4/\ ∃y∈S.inodes,y.num=o.2.2/\y.dir=false
 osort:S.opens.Pairwise (fun a b=>a.1<b.1∨a.1=b.1/\a.2.1<b.2.1)
 n1:n≠1
 none: ∀x∈S.inodes,x.num=n->x.ents=[]
 nd: ∀x∈S.inodes,x.num=n->x.dir=true->n∉Bp S/\ ∀o∈S.opens,o.2.2≠n
open Classical in
noncomputable def Jk (S:St) (n:Int):St:=if n∈Bp S∨ ∃o∈S.opens,o.2.2=n then S else {S with inodes:=S.inodes.filter fun x=>!(x.num==n)}
theorem No{n:Int}: ∀{l:List Ino},(∀x∈l,x.num=n->x.ents=[])->(l.filter fun x=>!(x.num==n)).flatMap Aw=l.flatMap Aw
 | [],_=>rfl
 | x::l,h=>by
  have ih:=No (l:=l) fun y hy=>h y (Amc _ hy)
  rw[List.filter_cons,List.flatMap_cons]
  by_cases q:x.num=n
  ·rw[if_neg (by simpa using q),ih]
   have:Aw x=[]:=by unfold Aw;rw[h x (Amb ..) q];split <;> rfl
   rw[this];rfl
  ·rw[if_pos (by simpa using q),List.flatMap_cons,ih]
theorem InvB.sweep{S:St}{n:Int}(h:InvB S n):Inv (Jk S n):=by
 unfold Jk
 by_cases q:n∈Bp S∨ ∃o∈S.opens,o.2.2=n
 ·rw[if_pos q]
  have hnd: ∀x∈S.inodes,x.num=n->x.dir=false:=fun x hx e=>by
   cases hd:x.dir with
   | false=>rfl
   | true=>
    obtain⟨h1,h2⟩:=h.nd x hx e hd
    rcases q with q | ⟨o,ho,q⟩
    ·exact absurd q h1
    ·exact absurd q (h2 o ho)
  refine⟨h.m1,h.m8,h.mb,h.root,h.rise,h.given,h.isDir,h.isFile,h.dat,h.nam,h.goal,h.up,h.slots,fun x hx hd h1=>?_,fun x hx hd=>?_,fun x hx hd=>?_,h.ok,h.osort⟩
  ·exact h.one x hx hd h1 fun e=>by rw[hnd x hx e]at hd;cases hd
  ·exact h.reach x hx hd fun e=>by rw[hnd x hx e]at hd;cases hd
  ·by_cases e:x.num=n
   ·rw[e];exact q
   ·exact h.file x hx hd e
 ·rw[if_neg q]
  have hq1:n∉Bp S:=fun e=>q (.inl e)
  have hq2: ∀o∈S.opens,o.2.2≠n:=fun o ho e=>q (.inr ⟨o,ho,e⟩)
  generalize hS':({S with inodes:=S.inodes.filter fun x=>!(x.num==n)}:St)=S'
  have hmem: ∀{x:Ino},x∈S'.inodes↔x∈S.inodes/\x.num≠n:=by
   intro x;rw[<-hS'];show x∈S.inodes.filter _↔_
   rw[List.mem_filter];simp
  have hL:Bp S'=Bp S:=by rw[<-hS'];exact No h.none
  have hO:S'.opens=S.opens:=by rw[<-hS']
  have hM:S'.made=S.made:=by rw[<-hS']
  have hE: ∀a y,Edge S a y->Edge S' a y:=by
   rintro a y ⟨x,hx,h1,h2,e,he,h3⟩
   refine⟨x,hmem.2 ⟨hx,fun q2=>?_⟩,h1,h2,e,he,h3⟩
   rw[h.none x hx q2]at he;cases he
  refine⟨hM▸h.m1,hM▸h.m8,hM▸h.mb,?_,?_,?_,?_,?_,?_,?_,?_,?_,?_,?_,?_,?_,?_,hO▸h.osort⟩
  ·obtain⟨r,h0,h1,h2⟩:=h.root
   refine⟨r,?_,h1,h2⟩
   rw[<-hS']
   show(S.inodes.filter _)[0]? =some r
   have h3:=h.n1
   cases hl:S.inodes with
   | nil=>rw[hl]at h0;cases h0
   | cons z l=>
    rw[hl]at h0
    obtain rfl:z=r:=by simpa using h0
    rw[List.filter_cons,if_pos (by simp;omega)];rfl
  ·rw[<-hS'];exact h.rise.filter _
  ·intro x hx;rw[hM];exact h.given x (hmem.1 hx).1
  ·intro x hx;exact h.isDir x (hmem.1 hx).1
  ·intro x hx;exact h.isFile x (hmem.1 hx).1
  ·intro x hx;exact h.dat x (hmem.1 hx).1
  ·intro x hx;exact h.nam x (hmem.1 hx).1
  ·intro x hx e he
   obtain⟨h1,y,hy,h2⟩:=h.goal x (hmem.1 hx).1 e he
   refine⟨h1,y,hmem.2 ⟨hy,fun q2=>?_⟩,h2⟩
   have hd:x.dir=true:=by
    cases hd:x.dir with
    | true=>rfl
    | false=>rw[h.isFile x (hmem.1 hx).1 hd]at he;cases he
   exact hq1 (Gy.2 ⟨x.num,x,(hmem.1 hx).1,rfl,hd,e,he,h2.symm.trans q2⟩)
  ·intro x hx;exact h.up x (hmem.1 hx).1
  ·intro x hx;exact h.slots x (hmem.1 hx).1
  ·intro x hx hd h1;rw[hL];exact h.one x (hmem.1 hx).1 hd h1 (hmem.1 hx).2
  ·intro x hx hd;exact Hk hE (h.reach x (hmem.1 hx).1 hd (hmem.1 hx).2)
  ·intro x hx hd;rw[hL,hO];exact h.file x (hmem.1 hx).1 hd (hmem.1 hx).2
  ·intro o ho
   rw[hO]at ho
   obtain⟨h1,h2,h3,h4,y,hy,h5,h6⟩:=h.ok o ho
   exact⟨h1,hM▸h2,h3,h4,y,hmem.2 ⟨hy,fun e=>hq2 o ho (h5.symm.trans e)⟩,h5,h6⟩
end
def Mu(S:St)(c f:Int):St:={S with opens:=S.opens.filter fun o=>!(o.1==c&&o.2.1==f)}
theorem Ajc{l:List (Int×Int×Int)}(h:l.Pairwise (fun a b=>a.1<b.1∨a.1=b.1/\a.2.1<b.2.1)){a b:Int×Int×Int}(ha:a∈l)(hb:b∈l)(h1:a.1=b.1)(h2:a.2.1=b.2.1):a=b:=by
 obtain⟨i,hi,rfl⟩:=List.getElem_of_mem ha
 obtain⟨j,hj,rfl⟩:=List.getElem_of_mem hb
 rcases Nat.lt_trichotomy i j with q | q | q
 ·have:=List.pairwise_iff_getElem.1 h i j hi hj q;omega
 ·subst q;rfl
 ·have:=List.pairwise_iff_getElem.1 h j i hj hi q;omega
theorem Inv.ne_root{S:St}(h:Inv S){y:Ino}(hy:y∈S.inodes)(hd:y.dir=false):y.num≠1:=by
 intro e
 obtain⟨r,hr,h1,h2⟩:=h.root
 have:y=r:=h.ino_inj hy (List.mem_of_getElem? hr) (by omega)
 subst this
 rw[h2]at hd;cases hd
theorem Inv.close{S:St}(h:Inv S){o:Int×Int×Int}(ho:o∈S.opens):InvB (Mu S o.1 o.2.1) o.2.2:=by
 obtain⟨-,-,-,-,z,hz,hz1,hz2⟩:=h.ok o ho
 have hm: ∀{q},q∈(Mu S o.1 o.2.1).opens->q∈S.opens:=fun hq=>(List.mem_filter.1 hq).1
 have hzu: ∀x∈S.inodes,x.num=o.2.2->x=z:=fun x hx e=>h.ino_inj hx hz (by omega)
 refine⟨h.m1,h.m8,h.mb,h.root,h.rise,h.given,h.isDir,h.isFile,h.dat,h.nam,h.goal,h.up,h.slots,fun x hx hd h1 _=>h.one x hx hd h1,
  fun x hx hd _=>Hk (S:=S) (S':=Mu S o.1 o.2.1) (fun _ _ q=>q) (h.reach x hx hd),fun x hx hd hn=>?_,fun q hq=>h.ok q (hm hq),h.osort.filter _,hz1▸h.ne_root hz hz2,
  fun x hx e=>h.isFile x hx (by rw[hzu x hx e];exact hz2),fun x hx e hd=>by rw[hzu x hx e,hz2]at hd;cases hd⟩
 rcases h.file x hx hd with q | ⟨q,hq,e⟩
 ·exact .inl q
 ·refine .inr ⟨q,List.mem_filter.2 ⟨hq,?_⟩,e⟩
  by_cases h1:q.1=o.1
  ·by_cases h2:q.2.1=o.2.1
   ·have:=Ajc h.osort hq ho h1 h2
    subst this
    exact absurd e.symm hn
   ·simp[h2]
  ·simp[h1]
theorem Agw{L:List (ByteArray×Int)}(h:L.Pairwise (fun a b=>nlt a.1 b.1=true)){a b:ByteArray×Int}(ha:a∈L)(hb:b∈L)(e:a.1=b.1):a=b:=by
 obtain⟨i,hi,rfl⟩:=List.getElem_of_mem ha
 obtain⟨j,hj,rfl⟩:=List.getElem_of_mem hb
 rcases Nat.lt_trichotomy i j with q | q | q
 ·have:=List.pairwise_iff_getElem.1 h i j hi hj q
  rw[e,Ct]at this;cases this
 ·subst q;rfl
 ·have:=List.pairwise_iff_getElem.1 h j i hj hi q
  rw[e,Ct]at this;cases this
theorem Ow{nm:ByteArray}{L:List (ByteArray×Int)}{e:ByteArray×Int}:e∈Et nm L↔e∈L/\e.1≠nm:=by
 unfold Et
 rw[List.mem_filter];simp
theorem Pv{L:List (ByteArray×Int)}(h:L.Pairwise (fun a b=>nlt a.1 b.1=true)){p:ByteArray×Int}(hp:p∈L)(y:Int):((Et p.1 L).map (·.2)).count y+ (if p.2=y then 1 else 0)=(L.map (·.2)).count y:=by
 induction L with
 | nil=>cases hp
 | cons a l ih=>
  obtain⟨h1,h2⟩:=List.pairwise_cons.1 h
  unfold Et
  rw[List.filter_cons]
  rcases List.mem_cons.1 hp with rfl | hp2
  ·rw[if_neg (by simp),List.map_cons,List.count_cons]
   have:(l.filter fun e=>!decide (e.1=p.1))=l:=List.filter_eq_self.2 fun e he=>by
    have:=h1 e he
    have:e.1≠p.1:=fun q=>by rw[q,Ct]at this;cases this
    simpa using this
   rw[this]
   congr 1
   by_cases q:p.2=y
   ·rw[if_pos q,if_pos (by simpa using q)]
   ·rw[if_neg q,if_neg (by simpa using q)]
  ·have hne:a.1≠p.1:=fun q=>by
    have:=h1 p hp2
    rw[q,Ct]at this;cases this
   rw[if_pos (by simpa using hne),List.map_cons,List.map_cons,List.count_cons,List.count_cons]
   have:=ih h2 hp2
   unfold Et at this
   omega
section
variable{S:St}{d:Int}
theorem Uz(h:Inv S){x0:Ino}(hx:x0∈S.inodes)(hd:x0.num=d)(hdir:x0.dir=true){p:ByteArray×Int}(hp:p∈x0.ents){a y:Int}(he:Edge S a y)(hy:y≠p.2):Edge (setE S d (Et p.1 x0.ents)) a y:=by
 rw[He hx hd hdir]
 by_cases q:a=d
 ·obtain⟨x,hx1,h1,h2,e,he,h3⟩:=he
  have:x=x0:=h.ino_inj hx1 hx (by omega)
  subst this
  refine .inr ⟨q,e,Ow.2 ⟨he,fun q2=>?_⟩,h3⟩
  have:=Agw (h.up _ hx) he hp q2
  subst this
  exact hy h3.symm
 ·exact .inl ⟨q,he⟩
theorem Inv.drop(h:Inv S){x0:Ino}(hx:x0∈S.inodes)(hd:x0.num=d)(hdir:x0.dir=true){p:ByteArray×Int}(hp:p∈x0.ents){y0:Ino}(hy:y0∈S.inodes)(hy1:y0.num=p.2)(hy2:y0.ents=[]):InvB (setE S d (Et p.1 x0.ents)) p.2:=by
 have hg:=h.goal _ hx p hp
 have hc: ∀y,(Bp (setE S d (Et p.1 x0.ents))).count y+ (if p.2=y then 1 else 0)=(Bp S).count y:=by
  intro y
  have h1:=Mr (L:=Et p.1 x0.ents) h hx hd hdir y
  have h2:=Pv (h.up _ hx) hp y
  omega
 have hne:y0.num≠d:=fun e=>by
  have:y0=x0:=h.ino_inj hy hx (by omega)
  subst this
  rw[hy2]at hp;cases hp
 have hr: ∀z,Fm S z->z≠p.2->Fm (setE S d (Et p.1 x0.ents)) z:=by
  intro z hz
  induction hz with
  | root=>exact fun _=>.root
  | step _ he ih=>
   intro hz2
   refine .step (ih fun e=>?_) (Uz h hx hd hdir hp he hz2)
   obtain⟨x,hx1,h1,h2,q,hq,h3⟩:=he
   have:x=y0:=h.ino_inj hx1 hy (by omega)
   subst this
   rw[hy2]at hq;cases hq
 have hL: ∀x∈S.inodes,x.num≠p.2->(Bp (setE S d (Et p.1 x0.ents))).count x.num=(Bp S).count x.num:=fun x _ q=>by
  have:=hc x.num
  rw[if_neg (fun e=>q e.symm)]at this
  omega
 have hT: ∀{y:Ino},y∈(setE S d (Et p.1 x0.ents)).inodes->y.num=p.2-> ∃x∈S.inodes,x=y0/\y.dir=x.dir/\y.ents=[]:=by
  intro y hy3 e
  obtain⟨x,hx1,e1,e2,e3,e4⟩:=Ax hy3
  have:x=y0:=h.ino_inj hx1 hy (by omega)
  subst this
  refine⟨x,hx1,rfl,e2,?_⟩
  rcases e4 with⟨_,e4⟩ | ⟨e4,_⟩
  ·rw[e4,hy2]
  ·exact absurd e4 hne
 refine⟨h.m1,h.m8,h.mb,Im (fun _=>⟨rfl,rfl⟩) h.root,Ip (fun _=>rfl) h.rise,?_,?_,?_,?_,?_,?_,?_,?_,?_,?_,?_,?_,h.osort,hg.1,?_,?_⟩
 ·intro y hy;obtain⟨x,hx,e1,e2,e3,e4⟩:=Ax hy;rw[e1];exact h.given x hx
 ·intro y hy hd;obtain⟨x,hx,e1,e2,e3,e4⟩:=Ax hy;rw[e3];exact h.isDir x hx (e2▸hd)
 ·intro y hy hf
  obtain⟨x,hx1,e1,e2,e3,e4⟩:=Ax hy
  rcases e4 with⟨-,e4⟩ | ⟨e4,-⟩
  ·rw[e4];exact h.isFile x hx1 (e2▸hf)
  ·have:x=x0:=h.ino_inj hx1 hx (by omega)
   subst this
   rw[e2,hdir]at hf;cases hf
 ·intro y hy;obtain⟨x,hx,e1,e2,e3,e4⟩:=Ax hy;rw[e3];exact h.dat x hx
 ·intro y hy e he
  obtain⟨x,hx1,e1,e2,e3,e4⟩:=Ax hy
  rcases e4 with⟨-,e4⟩ | ⟨-,e4⟩
  ·rw[e4]at he;exact h.nam x hx1 e he
  ·rw[e4]at he;exact h.nam x0 hx e (Ow.1 he).1
 ·intro y hy e he
  obtain⟨x,hx1,e1,e2,e3,e4⟩:=Ax hy
  have hk:e.2≠1/\ ∃y∈S.inodes,y.num=e.2:=by
   rcases e4 with⟨-,e4⟩ | ⟨-,e4⟩
   ·rw[e4]at he;exact h.goal x hx1 e he
   ·rw[e4]at he;exact h.goal x0 hx e (Ow.1 he).1
  obtain⟨k1,q,hq,k2⟩:=hk
  obtain⟨q2,hq2,e5,-⟩:=Hv (d:=d) (L:=Et p.1 x0.ents) hq
  exact⟨k1,q2,hq2,e5.trans k2⟩
 ·intro y hy
  obtain⟨x,hx1,e1,e2,e3,e4⟩:=Ax hy
  rcases e4 with⟨-,e4⟩ | ⟨-,e4⟩
  ·rw[e4];exact h.up x hx1
  ·rw[e4];exact(h.up x0 hx).filter _
 ·intro y hy q
  obtain⟨x,hx1,e1,e2,e3,e4⟩:=Ax hy
  rcases e4 with⟨-,e4⟩ | ⟨-,e4⟩
  ·rw[e4];exact h.slots x hx1 q
  ·rw[e4];exact Aml ((List.filter_sublist (l:=x0.ents)).filter _).length_le (h.slots x0 hx q)
 ·intro y hy hd h1 h2;obtain⟨x,hx,e1,e2,e3,e4⟩:=Ax hy;rw[e1,hL x hx (e1▸h2)];exact h.one x hx (e2▸hd) (e1▸h1)
 ·intro y hy hd h1;obtain⟨x,hx,e1,e2,e3,e4⟩:=Ax hy;rw[e1];exact hr _ (h.reach x hx (e2▸hd)) (e1▸h1)
 ·intro y hy hd h1
  obtain⟨x,hx,e1,e2,e3,e4⟩:=Ax hy
  rw[e1]
  rcases h.file x hx (e2▸hd)with q | q
  ·exact .inl (List.count_pos_iff.1 (by rw[hL x hx (e1▸h1)];exact List.count_pos_iff.2 q))
  ·exact .inr q
 ·intro o ho
  obtain⟨h1,h2,h3,h4,q,hq,h5,h6⟩:=h.ok o ho
  obtain⟨q2,hq2,e5,e6⟩:=Hv (d:=d) (L:=Et p.1 x0.ents) hq
  exact⟨h1,h2,h3,h4,q2,hq2,e5.trans h5,e6.trans h6⟩
 ·intro y hy e;obtain⟨x,_,_,_,e2⟩:=hT hy e;exact e2
 ·intro y hy3 e hdy
  obtain⟨x,hx1,rfl,e2,_⟩:=hT hy3 e
  rw[e2]at hdy
  refine⟨fun q=>?_,fun o ho q=>?_⟩
  ·have h1:=List.count_pos_iff.2 q
   have h2:=h.one x hx1 hdy (by rw[hy1];exact hg.1)
   have h3:=hc p.2
   rw[if_pos rfl]at h3
   rw[hy1]at h2
   omega
  ·obtain⟨-,-,-,-,z,hz,h5,h6⟩:=h.ok o ho
   have:z=x:=h.ino_inj hz hx1 (by omega)
   subst this
   rw[h6]at hdy;cases hdy
end
end Go.Proofs.YtkebjgebkneijaaGreat
