/- Texts of one's own that a claim's last text rests on: Ml11 Ml12 NoP3 Ml13 Ml14 Ml15 Ml16. -/
import Derived.Test.YtkebjgebkneijaaGreatMG11
import Derived.Test.YtkebjgebkneijaaGreatMG10
import Derived.Test.YtkebjgebkneijaaGreatMG6
set_option linter.unusedVariables false
set_option linter.unusedSimpArgs false
namespace Go.Proofs.YtkebjgebkneijaaGreat
open Go.RowKit
set_option maxHeartbeats 16000000
set_option maxRecDepth 1000000
theorem Yk(c f n x:Int){p:Nat}{w:World}(hp:w.cell? ⟨p,0,none⟩=some (.int .i64 x)):Calls Tryz.prog 100 #[.agg #[.int .i64 c,.int .i64 f,.int .i64 n],.pointer (some ⟨p,0,none⟩)] w fun e w'=>e= .returned (.bool (n==x))/\Below w.heap.size w w':=by
 have hl:=Amd w _ hp
 have HB:=lhi ((Amf w.heap.size w).alloc (Ama _) (.cells #[.int .i64 c,.int .i64 f,.int .i64 n] 144))
 go_enter Tryz.func100,Tryz.ntmps100
 go_wp2
 go_ret
 exact⟨rfl,HB.out⟩
def Hq(S:St)(x:Int):Int:=match(List.range S.opens.length).find? (fun i=>S.on i==x)with
 | some k=>k
 | none=> -1
theorem Ago{S:St}{x:Int}{k:Nat}(hk:k<S.opens.length)(h:S.on k=x)(hlt: ∀i,i<k->S.on i≠x):Hq S x=k:=by
 have:(List.range S.opens.length).find? (fun i=>S.on i==x)=some k:=by
  rw[List.find?_eq_some_iff_getElem]
  exact⟨by simpa using h,k,by simpa using hk,by simp,fun j hj=>by simpa using hlt j hj⟩
 unfold Hq
 rw[this]
theorem Yl{S:St}{x:Int}(h: ∀i,i<S.opens.length->S.on i≠x):Hq S x= -1:=by
 have:(List.range S.opens.length).find? (fun i=>S.on i==x)=none:=by
  rw[List.find?_eq_none]
  intro i hi
  simpa using h i (by simpa using hi)
 unfold Hq
 rw[this]
theorem Tu{w:World}{v:Value}{S:St}(hv:Ak w v S.opens.length 3 (opnC S))(hn:S.opens.length<=1000){x:Int}{p:Nat}(hp:w.cell? ⟨p,0,none⟩=some (.int .i64 x)):
  Calls Tryz.prog 125 #[v,.func (.func 100) #[] #[.pointer (some ⟨p,0,none⟩)]] w fun e w'=>e= .returned (.int .i64 (Hq S x))/\Below w.heap.size w w':=by
 have HV:=lhi hv
 have H1:=lhi (fun(k:Nat) a b c=>Ago (S:=S) (x:=x) (k:=k) a b c)
 have H2:=lhi (fun a=>Yl (S:=S) (x:=x) a)
 obtain⟨A,cap,rfl,-,-⟩:=hv
 obtain⟨n,hnn⟩:=xx S.opens.length
 rw[hnn]at hn HV H1 H2
 rw[hnn]
 clear hnn
 go_enter Tryz.func125,Tryz.ntmps125
 go_wp2_with (fail)
 go_loopw [8] (fun i wr=>∃k:Nat,i= .int .i64 k/\k<=n/\ (∀j,j<k->S.on j≠x)/\Below w.heap.size w wr) (fun i _=>n - (intOf i).toNat)
 case atStart=>exact⟨0,rfl,by omega,fun j hj=>absurd hj (by omega),Amf _ _⟩
 case round=>
  obtain⟨k,rfl,hk,hl,hB⟩:=hrel
  have HB:=lhi hB
  have HL:=lhi hl
  clear hl
  by_cases hq:k<n
  ·have hq1:(k:Int)<n:=by omega
   obtain⟨-,-,g,off,rfl,hcell⟩:=(HV.out.keep hB).at_ hq
   have q0:wr.cell? ⟨g,off+k*3,none⟩=some (.int .i64 (S.oc k)):=hcell 0 (by omega)
   have q1:wr.cell? ⟨g,off+k*3+1,none⟩=some (.int .i64 (S.of k)):=hcell 1 (by omega)
   have q2:wr.cell? ⟨g,off+k*3+2,none⟩=some (.int .i64 (S.on k)):=hcell 2 (by omega)
   have HC:=lhi (Yk (S.oc k) (S.of k) (S.on k) x ((hB.cell (Amd _ _ hp)).trans hp))
   clear hcell hB
   by_cases e:S.on k=x
   ·have e1:(S.on k==x)=true:=by simp[e]
    have HR:=lhi (H1.out k hq e HL.out)
    rw[e1]at HC
    clear e e1
    go_wp2_with (go_at_call 100;refine HC.out.mono ?_;rintro e w1 ⟨rfl,hb1⟩)
    go_ret
    exact⟨by rw[HR.out];rfl,HB.out.trans (hb1.mono HB.out.size)⟩
   ·have e1:(S.on k==x)=false:=by simp[e]
    rw[e1]at HC
    have HE:=lhi e
    clear e
    go_wp2_with (go_at_call 100;refine HC.out.mono ?_;rintro e w1 ⟨rfl,hb1⟩)
    go_roundw
    case rel=>exact⟨k+1,by simp,by omega,fun j hj=>by
     by_cases h:j=k
     ·subst h;exact HE.out
     ·exact HL.out j (by omega),HB.out.trans (hb1.mono HB.out.size)⟩
    case measure=>
     simp only[intOf]
     omega
  ·have e:k=n:=by omega
   subst e
   have HR:=lhi (H2.out HL.out)
   clear hB
   go_wp2_with (fail)
   go_ret
   exact⟨by rw[HR.out];rfl,HB.out⟩
theorem Tv{w:World}{v:Value}{S:St}(hv:Ak w v S.opens.length 3 (opnC S))(hn:S.opens.length<=1000){x:Int}{p:Nat}(hp:w.cell? ⟨p,0,none⟩=some (.int .i64 x)):
  Calls Tryz.prog 99 #[v,.func (.func 100) #[] #[.pointer (some ⟨p,0,none⟩)]] w fun e w'=>e= .returned (.bool (decide (0<=Hq S x)))/\Below w.heap.size w w':=by
 have HC:=lhi (Tu hv hn hp)
 clear hv
 go_enter Tryz.func99,Tryz.ntmps99
 go_wp2_with (go_at_call 125;refine HC.out.mono ?_;rintro e w1 ⟨rfl,hb1⟩)
 go_ret
 exact⟨rfl,hb1⟩
theorem Ph{w:World}{sp:Nat}{iv ov mv:Value}{ev:Nat->Value}{S:St}(hS:StM w iv ov mv ev S)(hn:S.opens.length<=1000)(h1:w.cell? ⟨sp,1,none⟩=some ov)(x:Int):
  Calls Tryz.prog 50 #[.pointer (some ⟨sp,0,none⟩),.int .i64 x] w fun e w'=>e= .returned (.bool (decide (0<=Hq S x)))/\Below w.heap.size w w':=by
 have hl:=Amd w _ h1
 have hmf: ∀(fn:Fn) (first cap:Array Value) (w:World),(Instr.makeFunc fn first cap).run Tryz.prog w= .ok (.func fn first cap) w:=fun _ _ _ _=>rfl
 have hb:=(Amf w.heap.size w).alloc (Ama _) (.cells #[.int .i64 x] 3)
 have HC:=lhi (Tv (hS.opn.keep hb) hn (x:=x) (p:=w.heap.size) (by simp[go_sem]))
 have HB:=lhi hb
 obtain⟨A,cap,rfl,-,-⟩:=hS.opn
 clear hS hb
 go_enter Tryz.func50,Tryz.ntmps50
 go_wp2_with (go_at_call 99;refine HC.out.mono ?_;rintro e w1 ⟨rfl,hb1⟩)
 go_ret
 exact⟨rfl,HB.out.trans (hb1.mono HB.out.size)⟩
def cntE(S:St)(x:Int)(a:Nat):Nat->Nat
 | 0=>0
 | k+1=>cntE S x a k+if S.dir a&& (S.enu a k==x)then 1 else 0
def cntI(S:St)(x:Int):Nat->Nat
 | 0=>0
 | a+1=>cntI S x a+cntE S x a (S.ne a)
theorem Wq(S:St)(x:Int)(a:Nat): ∀k,cntE S x a k<=k
 | 0=>Ama _
 | k+1=>by have:=Wq S x a k;unfold cntE;split <;> omega
theorem Wp{S:St}(h: ∀i,S.ne i<=1000)(x:Int): ∀a,cntI S x a<=a*1000
 | 0=>Ama _
 | a+1=>by have:=Wp h x a;have:=Wq S x a (S.ne a);have:=h a;unfold cntI;omega
theorem Kr{w:World}{iv ov mv:Value}{ev:Nat->Value}{S:St}(hS:StM w iv ov mv ev S)(hsm:S.small)(x:Int):
  Calls Tryz.prog 67 #[.agg #[iv,ov,mv],.int .i64 x] w fun e w'=>e= .returned (.int .i64 (cntI S x S.inodes.length:Nat))/\Below w.heap.size w w':=by
 have hb:=(Amf w.heap.size w).alloc (Ama _) (.cells #[iv,ov,mv] 30)
 have HS:=lhi (hS.keep hb)
 have HB0:=lhi hb
 have HI:=lhi (hS.ino.keep hb)
 obtain⟨OA,ocap,rfl,-,-⟩:=hS.opn
 obtain⟨MA,mcap,rfl,-,-⟩:=hS.mad
 obtain⟨A,cap,rfl,-,-⟩:=hS.ino
 obtain⟨n,hnn⟩:=xx S.inodes.length
 have hn:=hsm.ni
 have HEN:=lhi hsm.en
 rw[hnn]at hn HI
 rw[hnn]
 have HNN:=lhi hnn
 clear hS hb hsm hnn
 go_enter Tryz.func67,Tryz.ntmps67
 go_wp2_with (fail)
 obtain⟨w1,hw1⟩: ∃W,W=(w.alloc (.cells #[.slice A n cap,.slice OA S.opens.length ocap,.slice MA S.made.length mcap] 30)):=⟨_,rfl⟩
 rw[<-hw1]
 have HSE:=lhi (show∀i,i<n->Ak w1 (ev i) (S.ne i) 2 (entC S i)from fun i hi=>by rw[hw1];have:=HS.out.ent i (by rw[HNN.out];exact hi);rw[HNN.out]at this;exact this)
 have HI1:=lhi (show Ak w1 (.slice A n cap) n 4 (inoC S ev)by rw[hw1];exact HI.out)
 have HB1:=lhi (show Below w.heap.size w w1 by rw[hw1];have:=HB0.out;rw[HNN.out]at this;exact this)
 have HCL:=lhi (fun a=>Wp HEN.out x a)
 clear HS HI HB0 hw1
 go_loopw [5,13] (fun m i wr=>∃a:Nat,i= .int .i64 a/\m= .int .i64 (cntI S x a:Nat)/\a<=n/\Below w1.heap.size w1 wr) (fun _ i _=>n - (intOf i).toNat)
 case atStart=>exact⟨0,rfl,rfl,by omega,Amf _ _⟩
 case round=>
  obtain⟨a,rfl,rfl,ha,hB⟩:=hrel
  have HB:=lhi hB
  obtain⟨ci,hci⟩: ∃c,cntI S x a=c:=⟨_,rfl⟩
  have HCI:=lhi hci
  have hcl:=HCL.out a
  rw[hci]at hcl
  rw[hci]
  clear hci
  by_cases hp:a<n
  ·have hp1:(a:Int)<n:=by omega
   obtain⟨-,-,g,off,rfl,hcell⟩:=(HI1.out.keep hB).at_ hp
   have q0:wr.cell? ⟨g,off+a*4,none⟩=some (.int .i64 (S.num a)):=hcell 0 (by omega)
   have q1:wr.cell? ⟨g,off+a*4+1,none⟩=some (.bool (S.dir a)):=hcell 1 (by omega)
   have q2:wr.cell? ⟨g,off+a*4+2,none⟩=some (ev a):=hcell 2 (by omega)
   have q3:wr.cell? ⟨g,off+a*4+3,none⟩=some (.string (S.dat a)):=hcell 3 (by omega)
   have HE:=lhi (HSE.out a hp)
   obtain⟨EA,ecap,hev,-,-⟩:=HE.out
   rw[hev]at q2 HE
   obtain⟨ne,hne⟩: ∃e,S.ne a=e:=⟨_,rfl⟩
   have HNE:=lhi hne
   have hne2:=HEN.out a
   rw[hne]at q2 HE hne2
   have HQ:=lhi (Blk.new wr 93 #[.int .i64 (S.num a),.bool (S.dir a),.slice EA ne ecap,.string (S.dat a)])
   have HBA:=lhi (hB.alloc hB.size (.cells #[.int .i64 (S.num a),.bool (S.dir a),.slice EA ne ecap,.string (S.dat a)] 93))
   clear hcell hev hne hB
   obtain⟨qb,hqb⟩: ∃q,q=wr.heap.size:=⟨_,rfl⟩
   rw[<-hqb]at HQ
   go_wp2_with (fail)
   rw[<-hqb]
   clear hqb
   go_loopw [5,20] (fun m i wi=>∃k:Nat,i= .int .i64 k/\m= .int .i64 (ci+cntE S x a k:Nat)/\k<=ne/\Below w1.heap.size w1 wi/\Blk wi qb 93 #[.int .i64 (S.num a),.bool (S.dir a),.slice EA ne ecap,.string (S.dat a)]) (fun _ i _=>ne - (intOf i).toNat)
   case atStart=>exact⟨0,rfl,rfl,by omega,HBA.out,HQ.out⟩
   case round=>
    obtain⟨k,rfl,rfl,hk,hBi,hQi⟩:=hrel
    have HBI:=lhi hBi
    have HQI:=lhi hQi
    obtain⟨ck,hck⟩: ∃c,cntE S x a k=c:=⟨_,rfl⟩
    have hcl2:=Wq S x a k
    have HCK:=lhi hck
    rw[hck]at hcl2
    rw[hck]
    clear hck
    by_cases hkp:k<ne
    ·have hkp1:(k:Int)<ne:=by omega
     obtain⟨-,-,eg,eoff,rfl,ecell⟩:=(HE.out.keep hBi).at_ hkp
     have e0:wr.cell? ⟨eg,eoff+k*2,none⟩=some (.string (S.enm a k)):=ecell 0 (by omega)
     have e1:wr.cell? ⟨eg,eoff+k*2+1,none⟩=some (.int .i64 (S.enu a k)):=ecell 1 (by omega)
     have v1:wr.cell? ⟨qb,1,none⟩=some (.bool (S.dir a)):=hQi.cell 1
     have hql:=hQi.lt
     have HB2:=lhi (hBi.alloc hBi.size (.cells #[.string (S.enm a k),.int .i64 (S.enu a k)] 132))
     have HQ2:=lhi (hQi.alloc (.cells #[.string (S.enm a k),.int .i64 (S.enu a k)] 132))
     clear ecell hBi hQi
     have HS1:=lhi (show cntE S x a (k+1)=ck+if S.dir a&& (S.enu a k==x)then 1 else 0 by rw[<-HCK.out];rfl)
     obtain⟨y,hy⟩:=xx (S.enu a k)
     rw[hy]at e1 HB2 HQ2 HS1
     clear hy
     cases hd:S.dir a with
     | false=>
      rw[hd]at v1 HS1 HQ2
      clear hd
      go_wp2_with (fail)
      go_roundw
      case rel=>exact⟨k+1,by simp,by rw[HS1.out];simp,by omega,HB2.out,HQ2.out⟩
      case measure=>
       simp only[intOf]
       omega
     | true=>
      rw[hd]at v1 HS1 HQ2
      clear hd
      by_cases hx:y=x
      ·have hx1:(y==x)=true:=by simp[hx]
       rw[hx1]at HS1
       clear hx
       go_wp2_with (fail)
       go_roundw
       case rel=>exact⟨k+1,by simp,by rw[HS1.out];simp;omega,by omega,HB2.out,HQ2.out⟩
       case measure=>
        simp only[intOf]
        omega
      ·have hx1:(y==x)=false:=by simp[hx]
       rw[hx1]at HS1
       go_wp2_with (fail)
       go_roundw
       case rel=>exact⟨k+1,by simp,by rw[HS1.out];simp,by omega,HB2.out,HQ2.out⟩
       case measure=>
        simp only[intOf]
        omega
    ·have e:k=ne:=by omega
     subst e
     clear hBi hQi
     go_wp2_with (fail)
     go_roundw
     case rel=>exact⟨a+1,by simp,by rw[cntI,HCI.out,HNE.out,HCK.out],by omega,HBI.out⟩
     case measure=>
      simp only[intOf]
      omega
  ·have e:a=n:=by omega
   subst e
   clear hB
   go_wp2_with (fail)
   go_ret
   exact⟨by rw[HCI.out];rfl,HB1.out.trans (HB.out.mono HB1.out.size)⟩
theorem Rl{A B:Type}(g:A->List B)(d:A): ∀l:List A,(List.range l.length).flatMap (fun i=>g (l.getD i d))=l.flatMap g
 | []=>rfl
 | x::l=>by
  rw[List.length_cons,List.range_succ_eq_map,List.flatMap_cons,List.flatMap_cons,List.flatMap_map]
  have h:=Rl g d l
  congr 1
theorem Pa(S:St)(i:Nat):Eb S i=(S.ino i).ents.map (·.2):=by
 unfold Eb St.ne St.enu
 refine List.ext_getElem? fun k=>?_
 rw[List.getElem?_map,List.getElem?_map]
 rcases Nat.lt_or_ge k (S.ino i).ents.length with q | q
 ·rw[List.getElem?_range q,Amh q]
  simp only[Option.map_some]
  rw[An q]
 ·rw[List.getElem?_eq_none (by simpa using q),List.getElem?_eq_none q];rfl
theorem Yy(S:St)(x:Int):Kf S x=(Bp S).count x:=by
 unfold Kf Sa Bp
 have h:(fun i=>if S.dir i then Eb S i else [])=fun i=>Aw (S.inodes.getD i Ds):=by
  funext i
  rw[Pa]
  rfl
 rw[h,Rl Aw Ds]
theorem Gy{S:St}{y:Int}:y∈Bp S↔ ∃d,Edge S d y:=by
 unfold Bp Edge Aw
 rw[List.mem_flatMap]
 constructor
 ·rintro⟨x,hx,hy⟩
  by_cases hd:x.dir=true
  ·rw[if_pos hd]at hy
   obtain⟨e,he,rfl⟩:=List.mem_map.1 hy
   exact⟨x.num,x,hx,rfl,hd,e,he,rfl⟩
  ·rw[if_neg hd]at hy;cases hy
 ·rintro⟨d,x,hx,rfl,hd,e,he,rfl⟩
  exact⟨x,hx,by rw[if_pos hd];exact List.mem_map.2 ⟨e,he,rfl⟩⟩
namespace Inv
variable{S:St}
theorem found_of_reach(h:Inv S){x:Int}(hr:Fm S x):x∈Jx S:=by
 have hc:=Wg S
 induction hr with
 | root=>exact hc.1
 | step _ he ih=>
  obtain⟨z,hz,rfl,hd,e,hm,rfl⟩:=he
  obtain⟨i,hi,e1,e2⟩:=h.firstIx_mem hz
  refine hc.2 _ ih _ ?_
  unfold kids
  rw[e2]
  show _∈if S.dir i=true then Eb S i else []
  rw[if_pos (by unfold St.dir;rw[e1];exact hd),Pa,e1]
  exact List.mem_map.2 ⟨e,hm,rfl⟩
end Inv
def RowB(w:World)(b:Nat)(t:TypeId)(n:Nat)(g:Nat->Value):Prop:=∃cs,Blk w b t cs/\cs.size=n/\ ∀i,i<n->cs[i]? =some (g i)
namespace RowB
variable{w w':World}{b n:Nat}{t:TypeId}{g h:Nat->Value}
theorem cell(r:RowB w b t n g){i:Nat}(hi:i<n):w.cell? ⟨b,i,none⟩=some (g i):=by
 obtain⟨cs,h1,h2,h3⟩:=r
 rw[h1.cell];exact h3 i hi
theorem lt(r:RowB w b t n g):b<w.heap.size:=by obtain⟨cs,h1,h2,h3⟩:=r;exact h1.lt
theorem heap(r:RowB w b t n g)(e:w'.heap[b]? =w.heap[b]?):RowB w' b t n g:=by
 obtain⟨cs,h1,h2,h3⟩:=r
 exact⟨cs,Blk.of_heap e h1,h2,h3⟩
theorem drew(r:RowB w b t n g):RowB w.drew b t n g:=r
theorem below(r:RowB w b t n g)(hb:Below w.heap.size w w'):RowB w' b t n g:=r.heap (hb.block _ r.lt)
theorem alloc(r:RowB w b t n g)(o:Obj):RowB (w.alloc o) b t n g:=r.below ((Amf _ _).alloc (Ama _) o)
theorem far(r:RowB w b t n g){p:Addr}(hp:p.block≠b)(v:Value):RowB (w.setCell p v) b t n g:=r.heap (Below.heap_setCell _ _ _ _ (Ne.symm hp))
theorem set(r:RowB w b t n g){i:Nat}(v:Value)(hg: ∀j,j<n->h j=if j=i then v else g j):RowB (w.setCell ⟨b,i,none⟩ v) b t n h:=by
 obtain⟨cs,h1,h2,h3⟩:=r
 refine⟨cs.setIfInBounds i v,h1.set_ i v,by simpa using h2,fun j hj=>?_⟩
 rw[hg j hj]
 by_cases e:j=i
 ·subst e
  rw[if_pos rfl,Array.getElem?_setIfInBounds_self,if_pos (by omega)]
 ·rw[if_neg e,Array.getElem?_setIfInBounds_ne (fun q=>e q.symm)]
  exact h3 j hj
theorem congr(r:RowB w b t n g)(hg: ∀j,j<n->h j=g j):RowB w b t n h:=by
 obtain⟨cs,h1,h2,h3⟩:=r
 exact⟨cs,h1,h2,fun i hi=>by rw[hg i hi];exact h3 i hi⟩
theorem made(w:World)(t:TypeId)(n:Nat)(v:Value):RowB (w.alloc (.cells (Array.replicate n v) t)) w.heap.size t n (fun _=>v):=
 ⟨_,Blk.new _ _ _,by simp,fun i hi=>by simp[hi]⟩
end RowB
def Fp(S:St)(i:Nat):List Int:=(List.range i).flatMap (Eb S)
theorem Rz(S:St)(i:Nat):Fp S (i+1)=Fp S i++Eb S i:=Us _ i
theorem Aej{S:St}(hs:S.small)(i:Nat)(hi:i<=1000):(Fp S i).length<=1000000:=by
 unfold Fp
 have:=Zt (f:=Eb S) (c:=1000) (fun i=>by rw[Su];exact hs.en i) i
 have h2:i*1000<=1000*1000:=Nat.mul_le_mul_right _ hi
 omega
theorem Inv.ents_file{S:St}(h:Inv S){i:Nat}(hi:i<S.inodes.length)(hd:S.dir i=false):Eb S i=[]:=by
 rw[Pa,h.isFile _ (Inv.ino_mem hi) hd];rfl
theorem Inv.manyU_eq{S:St}(h:Inv S): ∀i,i<=S.inodes.length->Fp S i=Sa S i
 | 0,_=>rfl
 | i+1,hi=>by
  rw[Rz,Yx,h.manyU_eq i (by omega)]
  cases hd:S.dir i with
  | true=>rw[if_pos rfl]
  | false=>rw[if_neg (by decide),h.ents_file (by omega) hd]
theorem Inv.may_dir{S:St}(h:Inv S){i:Nat}(hi:i<S.inodes.length)(h0:0<i)(hd:S.dir i=true):Kf S (S.num i)=1/\Jy S (S.num i)=true:=by
 refine⟨?_,?_⟩
 ·rw[Yy]
  have h1:=h.num_lt hi h0
  have h2:=h.num0.1
  exact h.one _ (Inv.ino_mem hi) hd (by show S.num i≠1;omega)
 ·unfold Jy
  rw[List.contains_eq_mem]
  exact decide_eq_true (h.found_of_reach (h.reach _ (Inv.ino_mem hi) hd))
theorem Inv.may_file{S:St}(h:Inv S){i:Nat}(hi:i<S.inodes.length)(hd:S.dir i=false):Jy S (S.num i)=true∨(Kf S (S.num i)=0/\0<=Hq S (S.num i)):=by
 by_cases hl:S.num i∈Bp S
 ·obtain⟨d,hE⟩:=Gy.1 hl
  obtain⟨x,hx,rfl,hxd,e⟩:=id hE
  left
  unfold Jy
  rw[List.contains_eq_mem]
  exact decide_eq_true (h.found_of_reach ((h.reach x hx hxd).step hE))
 ·right
  refine⟨by rw[Yy];exact List.count_eq_zero.2 hl,?_⟩
  rcases h.file _ (Inv.ino_mem hi) hd with q | ⟨o,ho,q⟩
  ·exact absurd q hl
  ·by_cases hn:0<=Hq S (S.num i)
   ·exact hn
   ·exfalso
    have hx:(List.range S.opens.length).find? (fun j=>S.on j==S.num i)=none:=by
     cases e:(List.range S.opens.length).find? (fun j=>S.on j==S.num i)with
     | none=>rfl
     | some k=>unfold Hq at hn;rw[e]at hn;exact absurd (show(0:Int)<= (k:Nat)by omega) hn
    rw[List.find?_eq_none]at hx
    obtain⟨j,hj,e⟩:=List.getElem_of_mem ho
    have:=hx j (by simpa using hj)
    unfold St.on at this
    rw[An hj,e,q]at this
    exact this (by simp[St.num])
theorem Inv.enu_in{S:St}(h:Inv S){i k:Nat}(hi:i<S.inodes.length)(hk:k<S.ne i): ∃g:Nat,g<S.inodes.length/\Bh S (S.enu i k)=g/\S.num g=S.enu i k/\S.enu i k≠1:=by
 have hm:=Inv.ino_mem hi
 have hke:k< (S.ino i).ents.length:=hk
 have hmem:(S.ino i).ents.getD k (ByteArray.empty,0)∈(S.ino i).ents:=Bm hke
 obtain⟨g1,y,hy,g2⟩:=h.goal _ hm _ hmem
 obtain⟨g,hg,h1,h2⟩:=Ir (h.ord).rise hy
 have h3:S.enu i k=y.num:=g2.symm
 refine⟨g,hg,by rw[h3];exact h2,?_,g1⟩
 rw[h3]
 unfold St.num St.ino
 rw[Ame,h1];rfl
theorem Ah0(L:List Int)(S:St)(h:Inv S){j g:Nat}(hj:j<S.inodes.length)(hg:g<S.inodes.length){x:Int}(hx:S.num g=x):((L++[x]).count (S.num j):Int)=if j=g then(L.count (S.num g):Int)+1 else(L.count (S.num j):Int):=by
 subst hx
 rw[Ab7]
 by_cases e:j=g
 ·subst e;simp
 ·rw[if_neg e,if_neg fun q=>e (h.num_inj hj hg q)]
theorem Aai(F:List Int)(S:St)(h:Inv S){j g:Nat}(hj:j<S.inodes.length)(hg:g<S.inodes.length){x:Int}(hx:S.num g=x):(F++[x]).contains (S.num j)=if j=g then true else F.contains (S.num j):=by
 subst hx
 rw[Ty]
 by_cases e:j=g
 ·subst e;simp
 ·rw[if_neg e,if_neg fun q=>e (h.num_inj hj hg q)]
theorem Inv.kids_at{S:St}(h:Inv S){i:Nat}(hi:i<S.inodes.length):kids S (S.num i)=Eb S i:=by
 unfold kids
 rw[h.firstIx_at hi]
 show(if S.dir i then Eb S i else [])=_
 cases hd:S.dir i with
 | true=>rw[if_pos rfl]
 | false=>rw[if_neg (by decide),h.ents_file hi hd]
def Pc(S:St)(F:List Int):Prop:=∀x∈F,∃g:Nat,g<S.inodes.length/\S.num g=x/\Bh S x=g
theorem Inv.names1{S:St}(h:Inv S):Pc S [1]:=fun x hx=>by
 have hx:x=1:=by simpa using hx
 subst hx
 have h0:=h.num0.1
 exact⟨0,h.pos,h0,Gw h.pos h0 fun i hi=>absurd hi (by omega)⟩
theorem Aly{s t:ByteArray}(h:nlt s t=true):nlt t s=false:=by
 cases h2:nlt t s with
 | false=>rfl
 | true=>have:=Ep h h2;rw[Ct]at this;cases this
theorem Inv.slot_le{S:St}(h:Inv S){i j:Nat}(hi:i<S.inodes.length)(hj:j<S.ne i):cnt S i (j+1) (Aa (S.enm i j))<=4:=by
 have hm:=Inv.ino_mem hi
 have h4:=h.slots _ hm (Aa (S.enm i j))
 have hk:j< (S.ino i).ents.length:=hj
 refine Aml ?_ h4
 have h7:(S.ino i).ents.take (j+1)=(List.range (j+1)).map fun j=>(S.ino i).ents.getD j (ByteArray.empty,0):=by
  refine List.ext_getElem? fun q=>?_
  rw[List.getElem?_map,List.getElem?_take]
  by_cases e:q<j+1
  ·rw[if_pos e,List.getElem?_range e,Amh (by omega)]
   simp only[Option.map_some]
   rw[An (by omega:q<_)]
  ·rw[if_neg e,List.getElem?_eq_none (by simpa using e)];rfl
 have h6:(((S.ino i).ents.take (j+1)).filter fun e=>Aa e.1==Aa (S.enm i j)).length<= ((S.ino i).ents.filter fun e=>Aa e.1==Aa (S.enm i j)).length:=((List.take_sublist _ _).filter _).length_le
 rw[h7,List.filter_map,List.length_map]at h6
 exact h6
theorem Ry{w:World}{sp:Nat}{iv ov mv:Value}{ev:Nat->Value}{S:St}(hS:StM w iv ov mv ev S)(hI:Inv S)(h0:w.cell? ⟨sp,0,none⟩=some iv){k:Nat}(hk:k<S.inodes.length):
  Calls Tryz.prog 98 #[.pointer (some ⟨sp,0,none⟩),ev k] w fun e w'=>e= .returned (.bool true)/\Below w.heap.size w w':=by
 have hsm:=hI.small
 have HS:=lhi hS
 have HI:=lhi hI
 have HENT:=lhi (hS.ent k hk)
 have hne:=hsm.en k
 have HORD:=lhi hI.ord
 have hp0:=Amd _ _ h0
 obtain⟨EA,ecap,hev,-,-⟩:=hS.ent k hk
 rw[hev]at HENT⊢
 obtain⟨ne,hnee⟩:=xx (S.ne k)
 have HNE:=lhi hnee
 rw[hnee]at HENT hne⊢
 clear hS hI hsm hev hnee
 go_enter Tryz.func98,Tryz.ntmps98
 go_wp2_with (fail)
 have HB0:=lhi ((Amf w.heap.size w).alloc (Ama _) (Obj.cells #[.int .i64 0,.int .i64 0,.int .i64 0,.int .i64 0,.int .i64 0,.int .i64 0,.int .i64 0,.int .i64 0] 183))
 have HS0:=lhi (show Blk (w.alloc (Obj.cells #[.int .i64 0,.int .i64 0,.int .i64 0,.int .i64 0,.int .i64 0,.int .i64 0,.int .i64 0,.int .i64 0] 183)) w.heap.size 183 (cntA (cnt S k 0))from Blk.new w 183 (cntA fun _=>0))
 generalize w.alloc (Obj.cells #[.int .i64 0,.int .i64 0,.int .i64 0,.int .i64 0,.int .i64 0,.int .i64 0,.int .i64 0,.int .i64 0] 183)=wl at*
 obtain⟨sl,hsl⟩:=xx w.heap.size
 have HSL:=lhi hsl
 rw[hsl]
 rw[hsl]at HS0
 clear hsl
 go_loopw [11] (fun i wr=>∃j:Nat,i= .int .i64 j/\j<=ne/\Below w.heap.size w wr/\Blk wr sl 183 (cntA (cnt S k j))) (fun i _=>ne - (intOf i).toNat)
 case atStart=>exact⟨0,rfl,by omega,HB0.out,HS0.out⟩
 case round=>
  obtain⟨j,rfl,hj,hB,hbs⟩:=hrel
  have HB:=lhi hB
  have HBS:=lhi hbs
  by_cases hp:j<ne
  ·obtain⟨-,-,eg,eoff,rfl,hcell⟩:=(HENT.out.keep hB).at_ hp
   have q0:wr.cell? ⟨eg,eoff+j*2,none⟩=some (.string (S.enm k j)):=hcell 0 (by omega)
   have q1:wr.cell? ⟨eg,eoff+j*2+1,none⟩=some (.int .i64 (S.enu k j)):=hcell 1 (by omega)
   have hp2:(j:Int)<ne:=by omega
   obtain⟨g,hg,hgo,-,hne1⟩:=HI.out.enu_in hk (by rw[HNE.out];exact hp)
   have HNM:=lhi (show Bu (S.enm k j)=0 from HI.out.nam _ (Inv.ino_mem hk) _ (Bm (by have:=HNE.out;unfold St.ne at this;omega)))
   have HSLOT:=lhi (HI.out.slot_le hk (by rw[HNE.out];exact hp))
   have HCS:=lhi (Ah2 S k j)
   have HUP:=lhi (show∀p,j=p+1->nlt (S.enm k p) (S.enm k j)=true from fun p e=>by
    have hl:j< (S.ino k).ents.length:=by have:=HNE.out;unfold St.ne at this;omega
    have:=List.pairwise_iff_getElem.1 (HI.out.up _ (Inv.ino_mem hk)) p j (by omega) hl (by omega)
    unfold St.enm
    rw[An hl,An (by omega:p<_)]
    exact this)
   have HFI:=lhi (fun(W:World) (hW:Below w.heap.size w W)=>Ia (sp:=sp) (HS.out.keep hW) HORD.out.n (S.enu k j) HORD.out.rise ((hW.cell hp0).trans h0))
   rw[hgo]at HFI
   have HCO:=lhi hcell
   have hnb:=Cz (S.enm k j)
   clear hcell hgo hB hbs hg
   obtain⟨nm,hnm⟩: ∃x,S.enm k j=x:=⟨_,rfl⟩
   obtain⟨nu,hnu⟩: ∃x,S.enu k j=x:=⟨_,rfl⟩
   rw[hnm]at q0 HNM HSLOT HUP hnb HCS
   rw[hnu]at q1 HFI hne1
   have HE:=lhi (Blk.new wr 132 #[.string nm,.int .i64 nu])
   have HBA:=lhi (HB.out.alloc HB.out.size (Obj.cells #[.string nm,.int .i64 nu] 132))
   have HBSA:=lhi (HBS.out.alloc (Obj.cells #[.string nm,.int .i64 nu] 132))
   have HM:=lhi (Uj nm)
   rw[HNM.out]at HM
   have HM:=lhi (show∀W:World,Calls Tryz.prog 105 #[.string nm] W fun e w'=>e= .returned (.bool true)/\Below W.heap.size W w' from HM.out)
   have hne2:(nu==1)=false:=by simpa using hne1
   have HPREV:=lhi (show∀p,j=p+1->(wr.alloc (Obj.cells #[.string nm,.int .i64 nu] 132)).cell? ⟨eg,eoff+p*2,none⟩=some (.string (S.enm k p))from fun p e=>by
    obtain⟨-,-,g',off',e',hc⟩:=(HENT.out.keep HBA.out).at_ (i:=p) (by omega)
    injection e' with e'
    injection e' with e1 e2
    subst e1 e2
    exact hc 0 (by omega))
   clear hne1 HCO
   go_upto_region 5 with(fail)
   obtain⟨wy,hwy⟩:=yy (wr.alloc (Obj.cells #[.string nm,.int .i64 nu] 132))
   rw[<-hwy]at HE HBA HPREV HBSA⊢
   obtain⟨eb,heb⟩:=xx wr.heap.size
   rw[heb]at HE⊢
   clear q0 q1 hwy heb
   go_cut [46] (fun s wx=>s= .bool false/\Below wy.heap.size wy wx)
   case first=>
    have e0: ∀x:WIn (Bel wy),x.v.cell? ⟨eb,0,none⟩=some (.string nm):=fun x=>x.cell (HE.out.cell 0)
    have e1: ∀x:WIn (Bel wy),x.v.cell? ⟨eb,1,none⟩=some (.int .i64 nu):=fun x=>x.cell (HE.out.cell 1)
    have HFX:=lhi (fun x:WIn (Bel wy)=>HFI.out x.v (HBA.out.trans (x.h.mono HBA.out.size)))
    have hg0: ¬ ((g:Int)<0):=by omega
    by_cases hj0:0<j
    ·obtain⟨p,hjp⟩: ∃p,j=p+1:=⟨j - 1,by omega⟩
     have p0: ∀x:WIn (Bel wy),x.v.cell? ⟨eg,eoff+p*2,none⟩=some (.string (S.enm k p)):=fun x=>x.cell (HPREV.out p hjp)
     have hlt:=HUP.out p hjp
     obtain⟨pm,hpm⟩: ∃x,S.enm k p=x:=⟨_,rfl⟩
     rw[hpm]at p0 hlt
     clear hpm
     have hj1:decide ((0:Int)< (j:Int))=true:=decide_eq_true (by omega)
     have ej:IntKind.i64.wrap ((j:Int) - 1)=(p:Int):=by rw[IntWalk.i64_in _ (by omega)];omega
     have hpl:(p:Int)<ne:=by omega
     clear hjp
     have ej2:IntKind.i64.wrap (p:Int)=(p:Int):=IntWalk.i64_in _ (by omega)
     have l1:Op.bytesLess pm.toList nm.toList=true:=hlt
     have l2:Op.bytesLess nm.toList pm.toList=false:=Aly hlt
     have l3:(pm.toList==nm.toList)=false:=by
      cases h:pm.toList==nm.toList with
      | false=>rfl
      | true=>
       have h:pm.toList=nm.toList:=by simpa using h
       rw[h,Pb]at l1;cases l1
     refine Be (C:=Bel wy) (by kernel_rfl) (by kernel_rfl) (Bel.drew wy) ?_
     repeat (go_big_quiet_step (first | (go_at_call 105;exact Calls.bel _ (HM.out _)) | (go_at_call 94;exact Calls.bel _ (HFX.out _))))
     refine wpQuiet_nil ?_
     rintro _ ⟨⟨wx,hbx⟩,rfl⟩
     have HBX:=lhi hbx
     clear hbx e0 e1 p0
     go_wp2_with (fail)
     go_meet
     case rel=>exact⟨rfl,HBX.out⟩
    ·have hj1:decide ((0:Int)< (j:Int))=false:=decide_eq_false (by omega)
     refine Be (C:=Bel wy) (by kernel_rfl) (by kernel_rfl) (Bel.drew wy) ?_
     repeat (go_big_quiet_step (first | (go_at_call 105;exact Calls.bel _ (HM.out _)) | (go_at_call 94;exact Calls.bel _ (HFX.out _))))
     refine wpQuiet_nil ?_
     rintro _ ⟨⟨wx,hbx⟩,rfl⟩
     have HBX:=lhi hbx
     clear hbx e0 e1
     go_wp2_with (fail)
     go_meet
     case rel=>exact⟨rfl,HBX.out⟩
   case rest=>
    obtain⟨rfl,hcut⟩:=hcut
    have HBC:=lhi (HBA.out.trans (hcut.mono HBA.out.size))
    have HSC:=lhi (Blk.of_heap (hcut.block _ HBSA.out.lt) HBSA.out)
    have e0:wc.cell? ⟨eb,0,none⟩=some (.string nm):=(hcut.cell HE.out.lt).trans (HE.out.cell 0)
    have HBK:=lhi (Cj nm wc)
    clear hcut HBA HBSA HE HPREV HFI HM
    generalize Aa nm=q at*
    go_upto_region 8 with(go_at_call 62;refine HBK.out.mono ?_;rintro e w' ⟨rfl,hB6⟩)
    have HB6:=lhi (HBC.out.trans (hB6.mono HBC.out.size))
    have HS6:=lhi (Blk.of_heap (hB6.block _ HSC.out.lt) HSC.out)
    clear hB6 HSC HBK e0
    have hcl:=HSLOT.out
    have hcs:=HCS.out q
    rw[if_pos rfl]at hcs
    have hq8:(q:Int)<8:=by omega
    have s1:w'.cell? ⟨sl,q,none⟩=some (.int .i64 (cnt S k j q:Nat)):=(HS6.out.cell q).trans (Ajx _ hnb)
    have f1:w'.frozen? ⟨sl,q,none⟩=false:=HS6.out.frozen q
    have HSS:=lhi (show Blk (w'.setCell ⟨sl,q,none⟩ (.int .i64 ((cnt S k j q:Nat)+1))) sl 183 (cntA (cnt S k (j+1)))by
     have:=HS6.out.set_ q (.int .i64 ((cnt S k j q:Nat)+1))
     rwa [Ah3 (cnt S k j) (cnt S k (j+1)) hnb (by rw[HCS.out,if_pos rfl];omega) (fun i _ hi=>by rw[HCS.out,if_neg (Ne.symm hi)];rfl)]at this)
    have HBB:=lhi (HB6.out.setCell (p:=⟨sl,q,none⟩) (by have:=HSL.out;show w.heap.size<=sl;omega) (.int .i64 ((cnt S k j q:Nat)+1)))
    have h5:cnt S k j q+1<=4:=by omega
    clear HS6 HCS HSLOT hcs hcl
    generalize cnt S k j q=cq at*
    have h6: ¬ ((4:Int)< (cq:Int)+1):=by omega
    go_wp2_with (fail)
    go_roundw
    case rel=>exact⟨j+1,by go_num,by omega,HBB.out,HSS.out⟩
    case measure=>
     simp only[intOf]
     omega
  ·have e:j=ne:=by omega
   subst e
   clear hB hbs
   go_wp2_with (fail)
   go_ret
   exact⟨rfl,HB.out⟩
theorem Tw{w:World}{sp:Nat}{iv ov mv:Value}{ev:Nat->Value}{S:St}(hS:StM w iv ov mv ev S)(hI:Inv S)(h0:w.cell? ⟨sp,0,none⟩=some iv)(h2:w.cell? ⟨sp,2,none⟩=some mv):
  Calls Tryz.prog 47 #[.pointer (some ⟨sp,0,none⟩)] w fun e w'=>e= .returned (.bool true)/\Below w.heap.size w w':=by
 have hsm:=hI.small
 have hn:=hsm.ni
 have hpos:=hI.pos
 have HS:=lhi hS
 have HI:=lhi hI
 have HR:=lhi hS.ino
 have hp0:=Amd _ _ h0
 have hp2:=Amd _ _ h2
 obtain⟨n1,d1⟩:=hI.num0
 obtain⟨A,cap,rfl,-,-⟩:=hS.ino
 obtain⟨n,hnn⟩:=xx S.inodes.length
 have HNN:=lhi hnn
 have HL0:=lhi h0
 rw[hnn]at hn hpos HR h0
 obtain⟨-,-,g0,off0,rfl,hcell0⟩:=HR.out.at_ hpos
 have r0:w.cell? ⟨g0,off0,none⟩=some (.int .i64 1):=by have:=hcell0 0 (by omega);simp only[Nat.zero_mul,Nat.add_zero]at this;rw[this];simp[inoC,n1]
 have r1:w.cell? ⟨g0,off0+1,none⟩=some (.bool true):=by have:=hcell0 1 (by omega);simp only[Nat.zero_mul,Nat.zero_add]at this;rw[this];simp[inoC,d1]
 have hz:((n:Int)==0)=false:=by simp;omega
 have hz1:(0:Int)< (n:Int):=by omega
 have H0:=lhi h0
 have H2:=lhi h2
 clear hS hI hcell0 hsm hnn
 go_enter Tryz.func47,Tryz.ntmps47
 go_wp2_with (fail)
 clear r0 r1 h0 h2
 go_loopw [3] (fun i wr=>∃k:Nat,i= .int .i64 k/\1<=k/\k<=n/\Below w.heap.size w wr) (fun i _=>n - (intOf i).toNat)
 case atStart=>exact⟨1,rfl,by omega,by omega,Amf _ _⟩
 case round=>
  obtain⟨k,rfl,hk1,hk,hB⟩:=hrel
  have HB:=lhi hB
  have c0:wr.cell? ⟨sp,0,none⟩=some (.slice (some ⟨g0,off0,none⟩) n cap):=(hB.cell hp0).trans H0.out
  by_cases hp:k<n
  ·obtain⟨p,rfl⟩: ∃p,k=p+1:=⟨k - 1,by omega⟩
   obtain⟨-,-,g,off,e,hcell⟩:=(HR.out.keep hB).at_ hp
   injection e with e
   injection e with e1 e2
   subst e1 e2
   obtain⟨-,-,g',off',e,hcell'⟩:=(HR.out.keep hB).at_ (i:=p) (by omega)
   injection e with e
   injection e with e1 e2
   subst e1 e2
   have q0:wr.cell? ⟨g0,off0+ (p+1)*4,none⟩=some (.int .i64 (S.num (p+1))):=hcell 0 (by omega)
   have q1:wr.cell? ⟨g0,off0+p*4,none⟩=some (.int .i64 (S.num p)):=hcell' 0 (by omega)
   have hlt:S.num p<S.num (p+1):=HI.out.num_lt (by rw[HNN.out];exact hp) (by omega)
   have hpn:p+1<S.inodes.length:=by rw[HNN.out];exact hp
   have hbd:=HI.out.num_bound (Inv.ino_mem hpn)
   have hbd:1<=S.num (p+1)/\S.num (p+1)<=257:=hbd
   have hpl:1<=S.num p:=(HI.out.num_bound (Inv.ino_mem (by omega:p<S.inodes.length))).1
   have HMN:=lhi (fun x:WIn (Bel wr)=>Abo (sp:=sp) (HS.out.keep (hB.trans (x.h.mono hB.size))) HI.out ((x.h.cell (by have:=hB.size;show sp<_;have:sp<w.heap.size:=hp2;omega)).trans ((hB.cell hp2).trans H2.out)) (HI.out.given _ (Inv.ino_mem hpn) (show S.num (p+1)≠1 by omega)) (show S.num (p+1)<=1000000 by omega))
   have HMN:=lhi (show∀x:WIn (Bel wr),Calls Tryz.prog 97 #[.pointer (some ⟨sp,0,none⟩),.int .i64 (S.num (p+1))] x.v fun e w'=>e= .returned (.bool true)/\Below x.v.heap.size x.v w' from HMN.out)
   have x0: ∀x:WIn (Bel wr),x.v.cell? ⟨sp,0,none⟩=some (.slice (some ⟨g0,off0,none⟩) n cap):=fun x=>x.cell c0
   have y0: ∀x:WIn (Bel wr),x.v.cell? ⟨g0,off0+ (p+1)*4,none⟩=some (.int .i64 (S.num (p+1))):=fun x=>x.cell q0
   have y1: ∀x:WIn (Bel wr),x.v.cell? ⟨g0,off0+p*4,none⟩=some (.int .i64 (S.num p)):=fun x=>x.cell q1
   clear hcell hcell' hbd hpl
   obtain⟨a,ha⟩:=xx (S.num (p+1))
   obtain⟨b,hb⟩:=xx (S.num p)
   rw[ha]at hlt HMN y0
   rw[hb]at hlt y1
   have hle: ¬ (a<=b):=by omega
   have hpi:((p:Int)+1)<n:=by omega
   have hpj:(p:Int)<n:=by omega
   have ej:IntKind.i64.wrap ((p:Int)+1 - 1)=(p:Int):=by rw[IntWalk.i64_in _ (by omega)];omega
   have ej2:IntKind.i64.wrap (p:Int)=(p:Int):=IntWalk.i64_in _ (by omega)
   clear q0 q1 ha hb hB hlt
   go_upto_region 6 with(fail)
   refine Be (C:=Bel wr) (by kernel_rfl) (by kernel_rfl) (Bel.drew wr) ?_
   repeat (go_big_quiet_step ((go_at_call 97;exact Calls.bel _ (HMN.out _))))
   refine wpQuiet_nil ?_
   rintro wx ⟨x5,h5⟩
   have hbx:=x5.h
   rw[<-h5]at hbx
   clear h5 x5
   have HBX:=lhi (HB.out.trans ((show Below wr.heap.size wr wx from hbx).mono HB.out.size))
   clear hbx x0 y0 y1
   go_wp2_with (fail)
   go_roundw
   case rel=>exact⟨p+1+1,by go_num,by omega,by omega,HBX.out⟩
   case measure=>
    simp only[intOf]
    omega
  ·have e:k=n:=by omega
   subst e
   clear hB
   go_wp2_with (fail)
   clear c0
   obtain⟨w1,rfl⟩: ∃w1:World,w1=wr:=⟨_,rfl⟩
   go_loopw [77] (fun i wr=>∃j:Nat,i= .int .i64 j/\j<=k/\Below w.heap.size w wr) (fun i _=>k - (intOf i).toNat)
   case atStart=>exact⟨0,rfl,by omega,HB.out⟩
   case round=>
    obtain⟨j,rfl,hj,hB⟩:=hrel
    have HB2:=lhi hB
    by_cases hp:j<k
    ·obtain⟨-,-,g,off,e,hcell⟩:=(HR.out.keep hB).at_ hp
     injection e with e
     injection e with e1 e2
     subst e1 e2
     have q0:wr.cell? ⟨g0,off0+j*4,none⟩=some (.int .i64 (S.num j)):=hcell 0 (by omega)
     have q1:wr.cell? ⟨g0,off0+j*4+1,none⟩=some (.bool (S.dir j)):=hcell 1 (by omega)
     have q2:wr.cell? ⟨g0,off0+j*4+2,none⟩=some (ev j):=hcell 2 (by omega)
     have q3:wr.cell? ⟨g0,off0+j*4+3,none⟩=some (.string (S.dat j)):=hcell 3 (by omega)
     have hp1:(j:Int)<k:=by omega
     have hjn:j<S.inodes.length:=by rw[HNN.out];exact hp
     have hm:=Inv.ino_mem hjn
     obtain⟨EA,ecap,hev,-,-⟩:=HS.out.ent j hjn
     have HME:=lhi (fun(W:World) (hW:Below w.heap.size w W)=>Ry (sp:=sp) (HS.out.keep hW) HI.out ((hW.cell hp0).trans HL0.out) hjn)
     rw[hev]at q2 HME
     have hds:=HI.out.dat _ hm
     have hds:(S.dat j).size<=256:=hds
     have hdir:=HI.out.isDir _ hm
     have hfile:=HI.out.isFile _ hm
     have HBA:=lhi (hB.alloc hB.size (.cells #[.int .i64 (S.num j),.bool (S.dir j),.slice EA (S.ne j) ecap,.string (S.dat j)] 93))
     have HX:=lhi (Blk.new wr 93 #[.int .i64 (S.num j),.bool (S.dir j),.slice EA (S.ne j) ecap,.string (S.dat j)])
     clear hcell hB hev
     cases hd:S.dir j with
     | true=>
      have hz0:(S.dat j).size=0:=hdir hd
      have hz3:(S.dat j).toList=[]:=by
       rw[ByteArray.toList_eq]
       exact List.length_eq_zero_iff.1 (by rw[Array.length_toList];exact hz0)
      have hz5:(!(S.dat j).toList.isEmpty)=false:=by simp[hz3]
      rw[hd]at q1 HBA HX
      clear hd hdir hfile hz0 hz3
      go_wp2_with (go_at_call 98;refine(HME.out _ HBA.out).mono ?_;rintro e w1 ⟨rfl,hb1⟩;have z1:w1.cell? ⟨wr.heap.size,1,none⟩=some (.bool true):=(hb1.cell (p:=⟨wr.heap.size,1,none⟩) HX.out.lt).trans (HX.out.cell 1))
      go_roundw
      case rel=>exact⟨j+1,by go_num,by omega,HBA.out.trans (hb1.mono HBA.out.size)⟩
      case measure=>
       simp only[intOf]
       omega
     | false=>
      have hz0:S.ne j=0:=by have:=hfile hd;show(S.ino j).ents.length=0;rw[this];rfl
      rw[hd]at q1 HBA HX
      rw[hz0]at q2 HBA
      have hz4: ¬ (256:Int)< ((S.dat j).size:Int):=by omega
      clear hd hdir hfile hz0
      go_wp2_with (fail)
      go_roundw
      case rel=>exact⟨j+1,by go_num,by omega,HBA.out⟩
      case measure=>
       simp only[intOf]
       omega
    ·have e:j=k:=by omega
     subst e
     clear hB
     go_wp2_with (fail)
     go_ret
     exact⟨rfl,HB2.out⟩
theorem Yu{w:World}{sp:Nat}{iv ov mv:Value}{ev:Nat->Value}{S:St}(hS:StM w iv ov mv ev S)(hI:Inv S)(h0:w.cell? ⟨sp,0,none⟩=some iv)(h1:w.cell? ⟨sp,1,none⟩=some ov)(h2:w.cell? ⟨sp,2,none⟩=some mv):
  Calls Tryz.prog 48 #[.pointer (some ⟨sp,0,none⟩)] w fun e w'=>e= .returned (.bool true)/\Below w.heap.size w w':=by
 have hsm:=hI.small
 have hn:=hsm.no
 have HS:=lhi hS
 have HI:=lhi hI
 have HR:=lhi hS.ino
 have HO:=lhi hS.opn
 have HORD:=lhi hI.ord
 have hp0:=Amd _ _ h0
 have h8:=hI.m8
 obtain⟨A,cap,rfl,-,-⟩:=hS.ino
 obtain⟨OA,ocap,rfl,-,-⟩:=hS.opn
 obtain⟨MA,mcap,rfl,-,-⟩:=hS.mad
 obtain⟨n,hnn⟩:=xx S.opens.length
 have HNN:=lhi hnn
 rw[hnn]at hn HO h1
 have H0:=lhi h0
 have H1:=lhi h1
 have H2:=lhi h2
 clear hS hI hsm hnn
 go_enter Tryz.func48,Tryz.ntmps48
 go_wp2_with (fail)
 clear h0 h1 h2
 go_loopw [11] (fun i wr=>∃k:Nat,i= .int .i64 k/\k<=n/\Below w.heap.size w wr) (fun i _=>n - (intOf i).toNat)
 case atStart=>exact⟨0,rfl,by omega,Amf _ _⟩
 case round=>
  obtain⟨k,rfl,hk,hB⟩:=hrel
  have HB:=lhi hB
  by_cases hp:k<n
  ·obtain⟨-,-,g,off,rfl,hcell⟩:=(HO.out.keep hB).at_ hp
   have q0:wr.cell? ⟨g,off+k*3,none⟩=some (.int .i64 (S.oc k)):=hcell 0 (by omega)
   have q1:wr.cell? ⟨g,off+k*3+1,none⟩=some (.int .i64 (S.of k)):=hcell 1 (by omega)
   have q2:wr.cell? ⟨g,off+k*3+2,none⟩=some (.int .i64 (S.on k)):=hcell 2 (by omega)
   have hp1:(k:Int)<n:=by omega
   have hkl:k<S.opens.length:=by rw[HNN.out];exact hp
   have hmem:S.opens.getD k (0,0,0)∈S.opens:=Bm hkl
   obtain⟨o1,o2,o3,o4,y,hy,o5,o6⟩:=HI.out.ok _ hmem
   have o1:0<=S.oc k:=o1
   have o2:S.oc k<S.made.length:=o2
   have o3:0<=S.of k:=o3
   have o4:S.of k<4:=o4
   obtain⟨ng,hng,hng2,hpl⟩:=Ir HORD.out.rise hy
   have o5:y.num=S.on k:=o5
   rw[o5]at hpl
   have hdir:S.dir ng=false:=by
    unfold St.dir St.ino
    rw[Ame,hng2];exact o6
   have HPREV:=lhi (show∀p,k=p+1->wr.cell? ⟨g,off+p*3,none⟩=some (.int .i64 (S.oc p))/\wr.cell? ⟨g,off+p*3+1,none⟩=some (.int .i64 (S.of p))/\ (S.oc p<S.oc k∨S.oc p=S.oc k/\S.of p<S.of k)/\0<=S.oc p from fun p e=>by
    obtain⟨-,-,g',off',e',hc⟩:=(HO.out.keep hB).at_ (i:=p) (by omega)
    injection e' with e'
    injection e' with e1 e2
    subst e1 e2
    have hs:=List.pairwise_iff_getElem.1 HI.out.osort p k (by omega) hkl (by omega)
    refine⟨hc 0 (by omega),hc 1 (by omega),?_,?_⟩
    ·unfold St.oc St.of
     rw[An hkl,An (by omega:p<_)]
     exact hs
    ·exact(HI.out.ok _ (Bm (d:=(0,0,0)) (by omega:p<S.opens.length))).1)
   have HFI:=lhi (fun(W:World) (hW:Below w.heap.size w W)=>Ia (sp:=sp) (HS.out.keep hW) HORD.out.n (S.on k) HORD.out.rise ((hW.cell hp0).trans H0.out))
   rw[hpl]at HFI
   have HD:=lhi (fun(W:World) (hW:Below w.heap.size w W)=>(HR.out.keep hW).at_ hng)
   rw[show S.inodes.length=S.inodes.length from rfl]at HD
   clear hcell hmem hy o5 o6 hng2 hpl
   obtain⟨oc,hoc⟩: ∃x,S.oc k=x:=⟨_,rfl⟩
   obtain⟨of,hof⟩: ∃x,S.of k=x:=⟨_,rfl⟩
   obtain⟨on,hon⟩: ∃x,S.on k=x:=⟨_,rfl⟩
   rw[hoc]at q0 o1 o2 HPREV
   rw[hof]at q1 o3 o4 HPREV
   rw[hon]at q2 HFI
   clear hoc hof hon
   have HE:=lhi (Blk.new wr 144 #[.int .i64 oc,.int .i64 of,.int .i64 on])
   have HBA:=lhi (HB.out.alloc HB.out.size (Obj.cells #[.int .i64 oc,.int .i64 of,.int .i64 on] 144))
   have HBW:=lhi ((Amf wr.heap.size wr).alloc (Ama _) (Obj.cells #[.int .i64 oc,.int .i64 of,.int .i64 on] 144))
   have c1: ¬ (oc<0):=by omega
   have c2: ¬ ((S.made.length:Int)<=oc):=by omega
   have c3: ¬ (of<0):=by omega
   have c4: ¬ ((4:Int)<=of):=by omega
   have hdl:(S.inodes.length:Int)<=1000:=by have:=HORD.out.n;omega
   have hng1:(ng:Int)<S.inodes.length:=by omega
   clear o1 o2 o3 o4 hB
   go_upto_region 4 with(fail)
   clear q0 q1 q2
   obtain⟨wy,hwy⟩:=yy (wr.alloc (Obj.cells #[.int .i64 oc,.int .i64 of,.int .i64 on] 144))
   rw[<-hwy]at HE HBA HBW⊢
   obtain⟨eb,heb⟩:=xx wr.heap.size
   rw[heb]at HE⊢
   clear hwy
   have e0: ∀x:WIn (Bel wy),x.v.cell? ⟨eb,0,none⟩=some (.int .i64 oc):=fun x=>x.cell (HE.out.cell 0)
   have e1: ∀x:WIn (Bel wy),x.v.cell? ⟨eb,1,none⟩=some (.int .i64 of):=fun x=>x.cell (HE.out.cell 1)
   have e2: ∀x:WIn (Bel wy),x.v.cell? ⟨sp,2,none⟩=some (.slice MA S.made.length mcap):=fun x=>x.cell ((HBA.out.cell (Amd _ _ H2.out)).trans H2.out)
   refine Be (C:=Bel wy) (by kernel_rfl) (by kernel_rfl) (Bel.drew wy) ?_
   repeat (go_big_quiet_step (fail))
   refine wpQuiet_nil ?_
   rintro wx ⟨x5,h5⟩
   have hbx:=x5.h
   rw[<-h5]at hbx
   clear h5 x5
   have HBX:=lhi (show Below wy.heap.size wy wx from hbx)
   clear hbx e0 e1 e2
   have HEX:=lhi (Blk.of_heap (HBX.out.block _ HE.out.lt) HE.out)
   have HBC:=lhi (HBA.out.trans (HBX.out.mono HBA.out.size))
   have HBY:=lhi (HBW.out.trans (HBX.out.mono HBW.out.size))
   clear HE HBA HBX HBW
   go_upto_region 6 with(fail)
   go_cut [82] (fun s wz=>s= .bool false/\Below wx.heap.size wx wz)
   case first=>
    have e0: ∀x:WIn (Bel wx),x.v.cell? ⟨eb,0,none⟩=some (.int .i64 oc):=fun x=>x.cell (HEX.out.cell 0)
    have e1: ∀x:WIn (Bel wx),x.v.cell? ⟨eb,1,none⟩=some (.int .i64 of):=fun x=>x.cell (HEX.out.cell 1)
    have e2: ∀x:WIn (Bel wx),x.v.cell? ⟨sp,1,none⟩=some (.slice (some ⟨g,off,none⟩) n ocap):=fun x=>x.cell ((HBC.out.cell (Amd _ _ H1.out)).trans H1.out)
    by_cases hk0:0<k
    ·obtain⟨p,hkp⟩: ∃p,k=p+1:=⟨k - 1,by omega⟩
     obtain⟨z0,z1,z2,z3⟩:=HPREV.out p hkp
     have y0: ∀x:WIn (Bel wx),x.v.cell? ⟨g,off+p*3,none⟩=some (.int .i64 (S.oc p)):=fun x=>x.cell ((HBY.out.cell (Amd _ _ z0)).trans z0)
     have y1: ∀x:WIn (Bel wx),x.v.cell? ⟨g,off+p*3+1,none⟩=some (.int .i64 (S.of p)):=fun x=>x.cell ((HBY.out.cell (Amd _ _ z1)).trans z1)
     obtain⟨pc,hpc⟩: ∃x,S.oc p=x:=⟨_,rfl⟩
     obtain⟨pf,hpf⟩: ∃x,S.of p=x:=⟨_,rfl⟩
     rw[hpc]at y0 z2 z3
     rw[hpf]at y1 z2
     clear z0 z1 hpc hpf
     have hj1:decide ((0:Int)< (k:Int))=true:=decide_eq_true (by omega)
     have ej:IntKind.i64.wrap ((k:Int) - 1)=(p:Int):=by rw[IntWalk.i64_in _ (by omega)];omega
     have ej2:IntKind.i64.wrap (p:Int)=(p:Int):=IntWalk.i64_in _ (by omega)
     have hpj:(p:Int)<n:=by omega
     clear hkp
     have c5: ¬ (oc<pc):=by omega
     by_cases he:pc=oc
     ·have he1:(pc==oc)=true:=by simp[he]
      have c6: ¬ (of<=pf):=by omega
      clear z2
      refine Be (C:=Bel wx) (by kernel_rfl) (by kernel_rfl) (Bel.drew wx) ?_
      repeat (go_big_quiet_step (fail))
      refine wpQuiet_nil ?_
      rintro _ ⟨⟨wz,hbz⟩,rfl⟩
      have HBZ:=lhi hbz
      clear hbz e0 e1 e2 y0 y1
      go_wp2_with (fail)
      go_meet
      case rel=>exact⟨rfl,HBZ.out⟩
     ·have he1:(pc==oc)=false:=by simp[he]
      clear z2 he
      refine Be (C:=Bel wx) (by kernel_rfl) (by kernel_rfl) (Bel.drew wx) ?_
      repeat (go_big_quiet_step (fail))
      refine wpQuiet_nil ?_
      rintro _ ⟨⟨wz,hbz⟩,rfl⟩
      have HBZ:=lhi hbz
      clear hbz e0 e1 e2 y0 y1
      go_wp2_with (fail)
      go_meet
      case rel=>exact⟨rfl,HBZ.out⟩
    ·have hj1:decide ((0:Int)< (k:Int))=false:=decide_eq_false (by omega)
     refine Be (C:=Bel wx) (by kernel_rfl) (by kernel_rfl) (Bel.drew wx) ?_
     repeat (go_big_quiet_step (fail))
     refine wpQuiet_nil ?_
     rintro _ ⟨⟨wz,hbz⟩,rfl⟩
     have HBZ:=lhi hbz
     clear hbz e0 e1 e2
     go_wp2_with (fail)
     go_meet
     case rel=>exact⟨rfl,HBZ.out⟩
   case rest=>
    obtain⟨rfl,hcut⟩:=hcut
    have HEC:=lhi (Blk.of_heap (hcut.block _ HEX.out.lt) HEX.out)
    have HBD:=lhi (HBC.out.trans (hcut.mono HBC.out.size))
    clear hcut HEX HPREV HBY
    have e2:wc.cell? ⟨eb,2,none⟩=some (.int .i64 on):=HEC.out.cell 2
    have c0:wc.cell? ⟨sp,0,none⟩=some (.slice A S.inodes.length cap):=(HBD.out.cell hp0).trans H0.out
    obtain⟨-,-,ig,ioff,rfl,icell⟩:=HD.out _ HBD.out
    have i1:wc.cell? ⟨ig,ioff+ng*4+1,none⟩=some (.bool false):=by have:=icell 1 (by omega);rw[this];simp[inoC,hdir]
    have HF:=lhi (HFI.out _ HBD.out)
    clear icell HD HFI
    have hng0: ¬ ((ng:Int)<0):=by omega
    go_wp2_with (go_at_call 94;refine HF.out.mono ?_;rintro e w1 ⟨rfl,hb1⟩;have c1:=(hb1.cell (Amd _ _ c0)).trans c0;have i2:=(hb1.cell (Amd _ _ i1)).trans i1)
    go_roundw
    case rel=>exact⟨k+1,by go_num,by omega,HBD.out.trans (hb1.mono HBD.out.size)⟩
    case measure=>
     simp only[intOf]
     omega
  ·have e:k=n:=by omega
   subst e
   clear hB
   go_wp2_with (fail)
   go_ret
   exact⟨rfl,HB.out⟩
end Go.Proofs.YtkebjgebkneijaaGreat
