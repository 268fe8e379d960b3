/- Texts of one's own that a claim's last text rests on: Dx4 Dx5 Rp1 Rp2 Rp4 Dx7 Dx8. -/
import Derived.Test.YtkebjgebkneijaaGreatMG26
import Derived.Test.YtkebjgebkneijaaGreatMG6
import Derived.Test.YtkebjgebkneijaaGreatMG23
import Derived.Test.YtkebjgebkneijaaGreatMG24
set_option linter.unusedVariables false
set_option linter.unusedSimpArgs false
namespace Go.Proofs.YtkebjgebkneijaaGreat
open Go.RowKit
set_option maxHeartbeats 16000000
set_option maxRecDepth 1000000
theorem Ajo{l:List (ByteArray×Int)}{x:ByteArray}{k:Nat}(h:entF l x=some k):k<l.length/\enmL l k=x:=by
 unfold entF at h
 obtain⟨h1,i,h2,h3,-⟩:=List.find?_eq_some_iff_getElem.1 h
 have e:i=k:=by simpa using h3
 subst e
 exact⟨by simpa using h2,by simpa using h1⟩
section
variable{W:World}{base ob db g icap:Nat}{c:Ad}{r:ResV}{ov mv:Value}{Iv:List InV}{S:St}
theorem Aik(h:Doer W base ob db c r (.slice (some ⟨g,0,none⟩) S.inodes.length icap) ov mv Iv S){k:Nat}(hk:k<S.inodes.length){s:ByteArray}(hr:Ky (S.ino k).ents)(hn:(S.ino k).ents.length<=1000)(hE:entF (S.ino k).ents s=none):
  Calls Tryz.prog 132 #[.pointer (some ⟨g,k*4,none⟩),.string s] W fun e w'=>e=Cg 1/\Below W.heap.size W w':=by
 obtain⟨EA,ecap,c2,hrow⟩:=h.entc hk
 have HEN:=lhi (Je hrow hn s hr hE)
 clear h hr hn hE hrow
 go_enter Tryz.func132,Tryz.ntmps132
 go_wp2_with (first
  | (go_at_call 93;refine HEN.out.mono ?_;rintro e w1 ⟨⟨kk,rfl⟩,hb1⟩;have HB1:=lhi hb1;clear hb1)
  | (go_at_call 116;refine(Al _ _).mono ?_;rintro e w2 ⟨rfl,rfl⟩))
 exact⟨rfl,rfl,HB1.out⟩
theorem Rd(h:Doer W base ob db c r (.slice (some ⟨g,0,none⟩) S.inodes.length icap) ov mv Iv S){k:Nat}(hk:k<S.inodes.length){s:ByteArray}(hr:Ky (S.ino k).ents)(hn:(S.ino k).ents.length<=1000){j:Nat}(hE:entF (S.ino k).ents s=some j):
  Calls Tryz.prog 132 #[.pointer (some ⟨g,k*4,none⟩),.string s] W fun e w'=>e= .returned (.int .i64 (enuL (S.ino k).ents j))/\Below base W w'/\ ∃Iv',Doer w' base ob db c r (.slice (some ⟨g,0,none⟩) S.inodes.length icap) ov mv Iv' (S.setI k {S.ino k with ents:=(S.ino k).ents.eraseIdx j}):=by
 have hl:=h.st.len'
 have hkI:k<Iv.length:=by omega
 have hino:=h.st.at_ hkI
 have hek:=h.st.ent k hkI
 have c2:=h.st.cell hl.symm hkI (show 2<4 by omega)
 obtain⟨p,hp⟩:=xx (Iv[k])
 rw[hp]at hino hek c2
 obtain⟨p1,ev⟩:=p
 replace hino:p1=S.ino k:=hino
 subst hino
 obtain⟨es,hes⟩:=xx ((S.ino k).ents)
 replace hek:W.ownsRow base 132 2 ev es.length (es.flatMap Ai):=by rw[<-hes];exact hek
 rw[hes]at hr hn hE⊢
 have hj:=Dp hE
 have HC:=lhi (Hc (Cc (by decide) Bn hek (Ee _)).at' hn s hr hE)
 have HEK:=lhi hek
 have HP:=lhi hp
 have H:=lhi h
 obtain⟨EA,ecap,rfl,-⟩:=Aj hek
 obtain⟨eg,rfl⟩: ∃eg,EA=some ⟨eg,0,none⟩:=by
  rcases hek.2 with⟨-,q⟩ | ⟨og,cap',cur,hv,-⟩
  ·omega
  ·injection hv with e1;exact⟨og,e1⟩
 replace c2:W.cell? ⟨g,k*4+2,none⟩=some (.slice (some ⟨eg,0,none⟩) es.length ecap):=c2
 clear hek hes hp h hl
 have hji:(j:Int)<es.length:=by omega
 have hwk:IntKind.i64.wrap ((j:Int)+1)=(j:Int)+1:=IntWalk.i64_in _ (by omega)
 go_enter Tryz.func132,Tryz.ntmps132
 go_upto_region 2 with(go_at_call 93;refine HC.out.mono ?_;rintro e w1 ⟨rfl,hb1⟩)
 have HB1:=lhi hb1
 have H1:=lhi (H.out.below hb1)
 replace c2:w1.cell? ⟨g,k*4+2,none⟩=some (.slice (some ⟨eg,0,none⟩) es.length ecap):=(hb1.cell (Amd _ _ c2)).trans c2
 have HEK1:=lhi (Bc HEK.out hb1)
 have e1:w1.cell? ⟨eg,j*2+1,none⟩=some (.int .i64 (enuL es j)):=by
  obtain⟨-,-,g',off,hA,hcell⟩:=(Cc (by decide) Bn HEK1.out (Ee _)).at'.at_ hj
  injection hA with hA
  injection hA with e1 e2
  subst e1 e2
  have:=hcell 1 (by omega)
  rw[Nat.zero_add]at this
  exact this
 have HDL:=lhi (Ajs HEK1.out rfl hj (fun y _=>Lm y) (by omega))
 obtain⟨-,gcs,hG⟩:=Ag H1.out.st.ino rfl
 have HGB:=lhi (show Blk w1 g 93 gcs from hG)
 have hne:(Value.slice (some ⟨eg,0,none⟩) es.length ecap).ownBlock≠some g:=Ah HEK1.out hG (by decide)
 have HNE:=lhi hne
 clear hb1 HC HEK hG hne
 go_wp2_with (first
  | (go_at_call 116;refine(Ar _ _).mono ?_;rintro e w2 ⟨rfl,rfl⟩)
  | (go_at_call 177;refine HDL.out.mono ?_;rintro e w3 ⟨rfl,hown,hgr⟩;have HOW:=lhi hown;have HGR:=lhi hgr;clear hown hgr HDL;have HG3:=lhi (Am HGB.out HGR.out HNE.out);have c3:w3.cell? ⟨g,k*4+2,none⟩=some (.slice (some ⟨eg,0,none⟩) es.length ecap):=(HGR.out.cell (a:=⟨g,k*4+2,none⟩) c2 (Ne.symm HNE.out));have f3:w3.frozen? ⟨g,k*4+2,none⟩=false:=HG3.out.frozen _))
 go_ret
 have hl:=H1.out.st.len'
 have hp:=HP.out
 have hst:=H1.out.st.putE (w1:=w3) (k:=k) hkI hl.symm (by rw[hp];exact HGR.out) (L:=es.eraseIdx j) (v':=.slice (some ⟨eg,0,none⟩) (es.length - 1) ecap) (by rw[List.length_eraseIdx,if_pos hj];exact HOW.out) (by rw[hp];exact .inl rfl)
 have hgb:base<=g:=(H1.out.st.ino.lt g rfl).1
 have hbw:=(((HB1.out.mono H.out.bs).trans (Bg HGR.out H1.out.bs fun b hb=>by injection hb with hb;subst hb;exact(HEK1.out.lt _ rfl).1))).setCell (p:=⟨g,k*4+2,none⟩) hgb (.slice (some ⟨eg,0,none⟩) (es.length - 1) ecap)
 rw[hp]at hst
 refine⟨rfl,hbw,_,H1.out.ob_,H1.out.db_,?_,?_,hst⟩
 ·exact(Am H1.out.o HGR.out (Ah HEK1.out H1.out.o (by decide))).far (p:=⟨g,k*4+2,none⟩) (Blk.ne_ (Am H1.out.o HGR.out (Ah HEK1.out H1.out.o (by decide))) HG3.out (by decide)) _
 ·exact(Am H1.out.d HGR.out (Ah HEK1.out H1.out.d (by decide))).far (p:=⟨g,k*4+2,none⟩) (Blk.ne_ (Am H1.out.d HGR.out (Ah HEK1.out H1.out.d (by decide))) HG3.out (by decide)) _
end
theorem Ga{S:St}{k:Nat}{x:Ino}(hk:k<S.inodes.length)(i:Nat):(S.setI k x).ino i=if k=i then x else S.ino i:=by
 unfold St.ino St.setI
 simp only[Ame,List.getElem?_set]
 by_cases e:k=i
 ·subst e
  rw[if_pos rfl,if_pos hk,if_pos rfl];rfl
 ·rw[if_neg e,if_neg e]
def cutE(S:St)(k j:Nat):St:=S.setI k {S.ino k with ents:=(S.ino k).ents.eraseIdx j}
theorem Gf(S:St)(k j:Nat):(cutE S k j).inodes.length=S.inodes.length:=List.length_set ..
theorem Ed{S:St}{k j:Nat}(hk:k<S.inodes.length)(i:Nat):(cutE S k j).num i=S.num i:=by
 unfold St.num cutE
 rw[Ga hk]
 split
 ·rename_i e;subst e;rfl
 ·rfl
theorem Ny{S:St}{k j:Nat}(hk:k<S.inodes.length)(i:Nat):(cutE S k j).dir i=S.dir i:=by
 unfold St.dir cutE
 rw[Ga hk]
 split
 ·rename_i e;subst e;rfl
 ·rfl
theorem Ab6{S:St}(h:S.small){k j:Nat}(hk:k<S.inodes.length):(cutE S k j).small:=by
 refine⟨by rw[Gf];exact h.ni,h.no,h.nm,fun i=>?_,fun i=>by rw[Ed hk];exact h.num i,fun i a=>?_,h.mad⟩
 ·unfold St.ne cutE
  rw[Ga hk]
  split
  ·have:=h.en k
   show((S.ino k).ents.eraseIdx j).length<=1000
   rw[List.length_eraseIdx]
   unfold St.ne at this
   split <;> omega
  ·exact h.en i
 ·unfold St.enu cutE
  rw[Ga hk]
  split
  ·show -1000000<= (((S.ino k).ents.eraseIdx j).getD a _).2/\_
   rw[Ame,List.getElem?_eraseIdx]
   split
   ·have:=h.enu k a
    unfold St.enu at this
    rwa [Ame]at this
   ·have:=h.enu k (a+1)
    unfold St.enu at this
    rwa [Ame]at this
  ·exact h.enu i a
def Lf(S:St)(c:Ad)(r:ResV):Except Int (St×ResV):=match Bo S c.path with
 | .error k=>.error k
 | .ok (p,nm)=>match entF (S.ino p).ents nm with
  | none=>.error 1
  | some j=>if c.kind=9 then(if S.dir (Bh S (enuL (S.ino p).ents j)).toNat=true then .error 8 else .ok (Kh (cutE S p j) (Bh S (enuL (S.ino p).ents j)).toNat,r))
   else if S.dir (Bh S (enuL (S.ino p).ents j)).toNat=false then .error 7 else if 0< ((cutE S p j).ino (Bh S (enuL (S.ino p).ents j)).toNat).ents.length then .error 3
   else .ok ({cutE S p j with inodes:=(cutE S p j).inodes.eraseIdx (Bh S (enuL (S.ino p).ents j)).toNat},r)
section
variable{W:World}{base ob db:Nat}{c:Ad}{r:ResV}{iv ov mv:Value}{Iv:List InV}{S:St}
theorem Fq(hI:Inv S){p j:Nat}(hp:p<S.inodes.length)(hj:j< (S.ino p).ents.length): ∃q:Nat,q<S.inodes.length/\Bh S (enuL (S.ino p).ents j)=q/\S.num q=enuL (S.ino p).ents j:=by
 obtain⟨-,y,hy,hn⟩:=hI.goal _ (Inv.ino_mem hp) ((S.ino p).ents.getD j (ByteArray.empty,0)) (Bm hj)
 obtain⟨q,hq,hqy,hpl⟩:=Ir (S:=S) (fun i j a b=>hI.num_lt b a) hy
 have hino:S.ino q=y:=by unfold St.ino;rw[Ame,hqy];rfl
 have e:y.num=enuL (S.ino p).ents j:=hn
 rw[e]at hpl
 exact⟨q,hq,hpl,by show(S.ino q).num=_;rw[hino];exact e⟩
theorem Vs(h:Doer W base ob db c r iv ov mv Iv S)(hI:Inv S)(hp:c.path.size<=4611686018427387904)(hk:c.kind=9∨c.kind=10):
  Calls Tryz.prog 84 #[.pointer (some ⟨db,0,none⟩)] W fun e w'=>Gr base ob db c W e w' (Lf S c r):=by
 obtain⟨g,icap,ics,rfl,-,-,-⟩:=h.row hI.pos
 have H:=lhi h
 have HI:=lhi hI
 have HPR:=lhi (Dy h hI hp)
 have d6:W.cell? ⟨db,6,none⟩=some (.string c.path):=h.d.cell 6
 obtain⟨RES,hres⟩: ∃R,Lf S c r=R:=⟨_,rfl⟩
 have HR:=lhi hres
 rw[hres]
 unfold Lf at HR
 cases hq:Bo S c.path with
 | error k=>
  rw[hq]at HPR HR
  obtain rfl: .error k=RES:=HR.out
  clear h hI hp hk hq hres
  go_enter Tryz.func84,Tryz.ntmps84
  go_wp2_with (go_at_call 115;refine HPR.out.mono ?_;rintro e w1 ⟨he,hb1⟩;have he:e=Cg k:=he;subst he;have HB:=lhi hb1)
  exact⟨rfl,rfl,HB.out.mono H.out.bs⟩
 | ok pn=>
  obtain⟨p,nm⟩:=pn
  rw[hq]at HPR HR
  obtain⟨hpl,-⟩:=Cy hI hq
  have hen:=hI.ord.ents p hpl
  clear h hp hq hres
  go_enter Tryz.func84,Tryz.ntmps84
  go_upto_region 1 with(go_at_call 115;refine HPR.out.mono ?_;rintro e w1 ⟨he,hb1⟩;have he:e= .returned (.tuple #[.pointer (some ⟨g,p*4,none⟩),.string nm]):=he;subst he;have HB1:=lhi hb1;clear hb1 HPR d6)
  have H1:=lhi (H.out.below HB1.out)
  cases hE:entF (S.ino p).ents nm with
  | none=>
   rw[hE]at HR
   obtain rfl:RES= .error 1:=HR.out.symm
   have HT:=lhi (Aik H1.out hpl hen.2 hen.1 hE)
   clear hE hen hI hk
   go_wp2_with (go_at_call 132;refine HT.out.mono ?_;rintro e w2 ⟨rfl,hb2⟩;have HB2:=lhi hb2)
   exact⟨rfl,rfl,(HB1.out.trans (HB2.out.mono HB1.out.size)).mono H.out.bs⟩
  | some j=>
   obtain⟨q,hql,hqp,hqn⟩:=Fq hI hpl (Dp hE)
   have HT:=lhi (Rd H1.out hpl hen.2 hen.1 hE)
   rw[hE]at HR
   replace HR:=lhi (show(if c.kind=9 then(if S.dir q=true then .error 8 else .ok (Kh (cutE S p j) q,r))else if S.dir q=false then .error 7 else if 0< ((cutE S p j).ino q).ents.length then .error 3 else .ok ({cutE S p j with inodes:=(cutE S p j).inodes.eraseIdx q},r))=RES from by
    have:=HR.out
    simp only[hqp,Int.toNat_natCast]at this
    exact this)
   obtain⟨x,hx⟩:=xx (enuL (S.ino p).ents j)
   obtain⟨S1,hS1⟩:=xx (cutE S p j)
   have hS1':S.setI p {S.ino p with ents:=(S.ino p).ents.eraseIdx j}=S1:=hS1
   have hlen:S1.inodes.length=S.inodes.length:=by rw[<-hS1];exact Gf S p j
   have hnum: ∀i,S1.num i=S.num i:=fun i=>by rw[<-hS1];exact Ed hpl i
   have HSM:=lhi (show S1.small from by rw[<-hS1];exact Ab6 hI.small hpl)
   have HLT:=lhi (show∀i j,i<j->j<S1.inodes.length->S1.num i<S1.num j from fun i j a b=>by
    rw[hnum,hnum];exact hI.num_lt (by rw[<-hlen];exact b) a)
   have hdir:S1.dir q=S.dir q:=by rw[<-hS1];exact Ny hpl q
   have hql1:q<S1.inodes.length:=by rw[hlen];exact hql
   have hqn1:S1.num q=x:=by rw[hnum,hqn,hx]
   have hpl1:Bh S1 x=q:=Gw hql1 hqn1 fun i hi e=>by have:=HLT.out i q hi hql1;omega
   rw[hS1',<-hlen,hx]at HT
   rw[hS1,<-hdir]at HR
   clear hE hen hI hx hS1 hS1' hnum hdir hql hqn hqp hpl
   go_upto_region 2 with(go_at_call 132;refine HT.out.mono ?_;rintro e w2 ⟨rfl,hb2,hd2⟩;have HB2:=lhi hb2;have HD2:=lhi hd2;clear hb2 hd2 HT)
   obtain⟨Iv',hd2⟩:=HD2.out
   have H2:=lhi hd2
   have HF:=lhi (Ia (sp:=ob) hd2.stm HSM.out.ni x HLT.out (hd2.o.cell 0))
   rw[hpl1]at HF
   have d0:w2.cell? ⟨db,0,none⟩=some (.pointer (some ⟨ob,0,none⟩)):=hd2.d.cell 0
   clear hd2 HD2 hpl1
   go_upto_region 3 with(go_at_call 94;refine HF.out.mono ?_;rintro e w3 ⟨rfl,hb3⟩;have HB3:=lhi hb3;clear hb3 HF d0)
   have H3:=lhi (H2.out.below HB3.out)
   have HBW:=lhi (((HB1.out.mono H.out.bs).trans HB2.out).trans (HB3.out.mono H2.out.bs))
   have d0:w3.cell? ⟨db,0,none⟩=some (.pointer (some ⟨ob,0,none⟩)):=H3.out.d.cell 0
   have o0:w3.cell? ⟨ob,0,none⟩=some (.slice (some ⟨g,0,none⟩) S1.inodes.length icap):=H3.out.o.cell 0
   have d1:w3.cell? ⟨db,1,none⟩=some (.int .i64 c.kind):=H3.out.d.cell 1
   have q1:w3.cell? ⟨g,q*4+1,none⟩=some (.bool (S1.dir q)):=H3.out.dirc hql1
   have hqi:(q:Int)<S1.inodes.length:=by omega
   rcases hk with hk | hk
   ·rw[hk]at d1 HR
    replace HR:=lhi (HR.out.symm.trans (if_pos rfl))
    clear hk
    cases hd:S1.dir q with
    | true=>
     rw[hd]at q1 HR
     obtain rfl:RES= .error 8:=HR.out
     clear hd
     go_wp2_with (go_at_call 116;refine(Al _ _).mono ?_;rintro e w4 ⟨rfl,rfl⟩)
     exact⟨rfl,rfl,HBW.out⟩
    | false=>
     rw[hd]at q1 HR
     obtain rfl:RES= .ok (Kh S1 q,r):=HR.out
     have HTD:=lhi (Rc H3.out HSM.out HLT.out hql1)
     rw[hqn1]at HTD
     clear hd hqn1 hlen
     go_wp2_with (first
      | (go_at_call 116;refine(Ar _ _).mono ?_;rintro e w4 ⟨rfl,rfl⟩)
      | (go_at_call 81;refine HTD.out.mono ?_;rintro e w5 ⟨rfl,hb5,hd5⟩;have HB5:=lhi hb5;have HD5:=lhi hd5;clear hb5 hd5 HTD))
     refine bodyPost_ret (results_none rfl _ _ _) rfl ?_
     obtain⟨iv',Iv'',hd⟩:=HD5.out
     exact⟨rfl,HBW.out.trans HB5.out,_,_,_,_,hd⟩
   ·rw[hk]at d1 HR
    replace HR:=lhi (HR.out.symm.trans (if_neg (by decide)))
    clear hk
    cases hd:S1.dir q with
    | false=>
     rw[hd]at q1 HR
     obtain rfl:RES= .error 7:=HR.out
     clear hd
     go_wp2_with (go_at_call 116;refine(Al _ _).mono ?_;rintro e w4 ⟨rfl,rfl⟩)
     exact⟨rfl,rfl,HBW.out⟩
    | true=>
     rw[hd]at q1 HR
     replace HR:=lhi (HR.out.trans (if_neg (by decide)))
     obtain⟨EA,ecap,c2,-⟩:=H3.out.entc hql1
     clear hd
     obtain⟨m,hm⟩:=xx ((S1.ino q).ents.length)
     rw[hm]at c2 HR
     clear hm
     by_cases h0:0<m
     ·obtain rfl:RES= .error 3:=HR.out.trans (if_pos h0)
      have e0:decide ((0:Int)< (m:Int))=true:=by simpa using h0
      have e1:decide (0<m)=true:=by simpa using h0
      clear h0
      go_upto_region 8 with(go_at_call 116;refine(Ar _ _).mono ?_;rintro e w4 ⟨rfl,rfl⟩)
      go_wp2_with (go_at_call 116;refine(Al _ _).mono ?_;rintro e w4 ⟨rfl,rfl⟩)
      exact⟨rfl,rfl,HBW.out⟩
     ·obtain rfl:RES= .ok ({S1 with inodes:=S1.inodes.eraseIdx q},r):=HR.out.trans (if_neg h0)
      have e0:decide ((0:Int)< (m:Int))=false:=by simpa using h0
      have e1:decide (0<m)=false:=by simpa using h0
      have hIl:=H3.out.st.len'
      have hwk:IntKind.i64.wrap ((q:Int)+1)=(q:Int)+1:=IntWalk.i64_in _ (by have:=HSM.out.ni;omega)
      have HN9:=lhi (show S1.inodes.length<=90000 from by have:=HSM.out.ni;omega)
      clear h0 hqn1 hlen
      go_upto_region 8 with(go_at_call 116;refine(Ar _ _).mono ?_;rintro e w4 ⟨rfl,rfl⟩)
      go_upto_region 9 with(go_at_call 116;refine(Ar _ _).mono ?_;rintro e w4 ⟨rfl,rfl⟩)
      have d0:w3.drew.cell? ⟨db,0,none⟩=some (.pointer (some ⟨ob,0,none⟩)):=H3.out.d.cell 0
      have o0:w3.drew.cell? ⟨ob,0,none⟩=some (.slice (some ⟨g,0,none⟩) S1.inodes.length icap):=H3.out.o.cell 0
      have hown:w3.drew.ownsRow base 93 4 (.slice (some ⟨g,0,none⟩) S1.inodes.length icap) S1.inodes.length (Iv'.flatMap encI):=by have:=H3.out.drew.st.ino;rw[hIl]at this;exact this
      have HDL:=lhi (Adh hown hIl.symm hql1 H3.out.st.one HN9.out)
      obtain⟨gcs,hgb⟩:=H3.out.iRow
      have HNO:=lhi (show some g≠some ob from fun e=>by injection e with e;exact Blk.ne_ hgb H3.out.o (by decide) e)
      have HND:=lhi (show some g≠some db from fun e=>by injection e with e;exact Blk.ne_ hgb H3.out.d (by decide) e)
      clear hgb hown q1 c2 e0 e1 d1 HR
      refine Af (L:=17) (S:=fun w'=>w'.cell? ⟨db,0,none⟩=some (.pointer (some ⟨ob,0,none⟩))/\w'.cell? ⟨ob,0,none⟩=some (.slice (some ⟨g,0,none⟩) S1.inodes.length icap)) (by kernel_rfl) (⟨d0,o0⟩) (fun hHeld=>?_)
      refine tF 0 ?_
      refine tF 1 ?_
      refine tF 2 ?_
      refine tF 3 ?_
      refine tF 4 ?_
      refine tF 5 ?_
      refine tF 6 ?_
      refine tF 7 ?_
      refine tF 8 ?_
      refine tF 9 ?_
      refine tF 10 ?_
      refine tF 11 ?_
      refine tF 12 ?_
      refine tF 13 ?_
      refine Ap (i:=14) (by kernel_rfl) rfl (fun K hK=>?_)
      go_simp
      refine HDL.out.mono ?_
      rintro e w9 ⟨rfl,hown,hgr⟩
      have HOW:=lhi hown
      have HGR:=lhi hgr
      have H9O:=lhi (Am H3.out.drew.o HGR.out HNO.out)
      have H9D:=lhi (Am H3.out.drew.d HGR.out HND.out)
      clear hown hgr HDL
      show K _ _
      refine hK.out _ _ (fun _=>⟨H9D.out.cell 0,H9O.out.cell 0⟩) (fun hHeld=>?_)
      replace hHeld:=hHeld (by decide)
      clear hK K
      refine tF 15 ?_
      refine tF 16 ?_
      have z1:=hHeld.2
      have f1:w9.frozen? ⟨ob,0,none⟩=false:=H9O.out.frozen _
      refine Ap (i:=17) (by kernel_rfl) rfl (fun K hK=>?_)
      go_simp
      show K _ _
      refine hK.out _ _ (fun h=>absurd rfl h) (fun _=>?_)
      clear hK K
      refine Cn (by kernel_rfl) ?_ _
      have hst:=H3.out.drew.st.delI (by rw[hIl];exact hql1) HGR.out (by rw[hIl];exact HOW.out)
      have hb9:=(HBW.out.trans ((Ae w3).mono H3.out.bs)).trans (Bg HGR.out H3.out.drew.bs fun b hb=>by injection hb with hb;subst hb;exact(H3.out.st.ino.lt _ rfl).1)
      go_end0
      exact⟨rfl,hb9.setCell (p:=⟨ob,0,none⟩) H3.out.ob_ _,_,_,_,_,H3.out.ob_,H3.out.db_,H9O.out.set_ 0 _,H9D.out.far (p:=⟨ob,0,none⟩) (Blk.ne_ H9D.out H9O.out (by decide)) _,hst.far H9O.out (by decide) (by decide) (by decide) (by decide) 0 _⟩
end
section
variable{S:St}
theorem num_inj(hI:Inv S){i j:Nat}(hi:i<S.inodes.length)(hj:j<S.inodes.length)(h:S.num i=S.num j):i=j:=by
 have hr:=hI.ord.rise
 rcases Nat.lt_trichotomy i j with q | q | q
 ·have:=hr i j q hj;omega
 ·exact q
 ·have:=hr j i q hi;omega
theorem Vd(hI:Inv S){a:Nat}: ∀k,a<k->k<=S.inodes.length->Mq S k (S.num a)=some (S.dir a)
 | k+1,h,hk=>by
  rw[Mq]
  by_cases e:a=k
  ·subst e
   rw[if_pos rfl]
  ·rw[if_neg fun q=>e (num_inj hI (by omega) (by omega) q)]
   exact Vd hI k (by omega) (by omega)
theorem Ajr(hI:Inv S){a:Nat}(ha:a<S.inodes.length):dirF S (S.num a)=S.dir a:=by
 unfold dirF
 rw[Vd hI _ ha (Ama _)]
 rfl
theorem Adi(hI:Inv S){a:Nat}(ha:a<S.inodes.length)(b:Int): ∀k,k<=a->dI S (fun _ _=>[]) k (S.num a) b=[]
 | 0,_=>rfl
 | k+1,h=>by
  show dB S k (dI S _ k) 8 _ b=_
  unfold dB
  rw[if_neg fun q=>by have:=num_inj hI ha (by omega) q.1;omega]
  exact Adi hI ha b k (by omega)
theorem Akf(hI:Inv S){a:Nat}{b:Int}(hb:0<=b/\b<8): ∀k,a<k->k<=S.inodes.length->dI S (fun _ _=>[]) k (S.num a) b=As S (S.ino a).ents b.toNat
 | k+1,h,hk=>by
  show dB S k (dI S _ k) 8 _ b=_
  unfold dB
  by_cases e:a=k
  ·subst e
   by_cases q:As S (S.ino a).ents b.toNat=[]
   ·rw[if_neg fun x=>x.2.2 q,q]
    exact Adi hI (by omega) b a (Ama _)
   ·rw[if_pos ⟨rfl,by omega,q⟩]
  ·rw[if_neg fun q=>e (num_inj hI (by omega) (by omega) q.1)]
   exact Akf hI hb k (by omega) (by omega)
theorem Aev(l:List (ByteArray×Int))(x:ByteArray):l.find? (fun e=>decide (e.1=x))=(entF l x).map fun k=>l.getD k (ByteArray.empty,0):=by
 cases h:entF l x with
 | some k=>
  have hk:=Dp h
  unfold entF at h
  obtain⟨h1,i,h2,h3,h4⟩:=List.find?_eq_some_iff_getElem.1 h
  have e:i=k:=by simpa using h3
  subst e
  simp only[List.getElem_range,decide_eq_true_eq]at h1 h4
  show _=some (l.getD i (ByteArray.empty,0))
  rw[An hk,List.find?_eq_some_iff_getElem]
  unfold enmL at h1
  rw[An hk]at h1
  refine⟨by simpa using h1,i,hk,rfl,fun j hj=>?_⟩
  have:=h4 j hj
  unfold enmL at this
  rw[An (by omega)]at this
  exact this
 | none=>
  unfold entF at h
  rw[List.find?_eq_none]at h
  show _=none
  rw[List.find?_eq_none]
  intro e he
  obtain⟨i,hi,rfl⟩:=List.mem_iff_getElem.1 he
  have:=h i (by simpa using hi)
  unfold enmL at this
  rw[An hi]at this
  exact this
theorem Adb(x:ByteArray): ∀l:List (ByteArray×Int),(As S l (Aa x)).find? (Item.is x)=(l.find? fun e=>decide (e.1=x)).map (itOf S)
 | []=>rfl
 | e::l=>by
  have ih:=Adb x l
  unfold As at ih⊢
  rw[List.filter_cons,List.find?_cons]
  by_cases hx:e.1=x
  ·rw[decide_eq_true hx,if_pos (by rw[hx];simp),List.map_cons,List.find?_cons]
   have:Item.is x (itOf S e)=true:=by simp[Item.is,itOf,hx]
   rw[this]
   rfl
  ·rw[decide_eq_false hx]
   split
   ·rw[List.map_cons,List.find?_cons]
    have:Item.is x (itOf S e)=false:=by simp[Item.is,itOf,hx]
    rw[this]
    exact ih
   ·exact ih
def Bks(S:St)(M:Mem):Prop:=M.fit/\ ∀a b,a<S.inodes.length->0<=b/\b<8->M.bkt (S.num a) b=As S (S.ino a).ents b.toNat
theorem Aic(hI:Inv S):Bks S (Cu S):=by
 have h:=Adg hI fun i hi b hb=>⟨Nat.le_trans (Th _ _ _) (hI.small.en i),fun x hx=>by
  unfold As at hx
  obtain⟨e,he,rfl⟩:=List.mem_map.1 hx
  obtain⟨-,y,hy,e2⟩:=hI.goal _ (Inv.ino_mem hi) e (List.mem_filter.1 he).1
  show 1<=e.2/\e.2<=257
  rw[<-e2]
  exact hI.num_bound hy⟩
 exact⟨h.fit,fun a b ha hb=>by rw[h.bkt (show 1<=S.num a/\S.num a<=257 from hI.num_bound (Inv.ino_mem ha)) hb];exact Akf hI hb _ ha (Ama _)⟩
theorem Me(hI:Inv S){M:Mem}(hD:Bks S M)(c:Int): ∀(ns:List ByteArray) (a:Nat) (_:a<S.inodes.length) (it:Item) (_:it.num=S.num a) (_:it.dir=S.dir a),
  (∃k,k≠0/\ (Ch c ns M it).1= .bad k/\ (Ao S ns a).2=k)∨ ∃a' it',a'<S.inodes.length/\ (Ch c ns M it).1= .at_ it'/\Ao S ns a=((a':Int),0)/\it'.num=S.num a'/\it'.dir=S.dir a'
 | [],a,ha,it,h1,h2=>.inr ⟨a,it,ha,rfl,rfl,h1,h2⟩
 | n::ns,a,ha,it,h1,h2=>by
  rw[Ch,Ao]
  by_cases hd:S.dir a=true
  ·rw[if_neg (by rw[h2,hd];decide),if_pos hd,h1,hD.2 a _ ha (by have:=Cz n;omega),Int.toNat_natCast,Adb n,Aev]
   cases he:entF (S.ino a).ents n with
   | none=>exact .inl ⟨1,by decide,rfl,rfl⟩
   | some k=>
    have hk:=Dp he
    obtain⟨q,hq,e1,e2⟩:=Fq hI ha hk
    show(∃k',_/\ (Ch c ns (M.see c _) (itOf S ((S.ino a).ents.getD k (ByteArray.empty,0)))).1=_/\ (Ao S ns (Bh S (S.enu a k)).toNat).2=_)∨ ∃a' it',_/\ (Ch c ns (M.see c _) (itOf S ((S.ino a).ents.getD k (ByteArray.empty,0)))).1=_/\Ao S ns (Bh S (S.enu a k)).toNat=_/\_
    rw[Oj c ns _ (Mem.same.see M c _),show S.enu a k=enuL (S.ino a).ents k from rfl,e1,Int.toNat_natCast]
    exact Me hI hD c ns q hq _ e2.symm (by show dirF S _=_;rw[<-Ajr hI hq,e2];rfl)
  ·have hd:S.dir a=false:=by simpa using hd
   rw[if_pos (by rw[h2,hd]),if_neg (by rw[hd];decide)]
   exact .inl ⟨7,by decide,rfl,rfl⟩
end
section
variable{S:St}
theorem Aac(hI:Inv S){a:Nat}(hd:S.dir a=false): ∀k,a<k->k<=S.inodes.length->Lx S k (S.num a)=some (S.dat a)
 | k+1,h,hk=>by
  rw[Lx]
  by_cases e:a=k
  ·subst e
   rw[if_pos ⟨rfl,hd⟩]
  ·rw[if_neg fun q=>e (num_inj hI (by omega) (by omega) q.1)]
   exact Aac hI hd k (by omega) (by omega)
structure Fils (S:St) (M:Mem):Prop where
 f: ∀a,a<S.inodes.length->S.dir a=false->Fs M (S.num a)/\ (∃v,M.bas (S.num a)=(v,S.dat a,false))/\lnk M (S.num a) M.ts.length=(cntI S (S.num a) S.inodes.length:Nat)
 fd: ∀c q:Int,0<=c/\c<8->fdN M c q=if 0<=q/\q<4 then onTo S S.opens.length c q else 0
 tl:M.ts.length=S.made.length
theorem Ze{M:Mem}{num:Int}(h: ∀a,8<a->a<16->rd M.ws (wd num a)=0): ∀k,k<8->lnk M num (k+1)=rd M.ws (wd num 8)
 | 0,_=>by
  show 0+rd M.ws (wd num (8+ ((0:Nat):Int)))=_
  rw[Int.zero_add];rfl
 | k+1,hk=>by
  rw[lnk,Ze h k (by omega),h (8+ ((k+1:Nat):Int)) (by omega) (by omega),Int.add_zero]
theorem Aew(hI:Inv S):Fils S (Cu S):=by
 have h:=Ac6 hI
 refine⟨fun a ha hd=>?_,fun c q hc=>?_,h.tl⟩
 ·have hn:1<=S.num a/\S.num a<=257:=hI.num_bound (Inv.ino_mem ha)
  obtain⟨⟨v,hv⟩,h8⟩:=h.p.y (S.num a) (S.dat a) hn (Aac hI hd _ ha (Ama _))
  have hb:(Cu S).bas (S.num a)=(v,S.dat a,false):=by unfold Mem.bas;rw[hv.a]
  have hc:=Wp hI.small.en (S.num a) S.inodes.length
  have hni:=hI.small.ni
  refine⟨⟨hn,⟨hv.f,fun t ht=>by rw[hv.a]at ht;exact⟨v,S.dat a,false,(Amg ht).symm⟩⟩,hv.z,by rw[hb];exact hI.dat _ (Inv.ino_mem ha),fun b h1 h2=>h.p.z _ b hn (by omega) h2 (by omega),fun b h1 h2=>?_⟩,⟨v,hb⟩,?_⟩
  ·by_cases e:b=8
   ·subst e
    rw[h8]
    have:cntI S (S.num a) S.inodes.length<=1000*1000:=Aml hc (Nat.mul_le_mul_right _ hni)
    omega
   ·rw[h.p.z _ b hn (by omega) (by omega) (by omega)]
    decide
  ·rw[h.tl]
   obtain⟨n,e⟩: ∃n,S.made.length=n+1:=⟨S.made.length - 1,by have:=hI.m1;omega⟩
   rw[e,Ze (fun b h1 h2=>h.p.z _ b hn h1 (by omega) (by omega)) n (by have:=hI.m8;omega),h8]
 ·unfold fdN
  split
  ·rename_i hq
   rw[h.fd c q hc hq]
  ·rfl
theorem Ac0{c q:Int}: ∀k,(∀i,i<k-> ¬ (S.oc i=c/\S.of i=q))->onTo S k c q=0
 | 0,_=>rfl
 | k+1,h=>by
  rw[onTo,if_neg fun e=>h k (by omega) ⟨e.1.symm,e.2.symm⟩]
  exact Ac0 k fun i hi=>h i (by omega)
theorem Ac1(hI:Inv S){i:Nat}: ∀k,i<k->k<=S.opens.length->onTo S k (S.oc i) (S.of i)=S.on i
 | k+1,h,hk=>by
  rw[onTo]
  by_cases e:i=k
  ·subst e
   rw[if_pos ⟨rfl,rfl⟩]
  ·rw[if_neg fun q=>?_]
   ·exact Ac1 hI k (by omega) (by omega)
   ·have:=List.pairwise_iff_getElem.1 hI.osort i k (by omega) (by omega) (by omega)
    unfold St.oc St.of at q
    rw[An (by omega),An (by omega)]at q
    obtain⟨q1,q2⟩:=q
    rw[q1,q2]at this
    omega
theorem Qk{M:Mem}(hF:Fils S M){cv:Ad}(hc:0<=cv.core/\cv.core<8){k:Int}(h:Ej S cv= .error k):k=4/\fdN M cv.core cv.fd=0:=by
 unfold Ej at h
 split at h
 ·rename_i hd
  injection h with h
  refine⟨h.symm,?_⟩
  rw[hF.fd _ _ hc]
  split
  ·refine Ac0 _ fun i hi e=>?_
   have:(List.range S.opens.length).find? (fun i=>S.oc i==cv.core&&S.of i==cv.fd)≠none:=fun q=>by
    rw[List.find?_eq_none]at q
    have:=q i (by simpa using hi)
    simp[e.1,e.2]at this
   unfold Jg at hd
   split at hd
   ·omega
   ·rename_i q
    exact this q
  ·rfl
 ·cases h
theorem Qj(hI:Inv S){M:Mem}(hF:Fils S M){cv:Ad}(hc:0<=cv.core/\cv.core<8){a k:Nat}(h:Ej S cv= .ok (a,k)):a<S.inodes.length/\S.dir a=false/\fdN M cv.core cv.fd=S.num a:=by
 obtain⟨h1,h2,h3,h4,h5,h6,h7⟩:=Fi hI h
 have h8:=(Akc hI h1).2.2
 rw[h6]at h8
 refine⟨h2,h4,?_⟩
 rw[hF.fd _ _ hc,if_pos h8,<-h5,<-h6,Ac1 hI _ h1 (Ama _),h3]
theorem Mem.same.clear(M:Mem)(c:Int):M.same (M.clear c):=⟨rfl,rfl,List.length_set ..⟩
theorem Bks.same{M M':Mem}(h:Bks S M)(hs:M.same M'):Bks S M':=⟨hs.fit h.1,fun a b ha hb=>by rw[hs.bkt];exact h.2 a b ha hb⟩
theorem Fils.same{M M':Mem}(h:Fils S M)(hs:M.same M'):Fils S M':=by
 have hl: ∀num k,lnk M' num k=lnk M num k:=fun num k=>by
  induction k with
  | zero=>rfl
  | succ k ih=>rw[lnk,lnk,ih,hs.ws]
 refine⟨fun a ha hd=>?_,fun c q hc=>?_,hs.ts.trans h.tl⟩
 ·obtain⟨h1,h2,h3⟩:=h.f a ha hd
  exact⟨⟨h1.n,⟨(hs.fine _).2 h1.b.f,by rw[hs.at_];exact h1.b.k⟩,by rw[hs.ws];exact h1.z,by rw[hs.bas];exact h1.s,by rw[hs.ws];exact h1.q,by rw[hs.ws];exact h1.l⟩,by rw[hs.bas];exact h2,by rw[hl,hs.ts];exact h3⟩
 ·have:=h.fd c q hc
  unfold fdN at this⊢
  rw[hs.ws]
  exact this
end
theorem Agv{m:List ByteArray}: ∀{l:List ByteArray},l.Perm m->l.Pairwise (fun a b=>nlt b a=false)->m.Pairwise (fun a b=>nlt a b=true)->l=m:=by
 induction m with
 | nil=>exact fun hp _ _=>hp.eq_nil
 | cons y m ih=>
  intro l hp hl hm
  obtain⟨x,l',rfl⟩: ∃x l',l=x::l':=by
   cases l with
   | nil=>exact absurd hp.symm.eq_nil (by simp)
   | cons x l'=>exact⟨x,l',rfl⟩
  obtain⟨hy,hm2⟩:=List.pairwise_cons.1 hm
  obtain⟨hx,hl2⟩:=List.pairwise_cons.1 hl
  have e:x=y:=by
   rcases List.mem_cons.1 (hp.mem_iff.1 (Amb ..))with e | h1
   ·exact e
   ·rcases List.mem_cons.1 (hp.mem_iff.2 (Amb ..))with e | h2
    ·exact e.symm
    ·have:=hx y h2
     rw[hy x h1]at this
     cases this
  subst e
  rw[ih (List.Perm.cons_inv hp) hl2 hm2]
section
variable{S:St}
theorem Ym{M:Mem}(hD:Bks S M){a:Nat}(ha:a<S.inodes.length): ∀b,b<=8->(nmsM M (S.num a) b).Perm (((S.ino a).ents.filter fun e=>decide (Aa e.1<b)).map (·.1))
 | 0,_=>by
  have:((S.ino a).ents.filter fun e=>decide (Aa e.1<0))=[]:=by simp
  rw[this]
  exact List.Perm.refl _
 | b+1,hb=>by
  rw[nmsM,hD.2 a b ha (by omega),Int.toNat_natCast]
  have e:(As S (S.ino a).ents b).map (·.name)=((S.ino a).ents.filter fun e=>Aa e.1==b).map (·.1):=by
   unfold As
   rw[List.map_map]
   rfl
  rw[e]
  refine((Ym hD ha b (by omega)).append_right _).trans ?_
  rw[<-List.map_append]
  refine List.Perm.map _ ?_
  have h:=List.filter_append_perm (fun e:ByteArray×Int=>decide (Aa e.1<b)) ((S.ino a).ents.filter fun e=>decide (Aa e.1<b+1))
  rw[List.filter_filter,List.filter_filter]at h
  have e1:((S.ino a).ents.filter fun e=>decide (Aa e.1<b)&&decide (Aa e.1<b+1))=(S.ino a).ents.filter fun e=>decide (Aa e.1<b):=List.filter_congr fun x _=>by
   by_cases q:Aa x.1<b
   ·simp[q];omega
   ·simp[q]
  have e2:((S.ino a).ents.filter fun e=>!decide (Aa e.1<b)&&decide (Aa e.1<b+1))=(S.ino a).ents.filter fun e=>Aa e.1==b:=List.filter_congr fun x _=>by
   by_cases q:Aa x.1=b
   ·simp[q]
   ·by_cases q2:Aa x.1<b
    ·simp[q2,q]
    ·have: ¬ Aa x.1<b+1:=by omega
     simp[q,this]
  rw[e1,e2]at h
  exact h
theorem Ai4(hI:Inv S){M:Mem}(hD:Bks S M){a:Nat}(ha:a<S.inodes.length){l:List ByteArray}(hp:(nmsM M (S.num a) 8).Perm l)(hs:l.Pairwise (fun a b=>nlt b a=false)):l=(S.ino a).ents.map (·.1):=by
 refine Agv (hp.symm.trans ((Ym hD ha 8 (Ama _)).trans ?_)) hs ?_
 ·rw[List.filter_eq_self.2 fun e _=>decide_eq_true (Cz e.1)]
 ·rw[List.pairwise_map]
  exact hI.up _ (Inv.ino_mem ha)
end
theorem Qt{S:St}: ∀(ns:List ByteArray) (a:Nat),(Ao S ns a).2≠0->(Ao S ns a).1=0
 | [],_,h=>absurd rfl h
 | x::l,a,h=>by
  unfold Ao at h⊢
  split
  ·rename_i hd
   rw[if_pos hd]at h
   cases e:entF (S.ino a).ents x with
   | some k=>rw[e]at h;exact Qt l _ h
   | none=>rfl
  ·rfl
theorem Afo{S:St}(hO:Ord S)(h0:0<S.inodes.length)(ns:List ByteArray): ∃k:Nat,k<S.inodes.length/\ (Ao S ns 0).1=k:=by
 by_cases h:(Ao S ns 0).2=0
 ·exact Fy hO ns 0 h0 h
 ·exact⟨0,h0,Qt ns 0 h⟩
def Fz(S:St)(ns:List ByteArray)(x:Int):Bool:=(List.range ns.length).any fun n=>S.num (Ao S (ns.take n) 0).1.toNat==x
theorem Ak.take{w:World}{A:Option Addr}{cap k:Nat}{l:List ByteArray}{n:Nat}(h:Ak w (.slice A l.length cap) l.length k (nmC l))(hn:n<l.length): ∃g off,A=some ⟨g,off,none⟩/\n<=cap/\Ak w (.slice (some ⟨g,off,none⟩) n cap) (l.take n).length k (nmC (l.take n)):=by
 obtain⟨A',cap',e,h2,h3⟩:=h
 injection e with e1 e2 e3
 subst e1 e3
 obtain⟨g,off,rfl,h4⟩:=h3 (by omega)
 have e:(l.take n).length=n:=by rw[List.length_take];omega
 refine⟨g,off,rfl,by omega,_,_,by rw[e],by omega,fun _=>⟨g,off,rfl,fun i j hi hj=>?_⟩⟩
 rw[h4 i j (by omega) hj]
 unfold nmC
 rw[Ame,Ame,List.getElem?_take,if_pos (by omega)]
section
variable{W:World}{base ob db g icap:Nat}{c:Ad}{r:ResV}{ov mv:Value}{Iv:List InV}{S:St}
theorem Tr(h:Doer W base ob db c r (.slice (some ⟨g,0,none⟩) S.inodes.length icap) ov mv Iv S)(hI:Inv S){p:ByteArray}(hp:p.size<=4611686018427387904){ns:List ByteArray}(hq:Au p= .ok ns)(x:Int):
  Calls Tryz.prog 133 #[.pointer (some ⟨db,0,none⟩),.string p,.int .i64 x] W fun e w'=>e= .returned (.bool (Fz S ns x))/\Below W.heap.size W w':=by
 have HPS:=lhi (Ot hp W hq)
 have hnl:=Ho hq
 have H:=lhi h
 have HI:=lhi hI
 obtain⟨T,hT⟩:=xx (Fz S ns x)
 have HT:=lhi hT
 rw[hT]
 obtain⟨n,hn⟩:=xx ns.length
 have HN:=lhi hn
 have hn4:n<=4:=by omega
 clear h hI hp hq hT
 go_enter Tryz.func133,Tryz.ntmps133
 go_upto_region 2 with(go_at_call 171;refine HPS.out.mono ?_;rintro e w1 ⟨⟨v,rfl,hv,-⟩,hb1⟩;obtain⟨NA,ncap,rfl,-,-⟩:=RowT.at' hv)
 have HV:=lhi (RowT.at' hv)
 have HB1:=lhi hb1
 clear hv hb1 HPS hn
 go_upto_region 3 with(fail)
 go_loopw [15] (fun i wr=>∃k:Nat,i= .int .i64 k/\k<=n/\ (∀j,j<k-> ¬ S.num (Ao S (ns.take j) 0).1.toNat=x)/\Below w1.heap.size w1 wr) (fun i _=>n - (intOf i).toNat)
 case atStart=>exact⟨0,rfl,by omega,fun j hj=>absurd hj (by omega),Amf _ _⟩
 case round=>
  obtain⟨k,rfl,hk,hl,hB⟩:=hrel
  have HB:=lhi hB
  have HL:=lhi hl
  clear hl
  have H2:=lhi ((H.out.below HB1.out).below hB)
  by_cases hkn:k<n
  ·obtain⟨ng,noff,rfl,hncap,hrow⟩:=(HV.out.keep hB).take (n:=k) (by rw[HN.out];exact hkn)
   have hki:(k:Int)<n:=by omega
   have hkc:(k:Int)<= (ncap:Int):=by omega
   obtain⟨q,hql,hqw⟩:=Afo HI.out.ord HI.out.pos (ns.take k)
   have hlk:(ns.take k).length=k:=by rw[List.length_take,HN.out];omega
   have HW:=lhi (Gb (w:=wr) (sp:=ob) H2.out.stm HI.out.ord HI.out.pos (H2.out.o.cell 0) hrow (by rw[hlk];have:=HN.out;omega))
   obtain⟨qc,hqc⟩: ∃z,(Ao S (ns.take k) 0).2=z:=⟨_,rfl⟩
   rw[hqw,hqc]at HW
   have HQ:=lhi (show S.num (Ao S (ns.take k) 0).1.toNat=S.num q from by rw[hqw,Int.toNat_natCast])
   have hqi:(q:Int)<S.inodes.length:=by omega
   have x0: ∀y:WIn (Bel wr),y.v.cell? ⟨db,0,none⟩=some (.pointer (some ⟨ob,0,none⟩)):=fun y=>y.cell (H2.out.d.cell 0)
   have HWX:=lhi (fun y:WIn (Bel wr)=>Gb (w:=y.v) (sp:=ob) (H2.out.stm.keep y.h) HI.out.ord HI.out.pos (y.cell (H2.out.o.cell 0)) (hrow.keep y.h) (by rw[hlk];have:=HN.out;omega))
   rw[hqw,hqc]at HWX
   clear hrow hqw hqc hlk HW
   go_upto_region 5 with(fail)
   refine Be (C:=Bel wr) (by kernel_rfl) (by kernel_rfl) (Bel.drew wr) ?_
   repeat (go_big_quiet_step (first | (go_at_call 45;exact Calls.bel _ (HWX.out _))))
   refine wpQuiet_nil ?_
   rintro w2 ⟨⟨w2',hb2⟩,hw⟩
   obtain rfl:w2=w2':=hw
   have HB2:=lhi hb2
   have H3:=lhi (H2.out.below hb2)
   have d0:w2.cell? ⟨db,0,none⟩=some (.pointer (some ⟨ob,0,none⟩)):=H3.out.d.cell 0
   have o0:w2.cell? ⟨ob,0,none⟩=some (.slice (some ⟨g,0,none⟩) S.inodes.length icap):=H3.out.o.cell 0
   have g0:w2.cell? ⟨g,q*4,none⟩=some (.int .i64 (S.num q)):=H3.out.numc hql
   clear hb2 x0 HWX hB
   have HBE:=lhi (HB.out.trans (HB2.out.mono HB.out.size))
   obtain⟨m,hm⟩:=xx (S.num q)
   rw[hm]at g0 HQ
   clear hm
   by_cases hx:m=x
   ·subst hx
    have e1:(m==m)=true:=by simp
    obtain rfl:T=true:=by
     rw[<-HT.out]
     unfold Fz
     rw[List.any_eq_true]
     exact⟨k,by rw[List.mem_range,HN.out];exact hkn,by rw[HQ.out];simp⟩
    go_wp2_with (fail)
    go_ret
    exact⟨rfl,HB1.out.trans (HBE.out.mono HB1.out.size)⟩
   ·have e1:(m==x)=false:=by simp[hx]
    have HNX:=lhi hx
    clear hx
    go_wp2_with (fail)
    go_roundw
    case rel=>exact⟨k+1,by simp,by omega,fun j hj=>by
     by_cases e:j=k
     ·subst e;rw[HQ.out];exact HNX.out
     ·exact HL.out j (by omega),HBE.out⟩
    case measure=>
     simp only[intOf]
     omega
  ·obtain rfl:k=n:=by omega
   obtain rfl:T=false:=by
    rw[<-HT.out]
    unfold Fz
    rw[List.any_eq_false]
    intro j hj
    rw[List.mem_range,HN.out]at hj
    have:=HL.out j hj
    simpa using this
   clear hB
   go_wp2_with (fail)
   go_ret
   exact⟨rfl,HB1.out.trans (HB.out.mono HB1.out.size)⟩
end
def Acq(S:St)(p:ByteArray)(x:Int):Bool:=match Au p with
 | .ok ns=>Fz S ns x
 | .err _=>false
def Le(S:St)(c:Ad)(r:ResV):Except Int (St×ResV):=match Bo S c.path with
 | .error k=>.error k
 | .ok (p,s)=>match entF (S.ino p).ents s with
  | none=>.error 1
  | some j=>match Bo S c.path2 with
   | .error k=>.error k
   | .ok (q,t)=>if(S.dir (Bh S (enuL (S.ino p).ents j)).toNat&&Acq S c.path2 (enuL (S.ino p).ents j))=true then .error 9 else match entF (S.ino q).ents t with
    | some _=>.error 2
    | none=>if Gn (S.ino q).ents t (if S.num p=S.num q then s else⟨#[]⟩)=true then .error 5
     else .ok ((cutE S p j).setI q {(cutE S p j).ino q with ents:=insE (t,enuL (S.ino p).ents j) ((cutE S p j).ino q).ents},r)
theorem Ahz{S:St}{p j q:Nat}(hp:p<S.inodes.length):((cutE S p j).ino q).ents.Sublist (S.ino q).ents:=by
 unfold cutE
 rw[Ga hp]
 split
 ·rename_i e;subst e;exact List.eraseIdx_sublist ..
 ·exact List.Sublist.refl _
theorem Agc{l:List (ByteArray×Int)}(h:l.Pairwise (fun a b=>nlt a.1 b.1=true)):Ky l:=fun a b hab hb=>by
 have:=List.pairwise_iff_getElem.1 h a b (by omega) hb hab
 unfold enmL
 rw[An hb,An (by omega:a<l.length)]
 exact this
section
variable{W:World}{base ob db:Nat}{c:Ad}{r:ResV}{iv ov mv:Value}{Iv:List InV}{S:St}
theorem Calls.belT{P:Program}{f:FuncId}{args:Array Value}{w:World}(x:WIn (Bel w)){v:Value}(h:Calls P f args x.v fun e w'=>e= .returned v/\x.v=w'):Calls P f args x.v fun e w''=>e= .returned v/\ ∃y:WIn (Bel w),w''=y.v:=
 Calls.bel x (h.mono fun _ _ ⟨he,hw⟩=>⟨he,hw▸Amf _ _⟩)
theorem Vr(h:Doer W base ob db c r iv ov mv Iv S)(hI:Inv S)(hp:c.path.size<=4611686018427387904)(hp2:c.path2.size<=4611686018427387904):
  Calls Tryz.prog 85 #[.pointer (some ⟨db,0,none⟩)] W fun e w'=>Gr base ob db c W e w' (Le S c r):=by
 obtain⟨g,icap,ics,rfl,-,-,-⟩:=h.row hI.pos
 have H:=lhi h
 have HI:=lhi hI
 have HPR:=lhi (Dy h hI hp)
 have HP2:=lhi (fun(V:World) (hb:Below W.heap.size W V)=>Dy (h.below hb) hI hp2)
 have HTH:=lhi (fun(V:World) (hb:Below W.heap.size W V) (ns:List ByteArray) (e:Au c.path2= .ok ns) (x:Int)=>Tr (h.below hb) hI hp2 e x)
 have d6:W.cell? ⟨db,6,none⟩=some (.string c.path):=h.d.cell 6
 obtain⟨RES,hres⟩: ∃R,Le S c r=R:=⟨_,rfl⟩
 have HR:=lhi hres
 rw[hres]
 unfold Le at HR
 cases hq:Bo S c.path with
 | error k=>
  rw[hq]at HPR HR
  obtain rfl: .error k=RES:=HR.out
  clear h hI hp hp2 hq hres
  go_enter Tryz.func85,Tryz.ntmps85
  go_wp2_with (go_at_call 115;refine HPR.out.mono ?_;rintro e w1 ⟨he,hb1⟩;have he:e=Cg k:=he;subst he;have HB:=lhi hb1)
  exact⟨rfl,rfl,HB.out.mono H.out.bs⟩
 | ok pn=>
  obtain⟨p,s⟩:=pn
  rw[hq]at HPR HR
  obtain⟨hpl,-⟩:=Cy hI hq
  have hen:=hI.ord.ents p hpl
  clear h hI hp hp2 hq hres
  go_enter Tryz.func85,Tryz.ntmps85
  go_upto_region 1 with(go_at_call 115;refine HPR.out.mono ?_;rintro e w1 ⟨he,hb1⟩;have he:e= .returned (.tuple #[.pointer (some ⟨g,p*4,none⟩),.string s]):=he;subst he;have HB1:=lhi hb1;clear hb1 HPR d6)
  have H1:=lhi (H.out.below HB1.out)
  obtain⟨EA,ecap,c2,hrow⟩:=H1.out.entc hpl
  have HROW:=lhi hrow
  cases hE:entF (S.ino p).ents s with
  | none=>
   rw[hE]at HR
   obtain rfl:RES= .error 1:=HR.out.symm
   have HEN:=lhi (Je hrow hen.1 s hen.2 hE)
   clear hE hen hrow
   go_wp2_with (first
    | (go_at_call 93;refine HEN.out.mono ?_;rintro e w2 ⟨⟨kk,rfl⟩,hb2⟩;have HB2:=lhi hb2;clear hb2)
    | (go_at_call 116;refine(Al _ _).mono ?_;rintro e w3 ⟨rfl,rfl⟩))
   exact⟨rfl,rfl,(HB1.out.trans (HB2.out.mono HB1.out.size)).mono H.out.bs⟩
  | some j=>
   rw[hE]at HR
   dsimp only at HR
   have hj:=Dp hE
   obtain⟨gl,hgl,hgp,hgn⟩:=Fq HI.out hpl hj
   have HEN:=lhi (Hc hrow hen.1 s hen.2 hE)
   have HEJ:=lhi hE
   have HEP:=lhi hen
   obtain⟨x,hx⟩:=xx (enuL (S.ino p).ents j)
   rw[hx]at HR hgn hgp
   rw[hgp]at HR
   have HX:=lhi hx
   clear hrow hE hen
   go_upto_region 2 with(go_at_call 93;refine HEN.out.mono ?_;rintro e w2 ⟨rfl,hb2⟩;have HB2:=lhi hb2;clear hb2 c2 HEN)
   go_upto_region 3 with(go_at_call 116;refine(Ar _ _).mono ?_;rintro e w3 ⟨rfl,rfl⟩)
   have H2:=lhi (H1.out.below HB2.out)
   have HBW:=lhi (HB1.out.trans (HB2.out.mono HB1.out.size))
   obtain⟨EA',ecap',c2,hrow⟩:=H2.out.entc hpl
   obtain⟨-,hcp,eg,eo,rfl,hcell⟩:=hrow.at_ hj
   have e1:w2.cell? ⟨eg,eo+j*2+1,none⟩=some (.int .i64 x):=by rw[<-hx];exact hcell 1 (by omega)
   have hji:(j:Int)< (S.ino p).ents.length:=by omega
   clear hrow hcell hx HROW
   go_upto_region 4 with(fail)
   have HP:=lhi (HP2.out _ HBW.out)
   have d7:w2.cell? ⟨db,7,none⟩=some (.string c.path2):=H2.out.d.cell 7
   clear HP2 c2 e1 hji
   cases hq:Bo S c.path2 with
   | error k=>
    rw[hq]at HP HR
    obtain rfl: .error k=RES:=HR.out
    clear hq
    go_wp2_with (go_at_call 115;refine HP.out.mono ?_;rintro e w4 ⟨he,hb3⟩;have he:e=Cg k:=he;subst he;have HB3:=lhi hb3)
    exact⟨rfl,rfl,(HBW.out.trans (HB3.out.mono HBW.out.size)).mono H.out.bs⟩
   | ok qt=>
    obtain⟨q,t⟩:=qt
    rw[hq]at HP HR
    obtain⟨hql,-⟩:=Cy HI.out hq
    obtain⟨ns,hns⟩: ∃ns,Au c.path2= .ok ns:=by
     unfold Bo at hq
     split at hq
     ·cases hq
     ·exact⟨_,by assumption⟩
    clear hq
    go_upto_region 5 with(go_at_call 115;refine HP.out.mono ?_;rintro e w4 ⟨he,hb3⟩;have he:e= .returned (.tuple #[.pointer (some ⟨g,q*4,none⟩),.string t]):=he;subst he;have HB3:=lhi hb3;clear hb3 HP d7)
    have HBV:=lhi (HBW.out.trans (HB3.out.mono HBW.out.size))
    have H3:=lhi (H2.out.below HB3.out)
    have hth:Acq S c.path2 x=Fz S ns x:=by unfold Acq;rw[hns]
    obtain⟨tb,htb⟩: ∃b,Fz S ns x=b:=⟨_,rfl⟩
    rw[htb]at hth
    rw[hth,Int.toNat_natCast]at HR
    have HTX:=lhi (fun y:WIn (Bel w4)=>HTH.out y.v (HBV.out.trans (y.h.mono HBV.out.size)) ns hns x)
    have HFX:=lhi (fun y:WIn (Bel w4)=>Ia (sp:=ob) (H3.out.stm.keep y.h) HI.out.small.ni x (fun i k a b=>HI.out.num_lt b a) (y.cell (H3.out.o.cell 0)))
    rw[hgp]at HFX
    rw[htb]at HTX
    have x0: ∀y:WIn (Bel w4),y.v.cell? ⟨db,0,none⟩=some (.pointer (some ⟨ob,0,none⟩)):=fun y=>y.cell (H3.out.d.cell 0)
    have x1: ∀y:WIn (Bel w4),y.v.cell? ⟨ob,0,none⟩=some (.slice (some ⟨g,0,none⟩) S.inodes.length icap):=fun y=>y.cell (H3.out.o.cell 0)
    have x2: ∀y:WIn (Bel w4),y.v.cell? ⟨g,gl*4+1,none⟩=some (.bool (S.dir gl)):=fun y=>y.cell (H3.out.dirc hgl)
    have x3: ∀y:WIn (Bel w4),y.v.cell? ⟨db,7,none⟩=some (.string c.path2):=fun y=>y.cell (H3.out.d.cell 7)
    have hgi:(gl:Int)<S.inodes.length:=by omega
    clear HTH hns hth htb hgp hgn
    cases hd:(S.dir gl&&tb)with
    | true=>
     rw[if_pos (show(S.dir gl&&tb)=true from hd)]at HR
     obtain rfl: .error 9=RES:=HR.out
     rw[Bool.and_eq_true]at hd
     obtain⟨hd1,rfl⟩:=hd
     rw[hd1]at x2
     clear hd1
     refine Fa (Bel w4) (by kernel_rfl) (by kernel_rfl) (by kernel_rfl) (by kernel_rfl) (by kernel_rfl) (by decide) (Bel.drew w4) ?_
     simp only[List.dropLast]
     repeat (go_big_quiet_step (first | (go_at_call 94;exact Calls.bel _ (HFX.out _)) | (go_at_call 133;exact Calls.bel _ (HTX.out _))))
     refine wpQuiet_nil ?_
     rintro w5 ⟨y5,rfl⟩
     have HB5:=lhi y5.h
     clear x0 x1 x2 x3
     refine Qe (o:=⟨some 76,_,_,_,_,_⟩) rfl (fun K hK=>?_)
     go_simp
     refine(Al _ _).mono ?_
     rintro e w6 ⟨rfl,rfl⟩
     exact⟨rfl,rfl,(HBV.out.trans (HB5.out.mono HBV.out.size)).mono H.out.bs⟩
    | false=>
     rw[if_neg (show ¬ (S.dir gl&&tb)=true by rw[hd];decide)]at HR
     have HRE:=lhi HR.out
     go_cut [] (fun wx=>Below w4.heap.size w4 wx)
     case first=>
      have hc:S.dir gl=false∨(S.dir gl=true/\tb=false):=by
       cases h1:S.dir gl with
       | false=>exact .inl rfl
       | true=>rw[h1]at hd;exact .inr ⟨rfl,hd⟩
      rcases hc with hc | ⟨hc,rfl⟩
      all_goals
       rw[hc]at x2
       clear hc hd
       refine Be (C:=Bel w4) (by kernel_rfl) (by kernel_rfl) (Bel.drew w4) ?_
       repeat (go_big_quiet_step (first | (go_at_call 94;exact Calls.bel _ (HFX.out _)) | (go_at_call 133;exact Calls.bel _ (HTX.out _)) | (go_at_call 116;exact Calls.belT _ (Ar _ _))))
       refine wpQuiet_nil ?_
       rintro w5 ⟨⟨w5',hb5⟩,hw⟩
       obtain rfl:w5=w5':=hw
       go_wp2_with (fail)
       go_meet
       case rel=>exact hb5
     case rest=>
      have HB5:=lhi (show Below w4.heap.size w4 wc from hcut)
      clear x0 x1 x2 x3 hcut HFX HTX hd
      have H5:=lhi (H3.out.below HB5.out)
      have HBU:=lhi (HBV.out.trans (HB5.out.mono HBV.out.size))
      obtain⟨QA,qcap,c2,hrow⟩:=H5.out.entc hql
      have hen:=HI.out.ord.ents q hql
      cases hE:entF (S.ino q).ents t with
      | some k=>
       rw[hE]at HRE
       obtain rfl: .error 2=RES:=HRE.out
       have HEN:=lhi (Hc hrow hen.1 t hen.2 hE)
       clear hE hen hrow
       go_wp2_with (first
        | (go_at_call 93;refine HEN.out.mono ?_;rintro e w6 ⟨rfl,hb6⟩;have HB6:=lhi hb6;clear hb6)
        | (go_at_call 116;refine(Al _ _).mono ?_;rintro e w7 ⟨rfl,rfl⟩))
       exact⟨rfl,rfl,(HBU.out.trans (HB6.out.mono HBU.out.size)).mono H.out.bs⟩
      | none=>
       rw[hE]at HRE
       have HEN:=lhi (Je hrow hen.1 t hen.2 hE)
       have HNE:=lhi (Hd hE)
       clear hE hen hrow
       go_upto_region 7 with(go_at_call 93;refine HEN.out.mono ?_;rintro e w6 ⟨⟨kk,rfl⟩,hb6⟩;have HB6:=lhi hb6;clear hb6 c2 HEN)
       go_upto_region 9 with(go_at_call 116;refine(Ar _ _).mono ?_;rintro e w7 ⟨rfl,rfl⟩)
       have H6:=lhi (H5.out.below HB6.out)
       have HBT:=lhi (HBU.out.trans (HB6.out.mono HBU.out.size))
       have g0:w6.cell? ⟨g,p*4,none⟩=some (.int .i64 (S.num p)):=H6.out.numc hpl
       have g1:w6.cell? ⟨g,q*4,none⟩=some (.int .i64 (S.num q)):=H6.out.numc hql
       obtain⟨but,hbut⟩: ∃b,(if S.num p=S.num q then s else⟨#[]⟩)=b:=⟨_,rfl⟩
       have HBU':=lhi hbut
       rw[hbut]at HRE
       clear hbut
       go_cut [96] (fun z wx=>z= .bool (S.num p==S.num q)/\Below w6.heap.size w6 wx)
       case first=>
        go_region
        go_wp2_with (fail)
        go_meet
        case rel=>exact⟨rfl,Ae _⟩
       case rest=>
       obtain⟨rfl,hb7⟩:=hcut
       have HB7:=lhi hb7
       go_upto_if 96 with(fail)
       go_cut [9] (fun z wx=>z= .string but/\wc=wx)
       case first=>
        by_cases e:S.num p=S.num q
        ·have e1:(S.num p==S.num q)=true:=by simp[e]
         obtain rfl:s=but:=by rw[<-HBU'.out,if_pos e]
         clear e
         go_wp2_with (fail)
         go_meet
         case rel=>exact⟨rfl,rfl⟩
        ·have e1:(S.num p==S.num q)=false:=by simp[e]
         obtain rfl:⟨#[]⟩=but:=by rw[<-HBU'.out,if_neg e]
         clear e
         go_wp2_with (fail)
         go_meet
         case rel=>exact⟨rfl,rfl⟩
       case rest=>
        obtain⟨rfl,rfl⟩:=hcut
        clear g0 g1
        have H7:=lhi (H6.out.below hb7)
        have HBS:=lhi (HBT.out.trans (hb7.mono HBT.out.size))
        obtain⟨QA,qcap,c2,hrow⟩:=H7.out.entc hql
        have hen:=HI.out.ord.ents q hql
        have HFL:=lhi (Mo c2 hrow hen.1 t but)
        clear c2 hrow hen hb7
        cases hf:Gn (S.ino q).ents t but with
        | true=>
         rw[hf]at HFL HRE
         obtain rfl: .error 5=RES:=HRE.out
         clear hf
         go_wp2_with (first
          | (go_at_call 117;refine HFL.out.mono ?_;rintro e w8 ⟨rfl,hb8⟩;have HB8:=lhi hb8;clear hb8)
          | (go_at_call 116;refine(Al _ _).mono ?_;rintro e w9 ⟨rfl,rfl⟩))
         exact⟨rfl,rfl,(HBS.out.trans (HB8.out.mono HBS.out.size)).mono H.out.bs⟩
        | false=>
         rw[hf]at HFL HRE
         replace HRE:=lhi (show .ok ((cutE S p j).setI q {(cutE S p j).ino q with ents:=insE (t,x) ((cutE S p j).ino q).ents},r)=RES from HRE.out)
         obtain rfl:=HRE.out
         clear hf
         go_upto_region 12 with(first
          | (go_at_call 117;refine HFL.out.mono ?_;rintro e w8 ⟨rfl,hb8⟩;have HB8:=lhi hb8;clear hb8)
          | (go_at_call 116;refine(Ar _ _).mono ?_;rintro e w9 ⟨rfl,rfl⟩))
         have H8:=lhi (H7.out.below HB8.out)
         have HB9:=lhi (HBS.out.trans (HB8.out.mono HBS.out.size))
         have HT:=lhi (Rd H8.out hpl HEP.out.2 HEP.out.1 HEJ.out)
         rw[HX.out]at HT
         clear HFL
         go_upto_region 13 with(go_at_call 132;refine HT.out.mono ?_;rintro e w9 ⟨rfl,hb9,hd9⟩;have HC9:=lhi hb9;have HD9:=lhi hd9;clear hb9 hd9 HT)
         obtain⟨Iv9,hd9⟩:=HD9.out
         have hq1:q< (cutE S p j).inodes.length:=by rw[Gf];exact hql
         have hsub:=Ahz (j:=j) (q:=q) hpl
         have hen:=HI.out.ord.ents q hql
         have hup:=(HI.out.up _ (Inv.ino_mem hql)).sublist hsub
         have hln:=hsub.length_le
         have hd9:Doer w9 base ob db c r (.slice (some ⟨g,0,none⟩) (cutE S p j).inodes.length icap) ov mv Iv9 (cutE S p j):=by rw[Gf];exact hd9
         have HPU:=lhi (Oo hd9 hq1 (s:=t) (num:=x) (Agc hup) (by omega) (fun e he=>HNE.out e (hsub.subset he)))
         clear hd9 HD9 hq1 hsub hen hup hln HX HEP HEJ
         go_wp2_with (go_at_call 119;refine HPU.out.mono ?_;rintro e w10 ⟨rfl,hb10,hd⟩;have HB10:=lhi hb10;have HD:=lhi hd;clear hb10 hd)
         go_end0
         obtain⟨Iv',hd⟩:=HD.out
         exact⟨rfl,((HB9.out.mono H.out.bs).trans HC9.out).trans HB10.out,_,_,_,_,hd⟩
end
end Go.Proofs.YtkebjgebkneijaaGreat
