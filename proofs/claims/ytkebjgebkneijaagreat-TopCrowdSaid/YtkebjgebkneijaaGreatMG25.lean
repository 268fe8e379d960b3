/- Texts of one's own that a claim's last text rests on: Dr7 Da3 Da4. -/
import Derived.Test.YtkebjgebkneijaaGreatMG24
import Derived.Test.YtkebjgebkneijaaGreatMG23
import Derived.IntWalk
set_option linter.unusedVariables false
set_option linter.unusedSimpArgs false
namespace Go.Proofs.YtkebjgebkneijaaGreat
section
open Go.RowKit
set_option maxHeartbeats 2000000
def DoneR(base ob db:Nat)(c:CallV)(W:World)(e:Ending)(w':World):Except Int (St×ResV)->Prop
 | .error k=>e=mthrown k/\Below base W w'
 | .ok (S',r')=>e= .returned (.tuple #[])/\Below base W w'/\ ∃iv' ov' mv' Iv',Doer w' base ob db c r' iv' ov' mv' Iv' S'
section
variable{W:World}{base ob db:Nat}{c:CallV}{r:ResV}{iv ov mv:Value}{Iv:List InV}{S:St}
set_option maxRecDepth 1000000 in
theorem create_bad1(h:Doer W base ob db c r iv ov mv Iv S)(hI:Inv S)(hp:c.path.size<=4611686018427387904){k:Int}(hs:parentS S c.path= .error k):
  Calls Tryz.prog 77 #[.pointer (some ⟨db,0,none⟩)] W fun e w'=>e=mthrown k/\Below base W w':=by
 obtain⟨g,icap,ics,rfl,-,-,-⟩:=h.row hI.pos
 have HPR:=lhi (parent_calls h hI hp)
 rw[hs]at HPR
 have hbs:=h.bs
 have d6:W.cell? ⟨db,6,none⟩=some (.string c.path):=h.d.cell 6
 clear h hI hp hs
 go_enter Tryz.func77,Tryz.ntmps77
 go_wp2_with (go_at_call 115;refine HPR.out.mono ?_;rintro e w1 ⟨he,hb1⟩;have he:e=mthrown k:=he;subst he)
 exact⟨rfl,rfl,hb1.mono hbs⟩
set_option maxRecDepth 1000000 in
theorem create_bad2(h:Doer W base ob db c r iv ov mv Iv S)(hI:Inv S)(hp:c.path.size<=4611686018427387904){k:Nat}{nm:ByteArray}(hs:parentS S c.path= .ok (k,nm)){j:Nat}(hE:entF (S.ino k).ents nm=some j):
  Calls Tryz.prog 77 #[.pointer (some ⟨db,0,none⟩)] W fun e w'=>e=mthrown 2/\Below base W w':=by
 obtain⟨g,icap,ics,rfl,-,-,-⟩:=h.row hI.pos
 have HPR:=lhi (parent_calls h hI hp)
 rw[hs]at HPR
 obtain⟨hk,-⟩:=parentS_lt hI hs
 have hl:=h.st.len'
 have hkI:k<Iv.length:=by omega
 have hino:=h.st.at_ hkI
 have hek:=h.st.ent k hkI
 have c2:=h.st.cell hl.symm hkI (show 2<4 by omega)
 have hbs:=h.bs
 have d6:W.cell? ⟨db,6,none⟩=some (.string c.path):=h.d.cell 6
 obtain⟨q,hq⟩: ∃q,Iv[k]=q:=⟨_,rfl⟩
 rw[hq]at hino hek c2
 obtain⟨p1,ev⟩:=q
 replace hino:p1=S.ino k:=hino
 subst hino
 obtain⟨es,hes⟩: ∃es,(S.ino k).ents=es:=⟨_,rfl⟩
 replace hek:W.ownsRow base 132 2 ev es.length (es.flatMap encEn):=by rw[<-hes];exact hek
 have hen:=(hI.ord).ents k hk
 rw[hes]at hE hen
 have HEN:=lhi (fun(V:World) (hb:Below W.heap.size W V)=>entry_yes (own_rowT (by decide) encEn_len (own_below hek hb) (cl_entEn _)).at' hen.1 nm hen.2 hE)
 obtain⟨EA,ecap,rfl,-⟩:=own_form hek
 replace c2:W.cell? ⟨g,k*4+2,none⟩=some (.slice EA es.length ecap):=c2
 clear h hI hp hs hek hes hq hen hE hkI hl
 go_enter Tryz.func77,Tryz.ntmps77
 go_wp2_with (first
  | (go_at_call 115;refine HPR.out.mono ?_;rintro e w1 ⟨he,hb1⟩;have he:e= .returned (.tuple #[.pointer (some ⟨g,k*4,none⟩),.string nm]):=he;subst he;have HB1:=lhi hb1;have y2:w1.cell? ⟨g,k*4+2,none⟩=some (.slice EA es.length ecap):=(hb1.cell (World.block_lt_of_cell? _ _ c2)).trans c2;clear hb1 HPR)
  | (go_at_call 93;refine(HEN.out _ HB1.out).mono ?_;rintro e w2 ⟨rfl,hb2⟩)
  | (go_at_call 116;refine(mthrow_yes _ _).mono ?_;rintro e w3 ⟨rfl,rfl⟩))
 exact⟨rfl,rfl,(HB1.out.mono hbs).trans (hb2.mono (Nat.le_trans hbs HB1.out.size))⟩
end
end
section
open Go.RowKit
set_option maxHeartbeats 2000000
def inB(x:Int):Bool:=decide (0<=x/\x<=256)
theorem inB_yes{x:Int}(h:inB x=true):0<=x/\x<=256:=of_decide_eq_true h
theorem min_calls(x:Int)(w:World):Calls Tryz.prog 128 #[.int .i64 x] w fun e w'=>e= .returned (.bool (inB x))/\w=w':=by
 by_cases h0:0<=x
 ·by_cases h1:x<=256
  ·rw[show inB x=true by simp[inB,h0,h1]]
   go_enter Tryz.func128,Tryz.ntmps128
   go_wp2_with (fail)
   go_ret
   exact⟨rfl,rfl⟩
  ·rw[show inB x=false by simp[inB,h1]]
   have h2:decide (x<=256)=false:=by simpa using h1
   go_enter Tryz.func128,Tryz.ntmps128
   go_wp2_with (fail)
   go_ret
   exact⟨rfl,rfl⟩
 ·rw[show inB x=false by simp[inB,h0]]
  have h2:decide (0<=x)=false:=by simpa using h0
  go_enter Tryz.func128,Tryz.ntmps128
  go_wp2_with (fail)
  go_ret
  exact⟨rfl,rfl⟩
theorem min_is{x:Int}{b:Bool}(h:inB x=b)(w:World):Calls Tryz.prog 128 #[.int .i64 x] w fun e w'=>e= .returned (.bool b)/\w=w':=h▸min_calls x w
theorem StO.putD{w:World}{base g n cap:Nat}{ov mv:Value}{Iv:List InV}{S:St}(h:StO w base (.slice (some ⟨g,0,none⟩) n cap) ov mv Iv S){k:Nat}(hk:k<Iv.length)(hn:n=Iv.length)(d:ByteArray):
  StO (w.setCell ⟨g,k*4+3,none⟩ (.string d)) base (.slice (some ⟨g,0,none⟩) n cap) ov mv (Iv.set k ({Iv[k].1 with data:=d},Iv[k].2)) (S.setI k {Iv[k].1 with data:=d}):=by
 obtain⟨-,gcs,hG⟩:=own_type h.ino rfl
 have hfar: ∀{e:TypeId} {j m:Nat} {v:Value} {xs:List Value},w.ownsRow base e j v m xs->e≠93->(w.setCell ⟨g,k*4+3,none⟩ (.string d)).ownsRow base e j v m xs:=fun ho he=>ownsRow_setCell_other ho (a:=⟨g,k*4+3,none⟩) (fun q=>by
  obtain⟨-,cs',hq⟩:=own_type ho q
  exact Blk.ne_ hq hG he rfl) _
 have hgt: ∀{i:Nat} (hi:i< (Iv.set k ({Iv[k].1 with data:=d},Iv[k].2)).length),(Iv.set k ({Iv[k].1 with data:=d},Iv[k].2))[i].2=(Iv[i]'(by simpa using hi)).2/\ (Iv.set k ({Iv[k].1 with data:=d},Iv[k].2))[i].1.ents=(Iv[i]'(by simpa using hi)).1.ents:=fun {i} hi=>by
  rw[List.getElem_set]
  split
  ·rename_i e
   subst e
   exact⟨rfl,rfl⟩
  ·exact⟨rfl,rfl⟩
 refine⟨?_,?_,fun i hi=>?_,fun i j hi hj hij b=>?_,hfar h.opn (by decide),hfar h.mad (by decide)⟩
 ·rw[List.map_set]
  show(Iv.map (·.1)).set k _=S.inodes.set k _
  rw[h.len]
 ·subst hn
  have hs:=flat_setK (enc:=encI) (k:=4) (by decide) encI_len ({Iv[k].1 with data:=d},Iv[k].2) 3 (.string d) Iv k hk (by decide) rfl
  rw[List.length_set,hs]
  exact own_set h.ino (t:=k*4+3) (by omega) (.string d)
 ·obtain⟨h1,h2⟩:=hgt hi
  rw[h1,h2]
  exact hfar (h.ent i (by simpa using hi)) (by decide)
 ·rw[(hgt hi).1,(hgt hj).1]
  exact h.apart i j (by simpa using hi) (by simpa using hj) hij b
section
variable{W:World}{base ob db:Nat}{c:CallV}{r:ResV}{iv ov mv:Value}{Iv:List InV}{S:St}
theorem Doer.ne(h:Doer W base ob db c r iv ov mv Iv S):ob≠db:=Blk.ne_ h.o h.d (by decide)
theorem Doer.setR(h:Doer W base ob db c r iv ov mv Iv S)(i:Nat)(u:Value){r':ResV}(hr:(doerCs ob c r).setIfInBounds i u=doerCs ob c r'):Doer (W.setCell ⟨db,i,none⟩ u) base ob db c r' iv ov mv Iv S:=
 ⟨h.ob_,h.db_,h.o.far (p:=⟨db,i,none⟩) h.ne u,by rw[<-hr];exact h.d.set_ i u,h.st.far h.d (by decide) (by decide) (by decide) (by decide) i u⟩
theorem Doer.setD{g n cap:Nat}(h:Doer W base ob db c r (.slice (some ⟨g,0,none⟩) n cap) ov mv Iv S){k:Nat}(hk:k<S.inodes.length)(hn:n=S.inodes.length)(d:ByteArray):
  ∃Iv',Doer (W.setCell ⟨g,k*4+3,none⟩ (.string d)) base ob db c r (.slice (some ⟨g,0,none⟩) n cap) ov mv Iv' (S.setI k {S.ino k with data:=d}):=by
 have hl:=h.st.len'
 obtain⟨-,gcs,hG⟩:=own_type h.st.ino rfl
 have:=h.st.putD (k:=k) (by omega) (by omega) d
 rw[h.st.at_]at this
 exact⟨_,h.ob_,h.db_,h.o.far (p:=⟨g,k*4+3,none⟩) (Blk.ne_ h.o hG (by decide)) _,h.d.far (p:=⟨g,k*4+3,none⟩) (Blk.ne_ h.d hG (by decide)) _,this⟩
theorem Doer.drew(h:Doer W base ob db c r iv ov mv Iv S):Doer W.drew base ob db c r iv ov mv Iv S:=h.below (below_drew W)
theorem below_set{B p:Nat}{w w':World}(h:Below B w w')(hp:B<=p)(i:Nat)(u:Value)(hs:B<=w'.heap.size):Below B w (w'.setCell ⟨p,i,none⟩ u).drew:=
 (h.setCell (p:=⟨p,i,none⟩) hp u).trans ((below_drew _).mono (by simpa[World.setCell]using hs))
theorem Doer.gbase{g n cap:Nat}(h:Doer W base ob db c r (.slice (some ⟨g,0,none⟩) n cap) ov mv Iv S):base<=g:=(h.st.ino.lt g rfl).1
def bytesS(S:St)(c:CallV)(r:ResV):Except Int (St×ResV):=match fileS S c with
 | .error k=>.error k
 | .ok (a,_)=>
  if c.kind=4 then(if(inB c.off&&inB c.num)=true then .ok (S,{r with data:=pieceF (S.dat a) c.off.toNat c.num.toNat})else .error 9)
  else if c.kind=5 then(if(inB c.off&&inB c.data.size)=true then(if 256<c.off+c.data.size then .error 5 else .ok (S.setI a {S.ino a with data:=layF (S.dat a) c.off.toNat c.data},{r with num:=c.data.size}))else .error 9)
  else if c.kind=6 then(if inB c.num=true then .ok (S.setI a {S.ino a with data:=cutF (S.dat a) c.num.toNat},r)else .error 9)
  else .ok (S,{r with num:=(S.dat a).size})
set_option maxRecDepth 1000000 in
theorem bytes_nofile(h:Doer W base ob db c r iv ov mv Iv S)(hI:Inv S){k:Int}(hs:fileS S c= .error k):
  Calls Tryz.prog 82 #[.pointer (some ⟨db,0,none⟩)] W fun e w'=>e=mthrown k/\Below base W w':=by
 obtain⟨g,icap,ics,rfl,-,-,-⟩:=h.row hI.pos
 have HF:=lhi (dfile_calls h hI)
 rw[hs]at HF
 have hbs:=h.bs
 clear h hI hs
 go_enter Tryz.func82,Tryz.ntmps82
 go_wp2_with (go_at_call 79;refine HF.out.mono ?_;rintro e w1 ⟨he,hb1⟩;have he:e=mthrown k:=he;subst he)
 exact⟨rfl,rfl,hb1.mono hbs⟩
set_option maxRecDepth 1000000 in
theorem bytes_read(h:Doer W base ob db c r iv ov mv Iv S)(hI:Inv S){a k:Nat}(hs:fileS S c= .ok (a,k))(hk:c.kind=4){RES:Except Int (St×ResV)}(hres:(if(inB c.off&&inB c.num)=true then .ok (S,{r with data:=pieceF (S.dat a) c.off.toNat c.num.toNat})else .error 9)=RES):
  Calls Tryz.prog 82 #[.pointer (some ⟨db,0,none⟩)] W fun e w'=>DoneR base ob db c W e w' RES:=by
 obtain⟨g,icap,ics,rfl,-,-,-⟩:=h.row hI.pos
 have HF:=lhi (dfile_calls h hI)
 obtain⟨-,ha,-,-,-,-,-⟩:=fileS_ok hI hs
 rw[hs]at HF
 have hbs:=h.bs
 have hdat:(S.dat a).size<=256:=hI.dat _ (Inv.ino_mem ha)
 have H:=lhi h
 have HSM:=lhi h.stm
 have HRES:=lhi hres
 have hk1:(c.kind==4)=true:=by simp[hk]
 obtain⟨dt,hdt⟩: ∃x,S.dat a=x:=⟨_,rfl⟩
 rw[hdt]at hdat HRES
 have HDT:=lhi hdt
 clear h hI hs hres hdt
 go_enter Tryz.func82,Tryz.ntmps82
 go_upto_region 1 with(go_at_call 79;refine HF.out.mono ?_;rintro e w1 ⟨he,hb1⟩;have he:e= .returned (.tuple #[.pointer (some ⟨g,a*4,none⟩),.int .i64 k]):=he;subst he;have HB1:=lhi (hb1.mono hbs);have H1:=lhi (H.out.below hb1);have HS1:=lhi (HSM.out.keep hb1);clear hb1)
 have d1:w1.cell? ⟨db,1,none⟩=some (.int .i64 c.kind):=H1.out.d.cell 1
 have d4:w1.cell? ⟨db,4,none⟩=some (.int .i64 c.off):=H1.out.d.cell 4
 have d5:w1.cell? ⟨db,5,none⟩=some (.int .i64 c.num):=H1.out.d.cell 5
 have d13:w1.cell? ⟨db,13,none⟩=some (.string r.data):=H1.out.d.cell 13
 have f13:=H1.out.d.frozen 13
 have g3:w1.cell? ⟨g,a*4+3,none⟩=some (.string dt):=by
  obtain⟨-,-,g',off,hA,hcell⟩:=HS1.out.ino.at_ ha
  injection hA with hA
  injection hA with e1 e2
  subst e1 e2
  have:=hcell 3 (by omega)
  rw[Nat.zero_add]at this
  rw[<-HDT.out]
  exact this
 cases hio:inB c.off with
 | false=>
  rw[hio]at HRES
  obtain rfl:RES= .error 9:=by rw[<-HRES.out];rfl
  clear HRES
  go_wp2_with (first
   | (go_at_call 128;refine(min_is hio _).mono ?_;rintro e w' ⟨rfl,rfl⟩)
   | (go_at_call 116;refine(mthrow_yes _ _).mono ?_;rintro e w' ⟨rfl,rfl⟩))
  exact⟨rfl,rfl,HB1.out⟩
 | true=>
  cases hin:inB c.num with
  | false=>
   rw[hio,hin]at HRES
   obtain rfl:RES= .error 9:=by rw[<-HRES.out];rfl
   clear HRES
   go_wp2_with (fail)
   refine(min_is hio _).mono ?_
   rintro e w' ⟨rfl,rfl⟩
   go_wp2_with (fail)
   refine(min_is hin _).mono ?_
   rintro e w' ⟨rfl,rfl⟩
   go_wp2_with (go_at_call 116;refine(mthrow_yes _ _).mono ?_;rintro e w' ⟨rfl,rfl⟩)
   exact⟨rfl,rfl,HB1.out⟩
  | true=>
   rw[hio,hin]at HRES
   obtain⟨on,hon⟩: ∃n:Nat,c.off=n:=⟨c.off.toNat,by have:=inB_yes hio;omega⟩
   obtain⟨nn,hnn⟩: ∃n:Nat,c.num=n:=⟨c.num.toNat,by have:=inB_yes hin;omega⟩
   obtain⟨r',hr'⟩: ∃x:ResV,x={r with data:=pieceF dt on nn}:=⟨_,rfl⟩
   obtain rfl:RES= .ok (S,r'):=by
    rw[<-HRES.out,hon,hnn,hr'];rfl
   have hob:=inB_yes hio
   have hnb:=inB_yes hin
   rw[hon]at hob d4 hio
   rw[hnn]at hnb d5 hin
   have HPC:=lhi (fun W=>piece_calls dt on nn (by omega) (by omega) (by omega) W)
   have HSR:=lhi (H1.out.setR (r':=r') 13 (.string (pieceF dt on nn)) (by rw[hr'];rfl))
   obtain⟨pd,hpd⟩: ∃x,pieceF dt on nn=x:=⟨_,rfl⟩
   rw[hpd]at HPC HSR
   clear HRES hon hnn hr' hpd
   go_wp2_with (fail)
   refine(min_is hio _).mono ?_
   rintro e w' ⟨rfl,rfl⟩
   go_wp2_with (fail)
   refine(min_is hin _).mono ?_
   rintro e w' ⟨rfl,rfl⟩
   go_upto_region 5 with(go_at_call 116;refine(mthrow_no _ _).mono ?_;rintro e w' ⟨rfl,rfl⟩)
   clear d1
   have HSD:=lhi (show w1.drew.cell? ⟨db,4,none⟩=some (.int .i64 on)/\w1.drew.cell? ⟨db,5,none⟩=some (.int .i64 nn)/\w1.drew.cell? ⟨g,a*4+3,none⟩=some (.string dt)from⟨d4,d5,g3⟩)
   have HGD:=lhi (show db≠g by
    obtain⟨-,gcs,hG⟩:=own_type H1.out.st.ino rfl
    exact Blk.ne_ H1.out.d hG (by decide))
   go_region_held3 (fun w'=>w'.cell? ⟨db,4,none⟩=some (.int .i64 on)/\w'.cell? ⟨db,5,none⟩=some (.int .i64 nn)/\w'.cell? ⟨g,a*4+3,none⟩=some (.string dt))
    (first | (with_reducible exact HSD.out) | exact⟨d4,d5,g3⟩ | (refine⟨?_,?_,?_⟩ <;> simp[go_sem,d4,d5,g3]))
    ((go_at_call 129;refine(HPC.out _).mono ?_;rintro e w' ⟨rfl,rfl⟩))
   go_end0
   exact⟨rfl,below_set HB1.out H1.out.db_ _ _ H1.out.bs,_,_,_,_,HSR.out.drew⟩
set_option maxRecDepth 1000000 in
theorem bytes_size(h:Doer W base ob db c r iv ov mv Iv S)(hI:Inv S){a k:Nat}(hs:fileS S c= .ok (a,k))(hk:c.kind≠4/\c.kind≠5/\c.kind≠6):
  Calls Tryz.prog 82 #[.pointer (some ⟨db,0,none⟩)] W fun e w'=>DoneR base ob db c W e w' (.ok (S,{r with num:=(S.dat a).size})):=by
 obtain⟨g,icap,ics,rfl,-,-,-⟩:=h.row hI.pos
 have HF:=lhi (dfile_calls h hI)
 obtain⟨-,ha,-,-,-,-,-⟩:=fileS_ok hI hs
 rw[hs]at HF
 have hbs:=h.bs
 have hdat:(S.dat a).size<=256:=hI.dat _ (Inv.ino_mem ha)
 have H:=lhi h
 have HSM:=lhi h.stm
 have hk4:(c.kind==4)=false:=by simp[hk.1]
 have hk5:(c.kind==5)=false:=by simp[hk.2.1]
 have hk6:(c.kind==6)=false:=by simp[hk.2.2]
 clear hk
 obtain⟨r',hr'⟩: ∃x:ResV,x={r with num:=(S.dat a).size}:=⟨_,rfl⟩
 rw[<-hr']
 have HR':=lhi hr'
 obtain⟨dt,hdt⟩: ∃x,S.dat a=x:=⟨_,rfl⟩
 rw[hdt]at hdat
 have HDT:=lhi hdt
 clear h hI hs hdt hr'
 go_enter Tryz.func82,Tryz.ntmps82
 go_upto_region 1 with(go_at_call 79;refine HF.out.mono ?_;rintro e w1 ⟨he,hb1⟩;have he:e= .returned (.tuple #[.pointer (some ⟨g,a*4,none⟩),.int .i64 k]):=he;subst he;have HB1:=lhi (hb1.mono hbs);have H1:=lhi (H.out.below hb1);have HS1:=lhi (HSM.out.keep hb1);clear hb1)
 have d1:w1.cell? ⟨db,1,none⟩=some (.int .i64 c.kind):=H1.out.d.cell 1
 have g3:w1.cell? ⟨g,a*4+3,none⟩=some (.string dt):=by
  obtain⟨-,-,g',off,hA,hcell⟩:=HS1.out.ino.at_ ha
  injection hA with hA
  injection hA with e1 e2
  subst e1 e2
  have:=hcell 3 (by omega)
  rw[Nat.zero_add]at this
  rw[<-HDT.out]
  exact this
 have d11:w1.cell? ⟨db,11,none⟩=some (.int .i64 r.num):=H1.out.d.cell 11
 have f11:=H1.out.d.frozen 11
 have HSR:=lhi (H1.out.setR (r':=r') 11 (.int .i64 dt.size) (by rw[HR'.out,HDT.out];rfl))
 clear HR' HDT
 go_wp2_with (fail)
 go_end0
 exact⟨rfl,HB1.out.setCell (p:=⟨db,11,none⟩) H1.out.db_ _,_,_,_,_,HSR.out⟩
set_option maxRecDepth 1000000 in
theorem bytes_trunc(h:Doer W base ob db c r iv ov mv Iv S)(hI:Inv S){a k:Nat}(hs:fileS S c= .ok (a,k))(hk:c.kind=6){RES:Except Int (St×ResV)}(hres:(if inB c.num=true then .ok (S.setI a {S.ino a with data:=cutF (S.dat a) c.num.toNat},r)else .error 9)=RES):
  Calls Tryz.prog 82 #[.pointer (some ⟨db,0,none⟩)] W fun e w'=>DoneR base ob db c W e w' RES:=by
 obtain⟨g,icap,ics,rfl,-,-,-⟩:=h.row hI.pos
 have HF:=lhi (dfile_calls h hI)
 obtain⟨-,ha,-,-,-,-,-⟩:=fileS_ok hI hs
 rw[hs]at HF
 have hbs:=h.bs
 have hdat:(S.dat a).size<=256:=hI.dat _ (Inv.ino_mem ha)
 have H:=lhi h
 have HSM:=lhi h.stm
 have HRES:=lhi hres
 have hk4:(c.kind==4)=false:=by simp[hk]
 have hk5:(c.kind==5)=false:=by simp[hk]
 have hk6:(c.kind==6)=true:=by simp[hk]
 clear hk
 obtain⟨dt,hdt⟩: ∃x,S.dat a=x:=⟨_,rfl⟩
 rw[hdt]at hdat HRES
 have HDT:=lhi hdt
 clear h hI hs hres hdt
 go_enter Tryz.func82,Tryz.ntmps82
 go_upto_region 1 with(go_at_call 79;refine HF.out.mono ?_;rintro e w1 ⟨he,hb1⟩;have he:e= .returned (.tuple #[.pointer (some ⟨g,a*4,none⟩),.int .i64 k]):=he;subst he;have HB1:=lhi (hb1.mono hbs);have H1:=lhi (H.out.below hb1);have HS1:=lhi (HSM.out.keep hb1);clear hb1)
 have d1:w1.cell? ⟨db,1,none⟩=some (.int .i64 c.kind):=H1.out.d.cell 1
 have g3:w1.cell? ⟨g,a*4+3,none⟩=some (.string dt):=by
  obtain⟨-,-,g',off,hA,hcell⟩:=HS1.out.ino.at_ ha
  injection hA with hA
  injection hA with e1 e2
  subst e1 e2
  have:=hcell 3 (by omega)
  rw[Nat.zero_add]at this
  rw[<-HDT.out]
  exact this
 have d5:w1.cell? ⟨db,5,none⟩=some (.int .i64 c.num):=H1.out.d.cell 5
 cases hin:inB c.num with
 | false=>
  rw[hin]at HRES
  obtain rfl:RES= .error 9:=by rw[<-HRES.out];rfl
  clear HRES
  go_wp2_with (first
   | (go_at_call 128;refine(min_is hin _).mono ?_;rintro e w' ⟨rfl,rfl⟩)
   | (go_at_call 116;refine(mthrow_yes _ _).mono ?_;rintro e w' ⟨rfl,rfl⟩))
  exact⟨rfl,rfl,HB1.out⟩
 | true=>
  rw[hin]at HRES
  obtain⟨nn,hnn⟩: ∃n:Nat,c.num=n:=⟨c.num.toNat,by have:=inB_yes hin;omega⟩
  obtain⟨cd,hcd⟩: ∃x,cutF dt nn=x:=⟨_,rfl⟩
  obtain⟨S',hS'⟩: ∃x,x=S.setI a {S.ino a with data:=cd}:=⟨_,rfl⟩
  obtain rfl:RES= .ok (S',r):=by rw[<-HRES.out,hnn,hS',<-hcd];rfl
  have hnb:=inB_yes hin
  rw[hnn]at hnb d5 hin
  have HCT:=lhi (fun W=>cut_calls dt nn (by omega) W)
  rw[hcd]at HCT
  have HSS:=lhi hS'
  clear HRES hnn hcd hS'
  go_upto_region 13 with(first
   | (go_at_call 128;refine(min_is hin _).mono ?_;rintro e w' ⟨rfl,rfl⟩)
   | (go_at_call 116;refine(mthrow_no _ _).mono ?_;rintro e w' ⟨rfl,rfl⟩))
  clear d1
  have HSD:=lhi (show w1.drew.cell? ⟨db,5,none⟩=some (.int .i64 nn)/\w1.drew.cell? ⟨g,a*4+3,none⟩=some (.string dt)from⟨d5,g3⟩)
  have HGB:=lhi (own_type H1.out.st.ino rfl).2
  obtain⟨gcs,hgcs⟩:=HGB.out
  have HGB:=lhi hgcs
  have hgl:=hgcs.lt
  clear hgcs
  refine wp_region_E_drew (L:=13) (S:=fun w'=>w'.cell? ⟨db,5,none⟩=some (.int .i64 nn)/\w'.cell? ⟨g,a*4+3,none⟩=some (.string dt)) (by kernel_rfl) (HSD.out) (fun hHeld=>?_)
  refine wpAnyF_take (i:=0) (oi:=⟨some 133,_,_,_,_,_⟩) (v:=?ve1) rfl (by kernel_rfl) (fun _ _ _ h=>h) (Or.inl ⟨by kernel_rfl,fun w hSw=>?_⟩) (by assumption) ?_
  rotate_left
  ·(go_simp;rfl)
  simp only[Act.put,lTA,lC0,lCS]
  refine wpAnyF_take (i:=1) (oi:=⟨some 134,_,_,_,_,_⟩) (v:=?ve2) rfl (by kernel_rfl) (fun _ _ _ h=>h) (Or.inl ⟨by kernel_rfl,fun w hSw=>?_⟩) (by assumption) ?_
  rotate_left
  ·(go_simp;rfl)
  simp only[Act.put,lTA,lC0,lCS]
  refine wpAnyF_take (i:=2) (oi:=⟨some 135,_,_,_,_,_⟩) (v:=?ve3) rfl (by kernel_rfl) (fun _ _ _ h=>h) (Or.inl ⟨by kernel_rfl,fun w hSw=>?_⟩) (by assumption) ?_
  rotate_left
  ·(go_simp;rfl)
  simp only[Act.put,lTA,lC0,lCS]
  refine wpAnyF_take (i:=3) (oi:=⟨some 136,_,_,_,_,_⟩) (v:=?ve4) rfl (by kernel_rfl) (fun _ _ _ h=>h) (Or.inl ⟨by kernel_rfl,fun w hSw=>?_⟩) (by assumption) ?_
  rotate_left
  ·(go_simp;rfl)
  simp only[Act.put,lTA,lC0,lCS]
  refine wpAnyF_take (i:=4) (oi:=⟨some 137,_,_,_,_,_⟩) (v:=?ve5) rfl (by kernel_rfl) (fun _ _ _ h=>h) (Or.inl ⟨by kernel_rfl,fun w hSw=>?_⟩) (by assumption) ?_
  rotate_left
  ·(go_simp;rfl)
  simp only[Act.put,lTA,lC0,lCS]
  refine wpAnyF_take (i:=5) (oi:=⟨some 138,_,_,_,_,_⟩) (v:=?ve6) rfl (by kernel_rfl) (fun _ _ _ h=>h) (Or.inl ⟨by kernel_rfl,fun w hSw=>?_⟩) (by assumption) ?_
  rotate_left
  ·(go_simp;rfl)
  simp only[Act.put,lTA,lC0,lCS]
  refine wpAnyF_take (i:=6) (oi:=⟨some 139,_,_,_,_,_⟩) (v:=?ve7) rfl (by kernel_rfl) (fun _ _ _ h=>h) (Or.inl ⟨by kernel_rfl,fun w hSw=>?_⟩) (by assumption) ?_
  rotate_left
  ·(go_simp;rfl)
  simp only[Act.put,lTA,lC0,lCS]
  refine wpAnyF_take (i:=7) (oi:=⟨some 140,_,_,_,_,_⟩) (v:=?ve8) rfl (by kernel_rfl) (fun _ _ _ h=>h) (Or.inl ⟨by kernel_rfl,fun w hSw=>?_⟩) (by assumption) ?_
  rotate_left
  ·(go_simp;rfl)
  simp only[Act.put,lTA,lC0,lCS]
  refine wpAnyF_take (i:=8) (oi:=⟨some 141,_,_,_,_,_⟩) (v:=?ve9) rfl (by kernel_rfl) (fun _ _ _ h=>h) (Or.inl ⟨by kernel_rfl,fun w hSw=>?_⟩) (by assumption) ?_
  rotate_left
  ·(go_simp;rfl)
  simp only[Act.put,lTA,lC0,lCS]
  refine wpAnyF_take (i:=9) (oi:=⟨some 142,_,_,_,_,_⟩) (v:=?ve10) rfl (by kernel_rfl) (fun _ _ _ h=>h) (Or.inl ⟨by kernel_rfl,fun w hSw=>?_⟩) (by assumption) ?_
  rotate_left
  ·(go_simp;rfl)
  simp only[Act.put,lTA,lC0,lCS]
  refine wpAnyE_one (i:=10) (by kernel_rfl) rfl (fun K hK=>?_)
  go_simp
  refine(HCT.out _).mono ?_
  rintro e w2 ⟨rfl,hb2⟩
  have HB12:=lhi ((below_drew w1).trans hb2)
  have z5:w2.cell? ⟨db,5,none⟩=some (.int .i64 nn):=(hb2.cell (p:=⟨db,5,none⟩) H1.out.d.lt).trans d5
  have z3:w2.cell? ⟨g,a*4+3,none⟩=some (.string dt):=(hb2.cell (p:=⟨g,a*4+3,none⟩) (World.block_lt_of_cell? _ _ g3)).trans g3
  have fz:w2.frozen? ⟨g,a*4+3,none⟩=false:=(Blk.of_heap (HB12.out.block _ HGB.out.lt) HGB.out).frozen _
  clear hb2
  show K _ _
  refine hK.out _ _ (fun _=>⟨z5,z3⟩) (fun hHeld=>?_)
  replace hHeld:=hHeld (by decide)
  clear hK K
  refine wpAnyF_take (i:=11) (oi:=⟨some 144,_,_,_,_,_⟩) (v:=?ve11) rfl (by kernel_rfl) (fun _ _ _ h=>h) (Or.inl ⟨by kernel_rfl,fun w hSw=>?_⟩) (by assumption) ?_
  rotate_left
  ·(go_simp;rfl)
  simp only[Act.put,lTA,lC0,lCS]
  refine wpAnyF_take (i:=12) (oi:=⟨some 145,_,_,_,_,_⟩) (v:=?ve12) rfl (by kernel_rfl) (fun _ _ _ h=>h) (Or.inl ⟨by kernel_rfl,fun w hSw=>?_⟩) (by assumption) ?_
  rotate_left
  ·(go_simp;rfl)
  simp only[Act.put,lTA,lC0,lCS]
  refine wpAnyE_one (i:=13) (by kernel_rfl) rfl (fun K hK=>?_)
  go_simp
  show K _ _
  refine hK.out _ _ (fun h=>absurd rfl h) (fun _=>?_)
  clear hK K
  refine wpAnyE_done (by kernel_rfl) ?_ _
  have hbw:Below base W w2:=HB1.out.trans (HB12.out.mono H1.out.bs)
  have H2:=H1.out.below HB12.out
  obtain⟨Iv',hd'⟩:=H2.setD ha rfl cd
  rw[<-HSS.out]at hd'
  go_end0
  exact⟨rfl,hbw.setCell (p:=⟨g,a*4+3,none⟩) H1.out.gbase _,_,_,_,_,hd'⟩
set_option maxRecDepth 1000000 in
theorem bytes_write(h:Doer W base ob db c r iv ov mv Iv S)(hI:Inv S){a k:Nat}(hs:fileS S c= .ok (a,k))(hk:c.kind=5)(hcs:c.data.size<=4611686018427387904){RES:Except Int (St×ResV)}(hres:(if(inB c.off&&inB c.data.size)=true then(if 256<c.off+c.data.size then .error 5 else .ok (S.setI a {S.ino a with data:=layF (S.dat a) c.off.toNat c.data},{r with num:=c.data.size}))else .error 9)=RES):
  Calls Tryz.prog 82 #[.pointer (some ⟨db,0,none⟩)] W fun e w'=>DoneR base ob db c W e w' RES:=by
 obtain⟨g,icap,ics,rfl,-,-,-⟩:=h.row hI.pos
 have HF:=lhi (dfile_calls h hI)
 obtain⟨-,ha,-,-,-,-,-⟩:=fileS_ok hI hs
 rw[hs]at HF
 have hbs:=h.bs
 have hdat:(S.dat a).size<=256:=hI.dat _ (Inv.ino_mem ha)
 have H:=lhi h
 have HSM:=lhi h.stm
 have HRES:=lhi hres
 have hk4:(c.kind==4)=false:=by simp[hk]
 have hk5:(c.kind==5)=true:=by simp[hk]
 clear hk
 obtain⟨dt,hdt⟩: ∃x,S.dat a=x:=⟨_,rfl⟩
 rw[hdt]at hdat HRES
 have HDT:=lhi hdt
 clear h hI hs hres hdt
 go_enter Tryz.func82,Tryz.ntmps82
 go_upto_region 1 with(go_at_call 79;refine HF.out.mono ?_;rintro e w1 ⟨he,hb1⟩;have he:e= .returned (.tuple #[.pointer (some ⟨g,a*4,none⟩),.int .i64 k]):=he;subst he;have HB1:=lhi (hb1.mono hbs);have H1:=lhi (H.out.below hb1);have HS1:=lhi (HSM.out.keep hb1);clear hb1)
 have d1:w1.cell? ⟨db,1,none⟩=some (.int .i64 c.kind):=H1.out.d.cell 1
 have g3:w1.cell? ⟨g,a*4+3,none⟩=some (.string dt):=by
  obtain⟨-,-,g',off,hA,hcell⟩:=HS1.out.ino.at_ ha
  injection hA with hA
  injection hA with e1 e2
  subst e1 e2
  have:=hcell 3 (by omega)
  rw[Nat.zero_add]at this
  rw[<-HDT.out]
  exact this
 have d4:w1.cell? ⟨db,4,none⟩=some (.int .i64 c.off):=H1.out.d.cell 4
 have d8:w1.cell? ⟨db,8,none⟩=some (.string c.data):=H1.out.d.cell 8
 cases hio:inB c.off with
 | false=>
  rw[hio]at HRES
  obtain rfl:RES= .error 9:=by rw[<-HRES.out];rfl
  clear HRES
  go_wp2_with (first
   | (go_at_call 128;refine(min_is hio _).mono ?_;rintro e w' ⟨rfl,rfl⟩)
   | (go_at_call 116;refine(mthrow_yes _ _).mono ?_;rintro e w' ⟨rfl,rfl⟩))
  exact⟨rfl,rfl,HB1.out⟩
 | true=>
  cases hin:inB c.data.size with
  | false=>
   rw[hio,hin]at HRES
   obtain rfl:RES= .error 9:=by rw[<-HRES.out];rfl
   clear HRES
   go_wp2_with (fail)
   refine(min_is hio _).mono ?_
   rintro e w' ⟨rfl,rfl⟩
   go_wp2_with (fail)
   refine(min_is hin _).mono ?_
   rintro e w' ⟨rfl,rfl⟩
   go_wp2_with (go_at_call 116;refine(mthrow_yes _ _).mono ?_;rintro e w' ⟨rfl,rfl⟩)
   exact⟨rfl,rfl,HB1.out⟩
  | true=>
   rw[hio,hin]at HRES
   obtain⟨on,hon⟩: ∃n:Nat,c.off=n:=⟨c.off.toNat,by have:=inB_yes hio;omega⟩
   have hob:=inB_yes hio
   have hnb:=inB_yes hin
   rw[hon]at hob d4 hio
   go_wp2_with (fail)
   refine(min_is hio _).mono ?_
   rintro e w' ⟨rfl,rfl⟩
   go_wp2_with (fail)
   refine(min_is hin _).mono ?_
   rintro e w' ⟨rfl,rfl⟩
   go_upto_region 8 with(go_at_call 116;refine(mthrow_no _ _).mono ?_;rintro e w' ⟨rfl,rfl⟩)
   have hwr:IntKind.i64.wrap ((on:Int)+c.data.size)=(on:Int)+c.data.size:=IntWalk.i64_in _ (by omega)
   by_cases hgt:256< (on:Int)+c.data.size
   ·obtain rfl:RES= .error 5:=by
     rw[<-HRES.out,hon,if_pos (by decide),if_pos hgt]
    have hgt1:decide (256< (on:Int)+c.data.size)=true:=decide_eq_true hgt
    clear HRES hon
    refine wp_region_held_drew (S:=fun w'=>w'.cell? ⟨db,4,none⟩=some (.int .i64 on)/\w'.cell? ⟨db,8,none⟩=some (.string c.data)) (by kernel_rfl) (⟨d4,d8⟩) (fun hHeld=>?_)
    refine wpAnyH_take (i:=0) (oi:=⟨some 81,_,_,_,_,_⟩) (v:=(.pointer (some ⟨db,0,none⟩))) rfl (by kernel_rfl) (by kernel_rfl) (by kernel_rfl) (fun _ _ _ h=>h) (Or.inl ⟨by kernel_rfl,fun w hSw=>by go_simp⟩) (by assumption) ?_
    simp only[Act.put,lTA,lC0,lCS]
    refine wpAnyH_take (i:=1) (oi:=⟨some 82,_,_,_,_,_⟩) (v:=(.pointer (some ⟨db,0,none⟩))) rfl (by kernel_rfl) (by kernel_rfl) (by kernel_rfl) (fun _ _ _ h=>h) (Or.inl ⟨by kernel_rfl,fun w hSw=>by go_simp⟩) (by assumption) ?_
    simp only[Act.put,lTA,lC0,lCS]
    refine wpAnyH_take (i:=2) (oi:=⟨some 83,_,_,_,_,_⟩) (v:=(.pointer (some ⟨db,1,none⟩))) rfl (by kernel_rfl) (by kernel_rfl) (by kernel_rfl) (fun _ _ _ h=>h) (Or.inl ⟨by kernel_rfl,fun w hSw=>by go_simp⟩) (by assumption) ?_
    simp only[Act.put,lTA,lC0,lCS]
    refine wpAnyH_take (i:=3) (oi:=⟨some 84,_,_,_,_,_⟩) (v:=(.pointer (some ⟨db,4,none⟩))) rfl (by kernel_rfl) (by kernel_rfl) (by kernel_rfl) (fun _ _ _ h=>h) (Or.inl ⟨by kernel_rfl,fun w hSw=>by go_simp⟩) (by assumption) ?_
    simp only[Act.put,lTA,lC0,lCS]
    refine wpAnyH_take (i:=4) (oi:=⟨some 85,_,_,_,_,_⟩) (v:=(.int .i64 on)) rfl (by kernel_rfl) (by kernel_rfl) (by kernel_rfl) (fun _ _ _ h=>h) (Or.inl ⟨by kernel_rfl,fun w hSw=>by go_simp⟩) (by assumption) ?_
    simp only[Act.put,lTA,lC0,lCS]
    refine wpAnyH_take (i:=5) (oi:=⟨some 86,_,_,_,_,_⟩) (v:=(.pointer (some ⟨db,0,none⟩))) rfl (by kernel_rfl) (by kernel_rfl) (by kernel_rfl) (fun _ _ _ h=>h) (Or.inl ⟨by kernel_rfl,fun w hSw=>by go_simp⟩) (by assumption) ?_
    simp only[Act.put,lTA,lC0,lCS]
    refine wpAnyH_take (i:=6) (oi:=⟨some 87,_,_,_,_,_⟩) (v:=(.pointer (some ⟨db,0,none⟩))) rfl (by kernel_rfl) (by kernel_rfl) (by kernel_rfl) (fun _ _ _ h=>h) (Or.inl ⟨by kernel_rfl,fun w hSw=>by go_simp⟩) (by assumption) ?_
    simp only[Act.put,lTA,lC0,lCS]
    refine wpAnyH_take (i:=7) (oi:=⟨some 88,_,_,_,_,_⟩) (v:=(.pointer (some ⟨db,1,none⟩))) rfl (by kernel_rfl) (by kernel_rfl) (by kernel_rfl) (fun _ _ _ h=>h) (Or.inl ⟨by kernel_rfl,fun w hSw=>by go_simp⟩) (by assumption) ?_
    simp only[Act.put,lTA,lC0,lCS]
    refine wpAnyH_take (i:=8) (oi:=⟨some 89,_,_,_,_,_⟩) (v:=(.pointer (some ⟨db,8,none⟩))) rfl (by kernel_rfl) (by kernel_rfl) (by kernel_rfl) (fun _ _ _ h=>h) (Or.inl ⟨by kernel_rfl,fun w hSw=>by go_simp⟩) (by assumption) ?_
    simp only[Act.put,lTA,lC0,lCS]
    refine wpAnyH_take (i:=9) (oi:=⟨some 90,_,_,_,_,_⟩) (v:=(.string c.data)) rfl (by kernel_rfl) (by kernel_rfl) (by kernel_rfl) (fun _ _ _ h=>h) (Or.inl ⟨by kernel_rfl,fun w hSw=>by go_simp⟩) (by assumption) ?_
    simp only[Act.put,lTA,lC0,lCS]
    refine wpAnyH_take (i:=10) (oi:=⟨some 91,_,_,_,_,_⟩) (v:=(.int .i64 c.data.size)) rfl (by kernel_rfl) (by kernel_rfl) (by kernel_rfl) (fun _ _ _ h=>h) (Or.inl ⟨by kernel_rfl,fun w hSw=>by go_simp⟩) (by assumption) ?_
    simp only[Act.put,lTA,lC0,lCS]
    refine wpAnyH_take (i:=11) (oi:=⟨some 92,_,_,_,_,_⟩) (v:=(.int .i64 ((on:Int)+c.data.size))) rfl (by kernel_rfl) (by kernel_rfl) (by kernel_rfl) (fun _ _ _ h=>h) (Or.inl ⟨by kernel_rfl,fun w hSw=>by go_simp⟩) (by assumption) ?_
    simp only[Act.put,lTA,lC0,lCS]
    refine wpAnyH_take (i:=12) (oi:=⟨some 93,_,_,_,_,_⟩) (v:=(.bool true)) rfl (by kernel_rfl) (by kernel_rfl) (by kernel_rfl) (fun _ _ _ h=>h) (Or.inl ⟨by kernel_rfl,fun w hSw=>by go_simp⟩) (by assumption) ?_
    simp only[Act.put,lTA,lC0,lCS]
    refine wpAnyH_ready (rs:=[13]) (by kernel_rfl) (by simp) ?_
    refine AllReadyH.cons rfl (fun K hK=>?_) AllReadyH.nil
    go_simp
    refine(mthrow_yes _ _).mono ?_
    rintro e w' ⟨rfl,rfl⟩
    exact⟨rfl,rfl,HB1.out.trans ((below_drew w1).mono H1.out.bs)⟩
   ·obtain⟨ld,hld⟩: ∃x,layF dt on c.data=x:=⟨_,rfl⟩
    obtain⟨S',hS'⟩: ∃x,x=S.setI a {S.ino a with data:=ld}:=⟨_,rfl⟩
    obtain⟨r',hr'⟩: ∃x:ResV,x={r with num:=c.data.size}:=⟨_,rfl⟩
    obtain rfl:RES= .ok (S',r'):=by
     rw[<-HRES.out,hon,if_pos (by decide),if_neg hgt,hS',hr',<-hld];rfl
    have hgt1:decide (256< (on:Int)+c.data.size)=false:=decide_eq_false hgt
    have HCT:=lhi (fun W=>mlay_calls dt c.data on (by omega) (by omega) W)
    rw[hld]at HCT
    have HSS:=lhi hS'
    have HRR:=lhi hr'
    have HS8:=lhi (show w1.drew.cell? ⟨db,4,none⟩=some (.int .i64 on)/\w1.drew.cell? ⟨db,8,none⟩=some (.string c.data)from⟨d4,d8⟩)
    clear HRES hon hld hS' hr' d1
    go_region_held3 (fun w'=>w'.cell? ⟨db,4,none⟩=some (.int .i64 on)/\w'.cell? ⟨db,8,none⟩=some (.string c.data))
     (with_reducible first | exact HS8.out | exact⟨d4,d8⟩)
     ((go_at_call 116;refine(mthrow_no _ _).mono ?_;rintro e w' ⟨rfl,rfl⟩))
    clear hwr hgt1
    obtain⟨w0,hw0⟩: ∃x,x=w1.drew:=⟨_,rfl⟩
    have H0:=lhi (show Doer w0 base ob db c r (.slice (some ⟨g,0,none⟩) S.inodes.length icap) ov mv Iv S by rw[hw0];exact H1.out.drew)
    have HB0:=lhi (show Below base W w0 by rw[hw0];exact HB1.out.trans ((below_drew w1).mono H1.out.bs))
    have d4:w0.cell? ⟨db,4,none⟩=some (.int .i64 on):=by rw[hw0];exact d4
    have d8:w0.cell? ⟨db,8,none⟩=some (.string c.data):=by rw[hw0];exact d8
    have g3:w0.cell? ⟨g,a*4+3,none⟩=some (.string dt):=by rw[hw0];exact g3
    try rw[<-hw0]
    clear hw0 HS8
    go_wp2_with (fail)
    have HSD:=lhi (show w0.drew.cell? ⟨db,4,none⟩=some (.int .i64 on)/\w0.drew.cell? ⟨db,8,none⟩=some (.string c.data)/\w0.drew.cell? ⟨g,a*4+3,none⟩=some (.string dt)from⟨d4,d8,g3⟩)
    obtain⟨gcs,hgcs⟩:=(own_type H0.out.st.ino rfl).2
    have HGB:=lhi hgcs
    have HDL:=lhi H0.out.d.lt
    have hgl:=hgcs.lt
    clear hgcs
    refine wp_region_E_drew (L:=18) (S:=fun w'=>w'.cell? ⟨db,4,none⟩=some (.int .i64 on)/\w'.cell? ⟨db,8,none⟩=some (.string c.data)/\w'.cell? ⟨g,a*4+3,none⟩=some (.string dt)) (by kernel_rfl) (HSD.out) (fun hHeld=>?_)
    refine wpAnyF_take (i:=0) (oi:=⟨some 95,_,_,_,_,_⟩) (v:=?ve13) rfl (by kernel_rfl) (fun _ _ _ h=>h) (Or.inl ⟨by kernel_rfl,fun w hSw=>?_⟩) (by assumption) ?_
    rotate_left
    ·(go_simp;rfl)
    simp only[Act.put,lTA,lC0,lCS]
    refine wpAnyF_take (i:=1) (oi:=⟨some 96,_,_,_,_,_⟩) (v:=?ve14) rfl (by kernel_rfl) (fun _ _ _ h=>h) (Or.inl ⟨by kernel_rfl,fun w hSw=>?_⟩) (by assumption) ?_
    rotate_left
    ·(go_simp;rfl)
    simp only[Act.put,lTA,lC0,lCS]
    refine wpAnyF_take (i:=2) (oi:=⟨some 97,_,_,_,_,_⟩) (v:=?ve15) rfl (by kernel_rfl) (fun _ _ _ h=>h) (Or.inl ⟨by kernel_rfl,fun w hSw=>?_⟩) (by assumption) ?_
    rotate_left
    ·(go_simp;rfl)
    simp only[Act.put,lTA,lC0,lCS]
    refine wpAnyF_take (i:=3) (oi:=⟨some 98,_,_,_,_,_⟩) (v:=?ve16) rfl (by kernel_rfl) (fun _ _ _ h=>h) (Or.inl ⟨by kernel_rfl,fun w hSw=>?_⟩) (by assumption) ?_
    rotate_left
    ·(go_simp;rfl)
    simp only[Act.put,lTA,lC0,lCS]
    refine wpAnyF_take (i:=4) (oi:=⟨some 99,_,_,_,_,_⟩) (v:=?ve17) rfl (by kernel_rfl) (fun _ _ _ h=>h) (Or.inl ⟨by kernel_rfl,fun w hSw=>?_⟩) (by assumption) ?_
    rotate_left
    ·(go_simp;rfl)
    simp only[Act.put,lTA,lC0,lCS]
    refine wpAnyF_take (i:=5) (oi:=⟨some 100,_,_,_,_,_⟩) (v:=?ve18) rfl (by kernel_rfl) (fun _ _ _ h=>h) (Or.inl ⟨by kernel_rfl,fun w hSw=>?_⟩) (by assumption) ?_
    rotate_left
    ·(go_simp;rfl)
    simp only[Act.put,lTA,lC0,lCS]
    refine wpAnyF_take (i:=6) (oi:=⟨some 101,_,_,_,_,_⟩) (v:=?ve19) rfl (by kernel_rfl) (fun _ _ _ h=>h) (Or.inl ⟨by kernel_rfl,fun w hSw=>?_⟩) (by assumption) ?_
    rotate_left
    ·(go_simp;rfl)
    simp only[Act.put,lTA,lC0,lCS]
    refine wpAnyF_take (i:=7) (oi:=⟨some 102,_,_,_,_,_⟩) (v:=?ve20) rfl (by kernel_rfl) (fun _ _ _ h=>h) (Or.inl ⟨by kernel_rfl,fun w hSw=>?_⟩) (by assumption) ?_
    rotate_left
    ·(go_simp;rfl)
    simp only[Act.put,lTA,lC0,lCS]
    refine wpAnyF_take (i:=8) (oi:=⟨some 103,_,_,_,_,_⟩) (v:=?ve21) rfl (by kernel_rfl) (fun _ _ _ h=>h) (Or.inl ⟨by kernel_rfl,fun w hSw=>?_⟩) (by assumption) ?_
    rotate_left
    ·(go_simp;rfl)
    simp only[Act.put,lTA,lC0,lCS]
    refine wpAnyF_take (i:=9) (oi:=⟨some 104,_,_,_,_,_⟩) (v:=?ve22) rfl (by kernel_rfl) (fun _ _ _ h=>h) (Or.inl ⟨by kernel_rfl,fun w hSw=>?_⟩) (by assumption) ?_
    rotate_left
    ·(go_simp;rfl)
    simp only[Act.put,lTA,lC0,lCS]
    refine wpAnyF_take (i:=10) (oi:=⟨some 105,_,_,_,_,_⟩) (v:=?ve23) rfl (by kernel_rfl) (fun _ _ _ h=>h) (Or.inl ⟨by kernel_rfl,fun w hSw=>?_⟩) (by assumption) ?_
    rotate_left
    ·(go_simp;rfl)
    simp only[Act.put,lTA,lC0,lCS]
    refine wpAnyF_take (i:=11) (oi:=⟨some 106,_,_,_,_,_⟩) (v:=?ve24) rfl (by kernel_rfl) (fun _ _ _ h=>h) (Or.inl ⟨by kernel_rfl,fun w hSw=>?_⟩) (by assumption) ?_
    rotate_left
    ·(go_simp;rfl)
    simp only[Act.put,lTA,lC0,lCS]
    refine wpAnyF_take (i:=12) (oi:=⟨some 107,_,_,_,_,_⟩) (v:=?ve25) rfl (by kernel_rfl) (fun _ _ _ h=>h) (Or.inl ⟨by kernel_rfl,fun w hSw=>?_⟩) (by assumption) ?_
    rotate_left
    ·(go_simp;rfl)
    simp only[Act.put,lTA,lC0,lCS]
    refine wpAnyF_take (i:=13) (oi:=⟨some 108,_,_,_,_,_⟩) (v:=?ve26) rfl (by kernel_rfl) (fun _ _ _ h=>h) (Or.inl ⟨by kernel_rfl,fun w hSw=>?_⟩) (by assumption) ?_
    rotate_left
    ·(go_simp;rfl)
    simp only[Act.put,lTA,lC0,lCS]
    refine wpAnyF_take (i:=14) (oi:=⟨some 109,_,_,_,_,_⟩) (v:=?ve27) rfl (by kernel_rfl) (fun _ _ _ h=>h) (Or.inl ⟨by kernel_rfl,fun w hSw=>?_⟩) (by assumption) ?_
    rotate_left
    ·(go_simp;rfl)
    simp only[Act.put,lTA,lC0,lCS]
    refine wpAnyE_one (i:=15) (by kernel_rfl) rfl (fun K hK=>?_)
    go_simp
    refine(HCT.out _).mono ?_
    rintro e w2 ⟨rfl,hb2⟩
    have HB12:=lhi ((below_drew w0).trans hb2)
    have z4:w2.cell? ⟨db,4,none⟩=some (.int .i64 on):=(hb2.cell (p:=⟨db,4,none⟩) HDL.out).trans d4
    have z8:w2.cell? ⟨db,8,none⟩=some (.string c.data):=(hb2.cell (p:=⟨db,8,none⟩) HDL.out).trans d8
    have z3:w2.cell? ⟨g,a*4+3,none⟩=some (.string dt):=(hb2.cell (p:=⟨g,a*4+3,none⟩) (World.block_lt_of_cell? _ _ g3)).trans g3
    have fz:w2.frozen? ⟨g,a*4+3,none⟩=false:=(Blk.of_heap (HB12.out.block _ HGB.out.lt) HGB.out).frozen _
    clear hb2
    show K _ _
    refine hK.out _ _ (fun _=>⟨z4,z8,z3⟩) (fun hHeld=>?_)
    replace hHeld:=hHeld (by decide)
    clear hK K
    refine wpAnyF_take (i:=16) (oi:=⟨some 111,_,_,_,_,_⟩) (v:=?ve28) rfl (by kernel_rfl) (fun _ _ _ h=>h) (Or.inl ⟨by kernel_rfl,fun w hSw=>?_⟩) (by assumption) ?_
    rotate_left
    ·(go_simp;rfl)
    simp only[Act.put,lTA,lC0,lCS]
    refine wpAnyF_take (i:=17) (oi:=⟨some 112,_,_,_,_,_⟩) (v:=?ve29) rfl (by kernel_rfl) (fun _ _ _ h=>h) (Or.inl ⟨by kernel_rfl,fun w hSw=>?_⟩) (by assumption) ?_
    rotate_left
    ·(go_simp;rfl)
    simp only[Act.put,lTA,lC0,lCS]
    refine wpAnyE_one (i:=18) (by kernel_rfl) rfl (fun K hK=>?_)
    go_simp
    show K _ _
    refine hK.out _ _ (fun h=>absurd rfl h) (fun _=>?_)
    clear hK K
    refine wpAnyE_done (by kernel_rfl) ?_ _
    have hbw:Below base W w2:=HB0.out.trans (HB12.out.mono H0.out.bs)
    have H2:=H0.out.below HB12.out
    obtain⟨Iv',hd'⟩:=H2.setD ha rfl ld
    rw[<-HSS.out]at hd'
    have hb3:Below base W (w2.setCell ⟨g,a*4+3,none⟩ (.string ld)):=hbw.setCell (p:=⟨g,a*4+3,none⟩) H1.out.gbase _
    obtain⟨w3,hw3⟩: ∃x,x=w2.setCell ⟨g,a*4+3,none⟩ (.string ld):=⟨_,rfl⟩
    rw[<-hw3]at hd' hb3⊢
    have H3:=lhi hd'
    have HB3:=lhi hb3
    have e8:w3.cell? ⟨db,8,none⟩=some (.string c.data):=H3.out.d.cell 8
    have e11:w3.cell? ⟨db,11,none⟩=some (.int .i64 r.num):=H3.out.d.cell 11
    have u11:=H3.out.d.frozen 11
    have HSR:=lhi (H3.out.setR (r':=r') 11 (.int .i64 c.data.size) (by rw[HRR.out];rfl))
    clear hw3 hd' hb3 hbw H2 d4 d8 g3 z4 z8 z3 fz
    go_wp2_with (fail)
    go_end0
    exact⟨rfl,HB3.out.setCell (p:=⟨db,11,none⟩) H3.out.db_ _,_,_,_,_,HSR.out⟩
theorem bytes_calls(h:Doer W base ob db c r iv ov mv Iv S)(hI:Inv S)(hcs:c.data.size<=4611686018427387904):
  Calls Tryz.prog 82 #[.pointer (some ⟨db,0,none⟩)] W fun e w'=>DoneR base ob db c W e w' (bytesS S c r):=by
 unfold bytesS
 cases hs:fileS S c with
 | error k=>exact bytes_nofile h hI hs
 | ok p=>
  obtain⟨a,k⟩:=p
  simp only
  split
  ·rename_i hk
   exact bytes_read h hI hs hk rfl
  ·split
   ·rename_i hk
    exact bytes_write h hI hs hk hcs rfl
   ·split
    ·rename_i hk
     exact bytes_trunc h hI hs hk rfl
    ·rename_i h4 h5 h6
     exact bytes_size h hI hs ⟨h4,h5,h6⟩
end
end
section
open Go.RowKit
set_option maxHeartbeats 2000000
def opL(S:St)(c:Int):Nat->Nat×Nat
 | 0=>(0,0)
 | k+1=>if S.oc k=c/\S.of k=(opL S c k).1 then((opL S c k).1+1,k+1)else if S.oc k<c then((opL S c k).1,k+1)else opL S c k
theorem opL_le(S:St)(c:Int): ∀k,(opL S c k).1<=k/\ (opL S c k).2<=k
 | 0=>⟨Nat.le_refl _,Nat.le_refl _⟩
 | k+1=>by
  have:=opL_le S c k
  rw[opL]
  split
  ·simp only;omega
  ·split
   ·simp only;omega
   ·omega
theorem oget{S:St}{k:Nat}(hk:k<S.opens.length):S.opens[k]=(S.oc k,S.of k,S.on k):=by
 show _=((S.opens.getD k (0,0,0)).1,(S.opens.getD k (0,0,0)).2.1,(S.opens.getD k (0,0,0)).2.2)
 rw[getD_get hk]
theorem obd{S:St}(hI:Inv S){k:Nat}(hk:k<S.opens.length):0<=S.oc k/\S.oc k<S.made.length/\0<=S.of k/\S.of k<4:=by
 obtain⟨h1,h2,h3,h4,-⟩:=hI.ok (S.opens.getD k (0,0,0)) (getD_mem hk)
 exact⟨h1,h2,h3,h4⟩
theorem osort'{S:St}(hI:Inv S){i j:Nat}(hij:i<j)(hj:j<S.opens.length):S.oc i<S.oc j∨S.oc i=S.oc j/\S.of i<S.of j:=by
 have:=List.pairwise_iff_getElem.1 hI.osort i j (by omega) hj hij
 rw[oget (by omega),oget hj]at this
 exact this
theorem opL_inv{S:St}(hI:Inv S)(c:Int): ∀k,k<=S.opens.length->(∀i,i< (opL S c k).2->S.oc i<c∨S.oc i=c/\S.of i< (opL S c k).1)/\ (∀i,(opL S c k).2<=i->i<k->c<S.oc i∨S.oc i=c/\ (opL S c k).1<S.of i)/\ (0< (opL S c k).1-> ∃j,j<k/\S.oc j=c/\S.of j+1=(opL S c k).1)
 | 0,_=>⟨fun i hi=>absurd hi (by simp[opL]),fun i _ hi=>absurd hi (by omega),fun h=>absurd h (by simp[opL])⟩
 | k+1,hk=>by
  obtain⟨h1,h2,h3⟩:=opL_inv hI c k (by omega)
  have hle:=opL_le S c k
  rw[opL]
  split
  ·rename_i hm
   refine⟨fun i hi=>?_,fun i hi hik=>absurd hik (by simp only at hi;omega),fun _=>⟨k,by omega,hm.1,by simp only;omega⟩⟩
   simp only at hi⊢
   by_cases q:i=k
   ·subst q
    exact .inr ⟨hm.1,by omega⟩
   ·have:=osort' hI (show i<k by omega) (by omega)
    omega
  ·rename_i hm
   split
   ·rename_i hc
    refine⟨fun i hi=>?_,fun i hi hik=>absurd hik (by simp only at hi;omega),fun h=>?_⟩
    ·simp only at hi⊢
     by_cases q:i=k
     ·subst q
      exact .inl hc
     ·have:=osort' hI (show i<k by omega) (by omega)
      omega
    ·obtain⟨j,hj,e⟩:=h3 h
     exact⟨j,by omega,e⟩
   ·rename_i hc
    refine⟨h1,fun i hi hik=>?_,fun h=>?_⟩
    ·by_cases q:i=k
     ·subst q
      by_cases e:S.oc i=c
      ·right
       refine⟨e,?_⟩
       have hne: ¬ S.of i=(opL S c i).1:=fun x=>hm ⟨e,x⟩
       have h0:=(obd hI (show i<S.opens.length by omega))
       by_cases hz:(opL S c i).1=0
       ·omega
       ·obtain⟨j,hj,e1,e2⟩:=h3 (by omega)
        have:=osort' hI hj (by omega)
        omega
      ·left;omega
     ·exact h2 i hi (by omega)
    ·obtain⟨j,hj,e⟩:=h3 h
     exact⟨j,by omega,e⟩
theorem ltO_eq(a b:Int×Int×Int):ltO a b=decide (a.1<b.1∨a.1=b.1/\a.2.1<b.2.1):=by
 unfold ltO
 rw[Bool.eq_iff_iff]
 simp
def openS(S:St)(c:CallV)(r:ResV):Except Int (St×ResV):=match atS S c.path with
 | .error k=>.error k
 | .ok a=>if S.dir a=true then .error 8 else if 4<= (opL S c.core S.opens.length).1 then .error 10 else
  .ok ({S with opens:=S.opens.take (opL S c.core S.opens.length).2++(c.core,((opL S c.core S.opens.length).1:Int),S.num a)::S.opens.drop (opL S c.core S.opens.length).2},{r with fd:=(opL S c.core S.opens.length).1})
theorem openS_grab{S S':St}(hI:Inv S){c:CallV}{r r':ResV}(h:openS S c r= .ok (S',r')): ∃a,atS S c.path= .ok a/\S.dir a=false/\ (opL S c.core S.opens.length).1<4/\S'=grabS S (c.core,((opL S c.core S.opens.length).1:Int),S.num a)/\ ∀q∈S.opens,¬ (q.1=c.core/\q.2.1=((opL S c.core S.opens.length).1:Int)):=by
 unfold openS at h
 split at h
 ·cases h
 ·rename_i a ha
  split at h
  ·cases h
  ·rename_i hd
   split at h
   ·cases h
   ·rename_i hf
    obtain⟨h1,h2,-⟩:=opL_inv hI c.core S.opens.length (Nat.le_refl _)
    have hle:=(opL_le S c.core S.opens.length).2
    injection h with h
    injection h with hs hr
    refine⟨a,ha,by simpa using hd,by omega,?_,fun q hq e=>?_⟩
    ·rw[<-hs]
     unfold grabS
     rw[insBy_at (lt:=ltO) (p:=(c.core,((opL S c.core S.opens.length).1:Int),S.num a)) hle (fun i hi hik=>?_) (fun i hi hik=>?_)]
     ·rw[oget hi]
      have:=h1 i hik
      rw[ltO_eq]
      apply decide_eq_false
      simp only
      omega
     ·rw[oget hi]
      have:=h2 i hik hi
      rw[ltO_eq]
      apply decide_eq_true
      simp only
      omega
    ·obtain⟨i,hi,rfl⟩:=List.mem_iff_getElem.1 hq
     rw[oget hi]at e
     simp only at e
     by_cases q:i< (opL S c.core S.opens.length).2
     ·have:=h1 i q;omega
     ·have:=h2 i (by omega) hi;omega
theorem StO.putO{w w1:World}{base:Nat}{iv ov mv:Value}{Iv:List InV}{S:St}(h:StO w base iv ov mv Iv S)(hg:w.grownBy w1 ov.ownBlock){ov':Value}{L:List (Int×Int×Int)}(hown:w1.ownsRow base 144 3 ov' L.length (L.flatMap encD)):StO w1 base iv ov' mv Iv {S with opens:=L}:=by
 have hty: ∀{e:TypeId} {j m:Nat} {v:Value} {xs:List Value},w.ownsRow base e j v m xs->e≠144->w1.ownsRow base e j v m xs:=fun ho he=>own_grown ho hg fun b h1 h2=>by
  obtain⟨-,cs,q⟩:=own_type ho h1
  obtain⟨-,cs',q'⟩:=own_type h.opn h2
  exact Blk.ne_ q q' he rfl
 exact⟨h.len,hty h.ino (by decide),fun i hi=>hty (h.ent i hi) (by decide),h.apart,hown,hty h.mad (by decide)⟩
end
end Go.Proofs.YtkebjgebkneijaaGreat
