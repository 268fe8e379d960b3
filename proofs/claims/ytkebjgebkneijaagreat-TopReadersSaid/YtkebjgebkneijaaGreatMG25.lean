/- Texts of one's own that a claim's last text rests on: Dr6 Dr7 Da3 Da4. -/
import Derived.Test.YtkebjgebkneijaaGreatMG24
import Derived.IntWalk
import Derived.Test.YtkebjgebkneijaaGreatMG6
set_option linter.unusedVariables false
set_option linter.unusedSimpArgs false
namespace Go.Proofs.YtkebjgebkneijaaGreat
open Go.RowKit
set_option maxHeartbeats 16000000
set_option maxRecDepth 1000000
theorem Sj{A:Type}{lt:A->A->Bool}{p:A}: ∀{l:List A} {k:Nat},k<=l.length->(∀i (h:i<l.length),i<k->lt p l[i]=false)->(∀i (h:i<l.length),k<=i->lt p l[i]=true)->l.take k++p::l.drop k=Gm lt p l
 | [],k,hk,_,_=>by simp at hk;subst hk;rfl
 | e::l,0,_,_,h2=>by
  have h:lt p e=true:=h2 0 (by simp) (Ama _)
  show []++p::e::l=if lt p e=true then p::e::l else e::Gm lt p l
  rw[if_pos h];rfl
 | e::l,k+1,hk,h1,h2=>by
  have h:lt p e=false:=h1 0 (by simp) (by omega)
  rw[Si h,List.take_succ_cons,List.drop_succ_cons,List.cons_append,Sj (by simpa using hk) (fun i hi hik=>h1 (i+1) (by simpa using hi) (by omega)) (fun i hi hik=>h2 (i+1) (by simpa using hi) (by omega))]
namespace StO
variable{w w1:World}{base:Nat}{iv ov mv:Value}{Iv:List InV}{S:St}
theorem putM{g n cap:Nat}(h:StO w base iv ov (.slice (some ⟨g,0,none⟩) n cap) Iv S)(hn:n=S.made.length){c:Nat}(hc:c<S.made.length)(v:Int):StO (w.setCell ⟨g,c,none⟩ (.int .i64 v)) base iv ov (.slice (some ⟨g,0,none⟩) n cap) Iv {S with made:=S.made.set c v}:=by
 subst hn
 obtain⟨-,gcs,hG⟩:=Ag h.mad rfl
 have hfar: ∀{e:TypeId} {j m:Nat} {v':Value} {xs:List Value},w.ownsRow base e j v' m xs->e≠3->(w.setCell ⟨g,c,none⟩ (.int .i64 v)).ownsRow base e j v' m xs:=fun ho he=>ownsRow_setCell_other ho (a:=⟨g,c,none⟩) (fun q=>by
  obtain⟨-,cs',hq⟩:=Ag ho q
  exact Blk.ne_ hq hG he rfl) _
 refine⟨h.len,hfar h.ino (by decide),fun i hi=>hfar (h.ent i hi) (by decide),h.apart,hfar h.opn (by decide),?_⟩
 have hs:=Jd (enc:=encM) (k:=1) (by decide) Jf v 0 (.int .i64 v) S.made c hc (by decide) rfl
 rw[Nat.mul_one,Nat.add_zero]at hs
 show(w.setCell ⟨g,c,none⟩ (.int .i64 v)).ownsRow base 3 1 _ (S.made.set c v).length ((S.made.set c v).flatMap encM)
 rw[hs,List.length_set]
 exact Qg h.mad (t:=c) (by omega) _
theorem ins_get{A:Type}{l:List A}{x:A}{k i:Nat}(hk:k<=l.length)(hi:i< (l.take k++x::l.drop k).length):(l.take k++x::l.drop k)[i]=x/\i=k∨ ∃j,∃hj:j<l.length,(l.take k++x::l.drop k)[i]=l[j]/\i=(if j<k then j else j+1):=by
 have hlen:(l.take k).length=k:=by rw[List.length_take];omega
 by_cases h1:i<k
 ·right
  refine⟨i,by omega,?_,by rw[if_pos h1]⟩
  rw[List.getElem_append_left (by rw[hlen];exact h1),List.getElem_take]
 ·by_cases h2:i=k
  ·left
   subst h2
   refine⟨?_,rfl⟩
   rw[List.getElem_append_right (by rw[hlen];exact Ama _)]
   simp[hlen]
  ·right
   have hi':i<l.length+1:=by
    rw[Ami,hlen,List.length_cons,List.length_drop]at hi
    omega
   refine⟨i - 1,by omega,?_,by rw[if_neg (by omega)];omega⟩
   rw[List.getElem_append_right (by rw[hlen];omega)]
   simp only[hlen]
   obtain⟨d,hd⟩: ∃d,i - k=d+1:=⟨i - k - 1,by omega⟩
   simp only[hd,List.getElem_cons_succ,List.getElem_drop]
   congr 1
   omega
theorem putI(h:StO w base iv ov mv Iv S)(hg:w.grownBy w1 iv.ownBlock){a:Nat}(ha:a<=Iv.length){x:Ino}(hx:x.ents=[]){iv':Value}(hown:w1.ownsRow base 93 4 iv' (Iv.length+1) ((Iv.take a++(x,.slice none 0 0)::Iv.drop a).flatMap encI)):
  StO w1 base iv' ov mv (Iv.take a++(x,.slice none 0 0)::Iv.drop a) {S with inodes:=S.inodes.take a++x::S.inodes.drop a}:=by
 have hty: ∀{e:TypeId} {j m:Nat} {v:Value} {xs:List Value},w.ownsRow base e j v m xs->e≠93->w1.ownsRow base e j v m xs:=fun ho he=>Dq ho hg fun b h1 h2=>by
  obtain⟨-,cs,q⟩:=Ag ho h1
  obtain⟨-,cs',q'⟩:=Ag h.ino h2
  exact Blk.ne_ q q' he rfl
 have hlen:(Iv.take a++(x,Value.slice none 0 0)::Iv.drop a).length=Iv.length+1:=by
  rw[Ami,List.length_cons,List.length_take,List.length_drop];omega
 refine⟨?_,by rw[hlen];exact hown,fun i hi=>?_,fun i j hi hj hij b h1 h2=>?_,hty h.opn (by decide),hty h.mad (by decide)⟩
 ·rw[List.map_append,List.map_cons,List.map_take,List.map_drop,h.len]
 ·rcases ins_get ha hi with⟨e,-⟩ | ⟨j,hj,e,-⟩
  ·rw[e]
   simp only[hx,List.length_nil,List.flatMap_nil]
   exact World.ownsRow_nil _ _ _ _
  ·rw[e]
   exact hty (h.ent j hj) (by decide)
 ·rcases ins_get ha hi with⟨e1,q1⟩ | ⟨i',hi',e1,q1⟩
  ·rw[e1]at h1
   cases h1
  ·rcases ins_get ha hj with⟨e2,q2⟩ | ⟨j',hj',e2,q2⟩
   ·rw[e2]at h2
    cases h2
   ·rw[e1]at h1
    rw[e2]at h2
    refine h.apart i' j' hi' hj' (fun q=>hij ?_) b h1 h2
    rw[q1,q2,q]
theorem one(h:StO w base iv ov mv Iv S): ∀y∈Iv,∀u∈encI y,u.oneCell'=true:=fun y hy u hu=>by
 obtain⟨i,hi,rfl⟩:=List.mem_iff_getElem.1 hy
 obtain⟨A,cap,he,-⟩:=Aj (h.ent i hi)
 simp only[encI,List.mem_cons,List.not_mem_nil,or_false]at hu
 rcases hu with rfl | rfl | rfl | rfl
 ·rfl
 ·rfl
 ·rw[he];rfl
 ·rfl
end StO
def Jz(S:St)(kind core:Int)(p:ByteArray):Except Int St:=match Bo S p with
 | .error k=>.error k
 | .ok (k,nm)=>if(entF (S.ino k).ents nm).isSome=true then .error 2 else if(Gn (S.ino k).ents nm ⟨#[]⟩||decide (32<=S.mad core.toNat))=true then .error 5 else
  .ok (Pm S core.toNat (S.num k) (insE (nm,2+core+8*S.mad core.toNat) (S.ino k).ents) ⟨2+core+8*S.mad core.toNat,kind==1,[],nm0⟩)
theorem Xy{S:St}(hI: ∀i j,i<S.inodes.length->j<S.inodes.length->S.num i=S.num j->i=j){k:Nat}(hk:k<S.inodes.length)(L:List (ByteArray×Int)):(setE S (S.num k) L).inodes=S.inodes.set k {S.ino k with ents:=L}:=by
 apply List.ext_getElem
 ·simp[setE,Eh]
 ·intro i h1 h2
  have hi:i<S.inodes.length:=by simpa using h2
  rw[List.getElem_set]
  simp only[setE,Eh,List.getElem_map]
  have hin:S.inodes[i]=S.ino i:=(Fu hi).symm
  by_cases e:k=i
  ·subst e
   rw[if_pos rfl,hin,if_pos (show(S.ino k).num=S.num k from rfl)]
  ·rw[if_neg e,if_neg,hin]
   intro q
   rw[hin]at q
   exact e (hI _ _ hi hk q).symm
theorem Xx{S:St}(hI:Inv S){k:Nat}(hk:k<S.inodes.length)(L:List (ByteArray×Int)):(setE S (S.num k) L).inodes=S.inodes.set k {S.ino k with ents:=L}:=Xy (fun _ _=>hI.num_inj) hk L
def Gr(base ob db:Nat)(c:Ad)(W:World)(e:Ending)(w':World):Except Int (St×ResV)->Prop
 | .error k=>e=Cg k/\Below base W w'
 | .ok (S',r')=>e= .returned (.tuple #[])/\Below base W w'/\ ∃iv' ov' mv' Iv',Doer w' base ob db c r' iv' ov' mv' Iv' S'
theorem Doer.drew{W:World}{base ob db:Nat}{c:Ad}{r:ResV}{iv ov mv:Value}{Iv:List InV}{S:St}(h:Doer W base ob db c r iv ov mv Iv S):Doer W.drew base ob db c r iv ov mv Iv S:=h.below (Ae W)
section
variable{W:World}{base ob db:Nat}{c:Ad}{r:ResV}{iv ov mv:Value}{Iv:List InV}{S:St}
theorem Aaf(h:Doer W base ob db c r iv ov mv Iv S)(hI:Inv S)(hp:c.path.size<=4611686018427387904){k:Int}(hs:Bo S c.path= .error k):
  Calls Tryz.prog 77 #[.pointer (some ⟨db,0,none⟩)] W fun e w'=>e=Cg k/\Below base W w':=by
 obtain⟨g,icap,ics,rfl,-,-,-⟩:=h.row hI.pos
 have HPR:=lhi (Dy h hI hp)
 rw[hs]at HPR
 have hbs:=h.bs
 have d6:W.cell? ⟨db,6,none⟩=some (.string c.path):=h.d.cell 6
 clear h hI hp hs
 go_enter Tryz.func77,Tryz.ntmps77
 go_wp2_with (go_at_call 115;refine HPR.out.mono ?_;rintro e w1 ⟨he,hb1⟩;have he:e=Cg k:=he;subst he)
 exact⟨rfl,rfl,hb1.mono hbs⟩
theorem Aae(h:Doer W base ob db c r iv ov mv Iv S)(hI:Inv S)(hp:c.path.size<=4611686018427387904){k:Nat}{nm:ByteArray}(hs:Bo S c.path= .ok (k,nm)){j:Nat}(hE:entF (S.ino k).ents nm=some j):
  Calls Tryz.prog 77 #[.pointer (some ⟨db,0,none⟩)] W fun e w'=>e=Cg 2/\Below base W w':=by
 obtain⟨g,icap,ics,rfl,-,-,-⟩:=h.row hI.pos
 have HPR:=lhi (Dy h hI hp)
 rw[hs]at HPR
 obtain⟨hk,-⟩:=Cy hI hs
 have hl:=h.st.len'
 have hkI:k<Iv.length:=by omega
 have hino:=h.st.at_ hkI
 have hek:=h.st.ent k hkI
 have c2:=h.st.cell hl.symm hkI (show 2<4 by omega)
 have hbs:=h.bs
 have d6:W.cell? ⟨db,6,none⟩=some (.string c.path):=h.d.cell 6
 obtain⟨q,hq⟩:=xx (Iv[k])
 rw[hq]at hino hek c2
 obtain⟨p1,ev⟩:=q
 replace hino:p1=S.ino k:=hino
 subst hino
 obtain⟨es,hes⟩:=xx ((S.ino k).ents)
 replace hek:W.ownsRow base 132 2 ev es.length (es.flatMap Ai):=by rw[<-hes];exact hek
 have hen:=(hI.ord).ents k hk
 rw[hes]at hE hen
 have HEN:=lhi (fun(V:World) (hb:Below W.heap.size W V)=>Hc (Cc (by decide) Bn (Bc hek hb) (Ee _)).at' hen.1 nm hen.2 hE)
 obtain⟨EA,ecap,rfl,-⟩:=Aj hek
 replace c2:W.cell? ⟨g,k*4+2,none⟩=some (.slice EA es.length ecap):=c2
 clear h hI hp hs hek hes hq hen hE hkI hl
 go_enter Tryz.func77,Tryz.ntmps77
 go_wp2_with (first
  | (go_at_call 115;refine HPR.out.mono ?_;rintro e w1 ⟨he,hb1⟩;have he:e= .returned (.tuple #[.pointer (some ⟨g,k*4,none⟩),.string nm]):=he;subst he;have HB1:=lhi hb1;have y2:w1.cell? ⟨g,k*4+2,none⟩=some (.slice EA es.length ecap):=(hb1.cell (Amd _ _ c2)).trans c2;clear hb1 HPR)
  | (go_at_call 93;refine(HEN.out _ HB1.out).mono ?_;rintro e w2 ⟨rfl,hb2⟩)
  | (go_at_call 116;refine(Al _ _).mono ?_;rintro e w3 ⟨rfl,rfl⟩))
 exact⟨rfl,rfl,(HB1.out.mono hbs).trans (hb2.mono (Aml hbs HB1.out.size))⟩
end
def inB(x:Int):Bool:=decide (0<=x/\x<=256)
theorem Fh{x:Int}(h:inB x=true):0<=x/\x<=256:=of_decide_eq_true h
theorem Aeg(x:Int)(w:World):Calls Tryz.prog 128 #[.int .i64 x] w fun e w'=>e= .returned (.bool (inB x))/\w=w':=by
 by_cases h0:0<=x
 ·by_cases h1:x<=256
  ·rw[show inB x=true by simp[inB,h0,h1]]
   go_enter Tryz.func128,Tryz.ntmps128
   go_wp2_with (fail)
   go_ret
   exact⟨rfl,rfl⟩
  ·rw[show inB x=false by simp[inB,h1]]
   have h2:decide (x<=256)=false:=by simpa using h1
   go_enter Tryz.func128,Tryz.ntmps128
   go_wp2_with (fail)
   go_ret
   exact⟨rfl,rfl⟩
 ·rw[show inB x=false by simp[inB,h0]]
  have h2:decide (0<=x)=false:=by simpa using h0
  go_enter Tryz.func128,Tryz.ntmps128
  go_wp2_with (fail)
  go_ret
  exact⟨rfl,rfl⟩
theorem Gl{x:Int}{b:Bool}(h:inB x=b)(w:World):Calls Tryz.prog 128 #[.int .i64 x] w fun e w'=>e= .returned (.bool b)/\w=w':=h▸Aeg x w
theorem StO.putD{w:World}{base g n cap:Nat}{ov mv:Value}{Iv:List InV}{S:St}(h:StO w base (.slice (some ⟨g,0,none⟩) n cap) ov mv Iv S){k:Nat}(hk:k<Iv.length)(hn:n=Iv.length)(d:ByteArray):
  StO (w.setCell ⟨g,k*4+3,none⟩ (.string d)) base (.slice (some ⟨g,0,none⟩) n cap) ov mv (Iv.set k ({Iv[k].1 with data:=d},Iv[k].2)) (S.setI k {Iv[k].1 with data:=d}):=by
 obtain⟨-,gcs,hG⟩:=Ag h.ino rfl
 have hfar: ∀{e:TypeId} {j m:Nat} {v:Value} {xs:List Value},w.ownsRow base e j v m xs->e≠93->(w.setCell ⟨g,k*4+3,none⟩ (.string d)).ownsRow base e j v m xs:=fun ho he=>ownsRow_setCell_other ho (a:=⟨g,k*4+3,none⟩) (fun q=>by
  obtain⟨-,cs',hq⟩:=Ag ho q
  exact Blk.ne_ hq hG he rfl) _
 have hgt: ∀{i:Nat} (hi:i< (Iv.set k ({Iv[k].1 with data:=d},Iv[k].2)).length),(Iv.set k ({Iv[k].1 with data:=d},Iv[k].2))[i].2=(Iv[i]'(by simpa using hi)).2/\ (Iv.set k ({Iv[k].1 with data:=d},Iv[k].2))[i].1.ents=(Iv[i]'(by simpa using hi)).1.ents:=fun {i} hi=>by
  rw[List.getElem_set]
  split
  ·rename_i e
   subst e
   exact⟨rfl,rfl⟩
  ·exact⟨rfl,rfl⟩
 refine⟨?_,?_,fun i hi=>?_,fun i j hi hj hij b=>?_,hfar h.opn (by decide),hfar h.mad (by decide)⟩
 ·rw[List.map_set]
  show(Iv.map (·.1)).set k _=S.inodes.set k _
  rw[h.len]
 ·subst hn
  have hs:=Jd (enc:=encI) (k:=4) (by decide) Db ({Iv[k].1 with data:=d},Iv[k].2) 3 (.string d) Iv k hk (by decide) rfl
  rw[List.length_set,hs]
  exact Qg h.ino (t:=k*4+3) (by omega) (.string d)
 ·obtain⟨h1,h2⟩:=hgt hi
  rw[h1,h2]
  exact hfar (h.ent i (by simpa using hi)) (by decide)
 ·rw[(hgt hi).1,(hgt hj).1]
  exact h.apart i j (by simpa using hi) (by simpa using hj) hij b
section
variable{W:World}{base ob db:Nat}{c:Ad}{r:ResV}{iv ov mv:Value}{Iv:List InV}{S:St}
theorem Doer.ne(h:Doer W base ob db c r iv ov mv Iv S):ob≠db:=Blk.ne_ h.o h.d (by decide)
theorem Doer.setR(h:Doer W base ob db c r iv ov mv Iv S)(i:Nat)(u:Value){r':ResV}(hr:(Sy ob c r).setIfInBounds i u=Sy ob c r'):Doer (W.setCell ⟨db,i,none⟩ u) base ob db c r' iv ov mv Iv S:=
 ⟨h.ob_,h.db_,h.o.far (p:=⟨db,i,none⟩) h.ne u,by rw[<-hr];exact h.d.set_ i u,h.st.far h.d (by decide) (by decide) (by decide) (by decide) i u⟩
theorem Doer.setD{g n cap:Nat}(h:Doer W base ob db c r (.slice (some ⟨g,0,none⟩) n cap) ov mv Iv S){k:Nat}(hk:k<S.inodes.length)(hn:n=S.inodes.length)(d:ByteArray):
  ∃Iv',Doer (W.setCell ⟨g,k*4+3,none⟩ (.string d)) base ob db c r (.slice (some ⟨g,0,none⟩) n cap) ov mv Iv' (S.setI k {S.ino k with data:=d}):=by
 have hl:=h.st.len'
 obtain⟨-,gcs,hG⟩:=Ag h.st.ino rfl
 have:=h.st.putD (k:=k) (by omega) (by omega) d
 rw[h.st.at_]at this
 exact⟨_,h.ob_,h.db_,h.o.far (p:=⟨g,k*4+3,none⟩) (Blk.ne_ h.o hG (by decide)) _,h.d.far (p:=⟨g,k*4+3,none⟩) (Blk.ne_ h.d hG (by decide)) _,this⟩
theorem Afi{B p:Nat}{w w':World}(h:Below B w w')(hp:B<=p)(i:Nat)(u:Value)(hs:B<=w'.heap.size):Below B w (w'.setCell ⟨p,i,none⟩ u).drew:=
 (h.setCell (p:=⟨p,i,none⟩) hp u).trans ((Ae _).mono (by simpa[World.setCell]using hs))
theorem Doer.gbase{g n cap:Nat}(h:Doer W base ob db c r (.slice (some ⟨g,0,none⟩) n cap) ov mv Iv S):base<=g:=(h.st.ino.lt g rfl).1
def Kx(S:St)(c:Ad)(r:ResV):Except Int (St×ResV):=match Ej S c with
 | .error k=>.error k
 | .ok (a,_)=>
  if c.kind=4 then(if(inB c.off&&inB c.num)=true then .ok (S,{r with data:=Cx (S.dat a) c.off.toNat c.num.toNat})else .error 9)
  else if c.kind=5 then(if(inB c.off&&inB c.data.size)=true then(if 256<c.off+c.data.size then .error 5 else .ok (S.setI a {S.ino a with data:=layF (S.dat a) c.off.toNat c.data},{r with num:=c.data.size}))else .error 9)
  else if c.kind=6 then(if inB c.num=true then .ok (S.setI a {S.ino a with data:=cutF (S.dat a) c.num.toNat},r)else .error 9)
  else .ok (S,{r with num:=(S.dat a).size})
theorem Wx(h:Doer W base ob db c r iv ov mv Iv S)(hI:Inv S){k:Int}(hs:Ej S c= .error k):
  Calls Tryz.prog 82 #[.pointer (some ⟨db,0,none⟩)] W fun e w'=>e=Cg k/\Below base W w':=by
 obtain⟨g,icap,ics,rfl,-,-,-⟩:=h.row hI.pos
 have HF:=lhi (El h hI)
 rw[hs]at HF
 have hbs:=h.bs
 clear h hI hs
 go_enter Tryz.func82,Tryz.ntmps82
 go_wp2_with (go_at_call 79;refine HF.out.mono ?_;rintro e w1 ⟨he,hb1⟩;have he:e=Cg k:=he;subst he)
 exact⟨rfl,rfl,hb1.mono hbs⟩
theorem Ace(h:Doer W base ob db c r iv ov mv Iv S)(hI:Inv S){a k:Nat}(hs:Ej S c= .ok (a,k))(hk:c.kind=4){RES:Except Int (St×ResV)}(hres:(if(inB c.off&&inB c.num)=true then .ok (S,{r with data:=Cx (S.dat a) c.off.toNat c.num.toNat})else .error 9)=RES):
  Calls Tryz.prog 82 #[.pointer (some ⟨db,0,none⟩)] W fun e w'=>Gr base ob db c W e w' RES:=by
 obtain⟨g,icap,ics,rfl,-,-,-⟩:=h.row hI.pos
 have HF:=lhi (El h hI)
 obtain⟨-,ha,-,-,-,-,-⟩:=Fi hI hs
 rw[hs]at HF
 have hbs:=h.bs
 have hdat:(S.dat a).size<=256:=hI.dat _ (Inv.ino_mem ha)
 have H:=lhi h
 have HSM:=lhi h.stm
 have HRES:=lhi hres
 have hk1:(c.kind==4)=true:=by simp[hk]
 obtain⟨dt,hdt⟩: ∃x,S.dat a=x:=⟨_,rfl⟩
 rw[hdt]at hdat HRES
 have HDT:=lhi hdt
 clear h hI hs hres hdt
 go_enter Tryz.func82,Tryz.ntmps82
 go_upto_region 1 with(go_at_call 79;refine HF.out.mono ?_;rintro e w1 ⟨he,hb1⟩;have he:e= .returned (.tuple #[.pointer (some ⟨g,a*4,none⟩),.int .i64 k]):=he;subst he;have HB1:=lhi (hb1.mono hbs);have H1:=lhi (H.out.below hb1);have HS1:=lhi (HSM.out.keep hb1);clear hb1)
 have d1:w1.cell? ⟨db,1,none⟩=some (.int .i64 c.kind):=H1.out.d.cell 1
 have d4:w1.cell? ⟨db,4,none⟩=some (.int .i64 c.off):=H1.out.d.cell 4
 have d5:w1.cell? ⟨db,5,none⟩=some (.int .i64 c.num):=H1.out.d.cell 5
 have d13:w1.cell? ⟨db,13,none⟩=some (.string r.data):=H1.out.d.cell 13
 have f13:=H1.out.d.frozen 13
 have g3:w1.cell? ⟨g,a*4+3,none⟩=some (.string dt):=by
  obtain⟨-,-,g',off,hA,hcell⟩:=HS1.out.ino.at_ ha
  injection hA with hA
  injection hA with e1 e2
  subst e1 e2
  have:=hcell 3 (by omega)
  rw[Nat.zero_add]at this
  rw[<-HDT.out]
  exact this
 cases hio:inB c.off with
 | false=>
  rw[hio]at HRES
  obtain rfl:RES= .error 9:=by rw[<-HRES.out];rfl
  clear HRES
  go_wp2_with (first
   | (go_at_call 128;refine(Gl hio _).mono ?_;rintro e w' ⟨rfl,rfl⟩)
   | (go_at_call 116;refine(Al _ _).mono ?_;rintro e w' ⟨rfl,rfl⟩))
  exact⟨rfl,rfl,HB1.out⟩
 | true=>
  cases hin:inB c.num with
  | false=>
   rw[hio,hin]at HRES
   obtain rfl:RES= .error 9:=by rw[<-HRES.out];rfl
   clear HRES
   go_wp2_with (fail)
   refine(Gl hio _).mono ?_
   rintro e w' ⟨rfl,rfl⟩
   go_wp2_with (fail)
   refine(Gl hin _).mono ?_
   rintro e w' ⟨rfl,rfl⟩
   go_wp2_with (go_at_call 116;refine(Al _ _).mono ?_;rintro e w' ⟨rfl,rfl⟩)
   exact⟨rfl,rfl,HB1.out⟩
  | true=>
   rw[hio,hin]at HRES
   obtain⟨on,hon⟩: ∃n:Nat,c.off=n:=⟨c.off.toNat,by have:=Fh hio;omega⟩
   obtain⟨nn,hnn⟩: ∃n:Nat,c.num=n:=⟨c.num.toNat,by have:=Fh hin;omega⟩
   obtain⟨r',hr'⟩: ∃x:ResV,x={r with data:=Cx dt on nn}:=⟨_,rfl⟩
   obtain rfl:RES= .ok (S,r'):=by
    rw[<-HRES.out,hon,hnn,hr'];rfl
   have hob:=Fh hio
   have hnb:=Fh hin
   rw[hon]at hob d4 hio
   rw[hnn]at hnb d5 hin
   have HPC:=lhi (fun W=>Pf dt on nn (by omega) (by omega) (by omega) W)
   have HSR:=lhi (H1.out.setR (r':=r') 13 (.string (Cx dt on nn)) (by rw[hr'];rfl))
   obtain⟨pd,hpd⟩: ∃x,Cx dt on nn=x:=⟨_,rfl⟩
   rw[hpd]at HPC HSR
   clear HRES hon hnn hr' hpd
   go_wp2_with (fail)
   refine(Gl hio _).mono ?_
   rintro e w' ⟨rfl,rfl⟩
   go_wp2_with (fail)
   refine(Gl hin _).mono ?_
   rintro e w' ⟨rfl,rfl⟩
   go_upto_region 5 with(go_at_call 116;refine(Ar _ _).mono ?_;rintro e w' ⟨rfl,rfl⟩)
   clear d1
   have HSD:=lhi (show w1.drew.cell? ⟨db,4,none⟩=some (.int .i64 on)/\w1.drew.cell? ⟨db,5,none⟩=some (.int .i64 nn)/\w1.drew.cell? ⟨g,a*4+3,none⟩=some (.string dt)from⟨d4,d5,g3⟩)
   have HGD:=lhi (show db≠g by
    obtain⟨-,gcs,hG⟩:=Ag H1.out.st.ino rfl
    exact Blk.ne_ H1.out.d hG (by decide))
   go_region_held3 (fun w'=>w'.cell? ⟨db,4,none⟩=some (.int .i64 on)/\w'.cell? ⟨db,5,none⟩=some (.int .i64 nn)/\w'.cell? ⟨g,a*4+3,none⟩=some (.string dt))
    (first | (with_reducible exact HSD.out) | exact⟨d4,d5,g3⟩ | (refine⟨?_,?_,?_⟩ <;> simp[go_sem,d4,d5,g3]))
    ((go_at_call 129;refine(HPC.out _).mono ?_;rintro e w' ⟨rfl,rfl⟩))
   go_end0
   exact⟨rfl,Afi HB1.out H1.out.db_ _ _ H1.out.bs,_,_,_,_,HSR.out.drew⟩
theorem Acd(h:Doer W base ob db c r iv ov mv Iv S)(hI:Inv S){a k:Nat}(hs:Ej S c= .ok (a,k))(hk:c.kind≠4/\c.kind≠5/\c.kind≠6):
  Calls Tryz.prog 82 #[.pointer (some ⟨db,0,none⟩)] W fun e w'=>Gr base ob db c W e w' (.ok (S,{r with num:=(S.dat a).size})):=by
 obtain⟨g,icap,ics,rfl,-,-,-⟩:=h.row hI.pos
 have HF:=lhi (El h hI)
 obtain⟨-,ha,-,-,-,-,-⟩:=Fi hI hs
 rw[hs]at HF
 have hbs:=h.bs
 have hdat:(S.dat a).size<=256:=hI.dat _ (Inv.ino_mem ha)
 have H:=lhi h
 have HSM:=lhi h.stm
 have hk4:(c.kind==4)=false:=by simp[hk.1]
 have hk5:(c.kind==5)=false:=by simp[hk.2.1]
 have hk6:(c.kind==6)=false:=by simp[hk.2.2]
 clear hk
 obtain⟨r',hr'⟩: ∃x:ResV,x={r with num:=(S.dat a).size}:=⟨_,rfl⟩
 rw[<-hr']
 have HR':=lhi hr'
 obtain⟨dt,hdt⟩: ∃x,S.dat a=x:=⟨_,rfl⟩
 rw[hdt]at hdat
 have HDT:=lhi hdt
 clear h hI hs hdt hr'
 go_enter Tryz.func82,Tryz.ntmps82
 go_upto_region 1 with(go_at_call 79;refine HF.out.mono ?_;rintro e w1 ⟨he,hb1⟩;have he:e= .returned (.tuple #[.pointer (some ⟨g,a*4,none⟩),.int .i64 k]):=he;subst he;have HB1:=lhi (hb1.mono hbs);have H1:=lhi (H.out.below hb1);have HS1:=lhi (HSM.out.keep hb1);clear hb1)
 have d1:w1.cell? ⟨db,1,none⟩=some (.int .i64 c.kind):=H1.out.d.cell 1
 have g3:w1.cell? ⟨g,a*4+3,none⟩=some (.string dt):=by
  obtain⟨-,-,g',off,hA,hcell⟩:=HS1.out.ino.at_ ha
  injection hA with hA
  injection hA with e1 e2
  subst e1 e2
  have:=hcell 3 (by omega)
  rw[Nat.zero_add]at this
  rw[<-HDT.out]
  exact this
 have d11:w1.cell? ⟨db,11,none⟩=some (.int .i64 r.num):=H1.out.d.cell 11
 have f11:=H1.out.d.frozen 11
 have HSR:=lhi (H1.out.setR (r':=r') 11 (.int .i64 dt.size) (by rw[HR'.out,HDT.out];rfl))
 clear HR' HDT
 go_wp2_with (fail)
 go_end0
 exact⟨rfl,HB1.out.setCell (p:=⟨db,11,none⟩) H1.out.db_ _,_,_,_,_,HSR.out⟩
theorem Aao(h:Doer W base ob db c r iv ov mv Iv S)(hI:Inv S){a k:Nat}(hs:Ej S c= .ok (a,k))(hk:c.kind=6){RES:Except Int (St×ResV)}(hres:(if inB c.num=true then .ok (S.setI a {S.ino a with data:=cutF (S.dat a) c.num.toNat},r)else .error 9)=RES):
  Calls Tryz.prog 82 #[.pointer (some ⟨db,0,none⟩)] W fun e w'=>Gr base ob db c W e w' RES:=by
 obtain⟨g,icap,ics,rfl,-,-,-⟩:=h.row hI.pos
 have HF:=lhi (El h hI)
 obtain⟨-,ha,-,-,-,-,-⟩:=Fi hI hs
 rw[hs]at HF
 have hbs:=h.bs
 have hdat:(S.dat a).size<=256:=hI.dat _ (Inv.ino_mem ha)
 have H:=lhi h
 have HSM:=lhi h.stm
 have HRES:=lhi hres
 have hk4:(c.kind==4)=false:=by simp[hk]
 have hk5:(c.kind==5)=false:=by simp[hk]
 have hk6:(c.kind==6)=true:=by simp[hk]
 clear hk
 obtain⟨dt,hdt⟩: ∃x,S.dat a=x:=⟨_,rfl⟩
 rw[hdt]at hdat HRES
 have HDT:=lhi hdt
 clear h hI hs hres hdt
 go_enter Tryz.func82,Tryz.ntmps82
 go_upto_region 1 with(go_at_call 79;refine HF.out.mono ?_;rintro e w1 ⟨he,hb1⟩;have he:e= .returned (.tuple #[.pointer (some ⟨g,a*4,none⟩),.int .i64 k]):=he;subst he;have HB1:=lhi (hb1.mono hbs);have H1:=lhi (H.out.below hb1);have HS1:=lhi (HSM.out.keep hb1);clear hb1)
 have d1:w1.cell? ⟨db,1,none⟩=some (.int .i64 c.kind):=H1.out.d.cell 1
 have g3:w1.cell? ⟨g,a*4+3,none⟩=some (.string dt):=by
  obtain⟨-,-,g',off,hA,hcell⟩:=HS1.out.ino.at_ ha
  injection hA with hA
  injection hA with e1 e2
  subst e1 e2
  have:=hcell 3 (by omega)
  rw[Nat.zero_add]at this
  rw[<-HDT.out]
  exact this
 have d5:w1.cell? ⟨db,5,none⟩=some (.int .i64 c.num):=H1.out.d.cell 5
 cases hin:inB c.num with
 | false=>
  rw[hin]at HRES
  obtain rfl:RES= .error 9:=by rw[<-HRES.out];rfl
  clear HRES
  go_wp2_with (first
   | (go_at_call 128;refine(Gl hin _).mono ?_;rintro e w' ⟨rfl,rfl⟩)
   | (go_at_call 116;refine(Al _ _).mono ?_;rintro e w' ⟨rfl,rfl⟩))
  exact⟨rfl,rfl,HB1.out⟩
 | true=>
  rw[hin]at HRES
  obtain⟨nn,hnn⟩: ∃n:Nat,c.num=n:=⟨c.num.toNat,by have:=Fh hin;omega⟩
  obtain⟨cd,hcd⟩: ∃x,cutF dt nn=x:=⟨_,rfl⟩
  obtain⟨S',hS'⟩: ∃x,x=S.setI a {S.ino a with data:=cd}:=⟨_,rfl⟩
  obtain rfl:RES= .ok (S',r):=by rw[<-HRES.out,hnn,hS',<-hcd];rfl
  have hnb:=Fh hin
  rw[hnn]at hnb d5 hin
  have HCT:=lhi (fun W=>Ve dt nn (by omega) W)
  rw[hcd]at HCT
  have HSS:=lhi hS'
  clear HRES hnn hcd hS'
  go_upto_region 13 with(first
   | (go_at_call 128;refine(Gl hin _).mono ?_;rintro e w' ⟨rfl,rfl⟩)
   | (go_at_call 116;refine(Ar _ _).mono ?_;rintro e w' ⟨rfl,rfl⟩))
  clear d1
  have HSD:=lhi (show w1.drew.cell? ⟨db,5,none⟩=some (.int .i64 nn)/\w1.drew.cell? ⟨g,a*4+3,none⟩=some (.string dt)from⟨d5,g3⟩)
  have HGB:=lhi (Ag H1.out.st.ino rfl).2
  obtain⟨gcs,hgcs⟩:=HGB.out
  have HGB:=lhi hgcs
  have hgl:=hgcs.lt
  clear hgcs
  refine Af (L:=13) (S:=fun w'=>w'.cell? ⟨db,5,none⟩=some (.int .i64 nn)/\w'.cell? ⟨g,a*4+3,none⟩=some (.string dt)) (by kernel_rfl) (HSD.out) (fun hHeld=>?_)
  refine tF 0 ?_
  refine tF 1 ?_
  refine tF 2 ?_
  refine tF 3 ?_
  refine tF 4 ?_
  refine tF 5 ?_
  refine tF 6 ?_
  refine tF 7 ?_
  refine tF 8 ?_
  refine tF 9 ?_
  refine Ap (i:=10) (by kernel_rfl) rfl (fun K hK=>?_)
  go_simp
  refine(HCT.out _).mono ?_
  rintro e w2 ⟨rfl,hb2⟩
  have HB12:=lhi ((Ae w1).trans hb2)
  have z5:w2.cell? ⟨db,5,none⟩=some (.int .i64 nn):=(hb2.cell (p:=⟨db,5,none⟩) H1.out.d.lt).trans d5
  have z3:w2.cell? ⟨g,a*4+3,none⟩=some (.string dt):=(hb2.cell (p:=⟨g,a*4+3,none⟩) (Amd _ _ g3)).trans g3
  have fz:w2.frozen? ⟨g,a*4+3,none⟩=false:=(Blk.of_heap (HB12.out.block _ HGB.out.lt) HGB.out).frozen _
  clear hb2
  show K _ _
  refine hK.out _ _ (fun _=>⟨z5,z3⟩) (fun hHeld=>?_)
  replace hHeld:=hHeld (by decide)
  clear hK K
  refine tF 11 ?_
  refine tF 12 ?_
  refine Ap (i:=13) (by kernel_rfl) rfl (fun K hK=>?_)
  go_simp
  show K _ _
  refine hK.out _ _ (fun h=>absurd rfl h) (fun _=>?_)
  clear hK K
  refine Cn (by kernel_rfl) ?_ _
  have hbw:Below base W w2:=HB1.out.trans (HB12.out.mono H1.out.bs)
  have H2:=H1.out.below HB12.out
  obtain⟨Iv',hd'⟩:=H2.setD ha rfl cd
  rw[<-HSS.out]at hd'
  go_end0
  exact⟨rfl,hbw.setCell (p:=⟨g,a*4+3,none⟩) H1.out.gbase _,_,_,_,_,hd'⟩
theorem Aan(h:Doer W base ob db c r iv ov mv Iv S)(hI:Inv S){a k:Nat}(hs:Ej S c= .ok (a,k))(hk:c.kind=5)(hcs:c.data.size<=4611686018427387904){RES:Except Int (St×ResV)}(hres:(if(inB c.off&&inB c.data.size)=true then(if 256<c.off+c.data.size then .error 5 else .ok (S.setI a {S.ino a with data:=layF (S.dat a) c.off.toNat c.data},{r with num:=c.data.size}))else .error 9)=RES):
  Calls Tryz.prog 82 #[.pointer (some ⟨db,0,none⟩)] W fun e w'=>Gr base ob db c W e w' RES:=by
 obtain⟨g,icap,ics,rfl,-,-,-⟩:=h.row hI.pos
 have HF:=lhi (El h hI)
 obtain⟨-,ha,-,-,-,-,-⟩:=Fi hI hs
 rw[hs]at HF
 have hbs:=h.bs
 have hdat:(S.dat a).size<=256:=hI.dat _ (Inv.ino_mem ha)
 have H:=lhi h
 have HSM:=lhi h.stm
 have HRES:=lhi hres
 have hk4:(c.kind==4)=false:=by simp[hk]
 have hk5:(c.kind==5)=true:=by simp[hk]
 clear hk
 obtain⟨dt,hdt⟩: ∃x,S.dat a=x:=⟨_,rfl⟩
 rw[hdt]at hdat HRES
 have HDT:=lhi hdt
 clear h hI hs hres hdt
 go_enter Tryz.func82,Tryz.ntmps82
 go_upto_region 1 with(go_at_call 79;refine HF.out.mono ?_;rintro e w1 ⟨he,hb1⟩;have he:e= .returned (.tuple #[.pointer (some ⟨g,a*4,none⟩),.int .i64 k]):=he;subst he;have HB1:=lhi (hb1.mono hbs);have H1:=lhi (H.out.below hb1);have HS1:=lhi (HSM.out.keep hb1);clear hb1)
 have d1:w1.cell? ⟨db,1,none⟩=some (.int .i64 c.kind):=H1.out.d.cell 1
 have g3:w1.cell? ⟨g,a*4+3,none⟩=some (.string dt):=by
  obtain⟨-,-,g',off,hA,hcell⟩:=HS1.out.ino.at_ ha
  injection hA with hA
  injection hA with e1 e2
  subst e1 e2
  have:=hcell 3 (by omega)
  rw[Nat.zero_add]at this
  rw[<-HDT.out]
  exact this
 have d4:w1.cell? ⟨db,4,none⟩=some (.int .i64 c.off):=H1.out.d.cell 4
 have d8:w1.cell? ⟨db,8,none⟩=some (.string c.data):=H1.out.d.cell 8
 cases hio:inB c.off with
 | false=>
  rw[hio]at HRES
  obtain rfl:RES= .error 9:=by rw[<-HRES.out];rfl
  clear HRES
  go_wp2_with (first
   | (go_at_call 128;refine(Gl hio _).mono ?_;rintro e w' ⟨rfl,rfl⟩)
   | (go_at_call 116;refine(Al _ _).mono ?_;rintro e w' ⟨rfl,rfl⟩))
  exact⟨rfl,rfl,HB1.out⟩
 | true=>
  cases hin:inB c.data.size with
  | false=>
   rw[hio,hin]at HRES
   obtain rfl:RES= .error 9:=by rw[<-HRES.out];rfl
   clear HRES
   go_wp2_with (fail)
   refine(Gl hio _).mono ?_
   rintro e w' ⟨rfl,rfl⟩
   go_wp2_with (fail)
   refine(Gl hin _).mono ?_
   rintro e w' ⟨rfl,rfl⟩
   go_wp2_with (go_at_call 116;refine(Al _ _).mono ?_;rintro e w' ⟨rfl,rfl⟩)
   exact⟨rfl,rfl,HB1.out⟩
  | true=>
   rw[hio,hin]at HRES
   obtain⟨on,hon⟩: ∃n:Nat,c.off=n:=⟨c.off.toNat,by have:=Fh hio;omega⟩
   have hob:=Fh hio
   have hnb:=Fh hin
   rw[hon]at hob d4 hio
   go_wp2_with (fail)
   refine(Gl hio _).mono ?_
   rintro e w' ⟨rfl,rfl⟩
   go_wp2_with (fail)
   refine(Gl hin _).mono ?_
   rintro e w' ⟨rfl,rfl⟩
   go_upto_region 8 with(go_at_call 116;refine(Ar _ _).mono ?_;rintro e w' ⟨rfl,rfl⟩)
   have hwr:IntKind.i64.wrap ((on:Int)+c.data.size)=(on:Int)+c.data.size:=IntWalk.i64_in _ (by omega)
   by_cases hgt:256< (on:Int)+c.data.size
   ·obtain rfl:RES= .error 5:=by
     rw[<-HRES.out,hon,if_pos (by decide),if_pos hgt]
    have hgt1:decide (256< (on:Int)+c.data.size)=true:=decide_eq_true hgt
    clear HRES hon
    refine wp_region_held_drew (S:=fun w'=>w'.cell? ⟨db,4,none⟩=some (.int .i64 on)/\w'.cell? ⟨db,8,none⟩=some (.string c.data)) (by kernel_rfl) (⟨d4,d8⟩) (fun hHeld=>?_)
    refine tH 0 ?_
    refine tH 1 ?_
    refine tH 2 ?_
    refine tH 3 ?_
    refine tH 4 ?_
    refine tH 5 ?_
    refine tH 6 ?_
    refine tH 7 ?_
    refine tH 8 ?_
    refine tH 9 ?_
    refine tH 10 ?_
    refine tH 11 ?_
    refine tH 12 ?_
    refine wpAnyH_ready (rs:=[13]) (by kernel_rfl) (by simp) ?_
    refine AllReadyH.cons rfl (fun K hK=>?_) AllReadyH.nil
    go_simp
    refine(Al _ _).mono ?_
    rintro e w' ⟨rfl,rfl⟩
    exact⟨rfl,rfl,HB1.out.trans ((Ae w1).mono H1.out.bs)⟩
   ·obtain⟨ld,hld⟩: ∃x,layF dt on c.data=x:=⟨_,rfl⟩
    obtain⟨S',hS'⟩: ∃x,x=S.setI a {S.ino a with data:=ld}:=⟨_,rfl⟩
    obtain⟨r',hr'⟩: ∃x:ResV,x={r with num:=c.data.size}:=⟨_,rfl⟩
    obtain rfl:RES= .ok (S',r'):=by
     rw[<-HRES.out,hon,if_pos (by decide),if_neg hgt,hS',hr',<-hld];rfl
    have hgt1:decide (256< (on:Int)+c.data.size)=false:=decide_eq_false hgt
    have HCT:=lhi (fun W=>Abl dt c.data on (by omega) (by omega) W)
    rw[hld]at HCT
    have HSS:=lhi hS'
    have HRR:=lhi hr'
    have HS8:=lhi (show w1.drew.cell? ⟨db,4,none⟩=some (.int .i64 on)/\w1.drew.cell? ⟨db,8,none⟩=some (.string c.data)from⟨d4,d8⟩)
    clear HRES hon hld hS' hr' d1
    go_region_held3 (fun w'=>w'.cell? ⟨db,4,none⟩=some (.int .i64 on)/\w'.cell? ⟨db,8,none⟩=some (.string c.data))
     (with_reducible first | exact HS8.out | exact⟨d4,d8⟩)
     ((go_at_call 116;refine(Ar _ _).mono ?_;rintro e w' ⟨rfl,rfl⟩))
    clear hwr hgt1
    obtain⟨w0,hw0⟩: ∃x,x=w1.drew:=⟨_,rfl⟩
    have H0:=lhi (show Doer w0 base ob db c r (.slice (some ⟨g,0,none⟩) S.inodes.length icap) ov mv Iv S by rw[hw0];exact H1.out.drew)
    have HB0:=lhi (show Below base W w0 by rw[hw0];exact HB1.out.trans ((Ae w1).mono H1.out.bs))
    have d4:w0.cell? ⟨db,4,none⟩=some (.int .i64 on):=by rw[hw0];exact d4
    have d8:w0.cell? ⟨db,8,none⟩=some (.string c.data):=by rw[hw0];exact d8
    have g3:w0.cell? ⟨g,a*4+3,none⟩=some (.string dt):=by rw[hw0];exact g3
    try rw[<-hw0]
    clear hw0 HS8
    go_wp2_with (fail)
    have HSD:=lhi (show w0.drew.cell? ⟨db,4,none⟩=some (.int .i64 on)/\w0.drew.cell? ⟨db,8,none⟩=some (.string c.data)/\w0.drew.cell? ⟨g,a*4+3,none⟩=some (.string dt)from⟨d4,d8,g3⟩)
    obtain⟨gcs,hgcs⟩:=(Ag H0.out.st.ino rfl).2
    have HGB:=lhi hgcs
    have HDL:=lhi H0.out.d.lt
    have hgl:=hgcs.lt
    clear hgcs
    refine Af (L:=18) (S:=fun w'=>w'.cell? ⟨db,4,none⟩=some (.int .i64 on)/\w'.cell? ⟨db,8,none⟩=some (.string c.data)/\w'.cell? ⟨g,a*4+3,none⟩=some (.string dt)) (by kernel_rfl) (HSD.out) (fun hHeld=>?_)
    refine tF 0 ?_
    refine tF 1 ?_
    refine tF 2 ?_
    refine tF 3 ?_
    refine tF 4 ?_
    refine tF 5 ?_
    refine tF 6 ?_
    refine tF 7 ?_
    refine tF 8 ?_
    refine tF 9 ?_
    refine tF 10 ?_
    refine tF 11 ?_
    refine tF 12 ?_
    refine tF 13 ?_
    refine tF 14 ?_
    refine Ap (i:=15) (by kernel_rfl) rfl (fun K hK=>?_)
    go_simp
    refine(HCT.out _).mono ?_
    rintro e w2 ⟨rfl,hb2⟩
    have HB12:=lhi ((Ae w0).trans hb2)
    have z4:w2.cell? ⟨db,4,none⟩=some (.int .i64 on):=(hb2.cell (p:=⟨db,4,none⟩) HDL.out).trans d4
    have z8:w2.cell? ⟨db,8,none⟩=some (.string c.data):=(hb2.cell (p:=⟨db,8,none⟩) HDL.out).trans d8
    have z3:w2.cell? ⟨g,a*4+3,none⟩=some (.string dt):=(hb2.cell (p:=⟨g,a*4+3,none⟩) (Amd _ _ g3)).trans g3
    have fz:w2.frozen? ⟨g,a*4+3,none⟩=false:=(Blk.of_heap (HB12.out.block _ HGB.out.lt) HGB.out).frozen _
    clear hb2
    show K _ _
    refine hK.out _ _ (fun _=>⟨z4,z8,z3⟩) (fun hHeld=>?_)
    replace hHeld:=hHeld (by decide)
    clear hK K
    refine tF 16 ?_
    refine tF 17 ?_
    refine Ap (i:=18) (by kernel_rfl) rfl (fun K hK=>?_)
    go_simp
    show K _ _
    refine hK.out _ _ (fun h=>absurd rfl h) (fun _=>?_)
    clear hK K
    refine Cn (by kernel_rfl) ?_ _
    have hbw:Below base W w2:=HB0.out.trans (HB12.out.mono H0.out.bs)
    have H2:=H0.out.below HB12.out
    obtain⟨Iv',hd'⟩:=H2.setD ha rfl ld
    rw[<-HSS.out]at hd'
    have hb3:Below base W (w2.setCell ⟨g,a*4+3,none⟩ (.string ld)):=hbw.setCell (p:=⟨g,a*4+3,none⟩) H1.out.gbase _
    obtain⟨w3,hw3⟩: ∃x,x=w2.setCell ⟨g,a*4+3,none⟩ (.string ld):=⟨_,rfl⟩
    rw[<-hw3]at hd' hb3⊢
    have H3:=lhi hd'
    have HB3:=lhi hb3
    have e8:w3.cell? ⟨db,8,none⟩=some (.string c.data):=H3.out.d.cell 8
    have e11:w3.cell? ⟨db,11,none⟩=some (.int .i64 r.num):=H3.out.d.cell 11
    have u11:=H3.out.d.frozen 11
    have HSR:=lhi (H3.out.setR (r':=r') 11 (.int .i64 c.data.size) (by rw[HRR.out];rfl))
    clear hw3 hd' hb3 hbw H2 d4 d8 g3 z4 z8 z3 fz
    go_wp2_with (fail)
    go_end0
    exact⟨rfl,HB3.out.setCell (p:=⟨db,11,none⟩) H3.out.db_ _,_,_,_,_,HSR.out⟩
theorem Aap(h:Doer W base ob db c r iv ov mv Iv S)(hI:Inv S)(hcs:c.data.size<=4611686018427387904):
  Calls Tryz.prog 82 #[.pointer (some ⟨db,0,none⟩)] W fun e w'=>Gr base ob db c W e w' (Kx S c r):=by
 unfold Kx
 cases hs:Ej S c with
 | error k=>exact Wx h hI hs
 | ok p=>
  obtain⟨a,k⟩:=p
  simp only
  split
  ·rename_i hk
   exact Ace h hI hs hk rfl
  ·split
   ·rename_i hk
    exact Aan h hI hs hk hcs rfl
   ·split
    ·rename_i hk
     exact Aao h hI hs hk rfl
    ·rename_i h4 h5 h6
     exact Acd h hI hs ⟨h4,h5,h6⟩
end
def opL(S:St)(c:Int):Nat->Nat×Nat
 | 0=>(0,0)
 | k+1=>if S.oc k=c/\S.of k=(opL S c k).1 then((opL S c k).1+1,k+1)else if S.oc k<c then((opL S c k).1,k+1)else opL S c k
theorem Rr(S:St)(c:Int): ∀k,(opL S c k).1<=k/\ (opL S c k).2<=k
 | 0=>⟨Nat.le_refl _,Ama _⟩
 | k+1=>by
  have:=Rr S c k
  rw[opL]
  split
  ·simp only;omega
  ·split
   ·simp only;omega
   ·omega
theorem oget{S:St}{k:Nat}(hk:k<S.opens.length):S.opens[k]=(S.oc k,S.of k,S.on k):=by
 show _=((S.opens.getD k (0,0,0)).1,(S.opens.getD k (0,0,0)).2.1,(S.opens.getD k (0,0,0)).2.2)
 rw[An hk]
theorem obd{S:St}(hI:Inv S){k:Nat}(hk:k<S.opens.length):0<=S.oc k/\S.oc k<S.made.length/\0<=S.of k/\S.of k<4:=by
 obtain⟨h1,h2,h3,h4,-⟩:=hI.ok (S.opens.getD k (0,0,0)) (Bm hk)
 exact⟨h1,h2,h3,h4⟩
theorem Abg{S:St}(hI:Inv S){i j:Nat}(hij:i<j)(hj:j<S.opens.length):S.oc i<S.oc j∨S.oc i=S.oc j/\S.of i<S.of j:=by
 have:=List.pairwise_iff_getElem.1 hI.osort i j (by omega) hj hij
 rw[oget (by omega),oget hj]at this
 exact this
theorem Acz{S:St}(hI:Inv S)(c:Int): ∀k,k<=S.opens.length->(∀i,i< (opL S c k).2->S.oc i<c∨S.oc i=c/\S.of i< (opL S c k).1)/\ (∀i,(opL S c k).2<=i->i<k->c<S.oc i∨S.oc i=c/\ (opL S c k).1<S.of i)/\ (0< (opL S c k).1-> ∃j,j<k/\S.oc j=c/\S.of j+1=(opL S c k).1)
 | 0,_=>⟨fun i hi=>absurd hi (by simp[opL]),fun i _ hi=>absurd hi (by omega),fun h=>absurd h (by simp[opL])⟩
 | k+1,hk=>by
  obtain⟨h1,h2,h3⟩:=Acz hI c k (by omega)
  have hle:=Rr S c k
  rw[opL]
  split
  ·rename_i hm
   refine⟨fun i hi=>?_,fun i hi hik=>absurd hik (by simp only at hi;omega),fun _=>⟨k,by omega,hm.1,by simp only;omega⟩⟩
   simp only at hi⊢
   by_cases q:i=k
   ·subst q
    exact .inr ⟨hm.1,by omega⟩
   ·have:=Abg hI (show i<k by omega) (by omega)
    omega
  ·rename_i hm
   split
   ·rename_i hc
    refine⟨fun i hi=>?_,fun i hi hik=>absurd hik (by simp only at hi;omega),fun h=>?_⟩
    ·simp only at hi⊢
     by_cases q:i=k
     ·subst q
      exact .inl hc
     ·have:=Abg hI (show i<k by omega) (by omega)
      omega
    ·obtain⟨j,hj,e⟩:=h3 h
     exact⟨j,by omega,e⟩
   ·rename_i hc
    refine⟨h1,fun i hi hik=>?_,fun h=>?_⟩
    ·by_cases q:i=k
     ·subst q
      by_cases e:S.oc i=c
      ·right
       refine⟨e,?_⟩
       have hne: ¬ S.of i=(opL S c i).1:=fun x=>hm ⟨e,x⟩
       have h0:=(obd hI (show i<S.opens.length by omega))
       by_cases hz:(opL S c i).1=0
       ·omega
       ·obtain⟨j,hj,e1,e2⟩:=h3 (by omega)
        have:=Abg hI hj (by omega)
        omega
      ·left;omega
     ·exact h2 i hi (by omega)
    ·obtain⟨j,hj,e⟩:=h3 h
     exact⟨j,by omega,e⟩
theorem Ag1(a b:Int×Int×Int):ltO a b=decide (a.1<b.1∨a.1=b.1/\a.2.1<b.2.1):=by
 unfold ltO
 rw[Bool.eq_iff_iff]
 simp
def Ni(S:St)(c:Ad)(r:ResV):Except Int (St×ResV):=match atS S c.path with
 | .error k=>.error k
 | .ok a=>if S.dir a=true then .error 8 else if 4<= (opL S c.core S.opens.length).1 then .error 10 else
  .ok ({S with opens:=S.opens.take (opL S c.core S.opens.length).2++(c.core,((opL S c.core S.opens.length).1:Int),S.num a)::S.opens.drop (opL S c.core S.opens.length).2},{r with fd:=(opL S c.core S.opens.length).1})
theorem Abh{S S':St}(hI:Inv S){c:Ad}{r r':ResV}(h:Ni S c r= .ok (S',r')): ∃a,atS S c.path= .ok a/\S.dir a=false/\ (opL S c.core S.opens.length).1<4/\S'=Ac8 S (c.core,((opL S c.core S.opens.length).1:Int),S.num a)/\ ∀q∈S.opens,¬ (q.1=c.core/\q.2.1=((opL S c.core S.opens.length).1:Int)):=by
 unfold Ni at h
 split at h
 ·cases h
 ·rename_i a ha
  split at h
  ·cases h
  ·rename_i hd
   split at h
   ·cases h
   ·rename_i hf
    obtain⟨h1,h2,-⟩:=Acz hI c.core S.opens.length (Ama _)
    have hle:=(Rr S c.core S.opens.length).2
    injection h with h
    injection h with hs hr
    refine⟨a,ha,by simpa using hd,by omega,?_,fun q hq e=>?_⟩
    ·rw[<-hs]
     unfold Ac8
     rw[Sj (lt:=ltO) (p:=(c.core,((opL S c.core S.opens.length).1:Int),S.num a)) hle (fun i hi hik=>?_) (fun i hi hik=>?_)]
     ·rw[oget hi]
      have:=h1 i hik
      rw[Ag1]
      apply decide_eq_false
      simp only
      omega
     ·rw[oget hi]
      have:=h2 i hik hi
      rw[Ag1]
      apply decide_eq_true
      simp only
      omega
    ·obtain⟨i,hi,rfl⟩:=List.mem_iff_getElem.1 hq
     rw[oget hi]at e
     simp only at e
     by_cases q:i< (opL S c.core S.opens.length).2
     ·have:=h1 i q;omega
     ·have:=h2 i (by omega) hi;omega
theorem StO.putO{w w1:World}{base:Nat}{iv ov mv:Value}{Iv:List InV}{S:St}(h:StO w base iv ov mv Iv S)(hg:w.grownBy w1 ov.ownBlock){ov':Value}{L:List (Int×Int×Int)}(hown:w1.ownsRow base 144 3 ov' L.length (L.flatMap encD)):StO w1 base iv ov' mv Iv {S with opens:=L}:=by
 have hty: ∀{e:TypeId} {j m:Nat} {v:Value} {xs:List Value},w.ownsRow base e j v m xs->e≠144->w1.ownsRow base e j v m xs:=fun ho he=>Dq ho hg fun b h1 h2=>by
  obtain⟨-,cs,q⟩:=Ag ho h1
  obtain⟨-,cs',q'⟩:=Ag h.opn h2
  exact Blk.ne_ q q' he rfl
 exact⟨h.len,hty h.ino (by decide),fun i hi=>hty (h.ent i hi) (by decide),h.apart,hown,hty h.mad (by decide)⟩
end Go.Proofs.YtkebjgebkneijaaGreat
