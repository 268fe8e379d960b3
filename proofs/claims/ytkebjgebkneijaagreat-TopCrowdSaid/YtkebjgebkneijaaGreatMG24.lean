/- Texts of one's own that a claim's last text rests on: NoP5 NoP6 NoP7 NoP8 NoP9 NoP10 NoP11 NoP12 Dr3 Dr4 Dr5 Dr6. -/
import Derived.Test.YtkebjgebkneijaaGreatMG23
set_option linter.unusedVariables false
set_option linter.unusedSimpArgs false
namespace Go.Proofs.YtkebjgebkneijaaGreat
section
set_option maxHeartbeats 1000000
def mapIno(S:St)(d:Int)(f:Ino->Ino):St:={S with inodes:=S.inodes.map fun x=>if x.num=d then f x else x}
def setD(S:St)(d:Int)(b:ByteArray):St:=mapIno S d fun x=>{x with data:=b}
def setE(S:St)(d:Int)(L:List (ByteArray×Int)):St:=mapIno S d fun x=>{x with ents:=L}
theorem mem_mapIno{S:St}{d:Int}{f:Ino->Ino}{y:Ino}:y∈(mapIno S d f).inodes↔ ∃x∈S.inodes,(if x.num=d then f x else x)=y:=by
 unfold mapIno
 exact List.mem_map
theorem rise_map{S:St}{d:Int}{f:Ino->Ino}(hf: ∀x,(f x).num=x.num)(h:S.inodes.Pairwise (fun x y=>x.num<y.num)):(mapIno S d f).inodes.Pairwise (fun x y=>x.num<y.num):=by
 unfold mapIno
 rw[List.pairwise_map]
 refine h.imp fun {x y} hxy=>?_
 have e: ∀x:Ino,(if x.num=d then f x else x).num=x.num:=fun x=>by
  split
  ·exact hf x
  ·rfl
 rw[e,e];exact hxy
theorem root_map{S:St}{d:Int}{f:Ino->Ino}(hf: ∀x,(f x).num=x.num/\ (f x).dir=x.dir)(h: ∃x,S.inodes[0]? =some x/\x.num=1/\x.dir=true): ∃x,(mapIno S d f).inodes[0]? =some x/\x.num=1/\x.dir=true:=by
 obtain⟨x,h0,h1,h2⟩:=h
 refine⟨if x.num=d then f x else x,?_,?_,?_⟩
 ·unfold mapIno
  rw[List.getElem?_map,h0];rfl
 ·split
  ·rw[(hf x).1];exact h1
  ·exact h1
 ·split
  ·rw[(hf x).2];exact h2
  ·exact h2
theorem edge_setD{S:St}{d a y:Int}{b:ByteArray}:Edge (setD S d b) a y↔Edge S a y:=by
 unfold Edge
 constructor
 ·rintro⟨x,hx,h1,h2,h3⟩
  obtain⟨z,hz,rfl⟩:=mem_mapIno.1 hx
  refine⟨z,hz,?_⟩
  revert h1 h2 h3
  split <;> exact fun h1 h2 h3=>⟨h1,h2,h3⟩
 ·rintro⟨x,hx,h1,h2,h3⟩
  refine⟨_,mem_mapIno.2 ⟨x,hx,rfl⟩,?_⟩
  split <;> exact⟨h1,h2,h3⟩
theorem reach_of{S S':St}(h: ∀a y,Edge S a y->Edge S' a y){x:Int}(hr:Reach S x):Reach S' x:=by
 induction hr with
 | root=>exact .root
 | step _ he ih=>exact .step ih (h _ _ he)
theorem links_setD(S:St)(d:Int)(b:ByteArray):links (setD S d b)=links S:=by
 unfold links setD mapIno
 rw[List.flatMap_map]
 congr 1
 funext x
 unfold linksOf
 split <;> rfl
theorem Inv.data{S:St}(h:Inv S){d:Int}{b:ByteArray}(hb:b.size<=256)(hf: ∃y∈S.inodes,y.num=d/\y.dir=false):Inv (setD S d b):=by
 have hE: ∀{y:Ino},y∈(setD S d b).inodes-> ∃x∈S.inodes,y.num=x.num/\y.dir=x.dir/\y.ents=x.ents/\ (y.data=x.data∨(x.num=d/\y.data=b)):=by
  intro y hy
  obtain⟨x,hx,rfl⟩:=mem_mapIno.1 hy
  refine⟨x,hx,?_⟩
  by_cases e:x.num=d
  ·rw[if_pos e];exact⟨rfl,rfl,rfl,.inr ⟨e,rfl⟩⟩
  ·rw[if_neg e];exact⟨rfl,rfl,rfl,.inl rfl⟩
 have hI: ∀{x:Ino},x∈S.inodes-> ∃y∈(setD S d b).inodes,y.num=x.num/\y.dir=x.dir:=by
  intro x hx
  refine⟨_,mem_mapIno.2 ⟨x,hx,rfl⟩,?_⟩
  split <;> exact⟨rfl,rfl⟩
 obtain⟨z,hz,hzd,hzf⟩:=hf
 refine⟨h.m1,h.m8,h.mb,root_map (fun _=>⟨rfl,rfl⟩) h.root,rise_map (fun _=>rfl) h.rise,?_,?_,?_,?_,?_,?_,?_,?_,?_,?_,?_,?_,h.osort⟩
 ·intro y hy;obtain⟨x,hx,e1,e2,e3,e4⟩:=hE hy;rw[e1];exact h.given x hx
 ·intro y hy hd
  obtain⟨x,hx,e1,e2,e3,e4⟩:=hE hy
  rcases e4 with e4 | ⟨e4,_⟩
  ·rw[e4];exact h.isDir x hx (e2▸hd)
  ·have:x=z:=h.ino_inj hx hz (by omega)
   subst this
   rw[e2,hzf]at hd;cases hd
 ·intro y hy hd;obtain⟨x,hx,e1,e2,e3,e4⟩:=hE hy;rw[e3];exact h.isFile x hx (e2▸hd)
 ·intro y hy
  obtain⟨x,hx,e1,e2,e3,e4⟩:=hE hy
  rcases e4 with e4 | ⟨_,e4⟩
  ·rw[e4];exact h.dat x hx
  ·rw[e4];exact hb
 ·intro y hy;obtain⟨x,hx,e1,e2,e3,e4⟩:=hE hy;rw[e3];exact h.nam x hx
 ·intro y hy e he
  obtain⟨x,hx,e1,e2,e3,e4⟩:=hE hy
  rw[e3]at he
  obtain⟨g1,q,hq,g2⟩:=h.goal x hx e he
  obtain⟨q2,hq2,e5,-⟩:=hI hq
  exact⟨g1,q2,hq2,e5.trans g2⟩
 ·intro y hy;obtain⟨x,hx,e1,e2,e3,e4⟩:=hE hy;rw[e3];exact h.up x hx
 ·intro y hy;obtain⟨x,hx,e1,e2,e3,e4⟩:=hE hy;rw[e3];exact h.slots x hx
 ·intro y hy hd;obtain⟨x,hx,e1,e2,e3,e4⟩:=hE hy;rw[e1,links_setD];exact h.one x hx (e2▸hd)
 ·intro y hy hd;obtain⟨x,hx,e1,e2,e3,e4⟩:=hE hy;rw[e1];exact reach_of (fun a y q=>edge_setD.2 q) (h.reach x hx (e2▸hd))
 ·intro y hy hd;obtain⟨x,hx,e1,e2,e3,e4⟩:=hE hy;rw[e1,links_setD];exact h.file x hx (e2▸hd)
 ·intro o ho
  obtain⟨h1,h2,h3,h4,q,hq,h5,h6⟩:=h.ok o ho
  obtain⟨q2,hq2,e5,e6⟩:=hI hq
  exact⟨h1,h2,h3,h4,q2,hq2,e5.trans h5,e6.trans h6⟩
def ltO(a b:Int×Int×Int):Bool:=decide (a.1<b.1)|| (a.1==b.1&&decide (a.2.1<b.2.1))
def grabS(S:St)(o:Int×Int×Int):St:={S with opens:=insBy ltO o S.opens}
theorem Inv.grab{S:St}(h:Inv S){o:Int×Int×Int}(h1:0<=o.1)(h2:o.1<S.made.length)(h3:0<=o.2.1)(h4:o.2.1<4)(h5: ∃y∈S.inodes,y.num=o.2.2/\y.dir=false)(h6: ∀q∈S.opens,¬ (q.1=o.1/\q.2.1=o.2.1)):Inv (grabS S o):=by
 refine⟨h.m1,h.m8,h.mb,h.root,h.rise,h.given,h.isDir,h.isFile,h.dat,h.nam,h.goal,h.up,h.slots,h.one,fun x hx hd=>reach_of (S:=S) (S':=grabS S o) (fun _ _ q=>q) (h.reach x hx hd),fun x hx hd=>?_,fun q hq=>?_,?_⟩
 ·rcases h.file x hx hd with q | ⟨q,hq,e⟩
  ·exact .inl q
  ·exact .inr ⟨q,mem_insBy.2 (.inr hq),e⟩
 ·rcases mem_insBy.1 hq with rfl | hq
  ·exact⟨h1,h2,h3,h4,h5⟩
  ·exact h.ok q hq
 ·refine pair_insBy (fun a b c hab hbc=>?_) h.osort (fun e _ hl=>?_) fun e he hl=>?_
  ·rcases hab with q | ⟨q,q2⟩ <;> rcases hbc with q3 | ⟨q3,q4⟩ <;> omega
  ·unfold ltO at hl
   simp at hl
   omega
  ·unfold ltO at hl
   have h7:=h6 e he
   simp at hl
   omega
end
section
set_option maxHeartbeats 1000000
section
variable{S:St}{d:Int}{L:List (ByteArray×Int)}
theorem edge_setE{x0:Ino}(hx:x0∈S.inodes)(hd:x0.num=d)(hdir:x0.dir=true){a y:Int}:Edge (setE S d L) a y↔(a≠d/\Edge S a y)∨(a=d/\ ∃e∈L,e.2=y):=by
 unfold Edge
 constructor
 ·rintro⟨x,hx1,h1,h2,e,he,h3⟩
  obtain⟨z,hz,rfl⟩:=mem_mapIno.1 hx1
  by_cases q:z.num=d
  ·rw[if_pos q]at h1 h2 he
   exact .inr ⟨h1.symm.trans q,e,he,h3⟩
  ·rw[if_neg q]at h1 h2 he
   exact .inl ⟨fun e2=>q (h1.trans e2),z,hz,h1,h2,e,he,h3⟩
 ·rintro(⟨q,x,hx1,h1,h2,h3⟩ | ⟨rfl,e,he,h3⟩)
  ·exact⟨_,mem_mapIno.2 ⟨x,hx1,rfl⟩,by rw[if_neg (by omega)];exact h1,by rw[if_neg (by omega)];exact h2,by rw[if_neg (by omega)];exact h3⟩
  ·exact⟨_,mem_mapIno.2 ⟨x0,hx,rfl⟩,by rw[if_pos hd];exact hd,by rw[if_pos hd];exact hdir,by rw[if_pos hd];exact⟨e,he,h3⟩⟩
theorem count_setE(h:Inv S){x0:Ino}(hx:x0∈S.inodes)(hd:x0.num=d)(hdir:x0.dir=true)(y:Int):(links (setE S d L)).count y+ (x0.ents.map (·.2)).count y=(links S).count y+ (L.map (·.2)).count y:=by
 rw[count_links,count_links]
 have e:((setE S d L).inodes.map fun x=>(linksOf x).count y)=S.inodes.map fun x=>(linksOf (if x.num=d then {x with ents:=L}else x)).count y:=by
  unfold setE mapIno
  rw[List.map_map];rfl
 rw[e]
 have h1:=sum_turn (h:=fun x=>(linksOf x).count y) (h':=fun x=>(linksOf (if x.num=d then {x with ents:=L}else x)).count y) h.rise hx hd (fun x _ q=>by simp only[if_neg q])
 have e1:linksOf x0=x0.ents.map (·.2):=by unfold linksOf;rw[if_pos hdir]
 have e2:linksOf (if x0.num=d then {x0 with ents:=L}else x0)=L.map (·.2):=by
  rw[if_pos hd];unfold linksOf;rw[if_pos (show({x0 with ents:=L}:Ino).dir=true from hdir)]
 rw[e1,e2]at h1
 exact h1
theorem of_setE{y:Ino}(hy:y∈(setE S d L).inodes): ∃x∈S.inodes,y.num=x.num/\y.dir=x.dir/\y.data=x.data/\ ((x.num≠d/\y.ents=x.ents)∨(x.num=d/\y.ents=L)):=by
 obtain⟨x,hx,rfl⟩:=mem_mapIno.1 hy
 refine⟨x,hx,?_⟩
 by_cases e:x.num=d
 ·rw[if_pos e];exact⟨rfl,rfl,rfl,.inr ⟨e,rfl⟩⟩
 ·rw[if_neg e];exact⟨rfl,rfl,rfl,.inl ⟨e,rfl⟩⟩
theorem to_setE{x:Ino}(hx:x∈S.inodes): ∃y∈(setE S d L).inodes,y.num=x.num/\y.dir=x.dir:=by
 refine⟨_,mem_mapIno.2 ⟨x,hx,rfl⟩,?_⟩
 split <;> exact⟨rfl,rfl⟩
end
end
section
set_option maxHeartbeats 1000000
def ltE(a b:ByteArray×Int):Bool:=nlt a.1 b.1
def insE(p:ByteArray×Int)(L:List (ByteArray×Int)):List (ByteArray×Int):=insBy ltE p L
def dropE(nm:ByteArray)(L:List (ByteArray×Int)):List (ByteArray×Int):=L.filter fun e=>!decide (e.1=nm)
theorem insE_up{p:ByteArray×Int}{L:List (ByteArray×Int)}(h:L.Pairwise (fun a b=>nlt a.1 b.1=true))(hp: ∀e∈L,e.1≠p.1):(insE p L).Pairwise (fun a b=>nlt a.1 b.1=true):=
 pair_insBy (lt:=ltE) (p:=p) (R:=fun a b:ByteArray×Int=>nlt a.1 b.1=true) (fun _ _ _=>nlt_trans) h (fun _ _ q=>q) fun e he q=>by
  rcases nlt_tri p.1 e.1 with q2 | q2 | q2
  ·rw[show nlt p.1 e.1=false from q]at q2;cases q2
  ·exact absurd q2.symm (hp e he)
  ·exact q2
theorem insE_slots{p:ByteArray×Int}{L:List (ByteArray×Int)}(h: ∀q,(L.filter fun e=>nbucket e.1==q).length<=4)(hp:(L.filter fun e=>nbucket e.1==nbucket p.1).length<4)(q:Nat):((insE p L).filter fun e=>nbucket e.1==q).length<=4:=by
 unfold insE
 rw[((perm_insBy L).filter _).length_eq,List.filter_cons]
 by_cases e:nbucket p.1=q
 ·subst e
  rw[if_pos (by simp)]
  simp only[List.length_cons]
  omega
 ·rw[if_neg (by simpa using e)]
  exact h q
theorem mem_insE{p e:ByteArray×Int}{L:List (ByteArray×Int)}:e∈insE p L↔e=p∨e∈L:=mem_insBy
theorem count_insE(p:ByteArray×Int)(L:List (ByteArray×Int))(y:Int):((insE p L).map (·.2)).count y=(L.map (·.2)).count y+if p.2=y then 1 else 0:=by
 unfold insE
 rw[((perm_insBy L).map _).count_eq,List.map_cons,List.count_cons]
 congr 1
 by_cases e:p.2=y
 ·rw[if_pos e,if_pos (by simpa using e)]
 ·rw[if_neg e,if_neg (by simpa using e)]
section
variable{S:St}{d:Int}
end
end
section
set_option maxHeartbeats 1000000
structure InvB (S:St) (n:Int):Prop where
 m1:1<=S.made.length
 m8:S.made.length<=8
 mb: ∀m∈S.made,0<=m/\m<=32
 root: ∃x,S.inodes[0]? =some x/\x.num=1/\x.dir=true
 rise:S.inodes.Pairwise (fun x y=>x.num<y.num)
 given: ∀x∈S.inodes,x.num≠1->Given S.made x.num
 isDir: ∀x∈S.inodes,x.dir=true->x.data.size=0
 isFile: ∀x∈S.inodes,x.dir=false->x.ents=[]
 dat: ∀x∈S.inodes,x.data.size<=256
 nam: ∀x∈S.inodes,∀e∈x.ents,ncheck e.1=0
 goal: ∀x∈S.inodes,∀e∈x.ents,e.2≠1/\ ∃y∈S.inodes,y.num=e.2
 up: ∀x∈S.inodes,x.ents.Pairwise (fun a b=>nlt a.1 b.1=true)
 slots: ∀x∈S.inodes,∀q,(x.ents.filter fun e=>nbucket e.1==q).length<=4
 one: ∀x∈S.inodes,x.dir=true->x.num≠1->x.num≠n->(links S).count x.num=1
 reach: ∀x∈S.inodes,x.dir=true->x.num≠n->Reach S x.num
 file: ∀x∈S.inodes,x.dir=false->x.num≠n->x.num∈links S∨ ∃o∈S.opens,o.2.2=x.num
 ok: ∀o∈S.opens,0<=o.1/\o.1<S.made.length/\0<=o.2.1/\o.2.1<4/\ ∃y∈S.inodes,y.num=o.2.2/\y.dir=false
 osort:S.opens.Pairwise (fun a b=>a.1<b.1∨a.1=b.1/\a.2.1<b.2.1)
 n1:n≠1
 none: ∀x∈S.inodes,x.num=n->x.ents=[]
 nd: ∀x∈S.inodes,x.num=n->x.dir=true->n∉links S/\ ∀o∈S.opens,o.2.2≠n
end
section
set_option maxHeartbeats 1000000
end
section
set_option maxHeartbeats 1000000
theorem name_inj{L:List (ByteArray×Int)}(h:L.Pairwise (fun a b=>nlt a.1 b.1=true)){a b:ByteArray×Int}(ha:a∈L)(hb:b∈L)(e:a.1=b.1):a=b:=by
 obtain⟨i,hi,rfl⟩:=List.getElem_of_mem ha
 obtain⟨j,hj,rfl⟩:=List.getElem_of_mem hb
 rcases Nat.lt_trichotomy i j with q | q | q
 ·have:=List.pairwise_iff_getElem.1 h i j hi hj q
  rw[e,nlt_irrefl]at this;cases this
 ·subst q;rfl
 ·have:=List.pairwise_iff_getElem.1 h j i hj hi q
  rw[e,nlt_irrefl]at this;cases this
theorem mem_dropE{nm:ByteArray}{L:List (ByteArray×Int)}{e:ByteArray×Int}:e∈dropE nm L↔e∈L/\e.1≠nm:=by
 unfold dropE
 rw[List.mem_filter];simp
theorem count_dropE{L:List (ByteArray×Int)}(h:L.Pairwise (fun a b=>nlt a.1 b.1=true)){p:ByteArray×Int}(hp:p∈L)(y:Int):((dropE p.1 L).map (·.2)).count y+ (if p.2=y then 1 else 0)=(L.map (·.2)).count y:=by
 induction L with
 | nil=>cases hp
 | cons a l ih=>
  obtain⟨h1,h2⟩:=List.pairwise_cons.1 h
  unfold dropE
  rw[List.filter_cons]
  rcases List.mem_cons.1 hp with rfl | hp2
  ·rw[if_neg (by simp),List.map_cons,List.count_cons]
   have:(l.filter fun e=>!decide (e.1=p.1))=l:=List.filter_eq_self.2 fun e he=>by
    have:=h1 e he
    have:e.1≠p.1:=fun q=>by rw[q,nlt_irrefl]at this;cases this
    simpa using this
   rw[this]
   congr 1
   by_cases q:p.2=y
   ·rw[if_pos q,if_pos (by simpa using q)]
   ·rw[if_neg q,if_neg (by simpa using q)]
  ·have hne:a.1≠p.1:=fun q=>by
    have:=h1 p hp2
    rw[q,nlt_irrefl]at this;cases this
   rw[if_pos (by simpa using hne),List.map_cons,List.map_cons,List.count_cons,List.count_cons]
   have:=ih h2 hp2
   unfold dropE at this
   omega
end
section
set_option maxHeartbeats 1000000
section
variable{S:St}{d:Int}
theorem edge_drop(h:Inv S){x0:Ino}(hx:x0∈S.inodes)(hd:x0.num=d)(hdir:x0.dir=true){p:ByteArray×Int}(hp:p∈x0.ents){a y:Int}(he:Edge S a y)(hy:y≠p.2):Edge (setE S d (dropE p.1 x0.ents)) a y:=by
 rw[edge_setE hx hd hdir]
 by_cases q:a=d
 ·obtain⟨x,hx1,h1,h2,e,he,h3⟩:=he
  have:x=x0:=h.ino_inj hx1 hx (by omega)
  subst this
  refine .inr ⟨q,e,mem_dropE.2 ⟨he,fun q2=>?_⟩,h3⟩
  have:=name_inj (h.up _ hx) he hp q2
  subst this
  exact hy h3.symm
 ·exact .inl ⟨q,he⟩
theorem Inv.drop(h:Inv S){x0:Ino}(hx:x0∈S.inodes)(hd:x0.num=d)(hdir:x0.dir=true){p:ByteArray×Int}(hp:p∈x0.ents){y0:Ino}(hy:y0∈S.inodes)(hy1:y0.num=p.2)(hy2:y0.ents=[]):InvB (setE S d (dropE p.1 x0.ents)) p.2:=by
 have hg:=h.goal _ hx p hp
 have hc: ∀y,(links (setE S d (dropE p.1 x0.ents))).count y+ (if p.2=y then 1 else 0)=(links S).count y:=by
  intro y
  have h1:=count_setE (L:=dropE p.1 x0.ents) h hx hd hdir y
  have h2:=count_dropE (h.up _ hx) hp y
  omega
 have hne:y0.num≠d:=fun e=>by
  have:y0=x0:=h.ino_inj hy hx (by omega)
  subst this
  rw[hy2]at hp;cases hp
 have hr: ∀z,Reach S z->z≠p.2->Reach (setE S d (dropE p.1 x0.ents)) z:=by
  intro z hz
  induction hz with
  | root=>exact fun _=>.root
  | step _ he ih=>
   intro hz2
   refine .step (ih fun e=>?_) (edge_drop h hx hd hdir hp he hz2)
   obtain⟨x,hx1,h1,h2,q,hq,h3⟩:=he
   have:x=y0:=h.ino_inj hx1 hy (by omega)
   subst this
   rw[hy2]at hq;cases hq
 have hL: ∀x∈S.inodes,x.num≠p.2->(links (setE S d (dropE p.1 x0.ents))).count x.num=(links S).count x.num:=fun x _ q=>by
  have:=hc x.num
  rw[if_neg (fun e=>q e.symm)]at this
  omega
 have hT: ∀{y:Ino},y∈(setE S d (dropE p.1 x0.ents)).inodes->y.num=p.2-> ∃x∈S.inodes,x=y0/\y.dir=x.dir/\y.ents=[]:=by
  intro y hy3 e
  obtain⟨x,hx1,e1,e2,e3,e4⟩:=of_setE hy3
  have:x=y0:=h.ino_inj hx1 hy (by omega)
  subst this
  refine⟨x,hx1,rfl,e2,?_⟩
  rcases e4 with⟨_,e4⟩ | ⟨e4,_⟩
  ·rw[e4,hy2]
  ·exact absurd e4 hne
 refine⟨h.m1,h.m8,h.mb,root_map (fun _=>⟨rfl,rfl⟩) h.root,rise_map (fun _=>rfl) h.rise,?_,?_,?_,?_,?_,?_,?_,?_,?_,?_,?_,?_,h.osort,hg.1,?_,?_⟩
 ·intro y hy;obtain⟨x,hx,e1,e2,e3,e4⟩:=of_setE hy;rw[e1];exact h.given x hx
 ·intro y hy hd;obtain⟨x,hx,e1,e2,e3,e4⟩:=of_setE hy;rw[e3];exact h.isDir x hx (e2▸hd)
 ·intro y hy hf
  obtain⟨x,hx1,e1,e2,e3,e4⟩:=of_setE hy
  rcases e4 with⟨-,e4⟩ | ⟨e4,-⟩
  ·rw[e4];exact h.isFile x hx1 (e2▸hf)
  ·have:x=x0:=h.ino_inj hx1 hx (by omega)
   subst this
   rw[e2,hdir]at hf;cases hf
 ·intro y hy;obtain⟨x,hx,e1,e2,e3,e4⟩:=of_setE hy;rw[e3];exact h.dat x hx
 ·intro y hy e he
  obtain⟨x,hx1,e1,e2,e3,e4⟩:=of_setE hy
  rcases e4 with⟨-,e4⟩ | ⟨-,e4⟩
  ·rw[e4]at he;exact h.nam x hx1 e he
  ·rw[e4]at he;exact h.nam x0 hx e (mem_dropE.1 he).1
 ·intro y hy e he
  obtain⟨x,hx1,e1,e2,e3,e4⟩:=of_setE hy
  have hk:e.2≠1/\ ∃y∈S.inodes,y.num=e.2:=by
   rcases e4 with⟨-,e4⟩ | ⟨-,e4⟩
   ·rw[e4]at he;exact h.goal x hx1 e he
   ·rw[e4]at he;exact h.goal x0 hx e (mem_dropE.1 he).1
  obtain⟨k1,q,hq,k2⟩:=hk
  obtain⟨q2,hq2,e5,-⟩:=to_setE (d:=d) (L:=dropE p.1 x0.ents) hq
  exact⟨k1,q2,hq2,e5.trans k2⟩
 ·intro y hy
  obtain⟨x,hx1,e1,e2,e3,e4⟩:=of_setE hy
  rcases e4 with⟨-,e4⟩ | ⟨-,e4⟩
  ·rw[e4];exact h.up x hx1
  ·rw[e4];exact(h.up x0 hx).filter _
 ·intro y hy q
  obtain⟨x,hx1,e1,e2,e3,e4⟩:=of_setE hy
  rcases e4 with⟨-,e4⟩ | ⟨-,e4⟩
  ·rw[e4];exact h.slots x hx1 q
  ·rw[e4];exact Nat.le_trans ((List.filter_sublist (l:=x0.ents)).filter _).length_le (h.slots x0 hx q)
 ·intro y hy hd h1 h2;obtain⟨x,hx,e1,e2,e3,e4⟩:=of_setE hy;rw[e1,hL x hx (e1▸h2)];exact h.one x hx (e2▸hd) (e1▸h1)
 ·intro y hy hd h1;obtain⟨x,hx,e1,e2,e3,e4⟩:=of_setE hy;rw[e1];exact hr _ (h.reach x hx (e2▸hd)) (e1▸h1)
 ·intro y hy hd h1
  obtain⟨x,hx,e1,e2,e3,e4⟩:=of_setE hy
  rw[e1]
  rcases h.file x hx (e2▸hd)with q | q
  ·exact .inl (List.count_pos_iff.1 (by rw[hL x hx (e1▸h1)];exact List.count_pos_iff.2 q))
  ·exact .inr q
 ·intro o ho
  obtain⟨h1,h2,h3,h4,q,hq,h5,h6⟩:=h.ok o ho
  obtain⟨q2,hq2,e5,e6⟩:=to_setE (d:=d) (L:=dropE p.1 x0.ents) hq
  exact⟨h1,h2,h3,h4,q2,hq2,e5.trans h5,e6.trans h6⟩
 ·intro y hy e;obtain⟨x,_,_,_,e2⟩:=hT hy e;exact e2
 ·intro y hy3 e hdy
  obtain⟨x,hx1,rfl,e2,_⟩:=hT hy3 e
  rw[e2]at hdy
  refine⟨fun q=>?_,fun o ho q=>?_⟩
  ·have h1:=List.count_pos_iff.2 q
   have h2:=h.one x hx1 hdy (by rw[hy1];exact hg.1)
   have h3:=hc p.2
   rw[if_pos rfl]at h3
   rw[hy1]at h2
   omega
  ·obtain⟨-,-,-,-,z,hz,h5,h6⟩:=h.ok o ho
   have:z=x:=h.ino_inj hz hx1 (by omega)
   subst this
   rw[h6]at hdy;cases hdy
end
end
section
set_option maxHeartbeats 1000000
def ltN(a b:Ino):Bool:=decide (a.num<b.num)
def makeS(S:St)(c:Nat)(d:Int)(L:List (ByteArray×Int))(x:Ino):St:={inodes:=insBy ltN x (setE S d L).inodes,opens:=S.opens,made:=S.made.set c (S.mad c+1)}
theorem given_more{M:List Int}{c:Nat}{x:Int}(hc:c<M.length)(h:Given M x):Given (M.set c (M.getD c 0+1)) x:=by
 obtain⟨h1,h2,h3⟩:=h
 refine⟨h1,by rw[List.length_set];exact h2,?_⟩
 rw[List.getD_eq_getElem?_getD,List.getElem?_set]
 by_cases q:c=((x - 2) % 8).toNat
 ·rw[if_pos q,if_pos (by omega)]
  show _<M.getD c 0+1
  rw[<-q]at h3
  omega
 ·rw[if_neg q,<-List.getD_eq_getElem?_getD]
  exact h3
section
variable{S:St}{d:Int}
theorem Inv.fresh(h:Inv S){c:Nat}(hc:c<S.made.length): ∀x∈S.inodes,x.num≠2+ (c:Int)+8*S.mad c:=by
 intro x hx e
 have h8:=h.m8
 have h0:=(h.mb _ (getD_mem (d:=0) hc)).1
 have h0:0<=S.mad c:=h0
 obtain⟨h1,h2,h3⟩:=h.given x hx (by omega)
 have e1:((x.num - 2) % 8).toNat=c:=by omega
 rw[e1]at h3
 have h3:(x.num - 2) / 8<S.mad c:=h3
 omega
theorem Inv.make(h:Inv S){x0:Ino}(hx:x0∈S.inodes)(hd:x0.num=d)(hdir:x0.dir=true){c:Nat}(hc:c<S.made.length)(h32:S.mad c<32){nm:ByteArray}{num:Int}(hnum:num=2+ (c:Int)+8*S.mad c)(hn:ncheck nm=0)(hp: ∀e∈x0.ents,e.1≠nm)
  (hs:(x0.ents.filter fun e=>nbucket e.1==nbucket nm).length<4) (dr:Bool):Inv (makeS S c d (insE (nm,num) x0.ents) ⟨num,dr,[],nm0⟩):=by
 generalize hS':makeS S c d (insE (nm,num) x0.ents) ⟨num,dr,[],nm0⟩=S'
 have hfr:=h.fresh hc
 rw[<-hnum]at hfr
 have hmc:=h.mb _ (getD_mem (d:=0) hc)
 have hmc:0<=S.mad c/\S.mad c<=32:=hmc
 have hI:S'.inodes=insBy ltN ⟨num,dr,[],nm0⟩ (setE S d (insE (nm,num) x0.ents)).inodes:=by rw[<-hS'];rfl
 have hO:S'.opens=S.opens:=by rw[<-hS'];rfl
 have hM:S'.made=S.made.set c (S.mad c+1):=by rw[<-hS'];rfl
 have hmem: ∀{y:Ino},y∈S'.inodes↔y=⟨num,dr,[],nm0⟩∨y∈(setE S d (insE (nm,num) x0.ents)).inodes:=by intro y;rw[hI];exact mem_insBy
 have hE1: ∀a y,Edge S a y->Edge S' a y:=by
  intro a y he
  have:Edge (setE S d (insE (nm,num) x0.ents)) a y:=by
   rw[edge_setE hx hd hdir]
   by_cases q:a=d
   ·obtain⟨x,hx1,h1,h2,e,he,h3⟩:=he
    have:x=x0:=h.ino_inj hx1 hx (by omega)
    subst this
    exact .inr ⟨q,e,mem_insE.2 (.inr he),h3⟩
   ·exact .inl ⟨q,he⟩
  obtain⟨x,hx1,h1⟩:=this
  exact⟨x,hmem.2 (.inr hx1),h1⟩
 have hE2:Edge S' d num:=by
  have:Edge (setE S d (insE (nm,num) x0.ents)) d num:=(edge_setE hx hd hdir).2 (.inr ⟨rfl,_,mem_insE.2 (.inl rfl),rfl⟩)
  obtain⟨x,hx1,h1⟩:=this
  exact⟨x,hmem.2 (.inr hx1),h1⟩
 have hc2: ∀y,(links S').count y=(links S).count y+if num=y then 1 else 0:=by
  intro y
  have h1:=count_setE (L:=insE (nm,num) x0.ents) h hx hd hdir y
  rw[count_insE]at h1
  have h2:(links S').count y=(links (setE S d (insE (nm,num) x0.ents))).count y:=by
   unfold links
   rw[hI,((perm_insBy _).flatMap_right linksOf).count_eq,List.flatMap_cons,List.count_append]
   have:(linksOf (⟨num,dr,[],nm0⟩:Ino)).count y=0:=by unfold linksOf;cases dr <;> rfl
   rw[this,Nat.zero_add]
  rw[h2]
  simp only at h1
  omega
 have hz:(links S).count num=0:=by
  refine List.count_eq_zero.2 fun q=>?_
  obtain⟨a,x,hx1,-,-,e,he,h3⟩:=mem_links.1 q
  obtain⟨-,y,hy,h4⟩:=h.goal x hx1 e he
  exact hfr y hy (h4.trans h3)
 have hr0:Reach S' num:=.step (reach_of hE1 (hd▸h.reach x0 hx hdir)) hE2
 have hc0:(c:Int)<S.made.length:=by omega
 have hnew:Given S'.made num:=by
  rw[hM]
  have e1:((num - 2) % 8).toNat=c:=by have:=h.m8;omega
  refine⟨by omega,by rw[List.length_set];have:=h.m8;omega,?_⟩
  rw[e1,List.getD_eq_getElem?_getD,List.getElem?_set,if_pos rfl,if_pos hc]
  show _<S.mad c+1
  have:=h.m8
  omega
 have hroot: ∃x,S'.inodes[0]? =some x/\x.num=1/\x.dir=true:=by
  obtain⟨r,g0,g1,g2⟩:=root_map (S:=S) (d:=d) (f:=fun x=>{x with ents:=insE (nm,num) x0.ents}) (fun _=>⟨rfl,rfl⟩) h.root
  refine⟨r,?_,g1,g2⟩
  rw[hI]
  show(insBy ltN _ (mapIno S d fun x=>{x with ents:=insE (nm,num) x0.ents}).inodes)[0]? =_
  cases hl:(mapIno S d fun x=>{x with ents:=insE (nm,num) x0.ents}).inodes with
  | nil=>rw[hl]at g0;cases g0
  | cons z l=>
   rw[hl]at g0
   obtain rfl:z=r:=by simpa using g0
   rw[insBy_head (by unfold ltN;simp;omega)];rfl
 have hrise:S'.inodes.Pairwise (fun x y=>x.num<y.num):=by
  rw[hI]
  refine pair_insBy (lt:=ltN) (R:=fun x y:Ino=>x.num<y.num) (fun _ _ _=>Int.lt_trans) (rise_map (fun _=>rfl) h.rise) (fun e _ q=>by unfold ltN at q;simpa using q) fun e he q=>?_
  obtain⟨x,hx1,e1,-⟩:=of_setE he
  have:=hfr x hx1
  have q2: ¬ (num<e.num):=of_decide_eq_false q
  show e.num<num
  omega
 have hp2: ∀e∈x0.ents,e.1≠((nm,num):ByteArray×Int).1:=hp
 have hne1:num≠1:=by omega
 refine⟨by rw[hM,List.length_set];exact h.m1,by rw[hM,List.length_set];exact h.m8,?_,hroot,hrise,?_,?_,?_,?_,?_,?_,?_,?_,?_,?_,?_,?_,by rw[hO];exact h.osort⟩
 ·intro m hm
  rw[hM]at hm
  rcases List.mem_or_eq_of_mem_set hm with q | q
  ·exact h.mb m q
  ·omega
 ·intro y hy hy1
  rcases hmem.1 hy with rfl | hy
  ·exact hnew
  ·obtain⟨x,hx1,e1,-⟩:=of_setE hy
   rw[e1,hM]
   exact given_more hc (h.given x hx1 (e1▸hy1))
 ·intro y hy hdy
  rcases hmem.1 hy with rfl | hy
  ·rfl
  ·obtain⟨x,hx1,e1,e2,e3,e4⟩:=of_setE hy
   rw[e3];exact h.isDir x hx1 (e2▸hdy)
 ·intro y hy hdy
  rcases hmem.1 hy with rfl | hy
  ·rfl
  ·obtain⟨x,hx1,e1,e2,e3,e4⟩:=of_setE hy
   rcases e4 with⟨-,e4⟩ | ⟨e4,-⟩
   ·rw[e4];exact h.isFile x hx1 (e2▸hdy)
   ·have:x=x0:=h.ino_inj hx1 hx (by omega)
    subst this
    rw[e2,hdir]at hdy;cases hdy
 ·intro y hy
  rcases hmem.1 hy with rfl | hy
  ·exact Nat.zero_le _
  ·obtain⟨x,hx1,e1,e2,e3,e4⟩:=of_setE hy
   rw[e3];exact h.dat x hx1
 ·intro y hy e he
  rcases hmem.1 hy with rfl | hy
  ·cases he
  ·obtain⟨x,hx1,e1,e2,e3,e4⟩:=of_setE hy
   rcases e4 with⟨-,e4⟩ | ⟨-,e4⟩
   ·rw[e4]at he;exact h.nam x hx1 e he
   ·rw[e4]at he
    rcases mem_insE.1 he with rfl | he
    ·exact hn
    ·exact h.nam x0 hx e he
 ·intro y hy e he
  have hold:(e.2≠1/\ ∃y∈S.inodes,y.num=e.2)->e.2≠1/\ ∃y∈S'.inodes,y.num=e.2:=by
   rintro⟨k1,q,hq,k2⟩
   obtain⟨q2,hq2,e5,-⟩:=to_setE (d:=d) (L:=insE (nm,num) x0.ents) hq
   exact⟨k1,q2,hmem.2 (.inr hq2),e5.trans k2⟩
  rcases hmem.1 hy with rfl | hy
  ·cases he
  ·obtain⟨x,hx1,e1,e2,e3,e4⟩:=of_setE hy
   rcases e4 with⟨-,e4⟩ | ⟨-,e4⟩
   ·rw[e4]at he;exact hold (h.goal x hx1 e he)
   ·rw[e4]at he
    rcases mem_insE.1 he with rfl | he
    ·exact⟨hne1,_,hmem.2 (.inl rfl),rfl⟩
    ·exact hold (h.goal x0 hx e he)
 ·intro y hy
  rcases hmem.1 hy with rfl | hy
  ·exact .nil
  ·obtain⟨x,hx1,e1,e2,e3,e4⟩:=of_setE hy
   rcases e4 with⟨-,e4⟩ | ⟨-,e4⟩
   ·rw[e4];exact h.up x hx1
   ·rw[e4];exact insE_up (h.up x0 hx) hp2
 ·intro y hy q
  rcases hmem.1 hy with rfl | hy
  ·exact Nat.zero_le _
  ·obtain⟨x,hx1,e1,e2,e3,e4⟩:=of_setE hy
   rcases e4 with⟨-,e4⟩ | ⟨-,e4⟩
   ·rw[e4];exact h.slots x hx1 q
   ·rw[e4];exact insE_slots (h.slots x0 hx) hs q
 ·intro y hy hdy hy1
  rw[hc2]
  rcases hmem.1 hy with rfl | hy
  ·rw[if_pos rfl]
   show(links S).count num+1=1
   omega
  ·obtain⟨x,hx1,e1,e2,e3,e4⟩:=of_setE hy
   rw[e1,h.one x hx1 (e2▸hdy) (e1▸hy1),if_neg (fun q=>hfr x hx1 q.symm)]
 ·intro y hy hdy
  rcases hmem.1 hy with rfl | hy
  ·exact hr0
  ·obtain⟨x,hx1,e1,e2,e3,e4⟩:=of_setE hy
   rw[e1];exact reach_of hE1 (h.reach x hx1 (e2▸hdy))
 ·intro y hy hdy
  rcases hmem.1 hy with rfl | hy
  ·exact .inl (mem_links.2 ⟨d,hE2⟩)
  ·obtain⟨x,hx1,e1,e2,e3,e4⟩:=of_setE hy
   rw[e1,hO]
   rcases h.file x hx1 (e2▸hdy)with q | q
   ·obtain⟨a,ha⟩:=mem_links.1 q
    exact .inl (mem_links.2 ⟨a,hE1 _ _ ha⟩)
   ·exact .inr q
 ·intro o ho
  rw[hO]at ho
  obtain⟨h1,h2,h3,h4,q,hq,h5,h6⟩:=h.ok o ho
  obtain⟨q2,hq2,e5,e6⟩:=to_setE (d:=d) (L:=insE (nm,num) x0.ents) hq
  exact⟨h1,by rw[hM,List.length_set];exact h2,h3,h4,q2,hmem.2 (.inr hq2),e5.trans h5,e6.trans h6⟩
end
end
section
open Go.RowKit
set_option maxHeartbeats 2000000
theorem own_grown{w w':World}{base:Nat}{e:TypeId}{k n:Nat}{v:Value}{xs:List Value}{r:Option Nat}(h:w.ownsRow base e k v n xs)(hg:w.grownBy w' r)(hne: ∀b,v.ownBlock=some b->r≠some b):w'.ownsRow base e k v n xs:=by
 refine⟨h.1,?_⟩
 rcases h.2 with q | ⟨g,cap,cur,hv,hb,hh,h1⟩
 ·exact .inl q
 ·have hlt:g<w.heap.size:=Blk.lt (show Blk w g e cur from hh)
  exact .inr ⟨g,cap,cur,hv,hb,(hg.block g hlt (fun q=>hne g (by rw[hv];rfl) q.symm)).trans hh,h1⟩
theorem blk_grow{w w':World}{g:Nat}{t:TypeId}{cs:Array Value}{r:Option Nat}(h:Blk w g t cs)(hg:w.grownBy w' r)(hne:r≠some g):Blk w' g t cs:=(hg.block g h.lt (Ne.symm hne)).trans h
theorem below_grow{w w':World}{base:Nat}{r:Option Nat}(hg:w.grownBy w' r)(hb:base<=w.heap.size)(hr: ∀b,r=some b->base<=b):Below base w w':=
 ⟨hg.os,hg.tape,hg.output,hg.size,fun b h=>hg.block b (by omega) (fun e=>by have:=hr b e.symm;omega)⟩
def St.setI(S:St)(k:Nat)(x:Ino):St:={S with inodes:=S.inodes.set k x}
namespace StO
variable{w w1:World}{base g n cap:Nat}{ov mv:Value}{Iv:List InV}{S:St}
theorem len'{iv:Value}(h:StO w base iv ov mv Iv S):Iv.length=S.inodes.length:=by rw[<-h.len,List.length_map]
theorem at_{iv:Value}(h:StO w base iv ov mv Iv S){k:Nat}(hk:k<Iv.length):Iv[k].1=S.ino k:=by
 have hk':k<S.inodes.length:=by rw[<-h.len'];exact hk
 show _=S.inodes.getD k noIno
 rw[getD_lt hk']
 simp only[<-h.len,List.getElem_map]
theorem putE(h:StO w base (.slice (some ⟨g,0,none⟩) n cap) ov mv Iv S){k:Nat}(hk:k<Iv.length)(hn:n=Iv.length)(hg:w.grownBy w1 Iv[k].2.ownBlock){v':Value}{L:List En}(hown:w1.ownsRow base 132 2 v' L.length (L.flatMap encEn))(hb:v'.ownBlock=Iv[k].2.ownBlock∨v'.ownBlock=some w.heap.size):
  StO (w1.setCell ⟨g,k*4+2,none⟩ v') base (.slice (some ⟨g,0,none⟩) n cap) ov mv (Iv.set k ({Iv[k].1 with ents:=L},v')) (S.setI k {Iv[k].1 with ents:=L}):=by
 have hek:=h.ent k hk
 have hty: ∀{e:TypeId} {j m:Nat} {v:Value} {xs:List Value},w.ownsRow base e j v m xs->e≠132-> ∀b,v.ownBlock=some b->Iv[k].2.ownBlock≠some b:=fun ho he b h1 h2=>by
  obtain⟨-,cs,q⟩:=own_type ho h1
  obtain⟨-,cs',q'⟩:=own_type hek h2
  exact Blk.ne_ q q' he rfl
 have hino:=own_grown h.ino hg (hty h.ino (by decide))
 have hopn:=own_grown h.opn hg (hty h.opn (by decide))
 have hmad:=own_grown h.mad hg (hty h.mad (by decide))
 have hent: ∀i (hi:i<Iv.length),i≠k->w1.ownsRow base 132 2 Iv[i].2 Iv[i].1.ents.length (Iv[i].1.ents.flatMap encEn):=fun i hi hik=>own_grown (h.ent i hi) hg (fun b h1 h2=>h.apart i k hi hk hik b h1 h2)
 obtain⟨-,gcs,hG⟩:=own_type hino rfl
 have hfar: ∀{e:TypeId} {j m:Nat} {v:Value} {xs:List Value},w1.ownsRow base e j v m xs->e≠93->(w1.setCell ⟨g,k*4+2,none⟩ v').ownsRow base e j v m xs:=fun ho he=>ownsRow_setCell_other ho (a:=⟨g,k*4+2,none⟩) (fun q=>by
  obtain⟨-,cs',hq⟩:=own_type ho q
  exact Blk.ne_ hq hG he rfl) _
 have hgt: ∀{i:Nat} (hi:i< (Iv.set k ({Iv[k].1 with ents:=L},v')).length),(Iv.set k ({Iv[k].1 with ents:=L},v'))[i]=if k=i then({Iv[k].1 with ents:=L},v')else Iv[i]'(by simpa using hi):=fun hi=>List.getElem_set ..
 have hold: ∀i (hi:i<Iv.length),∀q,Iv[i].2.ownBlock=some q->q<w.heap.size:=fun i hi q hq=>((h.ent i hi).lt q hq).2
 have hap: ∀i (hi:i<Iv.length),i≠k-> ∀b,Iv[i].2.ownBlock=some b->v'.ownBlock≠some b:=fun i hi hik b h1 h2=>by
  rcases hb with hb | hb
  ·exact h.apart i k hi hk hik b h1 (by rw[<-hb];exact h2)
  ·have:=hold i hi b h1
   rw[hb]at h2
   injection h2
   omega
 refine⟨?_,?_,fun i hi=>?_,fun i j hi hj hij=>?_,hfar hopn (by decide),hfar hmad (by decide)⟩
 ·rw[List.map_set]
  show(Iv.map (·.1)).set k _=S.inodes.set k _
  rw[h.len]
 ·subst hn
  have hs:=flat_setK (enc:=encI) (k:=4) (by decide) encI_len ({Iv[k].1 with ents:=L},v') 2 v' Iv k hk (by decide) rfl
  rw[List.length_set,hs]
  exact own_set hino (t:=k*4+2) (by omega) v'
 ·rw[hgt hi]
  by_cases e:k=i
  ·rw[if_pos e]
   exact hfar hown (by decide)
  ·rw[if_neg e]
   exact hfar (hent i (by simpa using hi) (Ne.symm e)) (by decide)
 ·rw[hgt hi,hgt hj]
  intro b
  by_cases e1:k=i
  ·rw[if_pos e1]
   have e2:k≠j:=fun e=>hij (e1.symm.trans e)
   rw[if_neg e2]
   exact fun h1 h2=>hap j (by simpa using hj) (Ne.symm e2) b h2 h1
  ·rw[if_neg e1]
   by_cases e2:k=j
   ·rw[if_pos e2]
    exact hap i (by simpa using hi) (Ne.symm e1) b
   ·rw[if_neg e2]
    exact h.apart i j (by simpa using hi) (by simpa using hj) hij b
end StO
theorem ins_at{l:List (ByteArray×Int)}{p:ByteArray×Int}{k:Nat}(hk:k<=l.length)(h1: ∀i,i<k->nlt (enmL l i) p.1=true)(h2: ∀i,k<=i->i<l.length->nlt (enmL l i) p.1=false)(h3: ∀e∈l,e.1≠p.1):l.take k++p::l.drop k=insE p l:=by
 induction l generalizing k with
 | nil=>simp at hk;subst hk;rfl
 | cons e l ih=>
  have he:enmL (e::l) 0=e.1:=rfl
  unfold insE insBy ltE
  cases k with
  | zero=>
   have h:=h2 0 (Nat.le_refl _) (by simp)
   rw[he]at h
   have hl:nlt p.1 e.1=true:=by
    rcases nlt_tri e.1 p.1 with q | q | q
    ·rw[q]at h;cases h
    ·exact absurd q (h3 e List.mem_cons_self)
    ·exact q
   rw[if_pos hl];rfl
  | succ k=>
   have h:=h1 0 (by omega)
   rw[he]at h
   have hl: ¬ nlt p.1 e.1=true:=fun q=>by
    have:=nlt_trans h q
    rw[nlt_irrefl]at this
    cases this
   rw[if_neg hl]
   have:=ih (k:=k) (by simpa using hk) (fun i hi=>h1 (i+1) (by omega)) (fun i ha hb=>h2 (i+1) (by omega) (by simpa using hb)) (fun e he=>h3 e (List.mem_cons_of_mem _ he))
   unfold insE ltE at this
   rw[List.take_succ_cons,List.drop_succ_cons,List.cons_append,this]
end
section
open Go.RowKit
set_option maxHeartbeats 1000000
set_option maxRecDepth 1000000 in
theorem createc_calls(a b:Int)(ha:0<=a/\a<=1000000)(hb:0<=b/\b<=1000000)(d:Bool)(A:Option Addr)(n cap:Nat)(s:ByteArray)(w:World):
  Calls Tryz.prog 121 #[.agg #[.int .i64 a,.bool d,.slice A n cap,.string s],.int .i64 b] w fun e w'=>e= .returned (.int .i64 (a - b))/\Below w.heap.size w w':=by
 have hB:=(Below.refl w.heap.size w).alloc (Nat.le_refl _) (.cells #[.int .i64 a,.bool d,.slice A n cap,.string s] 93)
 have hw:IntKind.i64.wrap (a - b)=a - b:=by rw[IntKind.wrap_i64];omega
 go_enter Tryz.func121,Tryz.ntmps121
 go_wp2
 go_ret
 exact⟨rfl,hB⟩
set_option maxRecDepth 1000000 in
theorem bsC_calls{w:World}{iv ov mv:Value}{ev:Nat->Value}{S:St}(hS:StM w iv ov mv ev S)(hn:S.inodes.length<=1000)(x:Int)(hx:0<=x/\x<=1000000)(hnum: ∀i,i<S.inodes.length->0<=S.num i/\S.num i<=1000000)(hlt: ∀i j,i<j->j<S.inodes.length->S.num i<S.num j):
  Calls Tryz.prog 120 #[iv,.int .i64 x,.func (.func 121) #[] #[]] w fun e w'=>(∃k:Nat,k<=S.inodes.length/\ (∀i,i<k->S.num i<x)/\ (∀i,k<=i->i<S.inodes.length->x<=S.num i)/\e= .returned (.tuple #[.int .i64 k,.bool (decide (k<S.inodes.length)&& (S.num k==x))]))/\Below w.heap.size w w':=by
 have HS:=lhi hS
 have HI:=lhi hS.ino
 obtain⟨A,cap,rfl,hcap,-⟩:=hS.ino
 obtain⟨n,hnn⟩: ∃n,S.inodes.length=n:=⟨_,rfl⟩
 rw[hnn]at hn hlt HI hnum
 rw[hnn]
 have HNN:=lhi hnn
 have HLT:=lhi hlt
 have HNM:=lhi hnum
 clear hS hnn hlt hcap hnum
 go_enter Tryz.func120,Tryz.ntmps120
 go_wp2_with (fail)
 go_loopw [9,10] (fun i j wr=>∃a b:Nat,i= .int .i64 a/\j= .int .i64 b/\a<=b/\b<=n/\ (∀i,i<a->S.num i<x)/\ (∀i,b<=i->i<n->x<=S.num i)/\Below w.heap.size w wr) (fun i j _=>(intOf j).toNat - (intOf i).toNat)
 case atStart=>exact⟨0,n,rfl,rfl,by omega,Nat.le_refl _,fun i hi=>absurd hi (by omega),fun i h1 h2=>absurd h1 (by omega),Below.refl _ _⟩
 case round=>
  obtain⟨a,b,rfl,rfl,hab,hbn,hlo,hhi,hB⟩:=hrel
  have HLO:=lhi hlo
  have HHI:=lhi hhi
  have HB:=lhi hB
  clear hlo hhi hB
  by_cases hp:a<b
  ·have hp1:(a:Int)<b:=by omega
   obtain⟨h,hh⟩: ∃h:Nat,((a:Int)+b) / 2=h:=⟨(a+b) / 2,by omega⟩
   have hha:a<=h/\h<b:=by omega
   have hhn:h<n:=by omega
   have hl1:decide ((h:Int)<n)=true:=by simp;omega
   obtain⟨-,-,g,off,rfl,hcell⟩:=(HI.out.keep HB.out).at_ hhn
   have q0:wr.cell? ⟨g,off+h*4,none⟩=some (.int .i64 (S.num h)):=hcell 0 (by omega)
   have q1:wr.cell? ⟨g,off+h*4+1,none⟩=some (.bool (S.dir h)):=hcell 1 (by omega)
   have q2:wr.cell? ⟨g,off+h*4+2,none⟩=some (ev h):=hcell 2 (by omega)
   have q3:wr.cell? ⟨g,off+h*4+3,none⟩=some (.string (S.dat h)):=hcell 3 (by omega)
   obtain⟨EA,ecap,hev,-⟩:=HS.out.ent h (by rw[HNN.out];exact hhn)
   rw[hev]at q2
   have HC:=lhi (createc_calls (S.num h) x (HNM.out h hhn) hx (S.dir h) EA (S.ne h) ecap (S.dat h) wr)
   have e1:decide (S.num h - x<0)=decide (S.num h<x):=decide_eq_decide.2 (by omega)
   obtain⟨cv,hcv⟩: ∃c,S.num h - x=c:=⟨_,rfl⟩
   rw[hcv]at HC e1
   clear hcell hev hcv
   by_cases hxx:S.num h<x
   ·have e2:cv<0:=by simpa[hxx]using e1
    clear e1
    go_wp2_with (go_at_call 121;refine HC.out.mono ?_;rintro e w1 ⟨rfl,hb1⟩)
    go_roundw
    case rel=>exact⟨h+1,b,by simp,rfl,by omega,hbn,fun i hi=>by
     by_cases e:i=h
     ·subst e;exact hxx
     ·have:=HLT.out i h (by omega) hhn;omega,HHI.out,HB.out.trans (hb1.mono HB.out.size)⟩
    case measure=>
     simp only[intOf]
     omega
   ·have e2: ¬ cv<0:=by simpa[hxx]using e1
    clear e1
    go_wp2_with (go_at_call 121;refine HC.out.mono ?_;rintro e w1 ⟨rfl,hb1⟩)
    go_roundw
    case rel=>exact⟨a,h,rfl,rfl,by omega,by omega,HLO.out,fun i h1 h2=>by
     by_cases e:i=h
     ·subst e;omega
     ·have:=HLT.out h i (by omega) h2;omega,HB.out.trans (hb1.mono HB.out.size)⟩
    case measure=>
     simp only[intOf]
     omega
  ·have e:a=b:=by omega
   subst e
   by_cases hq:a<n
   ·have hq1:(a:Int)<n:=by omega
    obtain⟨-,-,g,off,rfl,hcell⟩:=(HI.out.keep HB.out).at_ hq
    have q0:wr.cell? ⟨g,off+a*4,none⟩=some (.int .i64 (S.num a)):=hcell 0 (by omega)
    have q1:wr.cell? ⟨g,off+a*4+1,none⟩=some (.bool (S.dir a)):=hcell 1 (by omega)
    have q2:wr.cell? ⟨g,off+a*4+2,none⟩=some (ev a):=hcell 2 (by omega)
    have q3:wr.cell? ⟨g,off+a*4+3,none⟩=some (.string (S.dat a)):=hcell 3 (by omega)
    obtain⟨EA,ecap,hev,-⟩:=HS.out.ent a (by rw[HNN.out];exact hq)
    rw[hev]at q2
    have HC:=lhi (createc_calls (S.num a) x (HNM.out a hq) hx (S.dir a) EA (S.ne a) ecap (S.dat a) wr)
    have HE:=lhi (show((S.num a - x)==0)=(S.num a==x)by rw[Bool.eq_iff_iff,beq_iff_eq,beq_iff_eq];omega)
    obtain⟨cv,hcv⟩: ∃c,S.num a - x=c:=⟨_,rfl⟩
    rw[hcv]at HC HE
    clear hcell hev hcv
    go_wp2_with (go_at_call 121;refine HC.out.mono ?_;rintro e w1 ⟨rfl,hb1⟩)
    go_ret2
    exact⟨⟨a,by omega,HLO.out,HHI.out,by simp[hq,<-HE.out]⟩,HB.out.trans (hb1.mono HB.out.size)⟩
   ·have hq1: ¬ (a:Int)<n:=by omega
    go_wp2_with (fail)
    go_ret2
    exact⟨⟨a,by omega,HLO.out,HHI.out,by simp[hq]⟩,HB.out⟩
end
section
open Go.RowKit
set_option maxHeartbeats 2000000
theorem own_cell{w:World}{base:Nat}{e:TypeId}{k g n cap:Nat}{xs:List Value}(h:w.ownsRow base e k (.slice (some ⟨g,0,none⟩) n cap) n xs){t:Nat}(ht:t<n*k):w.cell? ⟨g,t,none⟩=xs[t]?:=by
 rcases h.2 with⟨q,-⟩ | ⟨g',cap',cur,hv,-,hh,-,-,-,hx⟩
 ·cases q
 ·have e1:g=g':=by injection hv with e1;injection e1 with e1;injection e1
  subst e1
  rw[Blk.cell (show Blk w g e cur from hh),<-hx,List.getElem?_take,if_pos ht]
  simp
theorem StO.cell{w:World}{base g n cap:Nat}{ov mv:Value}{Iv:List InV}{S:St}(h:StO w base (.slice (some ⟨g,0,none⟩) n cap) ov mv Iv S)(hn:n=Iv.length){k j:Nat}(hk:k<Iv.length)(hj:j<4):w.cell? ⟨g,k*4+j,none⟩=(encI Iv[k])[j]?:=by
 subst hn
 rw[own_cell h.ino (by omega),flat_get_k (k:=4) (by decide) encI_len,show(k*4+j) / 4=k by omega,show(k*4+j) % 4=j by omega,List.getElem?_eq_getElem hk]
 rfl
set_option maxRecDepth 1000000 in
theorem put_calls{W:World}{base ob db g icap:Nat}{c:CallV}{r:ResV}{ov mv:Value}{Iv:List InV}{S:St}(h:Doer W base ob db c r (.slice (some ⟨g,0,none⟩) S.inodes.length icap) ov mv Iv S){k:Nat}(hk:k<S.inodes.length){s:ByteArray}{num:Int}(hr:RiseL (S.ino k).ents)(hn:(S.ino k).ents.length<=1000)(hs: ∀e∈(S.ino k).ents,e.1≠s):
  Calls Tryz.prog 119 #[.pointer (some ⟨g,k*4,none⟩),.string s,.int .i64 num] W fun e w'=>e= .returned (.tuple #[])/\Below base W w'/\ ∃Iv',Doer w' base ob db c r (.slice (some ⟨g,0,none⟩) S.inodes.length icap) ov mv Iv' (S.setI k {S.ino k with ents:=insE (s,num) (S.ino k).ents}):=by
 have hl:=h.st.len'
 have hkI:k<Iv.length:=by omega
 have hino:=h.st.at_ hkI
 have hek:=h.st.ent k hkI
 have c2:=h.st.cell hl.symm hkI (show 2<4 by omega)
 obtain⟨p,hp⟩: ∃p,Iv[k]=p:=⟨_,rfl⟩
 rw[hp]at hino hek c2
 obtain⟨p1,ev⟩:=p
 replace hino:p1=S.ino k:=hino
 subst hino
 obtain⟨es,hes⟩: ∃es,(S.ino k).ents=es:=⟨_,rfl⟩
 replace hek:W.ownsRow base 132 2 ev es.length (es.flatMap encEn):=by rw[<-hes];exact hek
 rw[hes]at hr hn hs⊢
 have HC:=lhi (entry_calls (own_rowT (by decide) encEn_len hek (cl_entEn _)).at' hn s hr)
 have HEK:=lhi hek
 have HES:=lhi hes
 have HP:=lhi hp
 have H:=lhi h
 have HBS:=lhi h.bs
 have HS:=lhi hs
 obtain⟨EA,ecap,rfl,-⟩:=own_form hek
 replace c2:W.cell? ⟨g,k*4+2,none⟩=some (.slice EA es.length ecap):=c2
 clear hek hes hp h hl hs
 go_enter Tryz.func119,Tryz.ntmps119
 go_upto_region 1 with(go_at_call 93;refine HC.out.mono ?_;rintro e w1 ⟨⟨j,hj,h1,h2,rfl⟩,hb1⟩)
 have HB1:=lhi hb1
 have H1:=lhi (H.out.below hb1)
 replace c2:w1.cell? ⟨g,k*4+2,none⟩=some (.slice EA es.length ecap):=(hb1.cell (World.block_lt_of_cell? _ _ c2)).trans c2
 have HEK1:=lhi (own_below HEK.out hb1)
 have HAT:=lhi (ins_at (p:=(s,num)) hj h1 h2 HS.out)
 have HBL:=lhi (Blk.new w1 132 #[.string s,.int .i64 num])
 have HBA:=lhi ((Below.refl w1.heap.size w1).alloc (Nat.le_refl _) (.cells #[.string s,.int .i64 num] 132))
 have HINS:=lhi (insertE_any (i:=j) (x:=(s,num)) (xb:=w1.heap.size) (own_below HEK1.out HBA.out) hj HBL.out (fun q=>by have:=(HEK1.out.lt _ q).2;omega) (fun y _=>encEn_one y) (by omega) (Nat.le_trans H1.out.bs HBA.out.size))
 clear hb1 h1 h2 HC H HEK
 have H2:=lhi (H1.out.below HBA.out)
 obtain⟨w2,hw2⟩: ∃w2,w2=w1.alloc (.cells #[.string s,.int .i64 num] 132):=⟨_,rfl⟩
 have HG:=lhi (own_type H2.out.st.ino rfl)
 have HEK2:=lhi (own_below HEK1.out HBA.out)
 rw[<-hw2]at HINS H2 HG HEK2 HBA
 clear HBL HEK1
 obtain⟨-,gcs,hG⟩:=HG.out
 have HGB:=lhi (show Blk w2 g 93 gcs from hG)
 have hne:(Value.slice EA es.length ecap).ownBlock≠some g:=own_blk_ne HEK2.out hG (by decide)
 have HNE:=lhi hne
 clear hG hne HG
 go_wp2_with (rw[<-hw2];clear hw2;go_at_call 172;refine HINS.out.mono ?_;rintro e w3 ⟨v',rfl,hown,hgr,hbl⟩;obtain⟨VA,vcap,rfl,-⟩:=own_form hown;have HOW:=lhi hown;have HGR:=lhi hgr;have HBB:=lhi hbl;clear hown hgr hbl HINS;have HG3:=lhi (blk_grow HGB.out HGR.out HNE.out);have c3:w3.cell? ⟨g,k*4+2,none⟩=some (.slice EA es.length ecap):=(HGR.out.cell (a:=⟨g,k*4+2,none⟩) ((HBA.out.cell (World.block_lt_of_cell? _ _ c2)).trans c2) (Ne.symm HNE.out));have f3:w3.frozen? ⟨g,k*4+2,none⟩=false:=HG3.out.frozen _)
 go_end0
 have hl:=H2.out.st.len'
 have hp:=HP.out
 have hb: ∀q,(Value.slice EA es.length ecap).ownBlock=some q->base<=q:=fun q hq=>(HEK2.out.lt q hq).1
 have hst:=H2.out.st.putE (w1:=w3) (k:=k) hkI hl.symm (by rw[hp];exact HGR.out) (L:=insE (s,num) es) (v':=.slice VA (es.length+1) vcap) (by
  rw[<-HAT.out]
  have e:(es.take j++(s,num)::es.drop j).length=es.length+1:=by rw[List.length_append,List.length_cons,List.length_take,List.length_drop];omega
  rw[e]
  exact HOW.out) (by rw[hp];exact HBB.out)
 have hs0:=HB1.out.size
 have hs1:=HBA.out.size
 have hbs:=HBS.out
 have hgb:base<=g:=(H2.out.st.ino.lt g rfl).1
 have hbw:Below base W (w3.setCell ⟨g,k*4+2,none⟩ (.slice VA (es.length+1) vcap)):=(((HB1.out.mono hbs).trans (HBA.out.mono (by omega))).trans (below_grow HGR.out (by omega) hb)).setCell (p:=⟨g,k*4+2,none⟩) hgb _
 rw[hp]at hst
 refine⟨rfl,hbw,Iv.set k ({S.ino k with ents:=insE (s,num) es},.slice VA (es.length+1) vcap),H2.out.ob_,H2.out.db_,?_,?_,hst⟩
 ·exact(blk_grow H2.out.o HGR.out (own_blk_ne HEK2.out H2.out.o (by decide))).far (p:=⟨g,k*4+2,none⟩) (Blk.ne_ (blk_grow H2.out.o HGR.out (own_blk_ne HEK2.out H2.out.o (by decide))) HG3.out (by decide)) _
 ·exact(blk_grow H2.out.d HGR.out (own_blk_ne HEK2.out H2.out.d (by decide))).far (p:=⟨g,k*4+2,none⟩) (Blk.ne_ (blk_grow H2.out.d HGR.out (own_blk_ne HEK2.out H2.out.d (by decide))) HG3.out (by decide)) _
end
section
open Go.RowKit
set_option maxHeartbeats 2000000
theorem insBy_at{A:Type}{lt:A->A->Bool}{p:A}: ∀{l:List A} {k:Nat},k<=l.length->(∀i (h:i<l.length),i<k->lt p l[i]=false)->(∀i (h:i<l.length),k<=i->lt p l[i]=true)->l.take k++p::l.drop k=insBy lt p l
 | [],k,hk,_,_=>by simp at hk;subst hk;rfl
 | e::l,0,_,_,h2=>by
  have h:lt p e=true:=h2 0 (by simp) (Nat.le_refl _)
  show []++p::e::l=if lt p e=true then p::e::l else e::insBy lt p l
  rw[if_pos h];rfl
 | e::l,k+1,hk,h1,h2=>by
  have h:lt p e=false:=h1 0 (by simp) (by omega)
  rw[insBy_head h,List.take_succ_cons,List.drop_succ_cons,List.cons_append,insBy_at (by simpa using hk) (fun i hi hik=>h1 (i+1) (by simpa using hi) (by omega)) (fun i hi hik=>h2 (i+1) (by simpa using hi) (by omega))]
namespace StO
variable{w w1:World}{base:Nat}{iv ov mv:Value}{Iv:List InV}{S:St}
theorem putM{g n cap:Nat}(h:StO w base iv ov (.slice (some ⟨g,0,none⟩) n cap) Iv S)(hn:n=S.made.length){c:Nat}(hc:c<S.made.length)(v:Int):StO (w.setCell ⟨g,c,none⟩ (.int .i64 v)) base iv ov (.slice (some ⟨g,0,none⟩) n cap) Iv {S with made:=S.made.set c v}:=by
 subst hn
 obtain⟨-,gcs,hG⟩:=own_type h.mad rfl
 have hfar: ∀{e:TypeId} {j m:Nat} {v':Value} {xs:List Value},w.ownsRow base e j v' m xs->e≠3->(w.setCell ⟨g,c,none⟩ (.int .i64 v)).ownsRow base e j v' m xs:=fun ho he=>ownsRow_setCell_other ho (a:=⟨g,c,none⟩) (fun q=>by
  obtain⟨-,cs',hq⟩:=own_type ho q
  exact Blk.ne_ hq hG he rfl) _
 refine⟨h.len,hfar h.ino (by decide),fun i hi=>hfar (h.ent i hi) (by decide),h.apart,hfar h.opn (by decide),?_⟩
 have hs:=flat_setK (enc:=encM) (k:=1) (by decide) encM_len v 0 (.int .i64 v) S.made c hc (by decide) rfl
 rw[Nat.mul_one,Nat.add_zero]at hs
 show(w.setCell ⟨g,c,none⟩ (.int .i64 v)).ownsRow base 3 1 _ (S.made.set c v).length ((S.made.set c v).flatMap encM)
 rw[hs,List.length_set]
 exact own_set h.mad (t:=c) (by omega) _
theorem ins_get{A:Type}{l:List A}{x:A}{k i:Nat}(hk:k<=l.length)(hi:i< (l.take k++x::l.drop k).length):(l.take k++x::l.drop k)[i]=x/\i=k∨ ∃j,∃hj:j<l.length,(l.take k++x::l.drop k)[i]=l[j]/\i=(if j<k then j else j+1):=by
 have hlen:(l.take k).length=k:=by rw[List.length_take];omega
 by_cases h1:i<k
 ·right
  refine⟨i,by omega,?_,by rw[if_pos h1]⟩
  rw[List.getElem_append_left (by rw[hlen];exact h1),List.getElem_take]
 ·by_cases h2:i=k
  ·left
   subst h2
   refine⟨?_,rfl⟩
   rw[List.getElem_append_right (by rw[hlen];exact Nat.le_refl _)]
   simp[hlen]
  ·right
   have hi':i<l.length+1:=by
    rw[List.length_append,hlen,List.length_cons,List.length_drop]at hi
    omega
   refine⟨i - 1,by omega,?_,by rw[if_neg (by omega)];omega⟩
   rw[List.getElem_append_right (by rw[hlen];omega)]
   simp only[hlen]
   obtain⟨d,hd⟩: ∃d,i - k=d+1:=⟨i - k - 1,by omega⟩
   simp only[hd,List.getElem_cons_succ,List.getElem_drop]
   congr 1
   omega
theorem putI(h:StO w base iv ov mv Iv S)(hg:w.grownBy w1 iv.ownBlock){a:Nat}(ha:a<=Iv.length){x:Ino}(hx:x.ents=[]){iv':Value}(hown:w1.ownsRow base 93 4 iv' (Iv.length+1) ((Iv.take a++(x,.slice none 0 0)::Iv.drop a).flatMap encI)):
  StO w1 base iv' ov mv (Iv.take a++(x,.slice none 0 0)::Iv.drop a) {S with inodes:=S.inodes.take a++x::S.inodes.drop a}:=by
 have hty: ∀{e:TypeId} {j m:Nat} {v:Value} {xs:List Value},w.ownsRow base e j v m xs->e≠93->w1.ownsRow base e j v m xs:=fun ho he=>own_grown ho hg fun b h1 h2=>by
  obtain⟨-,cs,q⟩:=own_type ho h1
  obtain⟨-,cs',q'⟩:=own_type h.ino h2
  exact Blk.ne_ q q' he rfl
 have hlen:(Iv.take a++(x,Value.slice none 0 0)::Iv.drop a).length=Iv.length+1:=by
  rw[List.length_append,List.length_cons,List.length_take,List.length_drop];omega
 refine⟨?_,by rw[hlen];exact hown,fun i hi=>?_,fun i j hi hj hij b h1 h2=>?_,hty h.opn (by decide),hty h.mad (by decide)⟩
 ·rw[List.map_append,List.map_cons,List.map_take,List.map_drop,h.len]
 ·rcases ins_get ha hi with⟨e,-⟩ | ⟨j,hj,e,-⟩
  ·rw[e]
   simp only[hx,List.length_nil,List.flatMap_nil]
   exact World.ownsRow_nil _ _ _ _
  ·rw[e]
   exact hty (h.ent j hj) (by decide)
 ·rcases ins_get ha hi with⟨e1,q1⟩ | ⟨i',hi',e1,q1⟩
  ·rw[e1]at h1
   cases h1
  ·rcases ins_get ha hj with⟨e2,q2⟩ | ⟨j',hj',e2,q2⟩
   ·rw[e2]at h2
    cases h2
   ·rw[e1]at h1
    rw[e2]at h2
    refine h.apart i' j' hi' hj' (fun q=>hij ?_) b h1 h2
    rw[q1,q2,q]
theorem one(h:StO w base iv ov mv Iv S): ∀y∈Iv,∀u∈encI y,u.oneCell'=true:=fun y hy u hu=>by
 obtain⟨i,hi,rfl⟩:=List.mem_iff_getElem.1 hy
 obtain⟨A,cap,he,-⟩:=own_form (h.ent i hi)
 simp only[encI,List.mem_cons,List.not_mem_nil,or_false]at hu
 rcases hu with rfl | rfl | rfl | rfl
 ·rfl
 ·rfl
 ·rw[he];rfl
 ·rfl
end StO
def createS(S:St)(kind core:Int)(p:ByteArray):Except Int St:=match parentS S p with
 | .error k=>.error k
 | .ok (k,nm)=>if(entF (S.ino k).ents nm).isSome=true then .error 2 else if(fullS (S.ino k).ents nm ⟨#[]⟩||decide (32<=S.mad core.toNat))=true then .error 5 else
  .ok (makeS S core.toNat (S.num k) (insE (nm,2+core+8*S.mad core.toNat) (S.ino k).ents) ⟨2+core+8*S.mad core.toNat,kind==1,[],nm0⟩)
theorem setE_set{S:St}(hI:Inv S){k:Nat}(hk:k<S.inodes.length)(L:List (ByteArray×Int)):(setE S (S.num k) L).inodes=S.inodes.set k {S.ino k with ents:=L}:=by
 apply List.ext_getElem
 ·simp[setE,mapIno]
 ·intro i h1 h2
  have hi:i<S.inodes.length:=by simpa using h2
  rw[List.getElem_set]
  simp only[setE,mapIno,List.getElem_map]
  have hin:S.inodes[i]=S.ino i:=(ino_get hi).symm
  by_cases e:k=i
  ·subst e
   rw[if_pos rfl,hin,if_pos (show(S.ino k).num=S.num k from rfl)]
  ·rw[if_neg e,if_neg,hin]
   intro q
   rw[hin]at q
   exact e (hI.num_inj hi hk q).symm
end
end Go.Proofs.YtkebjgebkneijaaGreat
