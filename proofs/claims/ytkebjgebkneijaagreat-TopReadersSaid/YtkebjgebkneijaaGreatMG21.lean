/- Texts of one's own that a claim's last text rests on: NoP12 Dr3 Lk9 Lk10 Lk11. -/
import Derived.Test.YtkebjgebkneijaaGreatMG20
import Derived.Test.YtkebjgebkneijaaGreatMG9
import Derived.Test.YtkebjgebkneijaaGreatMG13
import Derived.Test.YtkebjgebkneijaaGreatMG15
import Derived.Test.YtkebjgebkneijaaGreatMG8
set_option linter.unusedVariables false
set_option linter.unusedSimpArgs false
namespace Go.Proofs.YtkebjgebkneijaaGreat
open Go.RowKit
set_option maxHeartbeats 16000000
set_option maxRecDepth 1000000
def ltN(a b:Ino):Bool:=decide (a.num<b.num)
def Pm(S:St)(c:Nat)(d:Int)(L:List (ByteArray×Int))(x:Ino):St:={inodes:=Gm ltN x (setE S d L).inodes,opens:=S.opens,made:=S.made.set c (S.mad c+1)}
theorem Aby{M:List Int}{c:Nat}{x:Int}(hc:c<M.length)(h:Vj M x):Vj (M.set c (M.getD c 0+1)) x:=by
 obtain⟨h1,h2,h3⟩:=h
 refine⟨h1,by rw[List.length_set];exact h2,?_⟩
 rw[Ame,List.getElem?_set]
 by_cases q:c=((x - 2) % 8).toNat
 ·rw[if_pos q,if_pos (by omega)]
  show _<M.getD c 0+1
  rw[<-q]at h3
  omega
 ·rw[if_neg q,<-Ame]
  exact h3
section
variable{S:St}{d:Int}
theorem Inv.fresh(h:Inv S){c:Nat}(hc:c<S.made.length): ∀x∈S.inodes,x.num≠2+ (c:Int)+8*S.mad c:=by
 intro x hx e
 have h8:=h.m8
 have h0:=(h.mb _ (Bm (d:=0) hc)).1
 have h0:0<=S.mad c:=h0
 obtain⟨h1,h2,h3⟩:=h.given x hx (by omega)
 have e1:((x.num - 2) % 8).toNat=c:=by omega
 rw[e1]at h3
 have h3:(x.num - 2) / 8<S.mad c:=h3
 omega
theorem Inv.make(h:Inv S){x0:Ino}(hx:x0∈S.inodes)(hd:x0.num=d)(hdir:x0.dir=true){c:Nat}(hc:c<S.made.length)(h32:S.mad c<32){nm:ByteArray}{num:Int}(hnum:num=2+ (c:Int)+8*S.mad c)(hn:Bu nm=0)(hp: ∀e∈x0.ents,e.1≠nm)
  (hs:(x0.ents.filter fun e=>Aa e.1==Aa nm).length<4) (dr:Bool):Inv (Pm S c d (insE (nm,num) x0.ents) ⟨num,dr,[],nm0⟩):=by
 generalize hS':Pm S c d (insE (nm,num) x0.ents) ⟨num,dr,[],nm0⟩=S'
 have hfr:=h.fresh hc
 rw[<-hnum]at hfr
 have hmc:=h.mb _ (Bm (d:=0) hc)
 have hmc:0<=S.mad c/\S.mad c<=32:=hmc
 have hI:S'.inodes=Gm ltN ⟨num,dr,[],nm0⟩ (setE S d (insE (nm,num) x0.ents)).inodes:=by rw[<-hS'];rfl
 have hO:S'.opens=S.opens:=by rw[<-hS'];rfl
 have hM:S'.made=S.made.set c (S.mad c+1):=by rw[<-hS'];rfl
 have hmem: ∀{y:Ino},y∈S'.inodes↔y=⟨num,dr,[],nm0⟩∨y∈(setE S d (insE (nm,num) x0.ents)).inodes:=by intro y;rw[hI];exact Iw
 have hE1: ∀a y,Edge S a y->Edge S' a y:=by
  intro a y he
  have:Edge (setE S d (insE (nm,num) x0.ents)) a y:=by
   rw[He hx hd hdir]
   by_cases q:a=d
   ·obtain⟨x,hx1,h1,h2,e,he,h3⟩:=he
    have:x=x0:=h.ino_inj hx1 hx (by omega)
    subst this
    exact .inr ⟨q,e,Eg.2 (.inr he),h3⟩
   ·exact .inl ⟨q,he⟩
  obtain⟨x,hx1,h1⟩:=this
  exact⟨x,hmem.2 (.inr hx1),h1⟩
 have hE2:Edge S' d num:=by
  have:Edge (setE S d (insE (nm,num) x0.ents)) d num:=(He hx hd hdir).2 (.inr ⟨rfl,_,Eg.2 (.inl rfl),rfl⟩)
  obtain⟨x,hx1,h1⟩:=this
  exact⟨x,hmem.2 (.inr hx1),h1⟩
 have hc2: ∀y,(Bp S').count y=(Bp S).count y+if num=y then 1 else 0:=by
  intro y
  have h1:=Mr (L:=insE (nm,num) x0.ents) h hx hd hdir y
  rw[Ms]at h1
  have h2:(Bp S').count y=(Bp (setE S d (insE (nm,num) x0.ents))).count y:=by
   unfold Bp
   rw[hI,((Hn _).flatMap_right Aw).count_eq,List.flatMap_cons,List.count_append]
   have:(Aw (⟨num,dr,[],nm0⟩:Ino)).count y=0:=by unfold Aw;cases dr <;> rfl
   rw[this,Nat.zero_add]
  rw[h2]
  simp only at h1
  omega
 have hz:(Bp S).count num=0:=by
  refine List.count_eq_zero.2 fun q=>?_
  obtain⟨a,x,hx1,-,-,e,he,h3⟩:=Gy.1 q
  obtain⟨-,y,hy,h4⟩:=h.goal x hx1 e he
  exact hfr y hy (h4.trans h3)
 have hr0:Fm S' num:=.step (Hk hE1 (hd▸h.reach x0 hx hdir)) hE2
 have hc0:(c:Int)<S.made.length:=by omega
 have hnew:Vj S'.made num:=by
  rw[hM]
  have e1:((num - 2) % 8).toNat=c:=by have:=h.m8;omega
  refine⟨by omega,by rw[List.length_set];have:=h.m8;omega,?_⟩
  rw[e1,Ame,List.getElem?_set,if_pos rfl,if_pos hc]
  show _<S.mad c+1
  have:=h.m8
  omega
 have hroot: ∃x,S'.inodes[0]? =some x/\x.num=1/\x.dir=true:=by
  obtain⟨r,g0,g1,g2⟩:=Im (S:=S) (d:=d) (f:=fun x=>{x with ents:=insE (nm,num) x0.ents}) (fun _=>⟨rfl,rfl⟩) h.root
  refine⟨r,?_,g1,g2⟩
  rw[hI]
  show(Gm ltN _ (Eh S d fun x=>{x with ents:=insE (nm,num) x0.ents}).inodes)[0]? =_
  cases hl:(Eh S d fun x=>{x with ents:=insE (nm,num) x0.ents}).inodes with
  | nil=>rw[hl]at g0;cases g0
  | cons z l=>
   rw[hl]at g0
   obtain rfl:z=r:=by simpa using g0
   rw[Si (by unfold ltN;simp;omega)];rfl
 have hrise:S'.inodes.Pairwise (fun x y=>x.num<y.num):=by
  rw[hI]
  refine Js (lt:=ltN) (R:=fun x y:Ino=>x.num<y.num) (fun _ _ _=>Int.lt_trans) (Ip (fun _=>rfl) h.rise) (fun e _ q=>by unfold ltN at q;simpa using q) fun e he q=>?_
  obtain⟨x,hx1,e1,-⟩:=Ax he
  have:=hfr x hx1
  have q2: ¬ (num<e.num):=of_decide_eq_false q
  show e.num<num
  omega
 have hp2: ∀e∈x0.ents,e.1≠((nm,num):ByteArray×Int).1:=hp
 have hne1:num≠1:=by omega
 refine⟨by rw[hM,List.length_set];exact h.m1,by rw[hM,List.length_set];exact h.m8,?_,hroot,hrise,?_,?_,?_,?_,?_,?_,?_,?_,?_,?_,?_,?_,by rw[hO];exact h.osort⟩
 ·intro m hm
  rw[hM]at hm
  rcases List.mem_or_eq_of_mem_set hm with q | q
  ·exact h.mb m q
  ·omega
 ·intro y hy hy1
  rcases hmem.1 hy with rfl | hy
  ·exact hnew
  ·obtain⟨x,hx1,e1,-⟩:=Ax hy
   rw[e1,hM]
   exact Aby hc (h.given x hx1 (e1▸hy1))
 ·intro y hy hdy
  rcases hmem.1 hy with rfl | hy
  ·rfl
  ·obtain⟨x,hx1,e1,e2,e3,e4⟩:=Ax hy
   rw[e3];exact h.isDir x hx1 (e2▸hdy)
 ·intro y hy hdy
  rcases hmem.1 hy with rfl | hy
  ·rfl
  ·obtain⟨x,hx1,e1,e2,e3,e4⟩:=Ax hy
   rcases e4 with⟨-,e4⟩ | ⟨e4,-⟩
   ·rw[e4];exact h.isFile x hx1 (e2▸hdy)
   ·have:x=x0:=h.ino_inj hx1 hx (by omega)
    subst this
    rw[e2,hdir]at hdy;cases hdy
 ·intro y hy
  rcases hmem.1 hy with rfl | hy
  ·exact Nat.zero_le _
  ·obtain⟨x,hx1,e1,e2,e3,e4⟩:=Ax hy
   rw[e3];exact h.dat x hx1
 ·intro y hy e he
  rcases hmem.1 hy with rfl | hy
  ·cases he
  ·obtain⟨x,hx1,e1,e2,e3,e4⟩:=Ax hy
   rcases e4 with⟨-,e4⟩ | ⟨-,e4⟩
   ·rw[e4]at he;exact h.nam x hx1 e he
   ·rw[e4]at he
    rcases Eg.1 he with rfl | he
    ·exact hn
    ·exact h.nam x0 hx e he
 ·intro y hy e he
  have hold:(e.2≠1/\ ∃y∈S.inodes,y.num=e.2)->e.2≠1/\ ∃y∈S'.inodes,y.num=e.2:=by
   rintro⟨k1,q,hq,k2⟩
   obtain⟨q2,hq2,e5,-⟩:=Hv (d:=d) (L:=insE (nm,num) x0.ents) hq
   exact⟨k1,q2,hmem.2 (.inr hq2),e5.trans k2⟩
  rcases hmem.1 hy with rfl | hy
  ·cases he
  ·obtain⟨x,hx1,e1,e2,e3,e4⟩:=Ax hy
   rcases e4 with⟨-,e4⟩ | ⟨-,e4⟩
   ·rw[e4]at he;exact hold (h.goal x hx1 e he)
   ·rw[e4]at he
    rcases Eg.1 he with rfl | he
    ·exact⟨hne1,_,hmem.2 (.inl rfl),rfl⟩
    ·exact hold (h.goal x0 hx e he)
 ·intro y hy
  rcases hmem.1 hy with rfl | hy
  ·exact .nil
  ·obtain⟨x,hx1,e1,e2,e3,e4⟩:=Ax hy
   rcases e4 with⟨-,e4⟩ | ⟨-,e4⟩
   ·rw[e4];exact h.up x hx1
   ·rw[e4];exact Wc (h.up x0 hx) hp2
 ·intro y hy q
  rcases hmem.1 hy with rfl | hy
  ·exact Nat.zero_le _
  ·obtain⟨x,hx1,e1,e2,e3,e4⟩:=Ax hy
   rcases e4 with⟨-,e4⟩ | ⟨-,e4⟩
   ·rw[e4];exact h.slots x hx1 q
   ·rw[e4];exact Mm (h.slots x0 hx) hs q
 ·intro y hy hdy hy1
  rw[hc2]
  rcases hmem.1 hy with rfl | hy
  ·rw[if_pos rfl]
   show(Bp S).count num+1=1
   omega
  ·obtain⟨x,hx1,e1,e2,e3,e4⟩:=Ax hy
   rw[e1,h.one x hx1 (e2▸hdy) (e1▸hy1),if_neg (fun q=>hfr x hx1 q.symm)]
 ·intro y hy hdy
  rcases hmem.1 hy with rfl | hy
  ·exact hr0
  ·obtain⟨x,hx1,e1,e2,e3,e4⟩:=Ax hy
   rw[e1];exact Hk hE1 (h.reach x hx1 (e2▸hdy))
 ·intro y hy hdy
  rcases hmem.1 hy with rfl | hy
  ·exact .inl (Gy.2 ⟨d,hE2⟩)
  ·obtain⟨x,hx1,e1,e2,e3,e4⟩:=Ax hy
   rw[e1,hO]
   rcases h.file x hx1 (e2▸hdy)with q | q
   ·obtain⟨a,ha⟩:=Gy.1 q
    exact .inl (Gy.2 ⟨a,hE1 _ _ ha⟩)
   ·exact .inr q
 ·intro o ho
  rw[hO]at ho
  obtain⟨h1,h2,h3,h4,q,hq,h5,h6⟩:=h.ok o ho
  obtain⟨q2,hq2,e5,e6⟩:=Hv (d:=d) (L:=insE (nm,num) x0.ents) hq
  exact⟨h1,by rw[hM,List.length_set];exact h2,h3,h4,q2,hmem.2 (.inr hq2),e5.trans h5,e6.trans h6⟩
end
theorem Dq{w w':World}{base:Nat}{e:TypeId}{k n:Nat}{v:Value}{xs:List Value}{r:Option Nat}(h:w.ownsRow base e k v n xs)(hg:w.grownBy w' r)(hne: ∀b,v.ownBlock=some b->r≠some b):w'.ownsRow base e k v n xs:=by
 refine⟨h.1,?_⟩
 rcases h.2 with q | ⟨g,cap,cur,hv,hb,hh,h1⟩
 ·exact .inl q
 ·have hlt:g<w.heap.size:=Blk.lt (show Blk w g e cur from hh)
  exact .inr ⟨g,cap,cur,hv,hb,(hg.block g hlt (fun q=>hne g (by rw[hv];rfl) q.symm)).trans hh,h1⟩
theorem Am{w w':World}{g:Nat}{t:TypeId}{cs:Array Value}{r:Option Nat}(h:Blk w g t cs)(hg:w.grownBy w' r)(hne:r≠some g):Blk w' g t cs:=(hg.block g h.lt (Ne.symm hne)).trans h
theorem Bg{w w':World}{base:Nat}{r:Option Nat}(hg:w.grownBy w' r)(hb:base<=w.heap.size)(hr: ∀b,r=some b->base<=b):Below base w w':=
 ⟨hg.os,hg.tape,hg.output,hg.size,fun b h=>hg.block b (by omega) (fun e=>by have:=hr b e.symm;omega)⟩
def St.setI(S:St)(k:Nat)(x:Ino):St:={S with inodes:=S.inodes.set k x}
namespace StO
variable{w w1:World}{base g n cap:Nat}{ov mv:Value}{Iv:List InV}{S:St}
theorem len'{iv:Value}(h:StO w base iv ov mv Iv S):Iv.length=S.inodes.length:=by rw[<-h.len,List.length_map]
theorem at_{iv:Value}(h:StO w base iv ov mv Iv S){k:Nat}(hk:k<Iv.length):Iv[k].1=S.ino k:=by
 have hk':k<S.inodes.length:=by rw[<-h.len'];exact hk
 show _=S.inodes.getD k Ds
 rw[Fv hk']
 simp only[<-h.len,List.getElem_map]
theorem putE(h:StO w base (.slice (some ⟨g,0,none⟩) n cap) ov mv Iv S){k:Nat}(hk:k<Iv.length)(hn:n=Iv.length)(hg:w.grownBy w1 Iv[k].2.ownBlock){v':Value}{L:List En}(hown:w1.ownsRow base 132 2 v' L.length (L.flatMap Ai))(hb:v'.ownBlock=Iv[k].2.ownBlock∨v'.ownBlock=some w.heap.size):
  StO (w1.setCell ⟨g,k*4+2,none⟩ v') base (.slice (some ⟨g,0,none⟩) n cap) ov mv (Iv.set k ({Iv[k].1 with ents:=L},v')) (S.setI k {Iv[k].1 with ents:=L}):=by
 have hek:=h.ent k hk
 have hty: ∀{e:TypeId} {j m:Nat} {v:Value} {xs:List Value},w.ownsRow base e j v m xs->e≠132-> ∀b,v.ownBlock=some b->Iv[k].2.ownBlock≠some b:=fun ho he b h1 h2=>by
  obtain⟨-,cs,q⟩:=Ag ho h1
  obtain⟨-,cs',q'⟩:=Ag hek h2
  exact Blk.ne_ q q' he rfl
 have hino:=Dq h.ino hg (hty h.ino (by decide))
 have hopn:=Dq h.opn hg (hty h.opn (by decide))
 have hmad:=Dq h.mad hg (hty h.mad (by decide))
 have hent: ∀i (hi:i<Iv.length),i≠k->w1.ownsRow base 132 2 Iv[i].2 Iv[i].1.ents.length (Iv[i].1.ents.flatMap Ai):=fun i hi hik=>Dq (h.ent i hi) hg (fun b h1 h2=>h.apart i k hi hk hik b h1 h2)
 obtain⟨-,gcs,hG⟩:=Ag hino rfl
 have hfar: ∀{e:TypeId} {j m:Nat} {v:Value} {xs:List Value},w1.ownsRow base e j v m xs->e≠93->(w1.setCell ⟨g,k*4+2,none⟩ v').ownsRow base e j v m xs:=fun ho he=>ownsRow_setCell_other ho (a:=⟨g,k*4+2,none⟩) (fun q=>by
  obtain⟨-,cs',hq⟩:=Ag ho q
  exact Blk.ne_ hq hG he rfl) _
 have hgt: ∀{i:Nat} (hi:i< (Iv.set k ({Iv[k].1 with ents:=L},v')).length),(Iv.set k ({Iv[k].1 with ents:=L},v'))[i]=if k=i then({Iv[k].1 with ents:=L},v')else Iv[i]'(by simpa using hi):=fun hi=>List.getElem_set ..
 have hold: ∀i (hi:i<Iv.length),∀q,Iv[i].2.ownBlock=some q->q<w.heap.size:=fun i hi q hq=>((h.ent i hi).lt q hq).2
 have hap: ∀i (hi:i<Iv.length),i≠k-> ∀b,Iv[i].2.ownBlock=some b->v'.ownBlock≠some b:=fun i hi hik b h1 h2=>by
  rcases hb with hb | hb
  ·exact h.apart i k hi hk hik b h1 (by rw[<-hb];exact h2)
  ·have:=hold i hi b h1
   rw[hb]at h2
   injection h2
   omega
 refine⟨?_,?_,fun i hi=>?_,fun i j hi hj hij=>?_,hfar hopn (by decide),hfar hmad (by decide)⟩
 ·rw[List.map_set]
  show(Iv.map (·.1)).set k _=S.inodes.set k _
  rw[h.len]
 ·subst hn
  have hs:=Jd (enc:=encI) (k:=4) (by decide) Db ({Iv[k].1 with ents:=L},v') 2 v' Iv k hk (by decide) rfl
  rw[List.length_set,hs]
  exact Qg hino (t:=k*4+2) (by omega) v'
 ·rw[hgt hi]
  by_cases e:k=i
  ·rw[if_pos e]
   exact hfar hown (by decide)
  ·rw[if_neg e]
   exact hfar (hent i (by simpa using hi) (Ne.symm e)) (by decide)
 ·rw[hgt hi,hgt hj]
  intro b
  by_cases e1:k=i
  ·rw[if_pos e1]
   have e2:k≠j:=fun e=>hij (e1.symm.trans e)
   rw[if_neg e2]
   exact fun h1 h2=>hap j (by simpa using hj) (Ne.symm e2) b h2 h1
  ·rw[if_neg e1]
   by_cases e2:k=j
   ·rw[if_pos e2]
    exact hap i (by simpa using hi) (Ne.symm e1) b
   ·rw[if_neg e2]
    exact h.apart i j (by simpa using hi) (by simpa using hj) hij b
end StO
theorem Ak6{l:List (ByteArray×Int)}{p:ByteArray×Int}{k:Nat}(hk:k<=l.length)(h1: ∀i,i<k->nlt (enmL l i) p.1=true)(h2: ∀i,k<=i->i<l.length->nlt (enmL l i) p.1=false)(h3: ∀e∈l,e.1≠p.1):l.take k++p::l.drop k=insE p l:=by
 induction l generalizing k with
 | nil=>simp at hk;subst hk;rfl
 | cons e l ih=>
  have he:enmL (e::l) 0=e.1:=rfl
  unfold insE Gm ltE
  cases k with
  | zero=>
   have h:=h2 0 (Ama _) (by simp)
   rw[he]at h
   have hl:nlt p.1 e.1=true:=by
    rcases Qh e.1 p.1 with q | q | q
    ·rw[q]at h;cases h
    ·exact absurd q (h3 e Amb)
    ·exact q
   rw[if_pos hl];rfl
  | succ k=>
   have h:=h1 0 (by omega)
   rw[he]at h
   have hl: ¬ nlt p.1 e.1=true:=fun q=>by
    have:=Ep h q
    rw[Ct]at this
    cases this
   rw[if_neg hl]
   have:=ih (k:=k) (by simpa using hk) (fun i hi=>h1 (i+1) (by omega)) (fun i ha hb=>h2 (i+1) (by omega) (by simpa using hb)) (fun e he=>h3 e (Amc _ he))
   unfold insE ltE at this
   rw[List.take_succ_cons,List.drop_succ_cons,List.cons_append,this]
def lnk(M:Mem)(num:Int):Nat->Int
 | 0=>0
 | k+1=>lnk M num k+rd M.ws (wd num (8+ (k:Int)))
def nmsM(M:Mem)(num:Int):Nat->List ByteArray
 | 0=>[]
 | b+1=>nmsM M num b++(M.bkt num b).map (·.name)
def Ack(M:Mem)(kind:Int)(it:Item)(o:Oc):Prop:=if kind=12 then(if it.dir=true then∃l,(nmsM M it.num 8).Perm l/\l.Pairwise (fun a b=>nlt b a=false)/\o= .ret 0 false ⟨#[]⟩ l else o= .bad 7)
 else if kind=13 then o= .ret (if it.dir=true then 0 else((M.bas it.num).2.1.size:Int)) it.dir ⟨#[]⟩ []
 else if it.dir=true then o= .bad 8 else o= .ret (lnk M it.num M.ts.length) false ⟨#[]⟩ []
def Ji(M:Mem)(c:Int)(cv:Ad)(o:Oc):Prop:=match Au cv.path with
 | .err k=>o= .bad (Jh k)
 | .ok ns=>match(Ch c ns M Av).1 with
  | .bad k=>o= .bad k
  | .at_ it=>Ack M cv.kind it o
theorem nRow.push{L:Nat->Prop}{w W W':World}{s:Nat}{M:Mem}{c:Int}{n:Nat}{Bs:List LB}{Rs:List RB}{na:Option Addr}{nc g cap' k:Nat}{ns:List ByteArray}{x:ByteArray}(h:Rf L w s M c n Bs (nRow na nc ns::Rs) W)(hl:Bd L w)(hk:ns.length=k)(ho:W'.ownsRow w.heap.size 9 1 (.slice (some ⟨g,0,none⟩) (k+1) cap') (k+1) (ns.map .string++[.string x]))(hg:W.grownBy W' (Value.slice na k nc).ownBlock)(hat:(Value.slice na k nc).ownBlock=some g∨g=W.heap.size):
  Rf L w s M c n Bs (nRow (some ⟨g,0,none⟩) cap' (ns++[x])::Rs) W':=
 h.map fun _ h=>by
  have e:(ns++[x]).length=k+1:=by simp[hk]
  have e2:(ns++[x]).map Value.string=ns.map .string++[.string x]:=by simp
  rw[<-e,<-e2]at ho
  subst hk
  exact h.app hl ho hg (fun q hq=>by injection hq with hq;subst hq;exact hat)
theorem Nq{w w':World}{v:Value}{l:List Item}(h:ItB w v l)(k: ∀q cs,Blk w q 136 cs->Blk w' q 136 cs):ItB w' v l:=RowT.heap h fun q cs _ hq=>k q cs hq
theorem Ah9{L:Nat->Prop}{w W:World}{s:Nat}{M:Mem}{c:Int}{n:Nat}{Bs:List LB}{Rs:List RB}(h:Rf L w s M c n Bs Rs W){num b:Int}(hnum:1<=num/\num<=257)(hb:0<=b/\b<8)(hf:M.fit)(hn:n<=900):
  Calls Tryz.prog 136 #[.agg #[.pointer (some ⟨s,0,none⟩),.int .i64 c],.int .i64 num,.int .i64 b] W fun e w'=>(∃A cap,e= .returned (.slice A (M.bkt num b).length cap)/\ItB w' (.slice A (M.bkt num b).length cap) (M.bkt num b))/\Rf L w s M c (n+1) Bs Rs w':=by
 refine h.call 1 fun K M' hL hK hs hok hc hm=>?_
 have hf':=hs.fit hf
 refine(Ij hm hok (by omega) (.inr hc) hnum hb (hf'.bk num b hnum hb).1 (hf'.bk num b hnum hb).2).mono ?_
 rintro e w' ⟨⟨v,rfl,hv⟩,h1,h2⟩
 rw[hs.bkt]at hv
 obtain⟨A,cap,rfl,h3,h4⟩:=hv
 exact⟨_,⟨Seen.see M' (Il hnum (by omega)),A,cap,rfl,A,cap,rfl,h3,h4⟩,h1,h2⟩
theorem Yn{M:Mem}{num:Int}(hnum:1<=num/\num<=257)(hf:M.fit): ∀b,b<=8->(nmsM M num b).length<=1000*b
 | 0,_=>Ama _
 | b+1,hb=>by
  have:=Yn hnum hf b (by omega)
  have:=(hf.it num b hnum (by omega)).1
  simp only[nmsM,Ami,List.length_map]
  omega
theorem Ag9{M:Mem}{num:Int}(h:Fs M num): ∀k,k<=8->0<=lnk M num k/\lnk M num k<=1000000*k
 | 0,_=>⟨Int.le_refl _,Int.le_refl _⟩
 | k+1,hk=>by
  have:=Ag9 h k (by omega)
  have:=h.l (8+ (k:Int)) (by omega) (by omega)
  unfold lnk
  omega
theorem Aju{L:Nat->Prop}{w W:World}{s:Nat}{M:Mem}{c:Int}{n:Nat}{Bs:List LB}{Rs:List RB}(h:Rf L w s M c n Bs Rs W):M.ts.length<=8/\ ∃a,W.cell? ⟨s,0,none⟩=some (.pointer (some ⟨a,0,none⟩))/\Calls Tryz.prog 89 #[.pointer (some ⟨a,0,none⟩)] W fun e w'=>e= .returned (.int .i64 M.ts.length)/\W=w':=by
 obtain⟨-,-,M',h1,h2⟩:=h
 obtain⟨a,L1,h0,har,-⟩:=h2.mem.lend
 rw[<-h1.same.ts]
 exact⟨h2.mem.tsl,a,h0,Pw har⟩
theorem Akr{L:Nat->Prop}{w W:World}{s sp:Nat}{M:Mem}{c:Int}{n:Nat}{Bs:List LB}{cv:Ad}(h:Rf L w s M c n (⟨sp,193,Bi s c cv Aq⟩::Bs) [] W)(hl:Bd L w)(hn:n<=10)(hp:cv.path.size<=4611686018427387904)(hk:cv.kind=12∨cv.kind=13∨cv.kind=14)(hf:M.fit)
  (hF: ∀ns it,Au cv.path= .ok ns->(Ch c ns M Av).1= .at_ it->it.dir=false->Fs M it.num):
  Calls Tryz.prog 170 #[.pointer (some ⟨sp,0,none⟩)] W fun e w'=>∃o,Ji M c cv o/\RunO L w s M c cv sp Bs o e w':=by
 have HL:=lhi hl
 have H0:=lhi h
 have hb:=h.bk (Amb ..)
 have s7:W.cell? ⟨sp,7,none⟩=some (.string cv.path):=hb.cell 7
 cases hpr:Au cv.path with
 | err k=>
  have HN:=lhi (Aef hp W hpr (Jr hpr))
  have HO:=lhi (show Ji M c cv (.bad (Jh k))by unfold Ji;rw[hpr])
  clear h hl hp hk hf hF hb hpr
  go_enter Tryz.func170,Tryz.ntmps170
  go_wp2_with (go_at_call 201;refine HN.out.mono ?_;rintro e w1 ⟨rfl,hb1⟩)
  exact⟨rfl,_,HO.out,rfl,_,(H0.out.map fun _ h=>h.below hb1 HL.out).mono (by omega) (by decide)⟩
 | ok ns=>
  have HN:=lhi (Yq hp W hpr)
  have hnl:=Ho hpr
  have HWK:=lhi (fun(W:World) (h':Rf L w s M c n (⟨sp,193,Bi s c cv Aq⟩::Bs) [] W) (v:Value) (hv:NmB W v ns)=>Ako h' (Amb ..) hf hv (by omega) (by omega))
  have HFI:=lhi (hF ns)
  have HFT:=lhi hf
  cases hw:(Ch c ns M Av).1 with
  | bad k=>
   have HO:=lhi (show Ji M c cv (.bad k)by unfold Ji;rw[hpr];dsimp only;rw[hw])
   rw[hw]at HWK
   clear h hl hp hk hf hF hb hpr hw HFI
   go_enter Tryz.func170,Tryz.ntmps170
   go_wp2_with (first
    | (go_at_call 201;refine HN.out.mono ?_;rintro e w1 ⟨⟨v,rfl,hv,-⟩,hb1⟩;have HW1:=lhi (HWK.out _ (H0.out.map fun _ h=>h.below hb1 HL.out) _ hv))
    | (go_at_call 200;refine HW1.out.mono ?_;rintro e w2 ⟨he,h2⟩;obtain rfl:e=Ki k:=he))
   exact⟨rfl,_,HO.out,rfl,_,h2.mono (by omega) (by decide)⟩
  | at_ it=>
   have HO:=lhi (show∀o,Ack M cv.kind it o->Ji M c cv o from fun o ho=>by unfold Ji;rw[hpr];dsimp only;rw[hw];exact ho)
   rw[hw]at HWK
   replace HFI:=lhi (HFI.out it hpr hw)
   have hnum:=Lc c ns M Av it hf ⟨by decide,by decide⟩ hw
   obtain⟨inm,inu,idr⟩:=it
   dsimp only at hnum
   replace HFI:=lhi (show idr=false->Fs M inu from HFI.out)
   obtain⟨K2,hK2⟩: ∃x,cv.kind=x:=⟨_,rfl⟩
   rw[hK2]at hk HO
   have HK2:=lhi hK2
   clear h hl hp hf hF hpr hw hnl hb hK2
   go_enter Tryz.func170,Tryz.ntmps170
   go_upto_region 1 with(first
    | (go_at_call 201;refine HN.out.mono ?_;rintro e w1 ⟨⟨v,rfl,hv,-⟩,hb1⟩;have HW1:=lhi (HWK.out _ (H0.out.map fun _ h=>h.below hb1 HL.out) _ hv))
    | (go_at_call 200;refine HW1.out.mono ?_;rintro e w2 ⟨he,h2⟩;obtain⟨tn,tc,ta,rfl⟩:=he;have H2:=lhi h2;clear h2))
   clear HN HWK HW1 hv hb1 s7
   refine letW (fun w3 hw3=>?_)
   obtain⟨q,hq⟩: ∃x,w2.heap.size=x:=⟨_,rfl⟩
   have h3:=H2.out.map (W':=w3) fun _ h=>hw3▸h.allocAt HL.out #[.string inm,.int .i64 inu,.bool idr,.slice ta tn tc] 276 hq.symm
   rw[hq]
   have hs3:=h3.bk (Amc _ (Amb ..))
   have hq3:=h3.bk (Amb ..)
   have H3:=lhi h3
   have s2:w3.cell? ⟨sp,2,none⟩=some (.int .i64 K2):=by rw[<-HK2.out];exact hs3.cell 2
   have p1:w3.cell? ⟨q,1,none⟩=some (.int .i64 inu):=hq3.cell 1
   have p2:w3.cell? ⟨q,2,none⟩=some (.bool idr):=hq3.cell 2
   clear hw3 hq h3 H2 H0
   rcases hk with rfl | rfl | rfl
   ·-- List
    cases idr
    ·have HO1:=lhi (HO.out (.bad 7) rfl)
     clear hs3 hq3
     go_wp2_with (go_at_call 199;refine(Em _ _).mono ?_;rintro e w' ⟨rfl,rfl⟩)
     exact⟨rfl,_,HO1.out,rfl,_,(H3.out.map fun _ h=>h.drop0).mono (by omega) (by decide)⟩
    ·have HO1:=lhi (fun l h1 h2=>HO.out (.ret 0 false ⟨#[]⟩ l) ⟨l,h1,h2,rfl⟩)
     have HNL:=lhi (Yn hnum HFT.out)
     clear hs3 hq3 HO HFI
     go_upto_region 11 with(go_at_call 199;refine(Ec _ _).mono ?_;rintro e w' ⟨rfl,rfl⟩)
     clear s2 p1 p2
     go_loopw [64] (fun i wr=>∃(b:Nat) (na:Option Addr) (nc:Nat),i= .int .i64 b/\b<=8/\Rf L w s M c (n+100+b) (⟨q,276,#[.string inm,.int .i64 inu,.bool true,.slice ta tn tc]⟩::⟨sp,193,Bi s c cv (resO 0 false ⟨#[]⟩ na (nmsM M inu b).length nc)⟩::Bs) [nRow na nc (nmsM M inu b)] wr) (fun i _=>8 - (intOf i).toNat)
     case atStart=>exact⟨0,none,0,rfl,by omega,H3.out.map fun _ h=>h.nilRow 9 1⟩
     case round=>
      obtain⟨b,na,nc,rfl,hb8,hr⟩:=hrel
      have HR:=lhi hr
      by_cases hlt:b<8
      ·have hbi:(b:Int)<8:=by omega
       have HBU:=lhi (Ah9 hr.drew hnum (b:=b) (by omega) HFT.out (by omega))
       have hll:=(HFT.out.it inu b hnum (by omega)).1
       have HSU:=lhi (show nmsM M inu b++(M.bkt inu b).map (·.name)=nmsM M inu (b+1)from rfl)
       obtain⟨l,hl⟩:=xx (M.bkt inu b)
       have hnl:=HNL.out b hb8
       obtain⟨N0,hN0⟩: ∃x,nmsM M inu b=x:=⟨_,rfl⟩
       rw[hl]at HBU hll HSU
       rw[hN0]at HR HSU hr HBU hnl
       have hs5:=hr.drew.bk (Amc _ (Amb ..))
       have hq5:=hr.drew.bk (Amb ..)
       clear hl hN0 hr
       go_upto_region 13 with(fail)
       refine wp_region_held_drew (S:=fun w'=>(w'.cell? ⟨sp,0,none⟩=some (.pointer (some ⟨s,0,none⟩))/\w'.cell? ⟨sp,1,none⟩=some (.int .i64 c))/\w'.cell? ⟨q,1,none⟩=some (.int .i64 inu)) (by kernel_rfl) ⟨⟨hs5.cell 0,hs5.cell 1⟩,hq5.cell 1⟩ (fun hHeld=>?_)
       refine tH 0 ?_
       refine tH 1 ?_
       refine tH 2 ?_
       refine tH 3 ?_
       refine tH 4 ?_
       refine tH 5 ?_
       refine tH 6 ?_
       refine tH 7 ?_
       refine tH 10 ?_
       refine rdy [8] ?_
       refine AllReadyH.cons rfl (fun K hK=>?_) AllReadyH.nil
       go_simp
       refine HBU.out.mono ?_
       rintro e w6 ⟨⟨A,cap,rfl,hit⟩,h6⟩
       show K _ _
       have hs6:=h6.bk (Amc _ (Amb ..))
       have hq6:=h6.bk (Amb ..)
       have H6:=lhi h6
       have HIT:=lhi hit
       refine hK.out _ _ ⟨⟨hs6.cell 0,hs6.cell 1⟩,hq6.cell 1⟩ (fun hHeld=>?_)
       clear hK K hs5 hq5 h6 hs6 hq6 hit HBU HR
       refine tH 9 ?_
       refine wpAnyH_done (by kernel_rfl) ?_ _
       clear hHeld
       obtain⟨m,hm⟩:=xx l.length
       have HM:=lhi hm
       rw[hm]at HIT hll⊢
       clear hm
       go_upto_region 14 with(fail)
       go_loopw [77] (fun i wr=>∃(k:Nat) (na:Option Addr) (nc:Nat),i= .int .i64 k/\k<=m/\ItB wr (.slice A m cap) l/\Rf L w s M c (n+100+b+1) (⟨q,276,#[.string inm,.int .i64 inu,.bool true,.slice ta tn tc]⟩::⟨sp,193,Bi s c cv (resO 0 false ⟨#[]⟩ na (N0++(l.take k).map (·.name)).length nc)⟩::Bs) [nRow na nc (N0++(l.take k).map (·.name))] wr) (fun i _=>m - (intOf i).toNat)
       case atStart=>exact⟨0,na,nc,rfl,by omega,HIT.out,by rw[List.take_zero,List.map_nil,List.append_nil];exact H6.out⟩
       case round=>
        obtain⟨k,na,nc,rfl,hk,hit,hr⟩:=hrel
        clear H6 HIT
        by_cases hkm:k<m
        ·have hki:(k:Int)<m:=by omega
         have hkl:k<l.length:=by have:=HM.out;omega
         have hrow:=RowT.at' hit
         obtain⟨-,hcap,eg,eo,rfl,hcell⟩:=hrow.at_ hkl
         have e0:wr.cell? ⟨eg,eo+k*3,none⟩=some (.string (l.getD k Ba).name):=hcell 0 (by decide)
         have e1:wr.cell? ⟨eg,eo+k*3+1,none⟩=some (.int .i64 (l.getD k Ba).num):=hcell 1 (by decide)
         have e2:wr.cell? ⟨eg,eo+k*3+2,none⟩=some (.bool (l.getD k Ba).dir):=hcell 2 (by decide)
         obtain⟨N1,hN1⟩: ∃x,N0++(l.take k).map (·.name)=x:=⟨_,rfl⟩
         have HN1:=lhi (show N1++[(l.getD k Ba).name]=N0++(l.take (k+1)).map (·.name)by
          rw[<-hN1,List.take_add_one,Amh hkl,An hkl]
          simp only[Option.toList_some,List.map_append,List.map_cons,List.map_nil,List.append_assoc])
         have hN1l:N1.length<=10000:=by rw[<-hN1];simp;omega
         rw[hN1]at hr
         obtain⟨⟨xn,xu,xd⟩,hx⟩: ∃x,l.getD k Ba=x:=⟨_,rfl⟩
         rw[hx]at e0 e1 e2 HN1
         obtain⟨nl,hnl2⟩: ∃x,N1.length=x:=⟨_,rfl⟩
         have HNL1:=lhi hnl2
         have HRR:=lhi hr
         have HIT:=lhi hit
         clear hcell hrow hr hit hN1 hx
         go_upto_region 16 with(fail)
         refine letW (fun W1 hW1=>?_)
         obtain⟨hx1,hb1⟩:=Du hW1
         obtain⟨eb,heb⟩: ∃x,wr.heap.size=x:=⟨_,rfl⟩
         have h1:=HRR.out.map (W':=W1) fun _ h=>hW1▸h.allocAt HL.out #[.string xn,.int .i64 xu,.bool xd] 136 heb.symm
         have hi1:=Nq HIT.out fun q cs hq=>Blk.of_heap (hb1.block _ hq.lt) hq
         rw[heb]at⊢
         have hs1:=h1.drew.bk (Amc _ (Amc _ (Amb ..)))
         have hx1:=h1.drew.bk (Amb ..)
         have s15:W1.drew.cell? ⟨sp,15,none⟩=some (.slice na nl nc):=by rw[<-hnl2];exact hs1.cell 15
         rw[hnl2]at hN1l
         clear hW1 hb1 heb e0 e1 e2 HRR HIT
         refine Af (L:=13) (S:=fun w'=>w'.cell? ⟨sp,15,none⟩=some (.slice na nl nc)/\w'.cell? ⟨eb,0,none⟩=some (.string xn)) (by kernel_rfl) ⟨s15,hx1.cell 0⟩ (fun hHeld=>?_)
         refine tF 0 ?_
         refine tF 1 ?_
         refine tF 2 ?_
         refine tF 3 ?_
         refine tF 4 ?_
         refine tF 5 ?_
         refine tF 6 ?_
         refine tF 7 ?_
         refine t1 8 (fun K hK=>?_)
         go_simp
         have hb2:=(Amf W1.drew.heap.size W1.drew).alloc (Ama _) (.cells #[.string xn] 9)
         have h2:=h1.drew.map fun _ h=>h.below hb2 HL.out
         have hi2:=Nq hi1 fun q cs hq=>Blk.of_heap (hb2.block _ hq.lt) hq
         have hs2:=h2.bk (Amc _ (Amc _ (Amb ..)))
         have hx2:=h2.bk (Amb ..)
         have t15:(W1.drew.alloc (.cells #[.string xn] 9)).cell? ⟨sp,15,none⟩=some (.slice na nl nc):=by rw[<-hnl2];exact hs2.cell 15
         refine tK hK ⟨t15,hx2.cell 0⟩ (fun hHeld=>?_)
         clear hK K
         have hO:=h2.row0
         have hsz:=h2.size
         dsimp only at hO
         rw[hnl2]at hO
         obtain⟨j0,hj,hy0,hy1,hy2⟩:=info_parts (show(Tryz.prog.info? 9).map (fun i=>(i.zero,i.size,i.bytes))=some (some (.string ⟨#[]⟩),1,16)by kernel_rfl)
         refine t1 9 (fun K hK=>?_)
         refine step_append_lies _ rfl (.tmp 86) (.tmp 89) 39 rfl w.heap.size 9 j0 _ 1 16 Tryz.underlying39 hj hy0 hy1 hy2 rfl (by decide) (.slice na nl nc) nl _ rfl hO ⟨W1.drew.heap.size,0,none⟩ 1 1 [.string xn] rfl rfl (World.news_of_block (heap_alloc_new _ _)) (by intro u hu;simp at hu;subst hu;rfl) (by decide) (by simp only[maxLen];omega) (by omega) hsz _ rfl ?_
         intro g2 cap2 w5 hown2 hgrow hat hlt2
         have h5:=nRow.push h2 HL.out hnl2 hown2 hgrow hat
         have hi5:=Nq hi2 fun q cs hq=>Am hq hgrow (Ah hO hq (by decide))
         have hs5:=h5.bk (Amc _ (Amc _ (Amb ..)))
         have hx5:=h5.bk (Amb ..)
         have z15:w5.cell? ⟨sp,15,none⟩=some (.slice na nl nc):=by rw[<-hnl2];exact hs5.cell 15
         have f15:=hs5.frozen 15
         refine tK hK ⟨z15,hx5.cell 0⟩ (fun hHeld=>?_)
         clear hK K
         refine tF 10 ?_
         refine tF 11 ?_
         refine tF 12 ?_
         refine t1 13 (fun K hK=>?_)
         go_simp
         refine tL hK ?_
         clear hK K hHeld
         have HI5:=lhi (Nq hi5 fun q cs hq=>hq.far (p:=⟨sp,15,none⟩) (Blk.ne_ hq hs5 (by decide)) (.slice (some ⟨g2,0,none⟩) (nl+1) cap2))
         have H5:=lhi (h5.map fun _ h=>(h.drop0.set1 HL.out 15 (.slice (some ⟨g2,0,none⟩) (nl+1) cap2)))
         clear hi1 hi2 hi5 h1 h2 h5 hs1 hs2 hs5 hx1 hx2 hx5 s15 t15 z15 f15 hO hsz hown2 hgrow hat hb2
         have e:(N1++[xn]).length=nl+1:=by simp[HNL1.out]
         have HEN:=lhi e
         clear e hkl hcap
         go_wp2_with (fail)
         go_roundw
         case rel=>exact⟨k+1,some ⟨g2,0,none⟩,cap2,by simp,by omega,HI5.out,by rw[<-HN1.out,HEN.out];exact H5.out⟩
         case measure=>simp only[intOf];omega
        ·obtain rfl:k=m:=by omega
         rw[List.take_of_length_le (by rw[HM.out];omega),HSU.out]at hr
         have HRR:=lhi hr
         clear hr hit
         go_wp2_with (fail)
         go_roundw
         case rel=>exact⟨b+1,na,nc,by simp,by omega,HRR.out⟩
         case measure=>simp only[intOf];omega
      ·obtain rfl:b=8:=by omega
       have HST:=lhi (Adt hr.row0 (by have:=HNL.out 8 (by omega);omega))
       have hs5:=hr.bk (Amc _ (Amb ..))
       have s15:wr.cell? ⟨sp,15,none⟩=some (.slice na (nmsM M inu 8).length nc):=hs5.cell 15
       clear hs5 hr H3
       go_wp2_with (go_at_call 212;refine HST.out.mono ?_;rintro e w6 ⟨rfl,D',hp,hso,hg,ho⟩)
       go_end0
       have hle:=hp.length_eq
       refine⟨_,HO1.out D' hp hso,rfl,na,nc,?_⟩
       have h6:=HR.out.map (W':=w6) fun _ h=>(h.app HL.out (v':=.slice na D'.length nc) ho hg (fun q hq=>.inl (by rw[<-hle]at hq;exact hq))).drop0
       rw[<-hle]
       exact h6.mono (by omega) (by decide)
   ·-- Stat
    have s13:w3.cell? ⟨sp,13,none⟩=some (.bool false):=hs3.cell 13
    have f13:=hs3.frozen 13
    have h4:=H3.out.map fun _ h=>h.set1 HL.out 13 (.bool idr)
    cases idr
    ·have HF:=HFI.out rfl
     have HO1:=HO.out _ rfl
     clear hs3 hq3
     go_upto_region 23 with(fail)
     refine letW (fun w4 hw4=>?_)
     rw[<-hw4]at h4
     have h5:=h4.drew
     have HB5:=lhi (Xb h5 HF.n HF.b HF.z (by omega))
     have hs5:=h5.bk (Amc _ (Amb ..))
     have hq5:=h5.bk (Amb ..)
     obtain⟨⟨bn,bd,bh⟩,hb⟩: ∃b,M.bas inu=b:=⟨_,rfl⟩
     rw[hb]at HB5
     replace HO1:=lhi (show Ji M c cv (.ret (bd.size:Int) false ⟨#[]⟩ [])by rw[show bd=(M.bas inu).2.1 by rw[hb]];exact HO1)
     simp only[Id]at HB5
     refine Af (L:=14) (S:=fun w'=>(w'.cell? ⟨sp,0,none⟩=some (.pointer (some ⟨s,0,none⟩))/\w'.cell? ⟨sp,1,none⟩=some (.int .i64 c))/\w'.cell? ⟨q,1,none⟩=some (.int .i64 inu)) (by kernel_rfl) ⟨⟨hs5.cell 0,hs5.cell 1⟩,hq5.cell 1⟩ (fun hHeld=>?_)
     clear hw4 h4 h5 hs5 hq5 s2 p1 p2 s13 f13 hb HFI HO
     refine tF 0 ?_
     refine tF 1 ?_
     refine tF 2 ?_
     refine tF 3 ?_
     refine tF 4 ?_
     refine tF 5 ?_
     refine tF 6 ?_
     refine tF 7 ?_
     refine t1 8 (fun K hK=>?_)
     go_simp
     refine HB5.out.mono ?_
     rintro e w6 ⟨rfl,h6⟩
     show K _ _
     have hs6:=h6.bk (Amc _ (Amb ..))
     have hq6:=h6.bk (Amb ..)
     have H6:=lhi h6
     refine tK hK ⟨⟨hs6.cell 0,hs6.cell 1⟩,hq6.cell 1⟩ (fun hHeld=>?_)
     clear hK K hq6 h6
     refine tF 9 ?_
     refine tF 10 ?_
     refine tF 11 ?_
     refine tF 12 ?_
     refine tF 13 ?_
     have s12:w6.cell? ⟨sp,12,none⟩=some (.int .i64 0):=hs6.cell 12
     have f12:=hs6.frozen 12
     refine t1 14 (fun K hK=>?_)
     go_simp
     refine tL hK ?_
     clear hK K hHeld hs6 s12 f12
     go_wp2_with (fail)
     go_end0
     exact⟨_,HO1.out,rfl,none,0,(H6.out.map fun _ h=>(h.set1 HL.out 12 _).drop0.nilRow 9 1).mono (by omega) (by decide)⟩
    ·have H4:=lhi h4
     have HO1:=lhi (HO.out _ rfl)
     clear hs3 hq3 h4
     go_wp2_with (fail)
     go_end0
     exact⟨_,HO1.out,rfl,none,0,(H4.out.map fun _ h=>h.drop0.nilRow 9 1).mono (by omega) (by decide)⟩
   ·-- Links
    cases idr
    ·have HF:=lhi (HFI.out rfl)
     have HO1:=lhi (HO.out _ rfl)
     obtain⟨ht8,a,ha,hco⟩:=Aju H3.out
     have HCO:=lhi hco
     have s0:w3.cell? ⟨sp,0,none⟩=some (.pointer (some ⟨s,0,none⟩)):=hs3.cell 0
     obtain⟨T,hT⟩:=xx M.ts.length
     rw[hT]at HCO HO1 ht8
     clear hs3 hq3 hco hT HO HFI
     go_upto_region 4 with(first
      | (go_at_call 199;refine(Ec _ _).mono ?_;rintro e w' ⟨rfl,rfl⟩)
      | (go_at_call 89;refine HCO.out.mono ?_;rintro e w' ⟨rfl,rfl⟩))
     clear s0 s2 p1 p2 ha HCO
     go_loopw [33] (fun i wr=>∃k:Nat,i= .int .i64 k/\k<=T/\Rf L w s M c (n+100+k) (⟨q,276,#[.string inm,.int .i64 inu,.bool false,.slice ta tn tc]⟩::⟨sp,193,Bi s c cv (resO (lnk M inu k) false ⟨#[]⟩ none 0 0)⟩::Bs) [] wr) (fun i _=>T - (intOf i).toNat)
     case atStart=>exact⟨0,rfl,by omega,H3.out⟩
     case round=>
      obtain⟨k,rfl,hk,hr⟩:=hrel
      have HR:=lhi hr
      by_cases hlt:k<T
      ·have hki:(k:Int)<T:=by omega
       have hwb:=HF.out.l (8+ (k:Int)) (by omega) (by omega)
       have hlb:=Ag9 HF.out k (by omega)
       have HLN:=lhi (show lnk M inu k+rd M.ws (wd inu (8+ (k:Int)))=lnk M inu (k+1)from rfl)
       have hin:=HF.out.n
       have HLD:=lhi (fun(W:World) (h':Rf L w s M c (n+100+k) (⟨q,276,#[.string inm,.int .i64 inu,.bool false,.slice ta tn tc]⟩::⟨sp,193,Bi s c cv (resO (lnk M inu k) false ⟨#[]⟩ none 0 0)⟩::Bs) [] W)=>Abr h' (i:=wd inu (8+ (k:Int))) (Il hin (by omega)) (by omega))
       have HWD:=lhi (fun W=>Cs inu (8+ (k:Int)) (by omega) (by omega) W)
       obtain⟨lk,hlk⟩: ∃x,lnk M inu k=x:=⟨_,rfl⟩
       obtain⟨ix,hix⟩: ∃x,wd inu (8+ (k:Int))=x:=⟨_,rfl⟩
       obtain⟨rw_,hrw⟩: ∃x,rd M.ws ix=x:=⟨_,rfl⟩
       rw[hix]at HLD HWD hwb HLN
       rw[hrw]at HLD hwb HLN
       rw[hlk]at HLD hlb HLN hr HR
       have e1:IntKind.i64.wrap (8+ (k:Int))=8+k:=IntWalk.i64_in _ (by omega)
       have e2:IntKind.i64.wrap (lk+rw_)=lk+rw_:=IntWalk.i64_in _ (by omega)
       clear hlk hix hrw
       go_upto_region 6 with(fail)
       have h5:=hr.drew
       have hs5:=h5.bk (Amc _ (Amb ..))
       have hq5:=h5.bk (Amb ..)
       refine Af (L:=20) (S:=fun w'=>(w'.cell? ⟨sp,0,none⟩=some (.pointer (some ⟨s,0,none⟩))/\w'.cell? ⟨sp,1,none⟩=some (.int .i64 c)/\w'.cell? ⟨sp,12,none⟩=some (.int .i64 lk))/\w'.cell? ⟨q,1,none⟩=some (.int .i64 inu)) (by kernel_rfl) ⟨⟨hs5.cell 0,hs5.cell 1,hs5.cell 12⟩,hq5.cell 1⟩ (fun hHeld=>?_)
       refine tF 0 ?_
       refine tF 1 ?_
       refine tF 2 ?_
       refine tF 3 ?_
       refine tF 4 ?_
       refine tF 5 ?_
       refine tF 6 ?_
       refine tF 7 ?_
       refine tF 8 ?_
       refine tF 9 ?_
       refine tF 10 ?_
       refine tF 11 ?_
       refine tF 12 ?_
       refine tF 13 ?_
       refine t1 14 (fun K hK=>?_)
       go_simp
       refine(HWD.out _).mono ?_
       rintro e w' ⟨rfl,rfl⟩
       show K _ _
       refine tK hK ⟨⟨hs5.cell 0,hs5.cell 1,hs5.cell 12⟩,hq5.cell 1⟩ (fun hHeld=>?_)
       clear hK K
       refine t1 15 (fun K hK=>?_)
       go_simp
       refine(HLD.out _ h5).mono ?_
       rintro e w6 ⟨rfl,h6⟩
       show K _ _
       have hs6:=h6.bk (Amc _ (Amb ..))
       have hq6:=h6.bk (Amb ..)
       have H6:=lhi h6
       refine tK hK ⟨⟨hs6.cell 0,hs6.cell 1,hs6.cell 12⟩,hq6.cell 1⟩ (fun hHeld=>?_)
       clear hK K hs5 hq5 h5 hq6 h6
       refine tF 16 ?_
       refine tF 17 ?_
       refine tF 18 ?_
       refine tF 19 ?_
       have s12:w6.cell? ⟨sp,12,none⟩=some (.int .i64 lk):=hs6.cell 12
       have f12:=hs6.frozen 12
       refine t1 20 (fun K hK=>?_)
       go_simp
       refine tL hK ?_
       clear hK K hHeld hs6 s12 f12 hr
       go_wp2_with (fail)
       go_roundw
       case rel=>exact⟨k+1,by simp,by omega,by rw[<-HLN.out];exact H6.out.map fun _ h=>h.set1 HL.out 12 _⟩
       case measure=>simp only[intOf];omega
      ·obtain rfl:k=T:=by omega
       clear hr
       go_wp2_with (fail)
       go_end0
       exact⟨_,HO1.out,rfl,none,0,(HR.out.map fun _ h=>h.drop0.nilRow 9 1).mono (by omega) (by decide)⟩
    ·have HO1:=lhi (HO.out (.bad 8) rfl)
     clear hs3 hq3
     go_wp2_with (go_at_call 199;refine(Em _ _).mono ?_;rintro e w' ⟨rfl,rfl⟩)
     exact⟨rfl,_,HO1.out,rfl,_,(H3.out.map fun _ h=>h.drop0).mono (by omega) (by decide)⟩
section
variable{L:Nat->Prop}{w W:World}{s sp:Nat}{M:Mem}{c:Int}{cv:Ad}{Bs:List LB}{o:Oc}
theorem RunO.ends{e:Ending}(h:RunO L w s M c cv sp Bs o e W):e= .returned (.tuple #[])∨ ∃ch,e= .panicked ch:=by
 cases o with
 | ret=>exact .inl h.1
 | bad=>exact .inr ⟨_,h.1⟩
 | wait=>
  obtain⟨A,cap,h,-⟩:=h
  exact .inr ⟨_,h⟩
 | again=>exact .inr ⟨_,h.1⟩
def BegO(M:Mem)(c:Int)(cv:Ad)(o:Oc):Prop:=
 if cv.kind=4 then o=Uf (fdN M c cv.fd) (M.bas (fdN M c cv.fd)) cv.off cv.num
 else if cv.kind=7 then o=if fdN M c cv.fd=0 then .bad 4 else .ret ((M.bas (fdN M c cv.fd)).2.1.size:Int) false ⟨#[]⟩ []
 else Ji M c cv o
def Lu(k:Int):Prop:=k=4∨k=7∨k=12∨k=13∨k=14
theorem Alt(h:Rf L w s M c 0 (⟨sp,193,Bi s c cv Aq⟩::Bs) [] W)(hl:Bd L w)(hp:cv.path.size<=4611686018427387904)(hk:Lu cv.kind)(hf:M.fit)
  (hfd:fdN M c cv.fd≠0->Fs M (fdN M c cv.fd)) (hF: ∀ns it,Au cv.path= .ok ns->(Ch c ns M Av).1= .at_ it->it.dir=false->Fs M it.num):
  Calls Tryz.prog 114 #[.pointer (some ⟨sp,0,none⟩),Ik] W fun e w'=>∃o,BegO M c cv o/\RunO L w s M c cv sp Bs o e w':=by
 have h1:=Ud
 have h2:=Xo
 have H0:=lhi h
 have HL:=lhi hl
 obtain⟨K2,hK2⟩: ∃x,cv.kind=x:=⟨_,rfl⟩
 have HT:=lhi (fun W (h3:Rf L w s M c 0 (⟨sp,193,Bi s c cv Aq⟩::Bs) [] W) hk'=>Akr h3 hl (by decide) hp hk' hf hF)
 have HRD:=lhi (fun W (h3:Rf L w s M c 0 (⟨sp,193,Bi s c cv Aq⟩::Bs) [] W)=>Akz h3 hl (by decide) rfl hfd)
 have HBC:=lhi (fun(W':World) (h':Rf L w s M c 1 (⟨sp,193,Bi s c cv Aq⟩::Bs) [] W') (h0:fdN M c cv.fd≠0)=>Xb h' (hfd h0).n (hfd h0).b (hfd h0).z (by decide))
 have HO:=lhi (fun o (h:if K2=4 then o=Uf (fdN M c cv.fd) (M.bas (fdN M c cv.fd)) cv.off cv.num
  else if K2=7 then o=if fdN M c cv.fd=0 then .bad 4 else .ret ((M.bas (fdN M c cv.fd)).2.1.size:Int) false ⟨#[]⟩ []
  else Ji M c cv o)=>show BegO M c cv o by unfold BegO;rw[hK2];exact h)
 rw[hK2]at hk HT
 have HK2:=lhi hK2
 clear h hl hp hf hfd hF hK2
 go_enter Tryz.func114,Tryz.ntmps114
 go_upto_region 6 with(fail)
 refine letW (fun w2 hw2=>?_)
 have h3:=H0.out.map (W':=w2) fun _ h=>h.below (by rw[hw2];exact((Amf _ _).alloc (Ama _) _).alloc (by simp) _) HL.out
 have s2:w2.cell? ⟨sp,2,none⟩=some (.int .i64 K2):=by rw[<-HK2.out];exact(h3.bk (Amb ..)).cell 2
 have H3:=lhi h3
 clear hw2 h3 h1 h2 H0
 rcases hk with rfl | rfl | hk
 ·have HO1:=lhi (HO.out _ rfl)
  have HX:=lhi (HRD.out _ H3.out)
  clear HO HRD HT HBC
  go_wp2_with (go_at_call 164;refine HX.out.mono ?_;rintro e w' ho;rcases ho.ends with rfl | ⟨ch,rfl⟩)
  ·go_end0
   exact⟨_,HO1.out,ho⟩
  ·exact⟨rfl,_,HO1.out,ho⟩
 ·have hs3:=H3.out.drew.bk (Amb ..)
  have HFL:=lhi (Ahp H3.out.drew (Amb ..) (by decide))
  obtain⟨num,hnum⟩: ∃x,fdN M c cv.fd=x:=⟨_,rfl⟩
  obtain⟨⟨bn,bd,bh⟩,hb⟩: ∃b,M.bas num=b:=⟨_,rfl⟩
  rw[hnum]at HFL HBC HO
  rw[hb]at HO HBC
  clear HRD HT hnum hb
  go_upto_region 22 with(fail)
  refine Af (L:=13) (S:=fun w'=>w'.cell? ⟨sp,0,none⟩=some (.pointer (some ⟨s,0,none⟩))/\w'.cell? ⟨sp,1,none⟩=some (.int .i64 c)) (by kernel_rfl) ⟨hs3.cell 0,hs3.cell 1⟩ (fun hHeld=>?_)
  clear hs3 s2
  refine tF 0 ?_
  refine tF 1 ?_
  refine tF 2 ?_
  refine tF 3 ?_
  refine tF 4 ?_
  refine tF 5 ?_
  refine t1 6 (fun K hK=>?_)
  go_simp
  refine HFL.out.mono ?_
  rintro e w4 ⟨he,h4⟩
  unfold Lz at he
  by_cases h0:num=0
  ·have HO1:=HO.out (.bad 4) (if_pos h0).symm
   rw[if_pos h0]at he
   subst he
   exact⟨rfl,_,HO1,rfl,_,h4.mono (by omega) (by decide)⟩
  ·have HO1:=lhi (HO.out _ (if_neg h0).symm)
   rw[if_neg h0]at he
   subst he
   show K _ _
   have HB4:=lhi (HBC.out _ h4 h0)
   have hs4:=h4.bk (Amb ..)
   refine tK hK ⟨hs4.cell 0,hs4.cell 1⟩ (fun hHeld=>?_)
   clear hK K hs4 h4 HO HBC HFL
   refine t1 7 (fun K hK=>?_)
   go_simp
   refine HB4.out.mono ?_
   rintro e w5 ⟨rfl,h5⟩
   show K _ _
   have hs5:=h5.bk (Amb ..)
   refine tK hK ⟨hs5.cell 0,hs5.cell 1⟩ (fun hHeld=>?_)
   clear hK K
   refine tF 8 ?_
   refine tF 9 ?_
   refine tF 10 ?_
   refine tF 11 ?_
   refine tF 12 ?_
   have s12:w5.cell? ⟨sp,12,none⟩=some (.int .i64 0):=hs5.cell 12
   have f12:=hs5.frozen 12
   refine t1 13 (fun K hK=>?_)
   go_simp
   refine tL hK ?_
   have H5:=lhi (h5.map fun _ h=>(h.set0 HL.out 12 (.int .i64 bd.size)).nilRow 9 1)
   clear hK K hHeld hs5 s12 f12 h5
   go_wp2_with (fail)
   go_end0
   exact⟨_,HO1.out,rfl,none,0,H5.out.mono (by omega) (by decide)⟩
 ·have HO1:=lhi (fun o (ho:Ji M c cv o)=>HO.out o (by rw[if_neg (by omega),if_neg (by omega)];exact ho))
  have HX:=lhi (HT.out _ H3.out hk)
  clear HO HRD HT HBC
  rcases hk with rfl | rfl | rfl
  all_goals
   go_wp2_with (go_at_call 170;refine HX.out.mono ?_;rintro e w' ⟨o,hto,ho⟩;rcases ho.ends with rfl | ⟨ch,rfl⟩)
   ·go_end0
    exact⟨_,HO1.out _ hto,ho⟩
   ·exact⟨rfl,_,HO1.out _ hto,ho⟩
end
theorem Adq(x:Value)(W:World):(Instr.typeAssert (.iface 198 (.agg #[x])) 20 195 true).run Tryz.prog W= .ok (.tuple #[.agg #[.int .i64 0],.bool false]) W:=by kernel_rfl
theorem Acb{p q:Nat}{t:TypeId}{y:Value}{w:World}(hpq:p≠q)(hp:Blk w p 41 Aq.cs){v:Value}(hq:Blk w q 20 #[v])(older:List PanicEntry):
  CallsD Tryz.prog 113 #[.pointer (some ⟨p,0,none⟩),.pointer (some ⟨q,0,none⟩)] (.panicking ({v:=.iface 198 (.agg #[.iface t y]),recovered:=false}::older)) w fun e u' w'=>e= .returned (.tuple #[])/\u'= .panicking ({v:=.iface 198 (.agg #[.iface t y]),recovered:=true}::older)/\w'=(((((w.alloc (.cells #[.int .i64 0] 195)).alloc (.cells #[.iface t y] 198)).setCells p 0 (Fl 0)).setCell ⟨q,0,none⟩ (.iface t y))).drew:=by
 have h1:=Adq (.iface t y)
 have h2:=Ail (.agg #[.iface t y])
 have HP:=lhi hp
 have HQ:=lhi hq
 clear hp hq
 refine callsD_of_wpS Tryz.func113 rfl fun c₀ cs hu=>?_
 simp only[Tryz.ntmps113,List.size_toArray,List.length_cons,List.length_nil,Nat.reduceAdd,Nat.reduceSub,Array.replicate_succ,Array.replicate_zero,List.push_toArray,List.append_toArray,List.nil_append,List.cons_append]
 apply wpS_seq
 apply wpS_region
 simp[wpOpsS,go_sem,recoverD,hu,Exit.thenS]
 refine wpS_of_wp (Code.wp_mono (Q:=Aa1 (fun w'=>w'=(((((w.alloc (.cells #[.int .i64 0] 195)).alloc (.cells #[.iface t y] 198)).setCells p 0 (Fl 0)).setCell ⟨q,0,none⟩ (.iface t y))).drew)) ?_ ?_)
 ·rintro e a w' ⟨he,hd,rfl⟩
  cases c₀
  rcases he with rfl | rfl <;> simp_all [bodyPostS,results,Tryz.results113]
 ·clear hu
  go_upto_region 7 with(fail)
  refine letW (fun w5 hw5=>?_)
  have HW5:=lhi hw5
  obtain⟨-,hb,hB⟩:=Lp hw5
  obtain⟨n,hn⟩:=xx (w.heap.size+1)
  rw[hn]at hb⊢
  have hp5:=Blk.of_heap (hB.block _ HP.out.lt) HP.out
  have hq5:=Blk.of_heap (hB.block _ HQ.out.lt) HQ.out
  obtain⟨c0,c1,c2,c3,c4,c5⟩:=Blk.d6 hp5
  obtain⟨f0,f1,f2,f3,f4,f5⟩:=Blk.f6 hp5
  have cq:w5.cell? ⟨q,0,none⟩=some v:=hq5.cell 0
  have fq:w5.frozen? ⟨q,0,none⟩=false:=hq5.frozen 0
  have b0:w5.cell? ⟨n,0,none⟩=some (.iface t y):=hb.cell 0
  have e1:n≠p:=by have:=HP.out.lt;omega
  have e2:n≠q:=by have:=HQ.out.lt;omega
  have e3:q≠p:=Ne.symm hpq
  have e4:p≠n:=Ne.symm e1
  clear hw5 hb hB hn hp5 hq5
  go_region
  all_goals
   exact⟨.inl rfl,rfl,by rw[<-HW5.out];rfl⟩
end Go.Proofs.YtkebjgebkneijaaGreat
