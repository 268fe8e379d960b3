/- Texts of one's own that a claim's last text rests on: Lk18 Lk19 Rp3 Mr1 Mr2 Mr3 Ld1. -/
import Derived.Test.YtkebjgebkneijaaGreatMG22
import Derived.Test.YtkebjgebkneijaaGreatMG13
set_option linter.unusedVariables false
set_option linter.unusedSimpArgs false
namespace Go.Proofs.YtkebjgebkneijaaGreat
open Go.RowKit
set_option maxHeartbeats 16000000
set_option maxRecDepth 1000000
def OutZ(c:Int)(M:Mem)(o:Oc)(r:ResV)(nx:Value)(M':Mem)(G:Nat->Prop)(w':World):Prop:=Seen c 300 M M'/\match o with
 | .ret num dir data ns=>∃na nc,nx= .nilIface/\r=resO num dir data na ns.length nc/\Ak w' (.slice na ns.length nc) ns.length 1 (nmC ns)/\ ∀q,Es (.slice na ns.length nc) q->G q
 | .bad k=>nx= .nilIface/\r=⟨k,0,0,false,⟨#[]⟩,none,0,0⟩
 | .wait b k half more both=>∃A cap,nx=Ff b (.slice A k cap) half more both/\r=Aq/\Ak w' (.slice A k cap) k 1 zC/\ ∀q,Es (.slice A k cap) q->G q
 | .again b A k cap half more=>nx=Ff b (.slice A k cap) half more true/\r=Aq
theorem Nc{G:Nat->Prop}{w w':World}{A:Option Addr}{n cap k:Nat}{C:Nat->Nat->Value}(h:Ak w (.slice A n cap) n k C)(hG: ∀q,Es (.slice A n cap) q->G q)(hk:Kp G w w'):Ak w' (.slice A n cap) n k C:=by
 obtain⟨A',cap',e,h1,h2⟩:=h
 injection e with e1 e2 e3
 subst e1 e3
 refine⟨_,_,rfl,h1,fun hn=>?_⟩
 obtain⟨g,off,rfl,hc⟩:=h2 hn
 exact⟨g,off,rfl,fun i j hi hj=>hk.cellOf (p:=⟨g,off+ (i*k+j),none⟩) (hG g ⟨_,_,_,rfl⟩) (hc i j hi hj)⟩
theorem OutZ.kp{c:Int}{M:Mem}{o:Oc}{r:ResV}{nx:Value}{M':Mem}{G:Nat->Prop}{w1 w2:World}(h:OutZ c M o r nx M' G w1)(hk:Kp G w1 w2):OutZ c M o r nx M' G w2:=by
 refine⟨h.1,?_⟩
 have h2:=h.2
 cases o with
 | ret num dir data ns=>
  obtain⟨na,nc,h3,h4,h5,h6⟩:=h2
  exact⟨na,nc,h3,h4,Nc h5 h6 hk,h6⟩
 | bad=>exact h2
 | wait=>
  obtain⟨A,cap,h3,h4,h5,h6⟩:=h2
  exact⟨A,cap,h3,h4,Nc h5 h6 hk,h6⟩
 | again=>exact h2
def Aj9(Rs:List RB)(b:Nat):Prop:=∃r∈Rs,r.v.ownBlock=some b
theorem Rf.give{L:Nat->Prop}{w W:World}{s:Nat}{M:Mem}{c:Int}{n:Nat}{Rs:List RB}(h:Rf L w s M c n [] Rs W): ∃M',Seen c n M M'/\Ab (By L (Aj9 Rs)) W s M'/\Kp L w W/\ ∀b,Aj9 Rs b->w.heap.size<=b:=by
 obtain⟨-,-,M',h1,h2⟩:=h
 obtain⟨K,k1,k2,-,k4⟩:=h2.ex
 exact⟨M',h1,k2.sub fun b hb=>hb.elim (k1 b) fun⟨r,hr,e⟩=>(k4 r hr).2 b e,h2.kp,fun b ⟨r,hr,e⟩=>((k4 r hr).1.lt b e).1⟩
theorem Agm{w:World}{b:Nat}{t:TypeId}{k n:Nat}{v:Value}{xs:List Value}(h:w.ownsRow b t k v n xs){q:Nat}(hq:Es v q):v.ownBlock=some q:=by
 obtain⟨off,n',cap',rfl⟩:=hq
 rcases h.2 with⟨hv,_⟩ | ⟨g,cap,cur,hv,_⟩
 ·cases hv
 ·injection hv with h1
  injection h1 with h1
  injection h1 with h1 h2
  subst h1 h2
  rfl
theorem Adl.out{K:Nat->Prop}{W w':World}{s:Nat}{M:Mem}{c:Int}{o:Oc}{e:Ending}(h:Adl K W s M c o e w'): ∃r nx M' G,e= .returned (.tuple #[.agg r.cs,nx])/\isAt nx/\OutZ c M o r nx M' G w'/\ (∀b,G b->W.heap.size<=b)/\Ab (By K G) w' s M'/\Kp K W w':=by
 cases o with
 | ret num dir data ns=>
  obtain⟨na,nc,rfl,hr⟩:=h
  have hO:=hr.row0
  obtain⟨M',h1,h2,h3,h4⟩:=hr.give
  have hA:=(Cc (enc:=encS) (k:=1) (by decide) (fun _=>rfl) (by rw[Ns];exact hO) (Xe ns)).at'
  exact⟨_,_,M',_,rfl,.inl rfl,⟨h1,na,nc,rfl,rfl,hA,fun q hq=>⟨_,Amb ..,Agm hO hq⟩⟩,h4,h2,h3⟩
 | bad k=>
  obtain⟨rfl,hr⟩:=h
  obtain⟨M',h1,h2,h3,h4⟩:=hr.give
  exact⟨⟨k,0,0,false,⟨#[]⟩,none,0,0⟩,_,M',_,rfl,.inl rfl,⟨h1,rfl,rfl⟩,h4,h2,h3⟩
 | wait b k half more both=>
  obtain⟨A,cap,rfl,hr⟩:=h
  have hO:=hr.row0
  obtain⟨M',h1,h2,h3,h4⟩:=hr.give
  exact⟨_,_,M',_,rfl,.inr ⟨_,_,rfl⟩,⟨h1,A,cap,rfl,rfl,z_at hO,fun q hq=>⟨_,Amb ..,Agm hO hq⟩⟩,h4,h2,h3⟩
 | again=>
  obtain⟨rfl,hr⟩:=h
  obtain⟨M',h1,h2,h3,h4⟩:=hr.give
  exact⟨_,_,M',_,rfl,.inr ⟨_,_,rfl⟩,⟨h1,rfl,rfl⟩,h4,h2,h3⟩
theorem Adw{L:Nat->Prop}{w:World}{fb s:Nat}{M:Mem}{m0 m k:Nat}{cv:Ad}(hok:Ok M k)(h0:M.ok m0)(hm:m0+300<=m)(hw: ∀y∈Go.Proofs.YtkebjgebkneijaaGreat.tr M.ts k,0<=y.1/\y.1<=1000000)(hp:cv.path.size<=4611686018427387904)(hk:Lu cv.kind)(hf:M.fit)
  (hfd:fdN M k cv.fd≠0->Fs M (fdN M k cv.fd)) (hF: ∀ns it,Au cv.path= .ok ns->(Ch k ns M Av).1= .at_ it->it.dir=false->Fs M it.num):
  Qc L w fb s M m k cv Ik fun r nx M' G w'=>∃o,BegO M k cv o/\OutZ k M o r nx M' G w':=fun K W _ _ hM hfb=>by
 refine(Xp hM hok hfb (P:=BegO M k cv) fun W' hr=>Alt hr hM.bd hp hk hf hfd hF).mono ?_
 rintro e w' ⟨o,ho,hs⟩
 obtain⟨r,nx,M',G,h1,h2,h3,h4,h5,h6⟩:=hs.out
 exact⟨r,nx,M',G,h1,h2,h3.1.gd (by have:=hok.c;omega) h0 hm hw,⟨o,ho,h3⟩,h4,h5,h6⟩
theorem Rg{L:Nat->Prop}{w:World}{fb s:Nat}{M:Mem}{m0 m k:Nat}{cv:Ad}(hok:Ok M k)(h0:M.ok m0)(hm:m0+300<=m)(hw: ∀y∈Go.Proofs.YtkebjgebkneijaaGreat.tr M.ts k,0<=y.1/\y.1<=1000000){num:Int}(hfd:0<=cv.fd/\cv.fd<4)(hnum:fdN M k cv.fd=num)(hF:Fs M num)
  {o j f cu u:Nat} (ho:cv.off=o) (hk:cv.num=j) (ho2:o<=256) (hk2:j<=256) (hsp:Fo o j (M.bas num).2.1.size=(f,cu,u)) (hu:u≠0) {A:Option Addr} {kk cap:Nat} (hkk:wN f (cu - f)=kk) (hrow:Ak w (.slice A kk cap) kk 1 zC) (hL: ∀q,Es (.slice A kk cap) q->L q) {half more:ByteArray} {both:Bool} (hb:both=true->half.size+more.size=16* (u - f)):
  Qc L w fb s M m k cv (Ff (M.bas num) (.slice A kk cap) half more both) fun r nx M' G w'=>OutZ k M (Nm (M.bas num) o j f cu u A kk cap half more both) r nx M' G w':=fun K W hbl hLK hM hfb=>by
 refine(Xp hM hok hfb (P:=fun o'=>o'=Nm (M.bas num) o j f cu u A kk cap half more both) fun W' hr=>Alu hr hM.bd hfd hnum hF ho hk ho2 hk2 hsp hu hkk (fun W2 h2=>Nc (hrow.keep hbl) (fun q hq=>hLK q (hL q hq)) h2) hb).mono ?_
 rintro e w' ⟨o',rfl,hs⟩
 obtain⟨r,nx,M',G,h1,h2,h3,h4,h5,h6⟩:=hs.out
 exact⟨r,nx,M',G,h1,h2,h3.1.gd (by have:=hok.c;omega) h0 hm hw,h3,h4,h5,h6⟩
theorem Aam(pg:Nat->ByteArray)(f:Nat)(a:Nat): ∀b,catP pg f (a+b)=catP pg f a++catP pg (f+a) b
 | 0=>by
  show _=_++(⟨#[]⟩:ByteArray)
  exact ByteArray.append_empty.symm
 | b+1=>by
  show catP pg f (a+b)++pg (f+ (a+b))=catP pg f a++(catP pg (f+a) b++pg (f+a+b))
  rw[Aam pg f a b,ByteArray.append_assoc,Nat.add_assoc]
theorem Ai1(b:Bas){f c u:Nat}(h1:f<=c)(h2:c<=u):pgs b f c++pgs b c u=pgs b f u:=by
 unfold pgs
 have e:u - f=(c - f)+ (u - c):=by omega
 rw[e,Aam]
 congr 2
 omega
def Nf(num:Int)(b:Bas)(o k:Int):Oc:=
 if num=0 then .bad 4 else if(0<=o/\o<=256)/\0<=k/\k<=256 then
  match Fo o.toNat k.toNat b.2.1.size with
  | (f,_,u)=>if u=0 then .ret 0 false ⟨#[]⟩ []else .ret 0 false (cutD b o.toNat k.toNat f (pgs b f u)) []
 else .bad 9
def padL(d:ByteArray):List UInt8:=d.data.toList++List.replicate 1000 0
theorem Afu{A:Type}(l r:List A)(n k:Nat)(h:n<=l.length):((l++r).drop k).take (n - k)=(l.drop k).take (n - k):=by
 rcases Nat.lt_or_ge k n with q | q
 ·rw[List.drop_append_of_le_length (by omega),List.take_append_of_le_length (by rw[List.length_drop];omega)]
 ·rw[show n - k=0 by omega];rfl
theorem Nv(d:ByteArray)(i j:Nat):(d.extract i j).data.toList=(d.data.toList.drop i).take (j - i):=by
 rw[ByteArray.data_extract,Array.toList_extract,List.extract_eq_take_drop]
theorem Ad4(b:Bas)(q:Nat)(hq:q<4)(hb:b.2.1.size<=256):(Hm b q).data.toList=((padL b.2.1).drop (64*q)).take 64:=by
 obtain⟨v0,d,h0⟩:=b
 unfold Hm
 dsimp only at hb⊢
 have hl:d.data.toList.length=d.size:=rfl
 obtain⟨x,hx⟩:=xx (Cx d (q*64) 64)
 have hxl:x.data.toList=(d.data.toList.drop (64*q)).take 64:=by
  rw[<-hx]
  unfold Cx
  split
  ·rw[List.drop_eq_nil_of_le (by omega)];rfl
  ·rw[Nv,Nat.mul_comm]
   apply List.ext_getElem?
   intro i
   rw[List.getElem?_take,List.getElem?_take]
   by_cases h1:i<64
   ·rw[if_pos h1]
    split
    ·rfl
    ·rw[List.getElem?_drop,List.getElem?_eq_none (by omega)]
   ·rw[if_neg h1,if_neg (by omega)]
 have hxs:x.size=min 64 (d.size - 64*q):=by
  have:x.data.toList.length=x.size:=rfl
  rw[<-this,hxl,List.length_take,List.length_drop,hl]
 rw[hx]
 unfold cutF
 show x.data.toList.take (min x.size 64)++(List.replicate 64 0).drop (min x.size 64)=_
 rw[List.take_of_length_le (by show x.size<=_;omega),hxl]
 unfold padL
 rcases Nat.lt_or_ge d.size (64*q)with h | h
 ·rw[List.drop_append,List.drop_eq_nil_of_le (by omega),List.take_nil,List.nil_append,List.nil_append,hl,List.drop_replicate,List.drop_replicate,List.take_replicate]
  congr 1
  omega
 ·rw[List.drop_append_of_le_length (by omega),List.take_append,List.drop_replicate,List.take_replicate,List.length_drop,hl]
  congr 2
  omega
theorem Ad9(b:Bas)(p:Nat)(hp:p<16)(hb:b.2.1.size<=256):((Hm b (p / 4)).extract (p % 4*16) (p % 4*16+16)).data.toList=((padL b.2.1).drop (16*p)).take 16:=by
 rw[Nv,Ad4 b _ (by omega) hb,List.drop_take,List.drop_drop,List.take_take]
 have e1:64* (p / 4)+p % 4*16=16*p:=by omega
 have e2:min (p % 4*16+16 - p % 4*16) (64 - p % 4*16)=16:=by omega
 rw[e1,e2]
theorem Yf(b:Bas)(hb:b.2.1.size<=256)(f:Nat): ∀k,f+k<=16->(catP (fun p=>(Hm b (p / 4)).extract (p % 4*16) (p % 4*16+16)) f k).data.toList=((padL b.2.1).drop (16*f)).take (16*k)
 | 0,_=>rfl
 | k+1,h=>by
  rw[catP,ByteArray.data_append,Array.toList_append,Yf b hb f k (by omega),Ad9 b _ (by omega) hb,show 16* (k+1)=16*k+16 by omega,List.take_add,List.drop_drop]
  congr 3
  omega
theorem Ae7{b:Bas}(hb:b.2.1.size<=256){o k f c u:Nat}(h:Fo o k b.2.1.size=(f,c,u)):(u=0->Cx b.2.1 o k=⟨#[]⟩)/\ (u≠0->cutD b o k f (pgs b f u)=Cx b.2.1 o k):=by
 obtain⟨v,d,hh⟩:=b
 dsimp only at h hb⊢
 rcases Jl hb h with⟨rfl,rfl,rfl⟩ | ⟨h1,h2,h3,h4,h5,h6,h7⟩
 ·refine⟨fun _=>?_,fun e=>absurd rfl e⟩
  have he:min (o+k) d.size<=o:=Nat.not_lt.1 fun q=>by
   rw[Om rfl (by omega) rfl rfl]at h
   injection h with _ h
   injection h with _ h
   omega
  unfold Cx
  split
  ·rfl
  ·exact ByteArray.extract_eq_empty_iff.2 (by omega)
 ·refine⟨fun e=>by omega,fun _=>?_⟩
  unfold Cx cutD
  rw[if_neg (by omega)]
  apply ByteArray.ext
  apply Array.toList_inj.1
  have hp:(pgs (v,d,hh) f u).data.toList=((padL d).drop (16*f)).take (16* (u - f)):=Yf (v,d,hh) hb f (u - f) (by omega)
  rw[Nv,Nv,hp,List.drop_take,List.drop_drop,List.take_take]
  dsimp only
  have e1:16*f+ (o - 16*f)=o:=by omega
  have e2:min (o - 16*f+min k (d.size - o) - (o - 16*f)) (16* (u - f) - (o - 16*f))=min d.size (o+k) - o:=by omega
  rw[e1,e2]
  exact Afu d.data.toList _ (min d.size (o+k)) o (Nat.min_le_left _ _)
structure Says (M:Mem) (i:Int) (o:Option Co):Prop where
 f:M.fine i
 a:M.at_ i=o
 z:rd M.ws i<=1000000000000
namespace Says
variable{M:Mem}{i j c v:Int}{o:Option Co}{m:Nat}
theorem note(h:Says M i o)(c:Int)(x:Acc):Says (M.note c x) i o:=⟨h.f,h.a,h.z⟩
theorem see(h:Says M i o)(c j:Int):Says (M.see c j) i o:=by
 unfold Mem.see
 split
 ·exact h
 ·exact h.note _ _
theorem put(h:Says M i o)(hij:i.toNat≠j.toNat)(v:Int):Says (M.put j v) i o:=by
 have e:rd (M.put j v).ws i=rd M.ws i:=Gs hij
 exact⟨by have:=h.f;unfold Mem.fine at this⊢;rw[e];exact this,by have:=h.a;unfold Mem.at_ at this⊢;rw[e];exact this,by rw[e];exact h.z⟩
theorem thing_give(M:Mem)(c:Int)(t:Co){n:Int}{x:Co}(h:M.thing n=some x):(M.give c t).thing n=some x:=by
 unfold Mem.thing at h⊢
 split at h
 ·cases h
 ·rename_i hn
  rw[if_neg hn]
  simp only[Mem.give]
  by_cases hc:c.toNat<M.nm.length
  ·rw[Da _ _ _ _ _ hc]
   split
   ·rename_i e
    rw[e]at h
    rw[List.getElem?_append_left (List.getElem?_eq_some_iff.1 h).1]
    exact h
   ·exact h
  ·rw[List.set_eq_of_length_le (by omega)]
   exact h
theorem give(h:Says M i o)(c:Int)(t:Co):Says (M.give c t) i o:=by
 obtain⟨h1,h2,h3⟩:=h
 rcases h1 with h0 | ⟨h0,hs⟩
 ·refine⟨.inl h0,?_,h3⟩
  unfold Mem.at_ at h2⊢
  show(M.give c t).thing (rd M.ws i)=o
  rw[h0]at h2⊢
  exact h2
 ·obtain⟨x,hx⟩:=Option.isSome_iff_exists.1 hs
  have hg:=thing_give M c t hx
  refine⟨.inr ⟨h0,?_⟩,?_,h3⟩
  ·show((M.give c t).thing (rd M.ws i)).isSome=true
   rw[hg];rfl
  ·unfold Mem.at_ at h2⊢
   show(M.give c t).thing (rd M.ws i)=o
   rw[hg,<-h2,hx]
theorem thing_next(M:Mem){c:Int}(hc:0<=c/\c<M.nm.length)(h8:c<8)(t:Co):(M.give c t).thing (M.next c)=some t:=by
 have hcn:c.toNat<M.nm.length:=by omega
 unfold Mem.thing Mem.next
 rw[if_neg (by omega)]
 have e1:((1+c+8* ((M.nm.getD c.toNat []).length:Int) - 1) % 8).toNat=c.toNat:=by omega
 have e2:((1+c+8* ((M.nm.getD c.toNat []).length:Int) - 1) / 8).toNat=(M.nm.getD c.toNat []).length:=by omega
 rw[e1,e2]
 simp only[Mem.give]
 rw[Da _ _ _ _ _ hcn,if_pos rfl]
 simp
theorem put_self{t:Co}(hok:M.ok m)(hm:m<=1000000000)(hc:0<=c/\c<M.nm.length)(h8:c<8)(hi:0<=i/\i<9549):Says ((M.give c t).put i (M.next c)) i (some t):=by
 have e:rd ((M.give c t).put i (M.next c)).ws i=M.next c:=by
  have hl:=hok.wl
  unfold rd Mem.put wr
  simp only[Mem.give]
  rw[Da _ _ _ _ _ (by omega),if_pos rfl]
 have hn:=thing_next M hc h8 t
 have hpos:0<M.next c:=by unfold Mem.next;omega
 have hnl:=hok.nl c.toNat
 refine⟨.inr ⟨by rw[e];exact hpos,?_⟩,?_,?_⟩
 ·rw[e]
  show((M.give c t).thing (M.next c)).isSome=true
  rw[hn];rfl
 ·unfold Mem.at_
  rw[e]
  exact hn
 ·rw[e]
  unfold Mem.next
  omega
end Says
structure Dk (M:Mem) (D:Int->Int->List Item):Prop where
 s: ∀num b,1<=num/\num<=257->0<=b/\b<8-> ∃o,Says M (wd num b) o/\ ((o=none/\D num b=[])∨o=some (.bucket (D num b)))
 i: ∀num b,1<=num/\num<=257->0<=b/\b<8->(D num b).length<=1000/\ ∀x∈D num b,1<=x.num/\x.num<=257
namespace Dk
variable{M M':Mem}{D:Int->Int->List Item}{c:Int}{m:Nat}
theorem bkt(h:Dk M D){num b:Int}(hn:1<=num/\num<=257)(hb:0<=b/\b<8):M.bkt num b=D num b:=by
 obtain⟨o,h1,h2⟩:=h.s num b hn hb
 unfold Mem.bkt
 rw[h1.a]
 rcases h2 with⟨rfl,h2⟩ | rfl
 ·rw[h2]
 ·rfl
theorem fit(h:Dk M D):M.fit:=by
 refine⟨fun num b hn hb=>?_,fun num b hn hb=>?_⟩
 ·obtain⟨o,h1,h2⟩:=h.s num b hn hb
  refine⟨⟨h1.f,fun t ht=>?_⟩,h1.z⟩
  rw[h1.a]at ht
  rcases h2 with⟨rfl,-⟩ | rfl
  ·cases ht
  ·exact⟨_,(Amg ht).symm⟩
 ·rw[h.bkt hn hb]
  exact h.i num b hn hb
theorem keep(h:Dk M D)(hs: ∀num b o,1<=num/\num<=257->0<=b/\b<8->Says M (wd num b) o->Says M' (wd num b) o):Dk M' D:=
 ⟨fun num b hn hb=>by obtain⟨o,h1,h2⟩:=h.s num b hn hb;exact⟨o,hs num b o hn hb h1,h2⟩,h.i⟩
theorem note(h:Dk M D)(c:Int)(x:Acc):Dk (M.note c x) D:=h.keep fun _ _ _ _ _ k=>k.note c x
theorem see(h:Dk M D)(c j:Int):Dk (M.see c j) D:=h.keep fun _ _ _ _ _ k=>k.see c j
theorem clear(h:Dk M D)(k:Nat):Dk (M.clear k) D:=h.keep fun _ _ _ _ _ q=>⟨q.f,q.a,q.z⟩
theorem put(h:Dk M D){j:Int}(hj: ∀num b,1<=num/\num<=257->0<=b/\b<8->(wd num b).toNat≠j.toNat)(v:Int):Dk (M.put j v) D:=h.keep fun num b _ hn hb k=>k.put (hj num b hn hb) v
theorem give(h:Dk M D)(c:Int)(t:Co):Dk (M.give c t) D:=h.keep fun _ _ _ _ _ k=>k.give c t
theorem wd_ne{num b num' b':Int}(hn:1<=num/\num<=257)(hb:0<=b/\b<37)(hn':1<=num'/\num'<=257)(hb':0<=b'/\b'<37)(h: ¬ (num=num'/\b=b')):(wd num b).toNat≠(wd num' b').toNat:=by
 unfold wd
 omega
theorem put_set(h:Dk M D)(hok:M.ok m)(hm:m<=1000000000)(hc:0<=c/\c<M.nm.length)(h8:c<8){num b:Int}(hn:1<=num/\num<=257)(hb:0<=b/\b<8){l:List Item}(hl:l.length<=1000/\ ∀x∈l,1<=x.num/\x.num<=257):
  Dk ((M.give c (.bucket l)).put (wd num b) (M.next c)) (fun n' b'=>if n'=num/\b'=b then l else D n' b'):=by
 refine⟨fun n' b' hn' hb'=>?_,fun n' b' hn' hb'=>?_⟩
 ·by_cases e:n'=num/\b'=b
  ·obtain⟨rfl,rfl⟩:=e
   exact⟨_,Says.put_self hok hm hc h8 (by unfold wd;omega),.inr (by rw[if_pos ⟨rfl,rfl⟩])⟩
  ·obtain⟨o,h1,h2⟩:=h.s n' b' hn' hb'
   refine⟨o,(h1.give c _).put (wd_ne hn' ⟨hb'.1,by omega⟩ hn ⟨hb.1,by omega⟩ e) _,?_⟩
   rw[if_neg e]
   exact h2
 ·by_cases e:n'=num/\b'=b
  ·rw[if_pos e];exact hl
  ·rw[if_neg e];exact h.i n' b' hn' hb'
theorem setW(h:Dk M D)(hok:M.ok m)(hm:m<=1000000000)(hc:0<=c/\c<M.nm.length)(h8:c<8){num b:Int}(hn:1<=num/\num<=257)(hb:0<=b/\b<8){l:List Item}(hl:l.length<=1000/\ ∀x∈l,1<=x.num/\x.num<=257):
  Dk (M.setW c (wd num b) (.bucket l)) (fun n' b'=>if n'=num/\b'=b then l else D n' b'):=(h.put_set hok hm hc h8 hn hb hl).note _ _
end Dk
abbrev DkT:=Int->Int->List Item
theorem Dk.congr{M:Mem}{D D':DkT}(h:Dk M D)(e: ∀num b,1<=num/\num<=257->0<=b/\b<8->D num b=D' num b):Dk M D':=
 ⟨fun num b hn hb=>by rw[<-e num b hn hb];exact h.s num b hn hb,fun num b hn hb=>by rw[<-e num b hn hb];exact h.i num b hn hb⟩
theorem Fd(i:Int):rd Jj i=0:=by
 unfold rd Jj
 simp only[Ame,List.getElem?_replicate]
 split <;> rfl
theorem Alc(n:Nat):Dk (Mem.new n) (fun _ _=>[]):=by
 refine⟨fun num b hn hb=>⟨none,⟨.inl (Fd _),?_,?_⟩,.inl ⟨rfl,rfl⟩⟩,fun num b hn hb=>⟨by simp,fun x hx=>by cases hx⟩⟩
 ·show(Mem.new n).thing (rd Jj _)=none
  rw[Fd];rfl
 ·show rd Jj _<=_
  rw[Fd];decide
def dB(S:St)(i:Nat)(D:DkT)(k:Nat):DkT:=fun num b=>if num=S.num i/\b<k/\As S (S.ino i).ents b.toNat≠[]then As S (S.ino i).ents b.toNat else D num b
def dI(S:St)(D:DkT):Nat->DkT
 | 0=>D
 | i+1=>dB S i (dI S D i) 8
theorem Ag8(S:St)(i:Nat)(M:Mem)(b:Nat):(Fg S i M b).nm.length=M.nm.length:=by
 unfold Fg
 split
 ·rfl
 ·simp[Mem.put,Mem.give]
theorem Iz(S:St)(i:Nat)(M:Mem): ∀k,(De S i M k).nm.length=M.nm.length
 | 0=>rfl
 | k+1=>(Ag8 S i _ k).trans (Iz S i M k)
theorem Ag5(S:St)(M:Mem)(i:Nat):(Gc S M i).nm.length=M.nm.length:=by
 unfold Gc
 split
 ·exact Iz S i M 8
 ·rw[<-Iz S i M 8]
  simp[Ei,Mem.put,Mem.give]
theorem Iy(S:St)(M:Mem): ∀i,(Ce S M i).nm.length=M.nm.length
 | 0=>rfl
 | i+1=>(Ag5 S _ i).trans (Iy S M i)
theorem Vc{S:St}{i:Nat}{M:Mem}{D:DkT}{m:Nat}(h:Dk M D)(hok:M.ok m)(hm:m<=900000000)(hl:0<M.nm.length)(hn:1<=S.num i/\S.num i<=257)(hi: ∀b,b<8->(As S (S.ino i).ents b).length<=1000/\ ∀x∈As S (S.ino i).ents b,1<=x.num/\x.num<=257):
  ∀k,k<=8->Dk (De S i M k) (dB S i D k)
 | 0,_=>h.congr fun num b _ hb=>by unfold dB;rw[if_neg (fun q=>by have:=q.2.1;omega)]
 | k+1,hk=>by
  have ih:=Vc h hok hm hl hn hi k (by omega)
  have hok':=Ha (S:=S) (i:=i) hok k
  show Dk (Fg S i (De S i M k) k) _
  unfold Fg
  by_cases e:(As S (S.ino i).ents k).length=0
  ·rw[if_pos e]
   have e2:As S (S.ino i).ents k=[]:=List.length_eq_zero_iff.1 e
   refine ih.congr fun num b _ hb=>?_
   unfold dB
   by_cases q:b=(k:Int)
   ·subst q
    rw[if_neg (fun q=>by have:=q.2.1;omega),if_neg (fun q=>q.2.2 (by simpa using e2))]
   ·have:(b< (k:Int))↔(b< ((k+1:Nat):Int)):=by omega
    simp only[this]
  ·rw[if_neg e]
   have e2:As S (S.ino i).ents k≠[]:=fun q=>e (by rw[q];rfl)
   refine(ih.put_set hok' (by omega) ⟨by omega,by rw[Iz];omega⟩ (by omega) hn (b:=(k:Int)) ⟨by omega,by omega⟩ (hi k (by omega))).congr fun num b _ hb=>?_
   by_cases q:num=S.num i/\b=(k:Int)
   ·obtain⟨rfl,rfl⟩:=q
    rw[if_pos ⟨rfl,rfl⟩]
    unfold dB
    rw[if_pos ⟨rfl,by omega,by simpa using e2⟩]
    simp
   ·rw[if_neg q]
    unfold dB
    by_cases r:num=S.num i
    ·have hb':b≠(k:Int):=fun e=>q ⟨r,e⟩
     have:(b< (k:Int))↔(b< ((k+1:Nat):Int)):=by omega
     simp only[this]
    ·rw[if_neg (fun x=>r x.1),if_neg (fun x=>r x.1)]
theorem Ahu{S:St}{i:Nat}{M:Mem}{D:DkT}{m:Nat}(h:Dk M D)(hok:M.ok m)(hm:m<=900000000)(hl:0<M.nm.length)(hn:1<=S.num i/\S.num i<=257)(hi: ∀b,b<8->(As S (S.ino i).ents b).length<=1000/\ ∀x∈As S (S.ino i).ents b,1<=x.num/\x.num<=257):Dk (Gc S M i) (dB S i D 8):=by
 have h8:=Vc h hok hm hl hn hi 8 (Ama _)
 unfold Gc
 split
 ·exact h8
 ·unfold Ei
  exact((h8.put (fun num b hn' hb=>Dk.wd_ne hn' ⟨hb.1,by omega⟩ hn ⟨by decide,by decide⟩ (fun e=>by omega)) _).give _ _).put (fun num b hn' hb=>Dk.wd_ne hn' ⟨hb.1,by omega⟩ hn ⟨by decide,by decide⟩ (fun e=>by omega)) _
theorem Wi{num b j:Int}(hn:1<=num/\num<=257)(hb:0<=b/\b<8)(hj:9509<=j):(wd num b).toNat≠j.toNat:=by unfold wd;omega
theorem Adg{S:St}(hI:Inv S)(hb: ∀i,i<S.inodes.length-> ∀b,b<8->(As S (S.ino i).ents b).length<=1000/\ ∀x∈As S (S.ino i).ents b,1<=x.num/\x.num<=257):Dk (Cu S) (dI S (fun _ _=>[]) S.inodes.length):=by
 have hni:=hI.small.ni
 have hloads: ∀k,k<=S.inodes.length->Dk (Ce S (Mem.new S.made.length) k) (dI S (fun _ _=>[]) k):=by
  intro k
  induction k with
  | zero=>exact fun _=>Alc _
  | succ k ih=>
   intro hk
   have hnum:=hI.num_bound (Inv.ino_mem (show k<S.inodes.length by omega))
   exact Ahu (ih (by omega)) (Gz (Mem.new_ok _) k) (by omega) (by rw[Iy];have:=hI.m1;simp[Mem.new];omega) hnum (hb k (by omega))
 have hmade: ∀k,Dk (Bl S (Ce S (Mem.new S.made.length) S.inodes.length) k) (dI S (fun _ _=>[]) S.inodes.length):=by
  intro k
  induction k with
  | zero=>exact hloads _ (Ama _)
  | succ k ih=>exact ih.put (fun num b hn hb=>Wi hn hb (by unfold mdw;omega)) _
 have hopen: ∀k,k<=S.opens.length->Dk (Bv S (Bl S (Ce S (Mem.new S.made.length) S.inodes.length) S.made.length) k) (dI S (fun _ _=>[]) S.inodes.length):=by
  intro k
  induction k with
  | zero=>exact fun _=>hmade _
  | succ k ih=>
   intro hk
   have ho:=hI.ok (S.opens.getD k (0,0,0)) (Bm (by omega))
   exact(ih (by omega)).put (fun num b hn hb=>Wi hn hb (by
    have h1:0<=S.oc k:=ho.1
    have h2:0<=S.of k:=ho.2.2.1
    unfold fdw;omega)) _
 exact hopen _ (Ama _)
theorem Hl{M:Mem}(hl:M.ws.length=9549){i:Int}(hi:0<=i/\i<9549){j:Int}(hj:0<=j)(v:Int):rd (M.put i v).ws j=if j=i then v else rd M.ws j:=by
 by_cases e:j=i
 ·subst e
  rw[if_pos rfl]
  unfold rd Mem.put wr
  simp only
  rw[Da _ _ _ _ _ (by rw[hl];omega),if_pos rfl]
 ·rw[if_neg e]
  exact Gs (by omega)
theorem Aa7(M:Mem)(c i:Int):(M.see c i).ws=M.ws:=by unfold Mem.see;split <;> rfl
theorem Af9(M:Mem)(c i:Int):(M.see c i).nm=M.nm:=by unfold Mem.see;split <;> rfl
theorem Kn{M:Mem}(hl:M.ws.length=9549)(i v:Int):(M.put i v).ws.length=9549:=by simp only[Mem.put,Tz];exact hl
theorem Ait(M:Mem)(c i:Int)(t:Co):(M.setW c i t).ws=(M.put i (M.next c)).ws:=rfl
theorem Agf{S:St}{i:Nat}{M:Mem}{b:Nat}(hl:M.ws.length=9549)(hb:b<8)(hn:1<=S.num i/\S.num i<=257){j:Int}(hj:9509<=j):rd (Fg S i M b).ws j=rd M.ws j/\ (Fg S i M b).ws.length=9549:=by
 unfold Fg
 split
 ·exact⟨rfl,hl⟩
 ·refine⟨?_,Kn hl _ _⟩
  have e:((M.give 0 (.bucket (As S (S.ino i).ents b))).put (wd (S.num i) b) (M.next 0)).ws=(M.put (wd (S.num i) b) (M.next 0)).ws:=rfl
  rw[e,Hl hl (by unfold wd;omega) (by omega),if_neg (by unfold wd;omega)]
theorem Ug{S:St}{i:Nat}{M:Mem}(hl:M.ws.length=9549)(hn:1<=S.num i/\S.num i<=257){j:Int}(hj:9509<=j): ∀k,k<=8->rd (De S i M k).ws j=rd M.ws j/\ (De S i M k).ws.length=9549
 | 0,_=>⟨rfl,hl⟩
 | k+1,hk=>by
  obtain⟨h1,h2⟩:=Ug hl hn hj k (by omega)
  obtain⟨h3,h4⟩:=Agf (S:=S) (i:=i) h2 (show k<8 by omega) hn hj
  exact⟨h3.trans h1,h4⟩
theorem Age{S:St}{i:Nat}{M:Mem}(hl:M.ws.length=9549)(hn:1<=S.num i/\S.num i<=257){j:Int}(hj:9509<=j):rd (Gc S M i).ws j=rd M.ws j/\ (Gc S M i).ws.length=9549:=by
 obtain⟨h1,h2⟩:=Ug (S:=S) (i:=i) hl hn hj 8 (Ama _)
 unfold Gc
 split
 ·exact⟨h1,h2⟩
 ·unfold Ei
  refine⟨?_,Kn (Kn h2 _ _) _ _⟩
  have e: ∀(N:Mem) (t:Co) (p q:Int),((N.give 0 t).put p q).ws=(N.put p q).ws:=fun _ _ _ _=>rfl
  simp only[]
  rw[e,Hl (Kn h2 _ _) (by unfold wd;omega) (by omega),if_neg (by unfold wd;omega),Hl h2 (by unfold wd;omega) (by omega),if_neg (by unfold wd;omega),h1]
theorem Iq{S:St}(hI:Inv S){M:Mem}(hl:M.ws.length=9549){j:Int}(hj:9509<=j): ∀k,k<=S.inodes.length->rd (Ce S M k).ws j=rd M.ws j/\ (Ce S M k).ws.length=9549
 | 0,_=>⟨rfl,hl⟩
 | k+1,hk=>by
  obtain⟨h1,h2⟩:=Iq hI hl hj k (by omega)
  have hn:=hI.num_bound (Inv.ino_mem (show k<S.inodes.length by omega))
  obtain⟨h3,h4⟩:=Age (S:=S) (i:=k) h2 hn hj
  exact⟨h3.trans h1,h4⟩
theorem Km{S:St}(h8:S.made.length<=8){M:Mem}(hl:M.ws.length=9549): ∀k,k<=S.made.length->(Bl S M k).ws.length=9549/\ (∀c:Nat,rd (Bl S M k).ws (mdw (c:Nat))=if c<k then S.mad c else rd M.ws (mdw (c:Nat)))/\ ∀j,9517<=j->rd (Bl S M k).ws j=rd M.ws j
 | 0,_=>⟨hl,fun c=>by rw[if_neg (by omega)];rfl,fun _ _=>rfl⟩
 | k+1,hk=>by
  obtain⟨h1,h2,h3⟩:=Km h8 hl k (by omega)
  refine⟨Kn h1 _ _,fun c=>?_,fun j hj=>?_⟩
  ·show rd ((Bl S M k).put (mdw k) (S.mad k)).ws (mdw (c:Nat))=_
   rw[Hl h1 (by unfold mdw;omega) (by unfold mdw;omega)]
   by_cases e:c=k
   ·subst e
    rw[if_pos rfl,if_pos (by omega)]
   ·rw[if_neg (by unfold mdw;omega),h2 c]
    by_cases q:c<k
    ·rw[if_pos q,if_pos (by omega)]
    ·rw[if_neg q,if_neg (by omega)]
  ·show rd ((Bl S M k).put (mdw k) (S.mad k)).ws j=_
   rw[Hl h1 (by unfold mdw;omega) (by omega),if_neg (by unfold mdw;omega),h3 j hj]
theorem Abq{S:St}(hI:Inv S)(ho:S.opens=[]):(∀c:Nat,c<S.made.length->rd (Cu S).ws (mdw (c:Nat))=S.mad c)/\ ∀c k:Nat,c<8->k<4->rd (Cu S).ws (fdw (c:Nat) (k:Nat))=0:=by
 have h0:(Ce S (Mem.new S.made.length) S.inodes.length).ws.length=9549:=(Iq hI (M:=Mem.new S.made.length) Hf (j:=9509) (by omega) _ (Ama _)).2
 have e:Cu S=Bl S (Ce S (Mem.new S.made.length) S.inodes.length) S.made.length:=by
  unfold Cu
  rw[ho];rfl
 obtain⟨h1,h2,h3⟩:=Km (S:=S) hI.m8 h0 S.made.length (Ama _)
 rw[e]
 refine⟨fun c hc=>by rw[h2 c,if_pos hc],fun c k hc hk=>?_⟩
 rw[h3 _ (by unfold fdw;omega),(Iq hI (M:=Mem.new S.made.length) Hf (j:=fdw (c:Nat) (k:Nat)) (by unfold fdw;omega) _ (Ama _)).1]
 exact Fd _
def Bz(M:Mem):Prop:=∀num,1<=num/\num<=257->Says M (wd num 16) none
theorem Ah8(n:Nat):Bz (Mem.new n):=fun num _=>⟨.inl (Fd _),by
 show(Mem.new n).thing (rd Jj _)=none
 rw[Fd];rfl,by
 show rd Jj _<=_
 rw[Fd];decide⟩
theorem Bz.put{M:Mem}(h:Bz M){j:Int}(hj: ∀num,1<=num/\num<=257->(wd num 16).toNat≠j.toNat)(v:Int):Bz (M.put j v):=fun num hn=>(h num hn).put (hj num hn) v
theorem Bz.give{M:Mem}(h:Bz M)(c:Int)(t:Co):Bz (M.give c t):=fun num hn=>(h num hn).give c t
theorem Bz.note{M:Mem}(h:Bz M)(c:Int)(x:Acc):Bz (M.note c x):=fun num hn=>(h num hn).note c x
theorem Bz.see{M:Mem}(h:Bz M)(c j:Int):Bz (M.see c j):=fun num hn=>(h num hn).see c j
theorem Bz.clear{M:Mem}(h:Bz M)(k:Nat):Bz (M.clear k):=fun num hn=>⟨(h num hn).f,(h num hn).a,(h num hn).z⟩
theorem Vh{S:St}{i:Nat}{M:Mem}(h:Bz M)(hn:1<=S.num i/\S.num i<=257): ∀k,k<=8->Bz (De S i M k)
 | 0,_=>h
 | k+1,hk=>by
  have ih:=Vh h hn k (by omega)
  show Bz (Fg S i (De S i M k) k)
  unfold Fg
  split
  ·exact ih
  ·exact(ih.give _ _).put (fun num hn'=>Dk.wd_ne hn' ⟨by decide,by decide⟩ hn ⟨by omega,by omega⟩ (fun e=>by omega)) _
theorem Aj0{S:St}(hI:Inv S)(ho:S.opens=[])(hd: ∀i,i<S.inodes.length->S.dir i=true):Bz (Cu S):=by
 have h1: ∀k,k<=S.inodes.length->Bz (Ce S (Mem.new S.made.length) k):=by
  intro k
  induction k with
  | zero=>exact fun _=>Ah8 _
  | succ k ih=>
   intro hk
   show Bz (Gc S _ k)
   unfold Gc
   rw[if_pos (hd k (by omega))]
   exact Vh (ih (by omega)) (hI.num_bound (Inv.ino_mem (show k<S.inodes.length by omega))) 8 (Ama _)
 have h2: ∀k,Bz (Bl S (Ce S (Mem.new S.made.length) S.inodes.length) k):=by
  intro k
  induction k with
  | zero=>exact h1 _ (Ama _)
  | succ k ih=>exact ih.put (fun num hn=>by unfold wd mdw;omega) _
 unfold Cu
 rw[ho]
 exact h2 _
theorem Bz.base{M:Mem}(h:Bz M){num:Int}(hn:1<=num/\num<=257):M.isBase num/\rd M.ws (wd num 16)<=1000000000000/\ (M.bas num).2.1=⟨#[]⟩:=by
 obtain⟨h1,h2,h3⟩:=h num hn
 refine⟨⟨h1,fun t ht=>by rw[h2]at ht;cases ht⟩,h3,?_⟩
 unfold Mem.bas
 rw[h2]
section
variable{M:Mem}{D:DkT}{c n kind:Int}{it:Item}{nm:ByteArray}{m:Nat}
theorem Yp(nm:ByteArray):0<= ((Aa nm:Nat):Int)/\ ((Aa nm:Nat):Int)<8:=by
 have:Aa nm<8:=by unfold Aa;omega
 omega
theorem Ae1(h:Dk M D)(hok:M.ok m)(hm:m<=900000000)(hc:0<=c/\c<M.nm.length)(h8:c<8)(hn:0<=n/\n<32)(hi:1<=it.num/\it.num<=257)(hl:(D it.num (Aa nm:Nat)).length<1000):
  Dk (Dj M c it nm kind n) (fun n' b'=>if n'=it.num/\b'=(Aa nm:Nat)then D it.num (Aa nm:Nat)++[⟨nm,2+c+8*n,kind==1⟩]else D n' b'):=by
 have hb:=Yp nm
 have h1:=((h.see c (mdw c)).put (j:=mdw c) (fun num b hn hb=>Wi hn hb (by unfold mdw;omega)) (n+1)).note c (mdw c,true)
 have hk1:=((hok.see c (mdw c)).put (mdw c) (n+1)).note c (mdw c,true)
 have hbk:M.bkt it.num (Aa nm:Nat)=D it.num (Aa nm:Nat):=h.bkt hi hb
 have hit:=h.i it.num (Aa nm:Nat) hi hb
 have h2:=h1.setW hk1 (by omega) (c:=c) ⟨hc.1,by simp only[Mem.note,Mem.put,Af9];exact hc.2⟩ h8 hi hb (l:=D it.num (Aa nm:Nat)++[⟨nm,2+c+8*n,kind==1⟩]) ⟨by rw[Ami];simp;omega,fun x hx=>by
  rcases List.mem_append.1 hx with hx | hx
  ·exact hit.2 x hx
  ·rw[List.mem_singleton.1 hx];simp only;omega⟩
 unfold Dj
 simp only[hbk]
 split
 ·exact(h2.put (fun num b hn' hb'=>Dk.wd_ne hn' ⟨hb'.1,by omega⟩ (show 1<=2+c+8*n/\2+c+8*n<=257 by omega) (show 0<=8+c/\8+c<37 by omega) (fun e=>by omega)) _).note _ _
 ·exact h2
theorem Aee(hok:M.ok m):(Dj M c it nm kind n).ok (m+6):=by
 have h1:=((hok.see c (mdw c)).put (mdw c) (n+1)).note c (mdw c,true)
 unfold Dj
 simp only
 split
 ·exact(((h1.setW c _ _).put _ _).note _ _).mono (by omega)
 ·exact(h1.setW c _ _).mono (by omega)
theorem Afd(h:Bz M)(hc:0<=c/\c<8)(hn:0<=n/\n<32)(hi:1<=it.num/\it.num<=257):Bz (Dj M c it nm kind n):=by
 have hb:=Yp nm
 have h1:=((h.see c (mdw c)).put (j:=mdw c) (fun num hn=>by unfold wd mdw;omega) (n+1)).note c (mdw c,true)
 have h2: ∀t,Bz ((((M.see c (mdw c)).put (mdw c) (n+1)).note c (mdw c,true)).setW c (wd it.num (Aa nm:Nat)) t):=fun t=>((h1.give c t).put (fun num hn'=>Dk.wd_ne hn' ⟨by decide,by decide⟩ hi ⟨hb.1,by omega⟩ (fun e=>by omega)) _).note _ _
 unfold Dj
 simp only
 split
 ·exact((h2 _).put (fun num hn'=>Dk.wd_ne hn' ⟨by decide,by decide⟩ (show 1<=2+c+8*n/\2+c+8*n<=257 by omega) (show 0<=8+c/\8+c<37 by omega) (fun e=>by omega)) _).note _ _
 ·exact h2 _
theorem Ad2(hok:M.ok m)(hc:0<=c/\c<8)(hn:0<=n/\n<32)(hi:1<=it.num/\it.num<=257){j:Int}(hj:9509<=j):rd (Dj M c it nm kind n).ws j=if j=mdw c then n+1 else rd M.ws j:=by
 have hb:=Yp nm
 have hl:(M.see c (mdw c)).ws.length=9549:=by rw[Aa7];exact hok.wl
 have hl1:=Kn hl (mdw c) (n+1)
 have e1:rd ((M.see c (mdw c)).put (mdw c) (n+1)).ws j=if j=mdw c then n+1 else rd M.ws j:=by
  rw[Hl hl (by unfold mdw;omega) (by omega),Aa7]
 have e2: ∀t,rd ((((M.see c (mdw c)).put (mdw c) (n+1)).note c (mdw c,true)).setW c (wd it.num (Aa nm:Nat)) t).ws j=if j=mdw c then n+1 else rd M.ws j:=fun t=>by
  rw[Ait,Hl (show(((M.see c (mdw c)).put (mdw c) (n+1)).note c (mdw c,true)).ws.length=9549 from hl1) (by unfold wd;omega) (by omega),if_neg (by unfold wd;omega)]
  exact e1
 unfold Dj
 simp only
 split
 ·exact(Gs (show j.toNat≠(wd (2+c+8*n) (8+c)).toNat by unfold wd;omega)).trans (e2 _)
 ·exact e2 _
end
def Lx(S:St):Nat->Int->Option ByteArray
 | 0,_=>none
 | k+1,j=>if j=S.num k/\S.dir k=false then some (S.dat k)else Lx S k j
def onTo(S:St):Nat->Int->Int->Int
 | 0,_,_=>0
 | k+1,c,q=>if c=S.oc k/\q=S.of k then S.on k else onTo S k c q
structure Ev (M M':Mem):Prop where
 r: ∀num a,1<=num/\num<=257->8<=a->a<37->rd M'.ws (wd num a)=rd M.ws (wd num a)
 s: ∀num o,1<=num/\num<=257->Says M (wd num 16) o->Says M' (wd num 16) o
namespace Ev
variable{M M' M'':Mem}
theorem refl(M:Mem):Ev M M:=⟨fun _ _ _ _ _=>rfl,fun _ _ _ h=>h⟩
theorem trans(h:Ev M M')(k:Ev M' M''):Ev M M'':=⟨fun n a h1 h2 h3=>(k.r n a h1 h2 h3).trans (h.r n a h1 h2 h3),fun n o h1 h2=>k.s n o h1 (h.s n o h1 h2)⟩
theorem give(M:Mem)(c:Int)(t:Co):Ev M (M.give c t):=⟨fun _ _ _ _ _=>rfl,fun _ _ _ h=>h.give c t⟩
theorem put(M:Mem){j:Int}(hj: ∀num a,1<=num/\num<=257->8<=a->a<37->(wd num a).toNat≠j.toNat)(v:Int):Ev M (M.put j v):=
 ⟨fun n a h1 h2 h3=>Gs (hj n a h1 h2 h3),fun n o h1 h=>h.put (hj n 16 h1 (by decide) (by decide)) v⟩
end Ev
theorem Np(S:St)(i:Nat)(hn:1<=S.num i/\S.num i<=257)(M:Mem): ∀k,k<=8->Ev M (De S i M k)
 | 0,_=>Ev.refl M
 | k+1,hk=>by
  refine(Np S i hn M k (by omega)).trans ?_
  show Ev _ (Fg S i _ k)
  unfold Fg
  split
  ·exact Ev.refl _
  ·exact(Ev.give _ _ _).trans (Ev.put _ (fun num a h1 h2 h3=>Dk.wd_ne h1 ⟨by omega,h3⟩ hn ⟨by omega,by omega⟩ (fun e=>by omega)) _)
structure LdP (S:St) (M:Mem) (k:Nat):Prop where
 z: ∀num a,1<=num/\num<=257->8<a->a<37->a≠16->rd M.ws (wd num a)=0
 n: ∀num,1<=num/\num<=257->Lx S k num=none->Says M (wd num 16) none
 y: ∀num d,1<=num/\num<=257->Lx S k num=some d->(∃v,Says M (wd num 16) (some (.base v d false)))/\rd M.ws (wd num 8)=(cntI S num S.inodes.length:Nat)
theorem LdP.keep{S:St}{M M':Mem}{k:Nat}(h:LdP S M k)(q:Ev M M'):LdP S M' k:=
 ⟨fun num a h1 h2 h3 h4=>(q.r num a h1 (by omega) h3).trans (h.z num a h1 h2 h3 h4),fun num h1 h2=>q.s num _ h1 (h.n num h1 h2),fun num d h1 h2=>by
  obtain⟨⟨v,h3⟩,h4⟩:=h.y num d h1 h2
  exact⟨⟨v,q.s num _ h1 h3⟩,(q.r num 8 h1 (by decide) (by decide)).trans h4⟩⟩
theorem LdP.dirs{S:St}{M:Mem}{k:Nat}(h:LdP S M k)(hd:S.dir k=true):LdP S M (k+1):=by
 have e: ∀num,Lx S (k+1) num=Lx S k num:=fun num=>by rw[Lx,if_neg (by rw[hd];simp)]
 exact⟨h.z,fun num h1 h2=>h.n num h1 (by rwa [e]at h2),fun num d h1 h2=>h.y num d h1 (by rwa [e]at h2)⟩
theorem LdP.file{S:St}{M:Mem}{k m:Nat}(h:LdP S M k)(hok:M.ok m)(hm:m<=900000000)(hl:0<M.nm.length)(hn:1<=S.num k/\S.num k<=257)(hd:S.dir k=false):LdP S (Ei S k M) (k+1):=by
 have hw:=hok.wl
 have hi8:0<=wd (S.num k) 8/\wd (S.num k) 8<9549:=by unfold wd;omega
 have hi16:0<=wd (S.num k) 16/\wd (S.num k) 16<9549:=by unfold wd;omega
 obtain⟨M1,hM1⟩: ∃x,x=M.put (wd (S.num k) 8) (cntI S (S.num k) S.inodes.length:Nat):=⟨_,rfl⟩
 have hw1:M1.ws.length=9549:=by rw[hM1];exact Kn hw _ _
 have hok1:M1.ok m:=by rw[hM1];exact hok.put _ _
 have hl1:0<M1.nm.length:=by rw[hM1];exact hl
 have e:Ei S k M=(M1.give 0 (.base (M1.next 0) (S.dat k) false)).put (wd (S.num k) 16) (M1.next 0):=by rw[hM1];rfl
 have hr: ∀num a,1<=num/\num<=257->8<=a->a<37->rd (Ei S k M).ws (wd num a)=if wd num a=wd (S.num k) 16 then M1.next 0 else if wd num a=wd (S.num k) 8 then(cntI S (S.num k) S.inodes.length:Nat)else rd M.ws (wd num a):=fun num a h1 h2 h3=>by
  rw[e]
  show rd (M1.put (wd (S.num k) 16) (M1.next 0)).ws _=_
  rw[Hl hw1 hi16 (by unfold wd;omega),hM1,Hl hw hi8 (by unfold wd;omega)]
 have hs: ∀num,1<=num/\num<=257->num≠S.num k-> ∀o,Says M (wd num 16) o->Says (Ei S k M) (wd num 16) o:=fun num h1 h2 o h3=>by
  rw[e,hM1]
  exact((h3.put (Dk.wd_ne h1 ⟨by decide,by decide⟩ hn ⟨by decide,by decide⟩ (fun q=>h2 q.1)) _).give _ _).put (Dk.wd_ne h1 ⟨by decide,by decide⟩ hn ⟨by decide,by decide⟩ (fun q=>h2 q.1)) _
 refine⟨fun num a h1 h2 h3 h4=>?_,fun num h1 h2=>?_,fun num d h1 h2=>?_⟩
 ·rw[hr num a h1 (by omega) h3,if_neg (by unfold wd;omega),if_neg (by unfold wd;omega)]
  exact h.z num a h1 h2 h3 h4
 ·rw[Lx]at h2
  split at h2
  ·cases h2
  ·rename_i q
   exact hs num h1 (fun e=>q ⟨e,hd⟩) _ (h.n num h1 h2)
 ·rw[Lx]at h2
  split at h2
  ·rename_i q
   obtain⟨rfl,-⟩:=q
   cases h2
   refine⟨⟨M1.next 0,?_⟩,?_⟩
   ·rw[e]
    exact Says.put_self hok1 (by omega) (c:=0) ⟨by decide,by omega⟩ (by decide) hi16
   ·rw[hr _ _ h1 (by decide) (by decide),if_neg (by unfold wd;omega),if_pos rfl]
  ·rename_i q
   have hne:num≠S.num k:=fun e=>q ⟨e,hd⟩
   obtain⟨⟨v,h3⟩,h4⟩:=h.y num d h1 h2
   refine⟨⟨v,hs num h1 hne _ h3⟩,?_⟩
   rw[hr _ _ h1 (by decide) (by decide),if_neg (by unfold wd;omega),if_neg (by unfold wd;omega)]
   exact h4
theorem Ak5(S:St)(n:Nat):LdP S (Mem.new n) 0:=⟨fun _ _ _ _ _ _=>Fd _,fun num h1 _=>Ah8 n num h1,fun _ _ _ h=>by cases h⟩
theorem Ake{S:St}(hI:Inv S): ∀k,k<=S.inodes.length->LdP S (Ce S (Mem.new S.made.length) k) k
 | 0,_=>Ak5 S _
 | k+1,hk=>by
  have ih:=Ake hI k (by omega)
  have hn:=hI.num_bound (Inv.ino_mem (show k<S.inodes.length by omega))
  have hni:=hI.small.ni
  have hb:=Np S k hn (Ce S (Mem.new S.made.length) k) 8 (Ama _)
  have hok:=Ha (S:=S) (i:=k) (Gz (S:=S) (Mem.new_ok S.made.length) k) 8
  show LdP S (Gc S _ k) (k+1)
  unfold Gc
  split
  ·rename_i hd
   exact(ih.keep hb).dirs hd
  ·rename_i hd
   exact(ih.keep hb).file hok (by omega) (by rw[Iz,Iy];have:=hI.m1;simp[Mem.new];omega) hn (by simpa using hd)
theorem Sg(S:St)(M:Mem): ∀k,Ev M (Bl S M k)
 | 0=>Ev.refl M
 | k+1=>(Sg S M k).trans (Ev.put _ (fun num a h1 h2 h3=>by unfold wd mdw;omega) _)
theorem Akc{S:St}(hI:Inv S){k:Nat}(hk:k<S.opens.length):0<=S.oc k/\S.oc k<S.made.length/\0<=S.of k/\S.of k<4:=by
 obtain⟨h1,h2,h3,h4,-⟩:=hI.ok (S.opens.getD k (0,0,0)) (Bm hk)
 exact⟨h1,h2,h3,h4⟩
theorem Ac5{S:St}(hI:Inv S){M:Mem}(hl:M.ws.length=9549): ∀k,k<=S.opens.length->(Bv S M k).ws.length=9549/\Ev M (Bv S M k)/\ (∀c:Nat,c<8->rd (Bv S M k).ws (mdw (c:Nat))=rd M.ws (mdw (c:Nat)))/\ ∀c q:Int,0<=c/\c<8->0<=q/\q<4->rd (Bv S M k).ws (fdw c q)=if rd M.ws (fdw c q)=0 then onTo S k c q else rd (Bv S M k).ws (fdw c q)
 | 0,_=>⟨hl,Ev.refl M,fun _ _=>rfl,fun c q _ _=>by
  split
  ·rename_i h;exact h
  ·rfl⟩
 | k+1,hk=>by
  obtain⟨h1,h2,h3,h4⟩:=Ac5 hI hl k (by omega)
  obtain⟨o1,o2,o3,o4⟩:=Akc hI (show k<S.opens.length by omega)
  have h8:=hI.m8
  have hj:0<=fdw (S.oc k) (S.of k)/\fdw (S.oc k) (S.of k)<9549:=by unfold fdw;omega
  refine⟨Kn h1 _ _,h2.trans (Ev.put _ (fun num a h1 h2 h3=>by unfold wd fdw;omega) _),fun c hc=>?_,fun c q hc hq=>?_⟩
  ·show rd ((Bv S M k).put (fdw (S.oc k) (S.of k)) (S.on k)).ws _=_
   rw[Hl h1 hj (by unfold mdw;omega),if_neg (by unfold mdw fdw;omega)]
   exact h3 c hc
  ·split
   ·rename_i hz
    show rd ((Bv S M k).put (fdw (S.oc k) (S.of k)) (S.on k)).ws _=_
    rw[Hl h1 hj (by unfold fdw;omega),onTo]
    by_cases e:c=S.oc k/\q=S.of k
    ·rw[if_pos e,if_pos (by rw[e.1,e.2])]
    ·rw[if_neg e,if_neg (by unfold fdw;omega),h4 c q hc hq,if_pos hz]
   ·rfl
structure Ld (S:St) (M:Mem):Prop where
 ok:M.ok 9000
 tl:M.ts.length=S.made.length
 nl:M.nm.length=S.made.length
 tr: ∀c:Int,tr M.ts c=[]
 p:LdP S M S.inodes.length
 md: ∀c:Nat,c<S.made.length->rd M.ws (mdw (c:Nat))=S.mad c
 fd: ∀c q:Int,0<=c/\c<8->0<=q/\q<4->rd M.ws (fdw c q)=onTo S S.opens.length c q
theorem Ac6{S:St}(hI:Inv S):Ld S (Cu S):=by
 have hni:=hI.small.ni
 have h0:(Ce S (Mem.new S.made.length) S.inodes.length).ws.length=9549:=(Iq hI (M:=Mem.new S.made.length) Hf (j:=9509) (by omega) _ (Ama _)).2
 obtain⟨m1,m2,m3⟩:=Km (S:=S) hI.m8 h0 S.made.length (Ama _)
 obtain⟨o1,o2,o3,o4⟩:=Ac5 hI m1 S.opens.length (Ama _)
 have hz: ∀c q:Int,0<=c/\c<8->0<=q/\q<4->rd (Bl S (Ce S (Mem.new S.made.length) S.inodes.length) S.made.length).ws (fdw c q)=0:=fun c q hc hq=>by
  rw[m3 _ (by unfold fdw;omega),(Iq hI (M:=Mem.new S.made.length) Hf (j:=fdw c q) (by unfold fdw;omega) _ (Ama _)).1]
  exact Fd _
 have nmO: ∀k (M:Mem),(Bv S M k).nm=M.nm:=fun k M=>by
  induction k with
  | zero=>rfl
  | succ k ih=>exact ih
 have nmM: ∀k (M:Mem),(Bl S M k).nm=M.nm:=fun k M=>by
  induction k with
  | zero=>rfl
  | succ k ih=>exact ih
 refine⟨Zc hni,by rw[Ix];simp,by unfold Cu;rw[nmO,nmM,Iy];simp[Mem.new],fun c=>?_,((Ake hI _ (Ama _)).keep (Sg S _ _)).keep o2,fun c hc=>?_,fun c q hc hq=>?_⟩
 ·rw[Ix]
  unfold tr
  rw[Ame,List.getElem?_replicate]
  split <;> rfl
 ·show rd (Bv S _ _).ws _=_
  rw[o3 c (by have:=hI.m8;omega),m2 c,if_pos hc]
 ·show rd (Bv S _ _).ws _=_
  rw[o4 c q hc hq,if_pos (hz c q hc hq)]
end Go.Proofs.YtkebjgebkneijaaGreat
