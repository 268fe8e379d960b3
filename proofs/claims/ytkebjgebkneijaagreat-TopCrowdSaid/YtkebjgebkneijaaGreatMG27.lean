/- Texts of one's own that a claim's last text rests on: Mr3. -/
import Derived.Test.YtkebjgebkneijaaGreatMG26
set_option linter.unusedVariables false
set_option linter.unusedSimpArgs false
namespace Go.Proofs.YtkebjgebkneijaaGreat
open Go.RowKit
set_option maxHeartbeats 1000000
theorem rd_put{M:Mem}(hl:M.ws.length=9549){i:Int}(hi:0<=i/\i<9549){j:Int}(hj:0<=j)(v:Int):rd (M.put i v).ws j=if j=i then v else rd M.ws j:=by
 by_cases e:j=i
 ·subst e
  rw[if_pos rfl]
  unfold rd Mem.put wr
  simp only
  rw[getD_set _ _ _ _ _ (by rw[hl];omega),if_pos rfl]
 ·rw[if_neg e]
  exact rd_wr_other' (by omega)
theorem see_ws(M:Mem)(c i:Int):(M.see c i).ws=M.ws:=by unfold Mem.see;split <;> rfl
theorem see_nm(M:Mem)(c i:Int):(M.see c i).nm=M.nm:=by unfold Mem.see;split <;> rfl
theorem put_wl{M:Mem}(hl:M.ws.length=9549)(i v:Int):(M.put i v).ws.length=9549:=by simp only[Mem.put,wr_length];exact hl
theorem setW_ws(M:Mem)(c i:Int)(t:Thing):(M.setW c i t).ws=(M.put i (M.next c)).ws:=rfl
theorem rd_loadB{S:St}{i:Nat}{M:Mem}{b:Nat}(hl:M.ws.length=9549)(hb:b<8)(hn:1<=S.num i/\S.num i<=257){j:Int}(hj:9509<=j):rd (loadB S i M b).ws j=rd M.ws j/\ (loadB S i M b).ws.length=9549:=by
 unfold loadB
 split
 ·exact⟨rfl,hl⟩
 ·refine⟨?_,put_wl hl _ _⟩
  have e:((M.give 0 (.bucket (bkItems S (S.ino i).ents b))).put (wd (S.num i) b) (M.next 0)).ws=(M.put (wd (S.num i) b) (M.next 0)).ws:=rfl
  rw[e,rd_put hl (by unfold wd;omega) (by omega),if_neg (by unfold wd;omega)]
theorem rd_loadBs{S:St}{i:Nat}{M:Mem}(hl:M.ws.length=9549)(hn:1<=S.num i/\S.num i<=257){j:Int}(hj:9509<=j): ∀k,k<=8->rd (loadBs S i M k).ws j=rd M.ws j/\ (loadBs S i M k).ws.length=9549
 | 0,_=>⟨rfl,hl⟩
 | k+1,hk=>by
  obtain⟨h1,h2⟩:=rd_loadBs hl hn hj k (by omega)
  obtain⟨h3,h4⟩:=rd_loadB (S:=S) (i:=i) h2 (show k<8 by omega) hn hj
  exact⟨h3.trans h1,h4⟩
theorem rd_loadI{S:St}{i:Nat}{M:Mem}(hl:M.ws.length=9549)(hn:1<=S.num i/\S.num i<=257){j:Int}(hj:9509<=j):rd (loadI S M i).ws j=rd M.ws j/\ (loadI S M i).ws.length=9549:=by
 obtain⟨h1,h2⟩:=rd_loadBs (S:=S) (i:=i) hl hn hj 8 (Nat.le_refl _)
 unfold loadI
 split
 ·exact⟨h1,h2⟩
 ·unfold loadFile
  refine⟨?_,put_wl (put_wl h2 _ _) _ _⟩
  have e: ∀(N:Mem) (t:Thing) (p q:Int),((N.give 0 t).put p q).ws=(N.put p q).ws:=fun _ _ _ _=>rfl
  simp only[]
  rw[e,rd_put (put_wl h2 _ _) (by unfold wd;omega) (by omega),if_neg (by unfold wd;omega),rd_put h2 (by unfold wd;omega) (by omega),if_neg (by unfold wd;omega),h1]
theorem rd_loadIs{S:St}(hI:Inv S){M:Mem}(hl:M.ws.length=9549){j:Int}(hj:9509<=j): ∀k,k<=S.inodes.length->rd (loadIs S M k).ws j=rd M.ws j/\ (loadIs S M k).ws.length=9549
 | 0,_=>⟨rfl,hl⟩
 | k+1,hk=>by
  obtain⟨h1,h2⟩:=rd_loadIs hI hl hj k (by omega)
  have hn:=hI.num_bound (Inv.ino_mem (show k<S.inodes.length by omega))
  obtain⟨h3,h4⟩:=rd_loadI (S:=S) (i:=k) h2 hn hj
  exact⟨h3.trans h1,h4⟩
theorem rd_loadMade{S:St}(h8:S.made.length<=8){M:Mem}(hl:M.ws.length=9549): ∀k,k<=S.made.length->(loadMade S M k).ws.length=9549/\ (∀c:Nat,rd (loadMade S M k).ws (mdw (c:Nat))=if c<k then S.mad c else rd M.ws (mdw (c:Nat)))/\ ∀j,9517<=j->rd (loadMade S M k).ws j=rd M.ws j
 | 0,_=>⟨hl,fun c=>by rw[if_neg (by omega)];rfl,fun _ _=>rfl⟩
 | k+1,hk=>by
  obtain⟨h1,h2,h3⟩:=rd_loadMade h8 hl k (by omega)
  refine⟨put_wl h1 _ _,fun c=>?_,fun j hj=>?_⟩
  ·show rd ((loadMade S M k).put (mdw k) (S.mad k)).ws (mdw (c:Nat))=_
   rw[rd_put h1 (by unfold mdw;omega) (by unfold mdw;omega)]
   by_cases e:c=k
   ·subst e
    rw[if_pos rfl,if_pos (by omega)]
   ·rw[if_neg (by unfold mdw;omega),h2 c]
    by_cases q:c<k
    ·rw[if_pos q,if_pos (by omega)]
    ·rw[if_neg q,if_neg (by omega)]
  ·show rd ((loadMade S M k).put (mdw k) (S.mad k)).ws j=_
   rw[rd_put h1 (by unfold mdw;omega) (by omega),if_neg (by unfold mdw;omega),h3 j hj]
theorem load_words{S:St}(hI:Inv S)(ho:S.opens=[]):(∀c:Nat,c<S.made.length->rd (loadM S).ws (mdw (c:Nat))=S.mad c)/\ ∀c k:Nat,c<8->k<4->rd (loadM S).ws (fdw (c:Nat) (k:Nat))=0:=by
 have h0:(loadIs S (Mem.new S.made.length) S.inodes.length).ws.length=9549:=(rd_loadIs hI (M:=Mem.new S.made.length) zeroWs_len (j:=9509) (by omega) _ (Nat.le_refl _)).2
 have e:loadM S=loadMade S (loadIs S (Mem.new S.made.length) S.inodes.length) S.made.length:=by
  unfold loadM
  rw[ho];rfl
 obtain⟨h1,h2,h3⟩:=rd_loadMade (S:=S) hI.m8 h0 S.made.length (Nat.le_refl _)
 rw[e]
 refine⟨fun c hc=>by rw[h2 c,if_pos hc],fun c k hc hk=>?_⟩
 rw[h3 _ (by unfold fdw;omega),(rd_loadIs hI (M:=Mem.new S.made.length) zeroWs_len (j:=fdw (c:Nat) (k:Nat)) (by unfold fdw;omega) _ (Nat.le_refl _)).1]
 exact rd_zero' _
def Bz(M:Mem):Prop:=∀num,1<=num/\num<=257->Says M (wd num 16) none
theorem bz_new(n:Nat):Bz (Mem.new n):=fun num _=>⟨.inl (rd_zero' _),by
 show(Mem.new n).thing (rd zeroWs _)=none
 rw[rd_zero'];rfl,by
 show rd zeroWs _<=_
 rw[rd_zero'];decide⟩
theorem Bz.put{M:Mem}(h:Bz M){j:Int}(hj: ∀num,1<=num/\num<=257->(wd num 16).toNat≠j.toNat)(v:Int):Bz (M.put j v):=fun num hn=>(h num hn).put (hj num hn) v
theorem Bz.give{M:Mem}(h:Bz M)(c:Int)(t:Thing):Bz (M.give c t):=fun num hn=>(h num hn).give c t
theorem Bz.note{M:Mem}(h:Bz M)(c:Int)(x:Acc):Bz (M.note c x):=fun num hn=>(h num hn).note c x
theorem Bz.see{M:Mem}(h:Bz M)(c j:Int):Bz (M.see c j):=fun num hn=>(h num hn).see c j
theorem Bz.clear{M:Mem}(h:Bz M)(k:Nat):Bz (M.clear k):=fun num hn=>⟨(h num hn).f,(h num hn).a,(h num hn).z⟩
theorem bz_loadBs{S:St}{i:Nat}{M:Mem}(h:Bz M)(hn:1<=S.num i/\S.num i<=257): ∀k,k<=8->Bz (loadBs S i M k)
 | 0,_=>h
 | k+1,hk=>by
  have ih:=bz_loadBs h hn k (by omega)
  show Bz (loadB S i (loadBs S i M k) k)
  unfold loadB
  split
  ·exact ih
  ·exact(ih.give _ _).put (fun num hn'=>Dk.wd_ne hn' ⟨by decide,by decide⟩ hn ⟨by omega,by omega⟩ (fun e=>by omega)) _
theorem bz_load{S:St}(hI:Inv S)(ho:S.opens=[])(hd: ∀i,i<S.inodes.length->S.dir i=true):Bz (loadM S):=by
 have h1: ∀k,k<=S.inodes.length->Bz (loadIs S (Mem.new S.made.length) k):=by
  intro k
  induction k with
  | zero=>exact fun _=>bz_new _
  | succ k ih=>
   intro hk
   show Bz (loadI S _ k)
   unfold loadI
   rw[if_pos (hd k (by omega))]
   exact bz_loadBs (ih (by omega)) (hI.num_bound (Inv.ino_mem (show k<S.inodes.length by omega))) 8 (Nat.le_refl _)
 have h2: ∀k,Bz (loadMade S (loadIs S (Mem.new S.made.length) S.inodes.length) k):=by
  intro k
  induction k with
  | zero=>exact h1 _ (Nat.le_refl _)
  | succ k ih=>exact ih.put (fun num hn=>by unfold wd mdw;omega) _
 unfold loadM
 rw[ho]
 exact h2 _
theorem Bz.base{M:Mem}(h:Bz M){num:Int}(hn:1<=num/\num<=257):M.isBase num/\rd M.ws (wd num 16)<=1000000000000/\ (M.bas num).2.1=⟨#[]⟩:=by
 obtain⟨h1,h2,h3⟩:=h num hn
 refine⟨⟨h1,fun t ht=>by rw[h2]at ht;cases ht⟩,h3,?_⟩
 unfold Mem.bas
 rw[h2]
section
variable{M:Mem}{D:DkT}{c n kind:Int}{it:Item}{nm:ByteArray}{m:Nat}
theorem nb_lt(nm:ByteArray):0<= ((nbucket nm:Nat):Int)/\ ((nbucket nm:Nat):Int)<8:=by
 have:nbucket nm<8:=by unfold nbucket;omega
 omega
theorem dk_create(h:Dk M D)(hok:M.ok m)(hm:m<=900000000)(hc:0<=c/\c<M.nm.length)(h8:c<8)(hn:0<=n/\n<32)(hi:1<=it.num/\it.num<=257)(hl:(D it.num (nbucket nm:Nat)).length<1000):
  Dk (createM M c it nm kind n) (fun n' b'=>if n'=it.num/\b'=(nbucket nm:Nat)then D it.num (nbucket nm:Nat)++[⟨nm,2+c+8*n,kind==1⟩]else D n' b'):=by
 have hb:=nb_lt nm
 have h1:=((h.see c (mdw c)).put (j:=mdw c) (fun num b hn hb=>far_put hn hb (by unfold mdw;omega)) (n+1)).note c (mdw c,true)
 have hk1:=((hok.see c (mdw c)).put (mdw c) (n+1)).note c (mdw c,true)
 have hbk:M.bkt it.num (nbucket nm:Nat)=D it.num (nbucket nm:Nat):=h.bkt hi hb
 have hit:=h.i it.num (nbucket nm:Nat) hi hb
 have h2:=h1.setW hk1 (by omega) (c:=c) ⟨hc.1,by simp only[Mem.note,Mem.put,see_nm];exact hc.2⟩ h8 hi hb (l:=D it.num (nbucket nm:Nat)++[⟨nm,2+c+8*n,kind==1⟩]) ⟨by rw[List.length_append];simp;omega,fun x hx=>by
  rcases List.mem_append.1 hx with hx | hx
  ·exact hit.2 x hx
  ·rw[List.mem_singleton.1 hx];simp only;omega⟩
 unfold createM
 simp only[hbk]
 split
 ·exact(h2.put (fun num b hn' hb'=>Dk.wd_ne hn' ⟨hb'.1,by omega⟩ (show 1<=2+c+8*n/\2+c+8*n<=257 by omega) (show 0<=8+c/\8+c<37 by omega) (fun e=>by omega)) _).note _ _
 ·exact h2
theorem ok_create(hok:M.ok m):(createM M c it nm kind n).ok (m+6):=by
 have h1:=((hok.see c (mdw c)).put (mdw c) (n+1)).note c (mdw c,true)
 unfold createM
 simp only
 split
 ·exact(((h1.setW c _ _).put _ _).note _ _).mono (by omega)
 ·exact(h1.setW c _ _).mono (by omega)
theorem bz_create(h:Bz M)(hc:0<=c/\c<8)(hn:0<=n/\n<32)(hi:1<=it.num/\it.num<=257):Bz (createM M c it nm kind n):=by
 have hb:=nb_lt nm
 have h1:=((h.see c (mdw c)).put (j:=mdw c) (fun num hn=>by unfold wd mdw;omega) (n+1)).note c (mdw c,true)
 have h2: ∀t,Bz ((((M.see c (mdw c)).put (mdw c) (n+1)).note c (mdw c,true)).setW c (wd it.num (nbucket nm:Nat)) t):=fun t=>((h1.give c t).put (fun num hn'=>Dk.wd_ne hn' ⟨by decide,by decide⟩ hi ⟨hb.1,by omega⟩ (fun e=>by omega)) _).note _ _
 unfold createM
 simp only
 split
 ·exact((h2 _).put (fun num hn'=>Dk.wd_ne hn' ⟨by decide,by decide⟩ (show 1<=2+c+8*n/\2+c+8*n<=257 by omega) (show 0<=8+c/\8+c<37 by omega) (fun e=>by omega)) _).note _ _
 ·exact h2 _
theorem rd_create(hok:M.ok m)(hc:0<=c/\c<8)(hn:0<=n/\n<32)(hi:1<=it.num/\it.num<=257){j:Int}(hj:9509<=j):rd (createM M c it nm kind n).ws j=if j=mdw c then n+1 else rd M.ws j:=by
 have hb:=nb_lt nm
 have hl:(M.see c (mdw c)).ws.length=9549:=by rw[see_ws];exact hok.wl
 have hl1:=put_wl hl (mdw c) (n+1)
 have e1:rd ((M.see c (mdw c)).put (mdw c) (n+1)).ws j=if j=mdw c then n+1 else rd M.ws j:=by
  rw[rd_put hl (by unfold mdw;omega) (by omega),see_ws]
 have e2: ∀t,rd ((((M.see c (mdw c)).put (mdw c) (n+1)).note c (mdw c,true)).setW c (wd it.num (nbucket nm:Nat)) t).ws j=if j=mdw c then n+1 else rd M.ws j:=fun t=>by
  rw[setW_ws,rd_put (show(((M.see c (mdw c)).put (mdw c) (n+1)).note c (mdw c,true)).ws.length=9549 from hl1) (by unfold wd;omega) (by omega),if_neg (by unfold wd;omega)]
  exact e1
 unfold createM
 simp only
 split
 ·exact(rd_wr_other' (show j.toNat≠(wd (2+c+8*n) (8+c)).toNat by unfold wd;omega)).trans (e2 _)
 ·exact e2 _
end
end Go.Proofs.YtkebjgebkneijaaGreat
