/- Texts of one's own that a claim's last text rests on: Lk5 Lk6 Lk7 Lk8 CkMap CkQ CkFndS CkFnd CkTreS CkTree. -/
import Derived.Test.YtkebjgebkneijaaGreatMG8
import Derived.Test.YtkebjgebkneijaaGreatMG6
import Derived.Test.YtkebjgebkneijaaGreatMG2
import Derived.ArgAppend
import Derived.IntWalk
import Derived.Deep.CutBlock
import Derived.LaidEqlPtr
set_option linter.unusedVariables false
set_option linter.unusedSimpArgs false
namespace Go.Proofs.YtkebjgebkneijaaGreat
open Go.RowKit
set_option maxHeartbeats 16000000
set_option maxRecDepth 1000000
theorem Jl{o k n f c u:Nat}(hn:n<=256)(h:Fo o k n=(f,c,u)):(f=0/\c=0/\u=0)∨(0<u/\16*f<=o/\o<n/\f<=c/\c<=u/\u<=16/\o - 16*f+min k (n - o)<=16* (u - f)):=by
 by_cases he:min (o+k) n<=o
 ·rw[Xu rfl he]at h
  injection h with h1 h
  injection h with h2 h3
  exact .inl ⟨h1.symm,h2.symm,h3.symm⟩
 ·rw[Om rfl he rfl rfl]at h
  injection h with h1 h
  injection h with h2 h3
  right
  split at h2 <;> omega
theorem Qf(b:Bas)(f u:Nat):(pgs b f u).size=16* (u - f):=Tf _ fun p _ _=>by
 have:=On b (p / 4)
 have:p % 4<4:=Nat.mod_lt _ (by decide)
 rw[ByteArray.size_extract]
 omega
inductive Oc
 | ret (num:Int) (dir:Bool) (data:ByteArray) (ns:List ByteArray)
 | bad (code:Int)
 | wait (b:Bas) (k:Nat) (half more:ByteArray) (both:Bool)
 | again (b:Bas) (A:Option Addr) (k cap:Nat) (half more:ByteArray)
def Ff(b:Bas)(v:Value)(half more:ByteArray)(both:Bool):Value:=.iface 239 (.agg #[.int .i64 b.1,.string b.2.1,.bool b.2.2,v,.string half,.string more,.bool both])
abbrev Aj7 (x:Value):Ending:=.panicked [{v:=.iface 198 (.agg #[x]),recovered:=false}]
def resO(num:Int)(dir:Bool)(data:ByteArray)(na:Option Addr)(nl nc:Nat):ResV:=⟨0,0,num,dir,data,na,nl,nc⟩
abbrev nRow (na:Option Addr) (nc:Nat) (ns:List ByteArray):RB:=⟨9,1,.slice na ns.length nc,ns.length,ns.map .string⟩
def RunO(L:Nat->Prop)(w:World)(s:Nat)(M:Mem)(c:Int)(cv:Ad)(sp:Nat)(Bs:List LB):Oc->Ending->World->Prop
 | .ret num dir data ns,e,w'=>e= .returned (.tuple #[])/\ ∃na nc,Rf L w s M c 300 (⟨sp,193,Bi s c cv (resO num dir data na ns.length nc)⟩::Bs) [nRow na nc ns] w'
 | .bad k,e,w'=>e=Ki k/\ ∃r,Rf L w s M c 300 (⟨sp,193,Bi s c cv r⟩::Bs) [] w'
 | .wait b k half more both,e,w'=>∃A cap,e=Aj7 (Ff b (.slice A k cap) half more both)/\Rf L w s M c 300 (⟨sp,193,Bi s c cv Aq⟩::Bs) [zRow (.slice A k cap) k] w'
 | .again b A k cap half more,e,w'=>e=Aj7 (Ff b (.slice A k cap) half more true)/\Rf L w s M c 300 (⟨sp,193,Bi s c cv Aq⟩::Bs) [] w'
def cutD(b:Bas)(o k f:Nat)(t:ByteArray):ByteArray:=t.extract (o - 16*f) (o - 16*f+min k (b.2.1.size - o))
def Uf(num:Int)(b:Bas)(o k:Int):Oc:=
 if num=0 then .bad 4 else if(0<=o/\o<=256)/\0<=k/\k<=256 then
  match Fo o.toNat k.toNat b.2.1.size with
  | (f,c,u)=>if u=0 then .ret 0 false ⟨#[]⟩ []else if c=u then .ret 0 false (cutD b o.toNat k.toNat f (pgs b f u)) []else .wait b (wN f (c - f)) (pgs b f c) ⟨#[]⟩ false
 else .bad 9
structure Fs (M:Mem) (num:Int):Prop where
 n:1<=num/\num<=257
 b:M.isBase num
 z:rd M.ws (wd num 16)<=1000000000000
 s:(M.bas num).2.1.size<=256
 q: ∀a,16<a->a<37->rd M.ws (wd num a)=0
 l: ∀a,8<=a->a<16->0<=rd M.ws (wd num a)/\rd M.ws (wd num a)<=1000000
theorem Akz{L:Nat->Prop}{w W:World}{s sp:Nat}{M:Mem}{c:Int}{n:Nat}{Bs:List LB}{cv:Ad}(h:Rf L w s M c n (⟨sp,193,Bi s c cv Aq⟩::Bs) [] W)(hl:Bd L w)(hn:n<=10){num:Int}(hnum:fdN M c cv.fd=num)(hF:num≠0->Fs M num):
  Calls Tryz.prog 164 #[.pointer (some ⟨sp,0,none⟩)] W (RunO L w s M c cv sp Bs (Uf num (M.bas num) cv.off cv.num)):=by
 have HL:=lhi hl
 have HF:=lhi (Ahp h (Amb ..) (by omega))
 rw[hnum]at HF
 obtain⟨RES,hRES⟩: ∃x,Uf num (M.bas num) cv.off cv.num=x:=⟨_,rfl⟩
 rw[hRES]
 have HR:=lhi hRES
 clear h hRES hnum hl
 by_cases h0:num=0
 ·subst h0
  replace HR:=lhi ((show Oc.bad 4=RES from(if_pos rfl).symm.trans HR.out))
  clear hF
  go_enter Tryz.func164,Tryz.ntmps164
  go_wp2_with (go_at_call 162;refine HF.out.mono ?_;rintro e w1 ⟨hfe,h1⟩;obtain rfl:e=Ki 4:=hfe)
  (try simp only[Exit.inBlock,Exit.then])
  rw[<-HR.out]
  exact⟨rfl,rfl,_,h1.mono (by omega) (by decide)⟩
 ·have hf:=hF h0
  unfold Uf at HR
  rw[if_neg h0]at HR
  have HFE:=lhi (fun(e:Ending) (he:Lz num e)=>show e= .returned (.int .i64 num)by unfold Lz at he;rw[if_neg h0]at he;exact he)
  obtain⟨ck,cc,cf,co,cn,p1,p2,cd⟩:=cv
  dsimp only at HR HF
  have HFI:=lhi hf
  clear hF h0 hf
  by_cases hfit:(0<=co/\co<=256)/\0<=cn/\cn<=256
  ·rw[if_pos hfit]at HR
   obtain⟨o,rfl⟩: ∃o:Nat,co=o:=⟨co.toNat,by omega⟩
   obtain⟨k,rfl⟩: ∃o:Nat,cn=o:=⟨cn.toNat,by omega⟩
   have ho:o<=256:=by omega
   have hk:k<=256:=by omega
   simp only[Int.toNat_natCast]at HR
   clear hfit
   obtain⟨b,hb⟩:=xx (M.bas num)
   have hbs:=HFI.out.s
   have HBC:=lhi (fun(r:ResV) (W':World) (h':Rf L w s M c (n+1) (⟨sp,193,Bi s c ⟨ck,cc,cf,o,k,p1,p2,cd⟩ r⟩::Bs) [] W')=>Xb h' HFI.out.n HFI.out.b HFI.out.z (by omega))
   rw[hb]at HR HBC hbs
   obtain⟨bn,bd,bh⟩:=b
   dsimp only at HR hbs
   simp only[Id]at HBC
   obtain⟨f,cu,u,hsp⟩: ∃f cu u,Fo o k bd.size=(f,cu,u):=⟨_,_,_,rfl⟩
   have HSP:=lhi (fun(W:World) s5 s6=>Rh (w:=W) (sp:=sp) (v:=bn) (h:=bh) s5 s6 ho hk (d:=bd) (by omega))
   rw[hsp]at HR HSP
   dsimp only at HR HSP
   have HS:=lhi (Jl hbs hsp)
   clear hb hsp
   go_enter Tryz.func164,Tryz.ntmps164
   go_upto_region 1 with(go_at_call 162;refine HF.out.mono ?_;rintro e w1 ⟨hfe,h1⟩;obtain rfl:=HFE.out _ hfe;have H1:=lhi h1;clear hfe h1)
   have hb:=H1.out.bk (Amb ..)
   have s0:w1.cell? ⟨sp,0,none⟩=some (.pointer (some ⟨s,0,none⟩)):=hb.cell 0
   have s1:w1.cell? ⟨sp,1,none⟩=some (.int .i64 c):=hb.cell 1
   have s5:w1.cell? ⟨sp,5,none⟩=some (.int .i64 o):=hb.cell 5
   have s6:w1.cell? ⟨sp,6,none⟩=some (.int .i64 k):=hb.cell 6
   clear hb
   have HB1:=lhi (HBC.out _ _ H1.out)
   go_upto_region 3 with(first
    | (go_at_call 204;refine(Aeh _ (by omega) _).mono ?_;rintro e w' ⟨rfl,rfl⟩)
    | (go_at_call 199;refine(Ec _ _).mono ?_;rintro e w' ⟨rfl,rfl⟩)
    | (go_at_call 139;refine HB1.out.mono ?_;rintro e w2 ⟨rfl,h2⟩;have H2:=lhi h2;clear h2))
   clear s0 s1 s5 s6
   refine letW (fun w3 hw3=>?_)
   obtain⟨q,hq⟩: ∃x,w2.heap.size=x:=⟨_,rfl⟩
   have h3:=H2.out.map (W':=w3) fun _ h=>hw3▸h.allocAt HL.out #[.int .i64 bn,.string bd,.bool bh] 142 hq.symm
   rw[hq]
   clear hw3 hq
   have hs3:=h3.bk (Amc _ (Amb ..))
   have hb3:=h3.bk (Amb ..)
   have H3:=lhi h3
   have s5:=hs3.cell 5
   have s6:=hs3.cell 6
   have b0:w3.cell? ⟨q,0,none⟩=some (.int .i64 bn):=hb3.cell 0
   have b1:w3.cell? ⟨q,1,none⟩=some (.string bd):=hb3.cell 1
   have b2:w3.cell? ⟨q,2,none⟩=some (.bool bh):=hb3.cell 2
   have HS3:=lhi (HSP.out w3 s5 s6)
   clear hs3 hb3 h3 s5 s6
   go_upto_region 4 with(go_at_call 191;refine HS3.out.mono ?_;rintro e w4 ⟨rfl,hb4⟩)
   have H4:=lhi (H3.out.map fun _ h=>h.below hb4 HL.out)
   clear hb4 b0 b1 b2
   by_cases hu:u=0
   ·subst hu
    obtain rfl:_=RES:=HR.out
    go_wp2_with (fail)
    go_end0
    exact⟨rfl,none,0,(H4.out.map fun _ h=>h.drop0.nilRow 9 1).mono (by omega) (by decide)⟩
   ·rw[if_neg hu]at HR
    obtain⟨s1,s2,s3,s4,s5,s6,s7⟩:=HS.out.resolve_left fun e=>hu e.2.2
    have HU:=lhi hu
    have HPG:=lhi (fun(x:Nat) (h1:f<=x) (h2:x<=u) (Bs':List LB) (W':World) (h':Rf L w s M c (n+1+1) Bs' [] W')=>Acy h' HFI.out.n h1 (Aml h2 s6) HFI.out.q (b:=(bn,bd,bh)) (by show bd.size<=1000;omega) (by omega))
    simp only[Id]at HPG
    have hub:((u:Int)==0)=false:=by simp;omega
    clear hu
    go_upto_region 5 with(fail)
    have h5:=H4.out.drew
    have HB5:=lhi (h5.bk (Amb ..))
    have HP5:=lhi (HPG.out cu s4 s5 _ _ h5)
    have hs5:=h5.bk (Amc _ (Amb ..))
    refine Af (L:=9) (S:=fun w'=>(w'.cell? ⟨q,0,none⟩=some (.int .i64 bn)/\w'.cell? ⟨q,1,none⟩=some (.string bd)/\w'.cell? ⟨q,2,none⟩=some (.bool bh))/\w'.cell? ⟨sp,0,none⟩=some (.pointer (some ⟨s,0,none⟩))/\w'.cell? ⟨sp,1,none⟩=some (.int .i64 c)) (by kernel_rfl) ⟨HB5.out.d3,hs5.cell 0,hs5.cell 1⟩ (fun hHeld=>?_)
    clear hs5 h5
    refine tF 0 ?_
    refine tF 1 ?_
    refine tF 2 ?_
    refine tF 3 ?_
    refine tF 4 ?_
    refine tF 5 ?_
    refine tF 6 ?_
    refine tF 7 ?_
    refine t1 8 (fun K hK=>?_)
    go_simp
    refine HP5.out.mono ?_
    rintro e w6 ⟨rfl,h6⟩
    show K _ _
    have hs6:=h6.bk (Amc _ (Amb ..))
    have hb6:=h6.bk (Amb ..)
    have H6:=lhi h6
    refine tK hK ⟨hb6.d3,hs6.cell 0,hs6.cell 1⟩ (fun hHeld=>?_)
    clear hK K h6 hs6
    refine t1 9 (fun K hK=>?_)
    go_simp
    refine tL hK ?_
    clear hK K hHeld
    obtain⟨b0,b1,b2⟩:=hb6.d3
    clear hb6
    by_cases hcu:cu=u
    ·subst hcu
     rw[if_pos rfl]at HR
     obtain rfl:_=RES:=HR.out
     have HA:=lhi (Aav (H6.out.map fun _ h=>h.swap) HL.out (o:=o) (k:=k) (f:=f) (v:=bn) (d:=bd) (t:=pgs (bn,bd,bh) f cu) (hd:=bh) rfl rfl s2 ho hk (by omega) (by omega) (by rw[Qf];exact s7) (by rw[Qf];omega))
     clear HR H6 s1 s2 s3 s4 s5 s6 s7
     go_wp2_with (go_at_call 194;refine HA.out.mono ?_;rintro e w7 ⟨rfl,h7⟩;have H7:=lhi h7;clear h7)
     go_end0
     exact⟨rfl,none,0,(H7.out.map fun _ h=>h.swap.drop0.nilRow 9 1).mono (by omega) (by decide)⟩
    ·rw[if_neg hcu]at HR
     obtain rfl:_=RES:=HR.out
     have hcub:((cu:Int)==u)=false:=by simp;omega
     clear HR hcu b0 b1 b2
     go_upto_region 8 with(fail)
     have h7:=H6.out.drew
     have HW7:=lhi (Acm h7 HL.out (Amc _ (Amb ..)) HFI.out.n s4 (Aml s5 s6) HFI.out.q (by omega))
     have hb7:=h7.bk (Amb ..)
     refine Af (L:=11) (S:=fun w'=>w'.cell? ⟨q,0,none⟩=some (.int .i64 bn)/\w'.cell? ⟨q,1,none⟩=some (.string bd)/\w'.cell? ⟨q,2,none⟩=some (.bool bh)) (by kernel_rfl) hb7.d3 (fun hHeld=>?_)
     clear hb7 h7
     refine tF 0 ?_
     refine tF 1 ?_
     refine tF 2 ?_
     refine tF 3 ?_
     refine tF 4 ?_
     refine tF 6 ?_
     refine t1 5 (fun K hK=>?_)
     go_simp
     refine HW7.out.mono ?_
     rintro e w8 ⟨A,cap,rfl,h8⟩
     show K _ _
     have H8:=lhi h8
     refine tK hK (h8.bk (Amb ..)).d3 (fun hHeld=>?_)
     clear hK K h8
     refine tF 7 ?_
     refine tF 8 ?_
     refine tF 9 ?_
     refine tF 10 ?_
     refine t1 11 (fun K hK=>?_)
     go_simp
     exact⟨rfl,A,cap,rfl,(H8.out.map fun _ h=>h.drop0).mono (by omega) (by decide)⟩
  ·rw[if_neg hfit]at HR
   obtain rfl:Oc.bad 9=RES:=HR.out
   have hg:decide (0<=co/\co<=256)=false∨decide (0<=co/\co<=256)=true/\decide (0<=cn/\cn<=256)=false:=by
    by_cases q:0<=co/\co<=256
    ·exact .inr ⟨decide_eq_true q,decide_eq_false fun q2=>hfit ⟨q,q2⟩⟩
    ·exact .inl (decide_eq_false q)
   clear hfit
   rcases hg with hg | ⟨hg,hg2⟩
   all_goals
    go_enter Tryz.func164,Tryz.ntmps164
    go_upto_region 1 with(go_at_call 162;refine HF.out.mono ?_;rintro e w1 ⟨hfe,h1⟩;obtain rfl:=HFE.out _ hfe;have H1:=lhi h1;clear hfe h1)
    have hb:=H1.out.bk (Amb ..)
    have s5:w1.cell? ⟨sp,5,none⟩=some (.int .i64 co):=hb.cell 5
    have s6:w1.cell? ⟨sp,6,none⟩=some (.int .i64 cn):=hb.cell 6
    clear hb
    go_wp2_with (first
     | (go_at_call 204;refine(Sp _ _).mono ?_;rintro e w' ⟨rfl,rfl⟩)
     | (go_at_call 199;refine(Em _ _).mono ?_;rintro e w' ⟨rfl,rfl⟩))
    (try simp only[Exit.inBlock,Exit.then])
    exact⟨rfl,rfl,_,H1.out.mono (by omega) (by decide)⟩
abbrev zC:Nat->Nat->Value:=fun _ _=>.int .i64 0
theorem z_at{w:World}{b:Nat}{t:TypeId}{A:Option Addr}{k cap:Nat}(h:w.ownsRow b t 1 (.slice A k cap) k (List.replicate k (.int .i64 0))):Ak w (.slice A k cap) k 1 zC:=by
 rcases h.2 with⟨hv,h0⟩ | ⟨g,cap',cur,hv,-,-,h6,-⟩
 ·injection hv with h1 h2 h3
  subst h1 h2 h3
  exact Ak.nil_ _ _ _
 ·injection hv with h1 h2 h3
  subst h1 h3
  refine⟨_,_,rfl,h6,fun _=>⟨g,0,rfl,fun i j hi hj=>?_⟩⟩
  obtain rfl:j=0:=by omega
  have:=h.cellAt (i*1+0) (by omega)
  rw[List.getElem?_replicate,if_pos (by omega)]at this
  simpa using this
theorem Ab1{w:World}{A B:Option Addr}{k cap cap':Nat}(hA:Ak w (.slice A k cap) k 1 zC)(hB:Ak w (.slice B k cap') k 1 zC)(hk:k<=1000):
  Calls Tryz.prog 192 #[.slice A k cap,.slice B k cap'] w fun e w'=>e= .returned (.bool true)/\Below w.heap.size w w':=by
 have HA:=lhi hA
 have HB:=lhi hB
 clear hA hB
 go_enter Tryz.func192,Tryz.ntmps192
 go_upto_region 4 with(fail)
 go_loopw [13] (fun x wr=>∃j:Nat,x= .int .i64 j/\j<=k/\Below w.heap.size w wr) (fun x _=>k - (intOf x).toNat)
 case atStart=>exact⟨0,rfl,by omega,Amf _ _⟩
 case round=>
  obtain⟨j,rfl,hj,hb⟩:=hrel
  have HX:=lhi hb
  by_cases hlt:j<k
  ·obtain⟨-,-,g,o,rfl,ha⟩:=(HA.out.keep hb).at_ hlt
   obtain⟨-,-,g',o',rfl,hb'⟩:=(HB.out.keep hb).at_ hlt
   have a0:=ha 0 (by decide)
   have b0:=hb' 0 (by decide)
   simp only[Nat.mul_one,Nat.add_zero]at a0 b0
   have hjk:(j:Int)<k:=by omega
   clear ha hb' hb HA HB
   go_upto_region 6 with(fail)
   go_quiet (fail)
   go_wp2_with (fail)
   go_roundw
   case rel=>exact⟨j+1,by simp,by omega,HX.out.trans ⟨rfl,rfl,rfl,Ama _,fun _ _=>rfl⟩⟩
   case measure=>simp only[intOf];omega
  ·obtain rfl:j=k:=by omega
   clear hb
   go_wp2_with (fail)
   go_ret
   exact⟨rfl,HX.out⟩
def Nm(b:Bas)(o k f cu u:Nat)(A:Option Addr)(kk cap:Nat)(half more:ByteArray):Bool->Oc
 | false=>.again b A kk cap half (pgs b cu u)
 | true=>.ret 0 false (cutD b o k f (half++more)) []
theorem Wk.dropR{L:Nat->Prop}{w W:World}{s:Nat}{M:Mem}{Bs:List LB}{r:RB}{Rs:List RB}(h:Wk L w s M Bs (r::Rs) W):Wk L w s M Bs Rs W:=by
 obtain⟨K,h1,h2,h3,h4⟩:=h.ex
 exact⟨⟨K,h1,h2,h3,fun r hr=>h4 r (Amc _ hr)⟩,h.kp,h.bb,fun x hx r hr=>h.br x hx r (Amc _ hr),(List.pairwise_cons.1 h.rr).2⟩
theorem Rf.kp{L:Nat->Prop}{w W:World}{s:Nat}{M:Mem}{c:Int}{n:Nat}{Bs:List LB}{Rs:List RB}(h:Rf L w s M c n Bs Rs W):Kp L w W:=by obtain⟨-,-,M',-,h2⟩:=h;exact h2.kp
theorem Ak4{L:Nat->Prop}{w W:World}{s sp:Nat}{M:Mem}{c:Int}{n:Nat}{Bs:List LB}{cv:Ad}(h:Rf L w s M c n (⟨sp,193,Bi s c cv Aq⟩::Bs) [] W)(hl:Bd L w)(hn:n<=10){num:Int}(hfd:0<=cv.fd/\cv.fd<4)(hnum:fdN M c cv.fd=num)(hF:Fs M num)
  {o k f cu u:Nat} (ho:cv.off=o) (hk:cv.num=k) (ho2:o<=256) (hk2:k<=256) (hsp:Fo o k (M.bas num).2.1.size=(f,cu,u)) (hu:u≠0) {A:Option Addr} {kk cap:Nat} (hkk:wN f (cu - f)=kk) (hZ: ∀W,Kp L w W->Ak W (.slice A kk cap) kk 1 zC) {half more:ByteArray} {both:Bool} (hb:both=true->half.size+more.size=16* (u - f)):
  Calls Tryz.prog 158 #[.pointer (some ⟨sp,0,none⟩),.agg #[.int .i64 (M.bas num).1,.string (M.bas num).2.1,.bool (M.bas num).2.2,.slice A kk cap,.string half,.string more,.bool both]] W (RunO L w s M c cv sp Bs (Nm (M.bas num) o k f cu u A kk cap half more both)):=by
 have HL:=lhi hl
 have H0:=lhi h
 have HZ:=lhi hZ
 have HFI:=lhi hF
 have hbs:=hF.s
 obtain⟨ck,cc,cf,co,cn,p1,p2,cd⟩:=cv
 obtain rfl:co=o:=ho
 obtain rfl:cn=k:=hk
 dsimp only at hnum hfd H0⊢
 have hc:=h.1.c
 have hc8:M.ts.length<=8:=by obtain⟨-,-,M',h1,h2⟩:=h;rw[<-h1.same.ts];exact h2.mem.tsl
 have HLD:=lhi (fun(Bs':List LB) (W':World) (h':Rf L w s M c n Bs' [] W')=>by
  have:=Abr h' (i:=fdw c cf) (by unfold fdw;omega) (by omega)
  unfold fdN at hnum
  rw[if_pos hfd]at hnum
  rw[hnum]at this
  exact this)
 have HFD:=lhi (fun W=>Nu c cf (by omega) (by omega) W)
 have HBC:=lhi (fun(Bs':List LB) (W':World) (h':Rf L w s M c (n+1) Bs' [] W')=>Xb h' HFI.out.n HFI.out.b HFI.out.z (by omega))
 obtain⟨b,hb0⟩:=xx (M.bas num)
 rw[hb0]at HBC hsp hbs⊢
 obtain⟨bn,bd,bh⟩:=b
 dsimp only at hbs hsp⊢
 simp only[Id]at HBC
 have HSP:=lhi (fun(W:World) s5 s6=>Rh (w:=W) (sp:=sp) (v:=bn) (h:=bh) s5 s6 ho2 hk2 (d:=bd) (by omega))
 rw[hsp]at HSP
 dsimp only at HSP
 obtain⟨s1,s2,s3,s4,s5,s6,s7⟩:=(Jl hbs hsp).resolve_left fun e=>hu e.2.2
 obtain⟨RES,hRES⟩: ∃x,Nm (bn,bd,bh) o k f cu u A kk cap half more both=x:=⟨_,rfl⟩
 rw[hRES]
 have HR:=lhi hRES
 have HBO:=lhi hb
 clear hl hZ hF h hfd hnum hb0 hsp hRES hb hu
 go_enter Tryz.func158,Tryz.ntmps158
 go_upto_region 1 with(fail)
 refine letW (fun w1 hw1=>?_)
 obtain⟨x,hx⟩:=xx W.heap.size
 have h1:=H0.out.map (W':=w1) fun _ h=>hw1▸h.allocAt HL.out #[.int .i64 bn,.string bd,.bool bh,.slice A kk cap,.string half,.string more,.bool both] 239 hx.symm
 rw[hx]
 have H1:=lhi h1
 have hs1:=h1.drew.bk (Amc _ (Amb ..))
 clear hw1 hx H0 h1
 refine Af (L:=16) (S:=fun w'=>w'.cell? ⟨sp,0,none⟩=some (.pointer (some ⟨s,0,none⟩))/\w'.cell? ⟨sp,1,none⟩=some (.int .i64 c)/\w'.cell? ⟨sp,4,none⟩=some (.int .i64 cf)) (by kernel_rfl) ⟨hs1.cell 0,hs1.cell 1,hs1.cell 4⟩ (fun hHeld=>?_)
 refine tF 0 ?_
 refine tF 1 ?_
 refine tF 2 ?_
 refine tF 3 ?_
 refine tF 4 ?_
 refine tF 5 ?_
 refine tF 6 ?_
 refine tF 7 ?_
 refine tF 8 ?_
 refine tF 9 ?_
 refine tF 10 ?_
 refine tF 11 ?_
 refine tF 12 ?_
 refine tF 13 ?_
 refine t1 14 (fun K hK=>?_)
 go_simp
 refine(HFD.out _).mono ?_
 rintro e w' ⟨rfl,rfl⟩
 show K _ _
 refine tK hK ⟨hs1.cell 0,hs1.cell 1,hs1.cell 4⟩ (fun hHeld=>?_)
 clear hK K
 refine t1 15 (fun K hK=>?_)
 go_simp
 refine(HLD.out _ _ H1.out.drew).mono ?_
 rintro e w2 ⟨rfl,h2⟩
 show K _ _
 have hs2:=h2.bk (Amc _ (Amb ..))
 have H2:=lhi h2
 refine tK hK ⟨hs2.cell 0,hs2.cell 1,hs2.cell 4⟩ (fun hHeld=>?_)
 clear hK K hs1 h2 H1 HLD HFD
 refine t1 16 (fun K hK=>?_)
 go_simp
 refine tL hK ?_
 clear hK K hHeld
 have s0:w2.cell? ⟨sp,0,none⟩=some (.pointer (some ⟨s,0,none⟩)):=hs2.cell 0
 have s1':w2.cell? ⟨sp,1,none⟩=some (.int .i64 c):=hs2.cell 1
 have HB2:=lhi (HBC.out _ _ H2.out)
 clear hs2
 go_upto_region 3 with(go_at_call 139;refine HB2.out.mono ?_;rintro e w3 ⟨rfl,h3⟩;have H3:=lhi h3;clear h3)
 clear s0 s1' H2 HB2 HBC
 refine letW (fun w4 hw4=>?_)
 obtain⟨q,hq⟩: ∃x,w3.heap.size=x:=⟨_,rfl⟩
 have h4:=H3.out.map (W':=w4) fun _ h=>hw4▸h.allocAt HL.out #[.int .i64 bn,.string bd,.bool bh] 142 hq.symm
 rw[hq]
 clear hw4 hq H3
 have H4:=lhi h4
 have hs4:=h4.bk (Amc _ (Amc _ (Amb ..)))
 have hx4:=h4.bk (Amc _ (Amb ..))
 have x0:w4.cell? ⟨x,0,none⟩=some (.int .i64 bn):=hx4.cell 0
 have x1:w4.cell? ⟨x,1,none⟩=some (.string bd):=hx4.cell 1
 have x2:w4.cell? ⟨x,2,none⟩=some (.bool bh):=hx4.cell 2
 have HS4:=lhi (HSP.out w4 (hs4.cell 5) (hs4.cell 6))
 clear h4 hs4 hx4
 go_upto_region 4 with(go_at_call 191;refine HS4.out.mono ?_;rintro e w5 ⟨rfl,hb5⟩)
 clear x0 x1 x2
 have h5:=H4.out.map fun _ h=>h.below hb5 HL.out
 have hx5:=h5.bk (Amc _ (Amb ..))
 have hq5:=h5.bk (Amb ..)
 have H5:=lhi h5
 have x0:w5.cell? ⟨x,0,none⟩=some (.int .i64 bn):=hx5.cell 0
 have x4:w5.cell? ⟨x,6,none⟩=some (.bool both):=hx5.cell 6
 have q0:w5.cell? ⟨q,0,none⟩=some (.int .i64 bn):=hq5.cell 0
 clear hb5 h5 hx5 hq5 H4 HS4 HSP
 cases both
 ·obtain rfl:_=RES:=HR.out
  go_upto_region 7 with(fail)
  have h6:=H5.out.drew
  have HP6:=lhi (Acy h6 HFI.out.n s5 s6 HFI.out.q (b:=(bn,bd,bh)) (by show bd.size<=1000;omega) (by omega))
  simp only[Id]at HP6
  have hq6:=h6.bk (Amb ..)
  have hs6:=h6.bk (Amc _ (Amc _ (Amb ..)))
  refine Af (L:=12) (S:=fun w'=>(w'.cell? ⟨q,0,none⟩=some (.int .i64 bn)/\w'.cell? ⟨q,1,none⟩=some (.string bd)/\w'.cell? ⟨q,2,none⟩=some (.bool bh))/\w'.cell? ⟨sp,0,none⟩=some (.pointer (some ⟨s,0,none⟩))/\w'.cell? ⟨sp,1,none⟩=some (.int .i64 c)) (by kernel_rfl) ⟨hq6.d3,hs6.cell 0,hs6.cell 1⟩ (fun hHeld=>?_)
  clear h6 hq6 hs6 x0 x4 q0
  refine tF 0 ?_
  refine tF 1 ?_
  refine tF 2 ?_
  refine tF 3 ?_
  refine tF 4 ?_
  refine tF 5 ?_
  refine tF 6 ?_
  refine tF 7 ?_
  refine t1 8 (fun K hK=>?_)
  go_simp
  refine HP6.out.mono ?_
  rintro e w7 ⟨rfl,h7⟩
  show K _ _
  have hq7:=h7.bk (Amb ..)
  have hs7:=h7.bk (Amc _ (Amc _ (Amb ..)))
  have hx7:=h7.bk (Amc _ (Amb ..))
  refine tK hK ⟨hq7.d3,hs7.cell 0,hs7.cell 1⟩ (fun hHeld=>?_)
  clear hK K hq7 hs7
  refine tF 9 ?_
  have y5:w7.cell? ⟨x,5,none⟩=some (.string more):=hx7.cell 5
  have f5:=hx7.frozen 5
  refine t1 10 (fun K hK=>?_)
  go_simp
  have h8:=h7.map fun _ h=>h.set1 HL.out 5 (.string (pgs (bn,bd,bh) cu u))
  have hq8:=h8.bk (Amb ..)
  have hs8:=h8.bk (Amc _ (Amc _ (Amb ..)))
  have hx8:=h8.bk (Amc _ (Amb ..))
  have H8:=lhi h8
  refine tK hK ⟨hq8.d3,hs8.cell 0,hs8.cell 1⟩ (fun hHeld=>?_)
  clear hK K hq8 hs8 h7 h8 y5 f5 hx7
  refine tF 11 ?_
  have hx8:=H8.out.bk (Amc _ (Amb ..))
  have y6:World.cell? _ ⟨x,6,none⟩=some (.bool false):=hx8.cell 6
  have f6:=hx8.frozen 6
  refine t1 12 (fun K hK=>?_)
  go_simp
  refine tL hK ?_
  clear hK K hHeld y6 f6 hx8
  have h9:=H8.out.map fun _ h=>h.set1 HL.out 6 (.bool true)
  refine letE (fun w9 hw9=>?_)
  rw[<-hw9]at h9
  have hx9:=h9.bk (Amc _ (Amb ..))
  have x0:w9.cell? ⟨x,0,none⟩=some (.int .i64 bn):=hx9.cell 0
  have x1:w9.cell? ⟨x,1,none⟩=some (.string bd):=hx9.cell 1
  have x2:w9.cell? ⟨x,2,none⟩=some (.bool bh):=hx9.cell 2
  have x3:w9.cell? ⟨x,3,none⟩=some (.slice A kk cap):=hx9.cell 3
  have x4:w9.cell? ⟨x,4,none⟩=some (.string half):=hx9.cell 4
  have x5:w9.cell? ⟨x,5,none⟩=some (.string (pgs (bn,bd,bh) cu u)):=hx9.cell 5
  have x6:w9.cell? ⟨x,6,none⟩=some (.bool true):=hx9.cell 6
  have H9:=lhi h9
  clear hw9 h9 hx9 H8
  go_wp2_with (fail)
  exact⟨rfl,rfl,(H9.out.map fun _ h=>h.drop0.drop0).mono (by omega) (by decide)⟩
 ·obtain rfl:_=RES:=HR.out
  go_upto_region 9 with(fail)
  have h6:=H5.out.drew
  have HW6:=lhi (Acm h6 HL.out (Amc _ (Amc _ (Amb ..))) HFI.out.n s4 (Aml s5 s6) HFI.out.q (by omega))
  have hx6:=h6.bk (Amc _ (Amb ..))
  have hkk2:kk<=1000:=by have:=Acn f (cu - f);omega
  rw[hkk]at HW6
  have x3:World.cell? _ ⟨x,3,none⟩=some (.slice A kk cap):=hx6.cell 3
  refine Af (L:=9) (S:=fun w'=>w'.cell? ⟨x,3,none⟩=some (.slice A kk cap)) (by kernel_rfl) x3 (fun hHeld=>?_)
  clear h6 hx6 x0 x4 q0 x3
  refine tF 0 ?_
  refine tF 1 ?_
  refine tF 2 ?_
  refine tF 3 ?_
  refine tF 5 ?_
  refine tF 6 ?_
  refine t1 4 (fun K hK=>?_)
  go_simp
  refine HW6.out.mono ?_
  rintro e w7 ⟨A7,cap7,rfl,h7⟩
  show K _ _
  have hx7:=h7.bk (Amc _ (Amb ..))
  refine tK hK (hx7.cell 3) (fun hHeld=>?_)
  clear hK K hx7
  have HE:=lhi (Ab1 (z_at h7.row0) (HZ.out _ h7.kp) hkk2)
  have H7:=lhi h7
  clear h7
  refine t1 7 (fun K hK=>?_)
  go_simp
  refine HE.out.mono ?_
  rintro e w8 ⟨rfl,hb8⟩
  show K _ _
  have h8:=H7.out.map fun _ h=>h.below hb8 HL.out
  have hx8:=h8.bk (Amc _ (Amb ..))
  refine tK hK (hx8.cell 3) (fun hHeld=>?_)
  clear hK K
  refine tF 8 ?_
  refine t1 9 (fun K hK=>?_)
  go_simp
  refine tL hK ?_
  clear hK K hHeld
  have x0:w8.cell? ⟨x,0,none⟩=some (.int .i64 bn):=hx8.cell 0
  have x1:w8.cell? ⟨x,1,none⟩=some (.string bd):=hx8.cell 1
  have x2:w8.cell? ⟨x,2,none⟩=some (.bool bh):=hx8.cell 2
  have x4:w8.cell? ⟨x,4,none⟩=some (.string half):=hx8.cell 4
  have x5:w8.cell? ⟨x,5,none⟩=some (.string more):=hx8.cell 5
  have hsz:=HBO.out rfl
  have hts:(half++more).size=half.size+more.size:=ByteArray.size_append
  have hov: ¬ 9223372036854775807<half.size+more.size:=by omega
  have HA:=lhi (Aav (h8.map fun _ h=>h.drop0.swap) HL.out (o:=o) (k:=k) (f:=f) (v:=bn) (d:=bd) (t:=half++more) (hd:=bh) rfl rfl s2 ho2 hk2 (by omega) (by omega) (by rw[hts,hsz];exact s7) (by omega))
  clear h8 hx8 H7 HE hb8
  go_wp2_with (go_at_call 194;refine HA.out.mono ?_;rintro e w9 ⟨rfl,h9⟩;have H9:=lhi h9;clear h9)
  go_end0
  exact⟨rfl,none,0,(H9.out.map fun _ h=>h.swap.drop0.dropR.nilRow 9 1).mono (by omega) (by decide)⟩
theorem Mem.same.symm'{M M':Mem}(h:M.same M'):M'.same M:=⟨h.ws.symm,h.nm.symm,h.ts.symm⟩
theorem Oj(c:Int): ∀(ns:List ByteArray) {M M':Mem} (it:Item),M.same M'->(Ch c ns M' it).1=(Ch c ns M it).1
 | [],_,_,_,_=>rfl
 | n::ns,M,M',it,h=>by
  rw[Ch,Ch,h.bkt]
  split
  ·rfl
  ·split
   ·rfl
   ·exact Oj c ns _ (((Mem.same.see M c _).symm'.trans h).trans (Mem.same.see M' c _))
theorem Qv(c:Int): ∀(ns:List ByteArray) (M:Mem) (it:Item),M.fit->(1<=it.num/\it.num<=257)->Seen c ns.length M (Ch c ns M it).2
 | [],M,it,_,_=>Seen.refl c 0 M
 | n::ns,M,it,hf,h=>by
  have hb:=Cz n
  have h1:=Seen.see (c:=c) M (i:=wd it.num (Aa n:Nat)) (by unfold wd;omega)
  rw[Ch]
  split
  ·exact Seen.refl _ _ _
  ·split
   ·exact h1.mono (by simp)
   ·rename_i i hi
    exact(h1.trans (Qv c ns _ i (hf.see _ _) ((hf.it it.num (Aa n:Nat) h (by omega)).2 _ (List.mem_of_find?_eq_some hi)))).mono (by simp;omega)
theorem Ako{L:Nat->Prop}{w W:World}{s sp:Nat}{M:Mem}{c:Int}{n:Nat}{Bs:List LB}{Rs:List RB}{cv:Ad}{r:ResV}(h:Rf L w s M c n Bs Rs W)(hb:(⟨sp,193,Bi s c cv r⟩:LB)∈Bs)(hf:M.fit){v:Value}{ns:List ByteArray}(hv:NmB W v ns)(hns:ns.length<=100)(hn:n<=800):
  Calls Tryz.prog 200 #[.pointer (some ⟨sp,0,none⟩),v] W fun e w'=>Akh e (Ch c ns M Av).1/\Rf L w s M c (n+100) Bs Rs w':=by
 have hB:=h.bk hb
 refine h.call 100 fun K M' hL hK hs hok hc hm=>?_
 refine(Qs hm hok (by omega) hc (hs.fit hf) (hK _ hb) (hB.cell 0) (hB.cell 1) hv hns).mono ?_
 rintro e w' ⟨he,h1,h2⟩
 rw[Oj c ns Av hs]at he
 exact⟨_,⟨(Qv c ns M' Av (hs.fit hf) ⟨by decide,by decide⟩).mono hns,he⟩,h1,h2⟩
section
open Go.RowKit Go.Maps Go.WideShapes
theorem Alo(w:World):(zeroValue 3).run Tryz.prog w= .ok (.int .i64 0) w:=by kernel_rfl
theorem Aj6(w:World):(zeroValue 4).run Tryz.prog w= .ok (.bool false) w:=by kernel_rfl
theorem lawI:Keyed Tryz.prog 3:=int_keyed Tryz.underlying3
def kI(i:Int):Lit:=.int .i64 i
theorem Ahb{i j:Int}(h:i≠j):kI i≠kI j:=fun e=>h (by unfold kI at e;injection e)
theorem keyI{i:Int}(h: -1000000<=i/\i<=1000000):keyOf Tryz.prog 3 (.int .i64 i)=some (kI i):=keyOf_int_mk Tryz.underlying3 (WalkArith.wf_i64 (by omega))
def MapI(w:World)(b n:Nat)(f:Int->Int):Prop:=∃D:DataW Unit,w.ownsMap Tryz.prog 3 (plainElem Tryz.prog 3) b n D/\ ∀i,D.atKey (kI i) (.lit (.int .i64 0))= .lit (.int .i64 (f i))
def MapB(w:World)(b n:Nat)(f:Int->Bool):Prop:=∃D:DataW Unit,w.ownsMap Tryz.prog 3 (plainElem Tryz.prog 4) b n D/\ ∀i,D.atKey (kI i) (.lit (.bool false))= .lit (.bool (f i))
theorem Abc{v:Value}{x:Bool}{ps:List MemPlace}(h:plainElem (H:=Unit) Tryz.prog 4 v=some (.lit (.bool x),ps)):v= .bool x:=by
 unfold plainElem at h
 rw[show Tryz.prog.underlying 4=some .bool from Tryz.underlying4]at h
 cases v <;> simp at h
 rw[h.1]
theorem MapI.look{w:World}{b n:Nat}{f:Int->Int}(h:MapI w b n f){i:Int}(hi: -1000000<=i/\i<=1000000):(Instr.lookup 186 (.map (some b)) (.int .i64 i) false).run Tryz.prog w= .ok (.int .i64 (f i)) w:=by
 obtain⟨D,ho,hf⟩:=h
 obtain⟨c,hrun,hat,_⟩:=ho.lookup_int lawI Tryz.underlying186 Tryz.underlying3 (Alo w) (keyI hi)
 rw[hf i]at hat
 have e:f i=c:=Lit.int.inj (DataW.lit.inj hat) |>.2
 exact e▸hrun
theorem MapB.look{w:World}{b n:Nat}{f:Int->Bool}(h:MapB w b n f){i:Int}(hi: -1000000<=i/\i<=1000000):(Instr.lookup 127 (.map (some b)) (.int .i64 i) false).run Tryz.prog w= .ok (.bool (f i)) w:=by
 obtain⟨D,ho,hf⟩:=h
 obtain⟨v,ps,hrun,hv⟩:=ho.lookup lawI Tryz.underlying127 (Aj6 w) (zd:=.lit (.bool false)) (zp:=[]) (plainElem_bool Tryz.underlying4 false) (keyI hi)
 rw[hf i]at hv
 rw[Abc hv]at hrun
 exact hrun
theorem MapI.made(w:World):MapI (w.alloc (.map #[] 0)) w.heap.size 0 (fun _=>0):=⟨.map [],World.ownsMap_made _ _ _ _,fun _=>rfl⟩
theorem MapB.made(w:World):MapB (w.alloc (.map #[] 0)) w.heap.size 0 (fun _=>false):=⟨.map [],World.ownsMap_made _ _ _ _,fun _=>rfl⟩
theorem MapI.kept{w w':World}{b n:Nat}{f:Int->Int}{row:Option Nat}(h:MapI w b n f)(hg:w.grownBy w' row)(hne:some b≠row):MapI w' b n f:=by
 obtain⟨D,ho,hf⟩:=h
 exact⟨D,ho.kept hg hne,hf⟩
theorem MapB.kept{w w':World}{b n:Nat}{f:Int->Bool}{row:Option Nat}(h:MapB w b n f)(hg:w.grownBy w' row)(hne:some b≠row):MapB w' b n f:=by
 obtain⟨D,ho,hf⟩:=h
 exact⟨D,ho.kept hg hne,hf⟩
theorem MapI.alloc{w:World}{b n:Nat}{f:Int->Int}(h:MapI w b n f)(o:Obj):MapI (w.alloc o) b n f:=h.kept (World.grownBy_alloc w o none) (by simp)
theorem MapB.alloc{w:World}{b n:Nat}{f:Int->Bool}(h:MapB w b n f)(o:Obj):MapB (w.alloc o) b n f:=h.kept (World.grownBy_alloc w o none) (by simp)
theorem MapI.drew{w:World}{b n:Nat}{f:Int->Int}(h:MapI w b n f):MapI w.drew b n f:=h
theorem MapB.drew{w:World}{b n:Nat}{f:Int->Bool}(h:MapB w b n f):MapB w.drew b n f:=h
theorem MapI.drewN{w:World}{b n:Nat}{f:Int->Int}(h:MapI w b n f)(k:Nat):MapI (w.drewN k) b n f:=h
theorem MapB.drewN{w:World}{b n:Nat}{f:Int->Bool}(h:MapB w b n f)(k:Nat):MapB (w.drewN k) b n f:=h
theorem MapI.congr{w:World}{b n:Nat}{f g:Int->Int}(h:MapI w b n f)(e: ∀i,f i=g i):MapI w b n g:=(funext e:f=g)▸h
theorem MapB.congr{w:World}{b n:Nat}{f g:Int->Bool}(h:MapB w b n f)(e: ∀i,f i=g i):MapB w b n g:=(funext e:f=g)▸h
theorem MapI.obj{w:World}{b n:Nat}{f:Int->Int}(h:MapI w b n f): ∃es cl,w.heap[b]? =some (.map es cl):=by
 obtain⟨D,⟨es,cl,hb,_⟩,_⟩:=h
 exact⟨es,cl,hb⟩
theorem MapB.obj{w:World}{b n:Nat}{f:Int->Bool}(h:MapB w b n f): ∃es cl,w.heap[b]? =some (.map es cl):=by
 obtain⟨D,⟨es,cl,hb,_⟩,_⟩:=h
 exact⟨es,cl,hb⟩
theorem Agh{D:DataW Unit}(hD:IsMap D)(i:Int)(d z:DataW Unit)(j:Int):(D.put (kI i) d).atKey (kI j) z=if j=i then d else D.atKey (kI j) z:=by
 by_cases e:j=i
 ·subst e
  rw[if_pos rfl]
  exact atKey_put_same hD (by simp[kI,WideAt.IsKeyLit]) _ _
 ·rw[if_neg e]
  exact atKey_put_other (Ahb e) _ _
section
variable{ops:Array Oper}{rest:List Oper}{o:Oper}{a:Act}{Q:Exit->Act->World->Prop}
theorem Kg(w:World)(hg:o.guard=none)(m x v:Operand)(hop:o.op=Op.mapUpdate 127 m x v∨o.op=Op.insert 127 m x v)(b n:Nat)(f:Int->Bool)(hm:a.eval m= .map (some b))(h:MapB w b n f)(hn:n<1000000000)
  (i:Int) (hi: -1000000<=i/\i<=1000000) (hx:a.eval x= .int .i64 i) (y:Bool) (hv:a.eval v= .bool y)
  (hK: ∀w',MapB w' b (n+1) (fun j=>if j=i then y else f j)->w.grownBy w' (some b)->wpList Tryz.prog ops Q rest (a.put o.dst undef) w'):wpList Tryz.prog ops Q (o::rest) a w:=by
 obtain⟨D,ho,hf⟩:=h
 refine wpList_plain hg fun K' hK'=>?_
 obtain⟨w',hrun,r1,r2⟩:=ho.update (val:=.bool y) lawI Tryz.underlying127 (by unfold maxLen;omega) (keyI hi) (plainElem_bool Tryz.underlying4 y)
 have hM:MapB w' b (n+1) (fun j=>if j=i then y else f j):=⟨_,r1,fun j=>by
  rw[Agh ho.isMap]
  by_cases e:j=i
  ·subst e;simp
  ·simp[e,hf]⟩
 unfold Oper.wp
 rcases hop with hop | hop
 all_goals
  simp[execOp,hop,hm,hx,hv,hrun,Result.andThen]
  exact hK' _ _ (hK w' hM r2)
theorem Xg(w:World)(hg:o.guard=none)(m x v:Operand)(hop:o.op=Op.mapUpdate 186 m x v)(b n:Nat)(f:Int->Int)(hm:a.eval m= .map (some b))(h:MapI w b n f)(hn:n<1000000000)
  (i:Int) (hi: -1000000<=i/\i<=1000000) (hx:a.eval x= .int .i64 i) (y:Int) (hy:0<=y/\y<=1000000000) (hv:a.eval v= .int .i64 y)
  (hK: ∀w',MapI w' b (n+1) (fun j=>if j=i then y else f j)->w.grownBy w' (some b)->wpList Tryz.prog ops Q rest (a.put o.dst undef) w'):wpList Tryz.prog ops Q (o::rest) a w:=by
 obtain⟨D,ho,hf⟩:=h
 refine wpList_plain hg fun K' hK'=>?_
 obtain⟨w',hrun,r1,r2⟩:=ho.update (val:=.int .i64 y) lawI Tryz.underlying186 (by unfold maxLen;omega) (keyI hi) (plainElem_int Tryz.underlying3 (WalkArith.wf_i64 (by omega)))
 have hM:MapI w' b (n+1) (fun j=>if j=i then y else f j):=⟨_,r1,fun j=>by
  rw[Agh ho.isMap]
  by_cases e:j=i
  ·subst e;simp
  ·simp[e,hf]⟩
 unfold Oper.wp
 simp[execOp,hop,hm,hx,hv,hrun,Result.andThen]
 exact hK' _ _ (hK w' hM r2)
end
theorem At.turn{w0 w wx wy:World}{c sb:Nat}{iv ov mv:Value}{D:List Fnd}(h:At w0 w wx c sb iv ov mv D){b:Nat}(hb: ∃es cl,wx.heap[b]? =some (.map es cl))(hw:w.heap.size<=b)(hw0:w0.heap.size<=w.heap.size)(hg:wx.grownBy wy (some b)):At w0 w wy c sb iv ov mv D:=by
 obtain⟨es,cl,hb⟩:=hb
 have hne: ∀{g:Nat} {t:TypeId} {cs:Array Value},Blk wx g t cs->some g≠some b:=fun hq e=>by
  obtain rfl:=Amg e
  unfold Blk at hq
  rw[hb]at hq
  cases hq
 obtain⟨h1,h2⟩:=h
 obtain⟨v,r1,r2⟩:=h1.row
 refine⟨⟨h1.bel.trans ⟨hg.os,hg.tape,hg.output,hg.size,fun q hq=>hg.block q (by have:=h1.bel.size;omega) (fun e=>by have:=Amg e;omega)⟩,h1.sB,Blk.of_heap (hg.block _ h1.sat.lt (hne h1.sat)) h1.sat,h1.cB,v,Blk.of_heap (hg.block _ r1.lt (hne r1)) r1,?_⟩,⟨Nat.le_trans h2.size hg.size,fun q o hq hf=>?_⟩⟩
 ·refine⟨r2.1,?_⟩
  rcases r2.2 with q | ⟨g',cap,cur,hv,hg',hh,rest⟩
  ·exact .inl q
  ·exact .inr ⟨g',cap,cur,hv,hg',Blk.of_heap (hg.block _ (Blk.lt (show Blk wx g' _ cur from hh)) (hne (show Blk wx g' _ cur from hh))) hh,rest⟩
 ·have h3:=h2.block q o hq hf
  rw[hg.block q (Hy h3) (fun e=>by have:=Amg e;have:=Hy hq;omega)]
  exact h3
theorem Blk.turn{wx wy:World}{b g:Nat}{t:TypeId}{cs:Array Value}(h:Blk wx g t cs)(hb: ∃es cl,wx.heap[b]? =some (.map es cl))(hg:wx.grownBy wy (some b)):Blk wy g t cs:=by
 obtain⟨es,cl,hb⟩:=hb
 refine Blk.of_heap (hg.block _ h.lt (fun e=>?_)) h
 obtain rfl:=Amg e
 unfold Blk at h
 rw[hb]at h
 cases h
end
def QS(w:World)(base:Nat)(v:Value)(xs:List Int):Prop:=
 ∃g off cap cur,v= .slice (some ⟨g,off,none⟩) xs.length cap/\xs.length<=cap/\base<=g/\Blk w g 3 cur/\off+cap<=cur.size/\ ∀j x,xs[j]? =some x->cur[off+j]? =some (.int .i64 x)
theorem QS.below{w w':World}{base:Nat}{v:Value}{xs:List Int}(h:QS w base v xs)(hb:Below w.heap.size w w'):QS w' base v xs:=by
 obtain⟨g,off,cap,cur,h1,h2,h3,h4,h5⟩:=h
 exact⟨g,off,cap,cur,h1,h2,h3,Blk.of_heap (hb.block _ h4.lt) h4,h5⟩
theorem QS.alloc{w:World}{base:Nat}{v:Value}{xs:List Int}(h:QS w base v xs)(o:Obj):QS (w.alloc o) base v xs:=h.below ((Amf _ _).alloc (Ama _) o)
theorem QS.turn{wx wy:World}{base b:Nat}{v:Value}{xs:List Int}(h:QS wx base v xs)(hb: ∃es cl,wx.heap[b]? =some (.map es cl))(hg:wx.grownBy wy (some b)):QS wy base v xs:=by
 obtain⟨g,off,cap,cur,h1,h2,h3,h4,h5⟩:=h
 exact⟨g,off,cap,cur,h1,h2,h3,h4.turn hb hg,h5⟩
theorem QS.form{w:World}{base:Nat}{v:Value}{xs:List Int}(h:QS w base v xs): ∃g off cap,v= .slice (some ⟨g,off,none⟩) xs.length cap/\xs.length<=cap/\ (∀j x,xs[j]? =some x->w.cell? ⟨g,off+j,none⟩=some (.int .i64 x)):=by
 obtain⟨g,off,cap,cur,h1,h2,h3,h4,h5,h6⟩:=h
 exact⟨g,off,cap,h1,h2,fun j x hx=>(h4.cell _).trans (h6 j x hx)⟩
theorem QS.lit(w:World)(x:Int){base:Nat}(hb:base<=w.heap.size):QS (w.alloc (.cells #[.int .i64 x] 3)) base (.slice (some ⟨w.heap.size,0,none⟩) 1 1) [x]:=
 ⟨_,0,1,_,rfl,Ama _,hb,Blk.new _ _ _,Ama _,fun j y hj=>by
  cases j with
  | zero=>simp at hj;subst hj;rfl
  | succ j=>simp at hj⟩
theorem QS.tail{w:World}{base g off n cap:Nat}{x:Int}{xs:List Int}(h:QS w base (.slice (some ⟨g,off,none⟩) n cap) (x::xs)):(cap=1->QS w base (.slice (some ⟨g,off,none⟩) 0 0) xs)/\ (cap≠1->QS w base (.slice (some ⟨g,off+1,none⟩) xs.length (cap - 1)) xs):=by
 obtain⟨g',off',cap',cur,h1,h2,h3,h4,h5,h6⟩:=h
 injection h1 with e1 e2 e3
 injection e1 with e1
 injection e1 with e4 e5
 subst e4 e5 e3
 simp only[List.length_cons]at h2
 refine⟨fun hc=>?_,fun hc=>?_⟩
 ·subst hc
  have:xs=[]:=List.length_eq_zero_iff.1 (by omega)
  subst this
  exact⟨g,off,0,cur,rfl,Ama _,h3,h4,by omega,fun j x hj=>by simp at hj⟩
 ·exact⟨g,off+1,cap - 1,cur,rfl,by omega,h3,h4,by omega,fun j y hj=>by rw[show off+1+j=off+ (j+1)by omega];exact h6 (j+1) y (by simpa using hj)⟩
theorem Aeq:(Tryz.prog.info? 3).map (fun i=>(i.zero,i.size,i.bytes))=some (some (.int .i64 0),1,8):=by kernel_rfl
section
variable{ops:Array Oper}{rest:List Oper}{o:Oper}{a:Act}{Q:Exit->Act->World->Prop}
theorem Xh(w:World)(hg:o.guard=none)(s x:Operand)(hop:o.op=Op.call {callee:=Callee.builtin Builtin.append,args:=#[s,x],argTypes:=#[28,28]}) (base:Nat) (v:Value) (xs:List Int) (hs:a.eval s=v) (h:QS w base v xs) (hlen:xs.length<=1000000000) (hbase:base<=w.heap.size)
  (nb:Nat) (y:Int) (hx:a.eval x= .slice (some ⟨nb,0,none⟩) 1 1) (hn:w.cell? ⟨nb,0,none⟩=some (.int .i64 y))
  (hK: ∀v' w' row,QS w' base v' (xs++[y])->w.grownBy w' row->(∀q,row=some q->base<=q/\ ∃cs,Blk w q 3 cs)->wpList Tryz.prog ops Q rest (a.put o.dst v') w'):wpList Tryz.prog ops Q (o::rest) a w:=by
 obtain⟨i0,hi,hz0,hz1,hz2⟩:=info_parts Aeq
 obtain⟨g,off,cap,cur,rfl,h2,h3,h4,h5,h6⟩:=h
 refine wpList_plain hg fun K' hK'=>?_
 have hnews: ∀j u,[Value.int .i64 y][j]? =some u->w.cell? ((⟨nb,0,none⟩:Addr).add j)=some u:=fun j u hu=>by
  cases j with
  | zero=>simp at hu;subst hu;exact hn
  | succ j=>simp at hu
 by_cases hr:xs.length+1<=cap
 ·have hrun:=run_append_room_cells (P:=Tryz.prog) (w:=w) 28 o.type 3 i0 Tryz.underlying28 hi g off xs.length cap ⟨nb,0,none⟩ 1 1 [.int .i64 y] (by rw[hz1];rfl) hnews (by intro u hu;simp at hu;subst hu;rfl) hr
   (fun j hj=>by
    have:j=0:=by simpa using hj
    subst this
    rw[hz1,Nat.mul_one,Nat.add_zero,h4.cell,Array.getElem?_eq_getElem (by omega)];rfl) (fun j hj=>h4.frozen _)
  rw[hz1,Nat.mul_one]at hrun
  have hQ:QS (w.setCells g (off+xs.length) [.int .i64 y]) base (.slice (some ⟨g,off,none⟩) (xs.length+1) cap) (xs++[y]):=by
   refine⟨g,off,cap,cur.setIfInBounds (off+xs.length) (.int .i64 y),by simp,by simpa using hr,h3,h4.set_ _ _,by simpa using h5,fun j x hj=>?_⟩
   by_cases e:j=xs.length
   ·subst e
    have:y=x:=by simpa using hj
    subst this
    rw[Array.getElem?_setIfInBounds_self,if_pos (by omega)]
   ·have hjl:j<xs.length:=by
     have:=(List.getElem?_eq_some_iff.1 hj).1
     simp at this
     omega
    rw[Array.getElem?_setIfInBounds_ne (by omega)]
    exact h6 j x (by rw[List.getElem?_append_left hjl]at hj;exact hj)
  have hG:w.grownBy (w.setCells g (off+xs.length) [.int .i64 y]) (some g):=⟨rfl,rfl,rfl,by simp[World.setCells,World.setCell],fun k _ hk=>Below.heap_setCell _ _ _ _ (fun e=>hk (by rw[e]))⟩
  unfold Oper.wp
  simp[execOp,hop,resolve,invoke,builtin,hx,hs,hrun,Result.andThen]
  exact hK' _ _ (hK _ _ _ hQ hG fun q hq=>by obtain rfl:=Amg hq;exact⟨h3,cur,h4⟩)
 ·obtain⟨v',w',hrun,hown,hgr⟩:=run_append_arg_grows (P:=Tryz.prog) (w:=w) 28 o.type 3 i0 _ 1 8 Tryz.underlying28 hi hz0 hz1 hz2 rfl (by decide) ⟨g,off,none⟩ xs.length cap (xs.map fun x=>.int .i64 x) (by simp) (fun j u hu=>by
    rw[List.getElem?_map]at hu
    obtain⟨x,hx',rfl⟩:=Option.map_eq_some_iff.1 hu
    rw[Addr.add_lit,h4.cell]
    exact h6 j x hx') ⟨nb,0,none⟩ 1 1 [.int .i64 y] rfl hnews (by omega) (by simp only[maxLen];omega) (by omega)
  have hQ:QS w' base v' (xs++[y]):=by
   rcases hown.2 with⟨rfl,h0⟩ | ⟨g',cap',cur',rfl,hb,hh,h7,h8,h9,h10⟩
   ·omega
   ·refine⟨g',0,cap',cur',by simp,by simpa using h7,by omega,hh,by omega,fun j x hj=>?_⟩
    have hjl:j<xs.length+1:=by
     have:=(List.getElem?_eq_some_iff.1 hj).1
     simpa using this
    have h11:((xs.map fun x=>Value.int .i64 x)++[.int .i64 y])[j]? =some (.int .i64 x):=by
     rw[show((xs.map fun x=>Value.int .i64 x)++[Value.int .i64 y])=(xs++[y]).map (fun x=>Value.int .i64 x)by simp,List.getElem?_map,hj]
     rfl
    rw[<-h10,List.getElem?_take]at h11
    split at h11
    ·rw[Nat.zero_add];simpa using h11
    ·cases h11
  unfold Oper.wp
  simp[execOp,hop,resolve,invoke,builtin,hx,hs,hrun,Result.andThen]
  exact hK' _ _ (hK _ _ _ hQ hgr fun q hq=>by cases hq)
end
section
variable{w0 w wx wy:World}{c sb:Nat}{iv ov mv:Value}{D:List Fnd}{rw_:Option Nat}
theorem At.row(h:At w0 w wx c sb iv ov mv D)(hw0:w0.heap.size<=w.heap.size)(hg:wx.grownBy wy rw_)(hr: ∀q,rw_=some q->w.heap.size<=q/\ ∃cs,Blk wx q 3 cs):At w0 w wy c sb iv ov mv D:=by
 have hne: ∀{g:Nat} {t:TypeId} {cs:Array Value},Blk wx g t cs->t≠3->some g≠rw_:=fun hq ht e=>by
  obtain⟨_,cs,hb⟩:=hr _ e.symm
  exact Blk.ne_ hq hb ht rfl
 obtain⟨h1,h2⟩:=h
 obtain⟨v,r1,r2⟩:=h1.row
 refine⟨⟨h1.bel.trans ⟨hg.os,hg.tape,hg.output,hg.size,fun q hq=>hg.block q (by have:=h1.bel.size;omega) (fun e=>by have:=(hr q e.symm).1;omega)⟩,h1.sB,Blk.of_heap (hg.block _ h1.sat.lt (hne h1.sat (by decide))) h1.sat,h1.cB,v,Blk.of_heap (hg.block _ r1.lt (hne r1 (by decide))) r1,?_⟩,⟨Nat.le_trans h2.size hg.size,fun q o hq hf=>?_⟩⟩
 ·refine⟨r2.1,?_⟩
  rcases r2.2 with q | ⟨g',cap,cur,hv,hg',hh,rest⟩
  ·exact .inl q
  ·exact .inr ⟨g',cap,cur,hv,hg',Blk.of_heap (hg.block _ (Blk.lt (show Blk wx g' _ cur from hh)) (hne (show Blk wx g' 119 cur from hh) (by decide))) hh,rest⟩
 ·have h3:=h2.block q o hq hf
  rw[hg.block q (Hy h3) (fun e=>by have:=(hr q e.symm).1;have:=Hy hq;omega)]
  exact h3
theorem MapB.row{b n:Nat}{f:Int->Bool}(h:MapB wx b n f)(hg:wx.grownBy wy rw_)(hr: ∀q,rw_=some q->w.heap.size<=q/\ ∃cs,Blk wx q 3 cs):MapB wy b n f:=
 h.kept hg fun e=>by
  obtain⟨_,cs,hb⟩:=hr _ e.symm
  obtain⟨es,cl,hq⟩:=h.obj
  unfold Blk at hb
  rw[hq]at hb
  cases hb
theorem MapI.row{b n:Nat}{f:Int->Int}(h:MapI wx b n f)(hg:wx.grownBy wy rw_)(hr: ∀q,rw_=some q->w.heap.size<=q/\ ∃cs,Blk wx q 3 cs):MapI wy b n f:=
 h.kept hg fun e=>by
  obtain⟨_,cs,hb⟩:=hr _ e.symm
  obtain⟨es,cl,hq⟩:=h.obj
  unfold Blk at hb
  rw[hq]at hb
  cases hb
theorem Blk.row{g:Nat}{t:TypeId}{cs:Array Value}(h:Blk wx g t cs)(ht:t≠3)(hg:wx.grownBy wy rw_)(hr: ∀q,rw_=some q->w.heap.size<=q/\ ∃cs,Blk wx q 3 cs):Blk wy g t cs:=
 Blk.of_heap (hg.block _ h.lt (fun e=>by
  obtain⟨_,cs,hb⟩:=hr _ e.symm
  exact Blk.ne_ h hb ht rfl)) h
end
def Eb(S:St)(i:Nat):List Int:=(List.range (S.ne i)).map (S.enu i)
def Sa(S:St)(i:Nat):List Int:=(List.range i).flatMap fun i=>if S.dir i then Eb S i else []
def Kf(S:St)(x:Int):Nat:=(Sa S S.inodes.length).count x
def add1(F:List Int)(x:Int):List Int:=if F.contains x then F else F++[x]
def Dv(F:List Int)(es:List Int):List Int:=es.foldl add1 F
def kids(S:St)(x:Int):List Int:=match Fw S x with
 | some i=>if S.dir i then Eb S i else []
 | none=>[]
def bfs(S:St):Nat->List Int->Nat->List Int
 | 0,F,_=>F
 | f+1,F,p=>match F[p]? with
  | some x=>bfs S f (Dv F (kids S x)) (p+1)
  | none=>F
def univ(S:St):List Int:=(List.range S.inodes.length).flatMap (Eb S)
def Jx(S:St):List Int:=bfs S ((univ S).length+2) [1] 0
def Jy(S:St)(x:Int):Bool:=(Jx S).contains x
def out(U F:List Int):Nat:=(U.filter fun x=>!F.contains x).length
theorem Su(S:St)(i:Nat):(Eb S i).length=S.ne i:=by simp[Eb]
theorem Afp(S:St)(hs:S.small):(univ S).length<=1000000:=by
 unfold univ
 have:=Zt (f:=Eb S) (c:=1000) (fun i=>by rw[Su];exact hs.en i) S.inodes.length
 have:=hs.ni
 omega
theorem Agx{S:St}{i k:Nat}(hi:i<S.inodes.length)(hk:k<S.ne i):S.enu i k∈univ S:=by
 unfold univ Eb
 rw[List.mem_flatMap]
 exact⟨i,by simpa using hi,by rw[List.mem_map];exact⟨k,by simpa using hk,rfl⟩⟩
theorem Uw{A:Type}{p q:A->Bool}(h: ∀x,q x=true->p x=true){y:A}: ∀{l:List A},y∈l->p y=true->q y=false->(l.filter q).length+1<= (l.filter p).length
 | [],hy,_,_=>by simp at hy
 | a::l,hy,hp,hq=>by
  have hle: ∀l:List A,(l.filter q).length<= (l.filter p).length:=by
   intro l
   induction l with
   | nil=>simp
   | cons a l ih=>
    rw[List.filter_cons,List.filter_cons]
    by_cases h1:q a=true
    ·rw[if_pos h1,if_pos (h a h1)];simp;exact ih
    ·rw[if_neg h1]
     split
     ·simp;omega
     ·exact ih
  rw[List.filter_cons,List.filter_cons]
  rcases List.mem_cons.1 hy with rfl | hy
  ·rw[if_pos hp,if_neg (by simp[hq])]
   have:=hle l
   simp;omega
  ·have ih:=Uw h hy hp hq
   by_cases h1:q a=true
   ·rw[if_pos h1,if_pos (h a h1)];simp;omega
   ·rw[if_neg h1]
    split
    ·simp;omega
    ·exact ih
theorem Aay{U F:List Int}{x:Int}(hx:x∈U)(hF:F.contains x=false):(F++[x]).length+out U (F++[x])<=F.length+out U F:=by
 have h:=Uw (p:=fun y=>!F.contains y) (q:=fun y=>!(F++[x]).contains y) (fun y hy=>by
  have h2:y∉F++[x]:=by simpa using hy
  have h3:y∉F:=fun h=>h2 (List.mem_append_left _ h)
  simpa using h3) hx (by rw[hF];rfl) (by simp)
 unfold out
 simp only[Ami,List.length_singleton]
 omega
theorem Aax(F:List Int)(es:List Int)(x:Int):Dv F (es++[x])=add1 (Dv F es) x:=by
 unfold Dv
 rw[List.foldl_append];rfl
theorem Pt(S:St)(i k:Nat):(List.range (k+1)).map (S.enu i)=(List.range k).map (S.enu i)++[S.enu i k]:=by
 rw[List.range_succ,List.map_append];rfl
theorem Yx(S:St)(i:Nat):Sa S (i+1)=Sa S i++if S.dir i then Eb S i else []:=Us _ i
theorem Ab7(L:List Int)(x y:Int):((L++[x]).count y:Int)=if y=x then(L.count x:Int)+1 else(L.count y:Int):=by
 rw[List.count_append,List.count_singleton]
 by_cases e:y=x
 ·subst e;simp
 ·rw[if_neg e]
  have:(x==y)=false:=by simpa using fun h:x=y=>e h.symm
  simp[this]
theorem Ty(F:List Int)(x y:Int):(F++[x]).contains y=if y=x then true else F.contains y:=by
 by_cases e:y=x
 ·subst e;simp
 ·rw[if_neg e];simp[e]
section
attribute [local go_sem↓] Go.wp_at_zero Go.wp_at_succ
end
def Aje(S:St)(x:Int):Bool:=(List.range S.opens.length).any fun i=>S.on i==x
section
attribute [local go_sem↓] Go.wp_at_zero Go.wp_at_succ
def b3(S:St)(i:Nat):Bool:=S.dir i&& (S.num i != 1&& ((Kf S (S.num i):Nat):Int) != 1)
def opB(S:St)(i:Nat):Bool:=!S.dir i&&Aje S (S.num i)
def b4(S:St)(i:Nat):Bool:=!(Jy S (S.num i)&& (Fw S (S.num i)==some i))&&!opB S i
theorem Add(w:World)(g x y:Nat)(b:Bool)(hb:decide (x=y)=b):(binOp .eql 161 (.pointer (some ⟨g,x,none⟩)) (.pointer (some ⟨g,y,none⟩))).run Tryz.prog w= .ok (.bool b) w:=by
 subst hb
 by_cases e:x=y
 ·subst e
  rw[decide_eq_true rfl]
  obtain⟨j,hj⟩: ∃j,Tryz.prog.info? 93=some j:=Option.isSome_iff_exists.1 (by kernel_rfl)
  exact run_eql_ptr_same w _ Tryz.underlying161 hj
 ·rw[decide_eq_false e]
  obtain⟨j,hj,hsz⟩: ∃j,Tryz.prog.info? 93=some j/\j.size≠0:=by
   have h:(Tryz.prog.info? 93).map (fun i=>i.size)=some 4:=by kernel_rfl
   obtain⟨j,hj,h2⟩:=Option.map_eq_some_iff.1 h
   exact⟨j,hj,by rw[h2];decide⟩
  have hs:(sameAddr ⟨g,x,none⟩ ⟨g,y,none⟩).run Tryz.prog w= .ok false w:=by simp[sameAddr]
  have h: ∀d:Nat,(Op.equalIn (d+1) 161 (.pointer (some ⟨g,x,none⟩)) (.pointer (some ⟨g,y,none⟩))).run Tryz.prog w= .ok false w:=fun d=>by
   simp[Op.equalIn,run_underlying Tryz.underlying161,sizeOf,typeInfo,hj,hsz,hs]
  simp only[binOp]
  simp[Op.equal,Op.maxDepth,h 9999]
end
end Go.Proofs.YtkebjgebkneijaaGreat
