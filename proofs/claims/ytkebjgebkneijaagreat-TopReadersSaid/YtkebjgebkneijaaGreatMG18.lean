/- Texts of one's own that a claim's last text rests on: Cln Ins Own Clo Spl. -/
import Derived.Test.YtkebjgebkneijaaGreatMG17
import Derived.Lib.SliceRun
import Derived.Test.YtkebjgebkneijaaGreatMG6
import Derived.Shelf.Spec.SlicesInsert
import Derived.Lib.AppendZerosOnto
set_option linter.unusedVariables false
set_option linter.unusedSimpArgs false
namespace Go.Proofs.YtkebjgebkneijaaGreat
open Go.RowKit
set_option maxHeartbeats 16000000
set_option maxRecDepth 1000000
theorem Iu(w:World)(base:Nat)(e:TypeId)(k:Nat)(hb:base<=w.heap.size):(w.alloc (.cells #[] e)).ownsRow base e k (.slice (some ⟨w.heap.size,0,none⟩) 0 0) 0 []:=
 ⟨by simp,.inr ⟨w.heap.size,0,#[],rfl,hb,Blk.new w e #[],Ama _,by decide,by simp,by simp⟩⟩
theorem Wu{w:World}{v:Value}{L:List (InV)}{C:Nat->Nat->Value}(h:Ak w v L.length 4 C)(hC:CL encI L C 4)(hone: ∀x∈L,∀u∈encI x,u.oneCell'=true)(hn:L.length<=90000):
  Calls Tryz.prog 73 #[v] w fun e w'=>(∃v',e= .returned v'/\w'.ownsRow w.heap.size 93 4 v' L.length (L.flatMap encI))/\Below w.heap.size w w':=by
 have HR:=lhi h
 have HC:=lhi hC
 have HO:=lhi hone
 obtain⟨A,cap,rfl,hcap,-⟩:=h
 clear hC hone
 have he: ∀(W:World) (a:Option Addr) (n c:Nat),(binOp BinOp.eql 26 (.slice a n c) (.slice none 0 0)).run Tryz.prog W= .ok (.bool a.isNone) W:=fun W a n c=>Lib.run_eql_slice_nil W 26 93 a n c 0 0 Tryz.underlying26
 go_enter Tryz.func73,Tryz.ntmps73
 cases A with
 | none=>
  have h0:L=[]:=by
   rcases Nat.eq_zero_or_pos L.length with q | q
   ·exact List.length_eq_zero_iff.1 q
   ·obtain⟨A',cap',e,-,hx⟩:=HR.out
    injection e with e1 e2 e3
    subst e1
    obtain⟨g,off,hg,-⟩:=hx q
    cases hg
  subst h0
  go_wp2_with (fail)
  go_ret
  exact⟨⟨_,rfl,World.ownsRow_nil _ _ _ _⟩,Amf _ _⟩
 | some ad=>
  obtain⟨i0,hi0,hz⟩:=Option.map_eq_some_iff.1 Ja
  have hz0:i0.zero=some (.agg #[.int .i64 0,.bool false,.slice none 0 0,.string ⟨#[]⟩]):=congrArg (fun p=>p.1) hz
  have hz1:i0.size=4:=congrArg (fun p=>p.2.1) hz
  have hz2:i0.bytes=56:=congrArg (fun p=>p.2.2) hz
  clear hz
  have HB:=lhi ((Amf w.heap.size w).alloc (Ama _) (.cells #[] 93))
  have HRA:=lhi (HR.out.keep HB.out)
  have HOW:=lhi (Iu w w.heap.size 93 4 (Ama _))
  go_wp2_with (at_builtin;refine Cm (k:=4) (enc:=encI) _ rfl (.tmp 5) (.tmp 6) 26 93 rfl i0 _ 56 Tryz.underlying26 hi0 hz0 hz1 hz2 rfl (by decide) w.heap.size (.slice (some ⟨w.heap.size,0,none⟩) 0 0) [] rfl HOW.out (.slice (some ad) L.length cap) rfl L HRA.out HC.out Db HO.out (by simp;omega) (by decide) HB.out.size ?_;intro A' n' cap' w5 hn' ho hgr hor;have HOO:=lhi ho;have HG:=lhi hgr;have HNE:=lhi hn';clear ho hgr hor hn')
  go_ret
  have hl:n'=L.length:=by have:=HNE.out;simpa using this
  subst hl
  refine⟨⟨_,rfl,by have:=HOO.out;simpa using this⟩,?_⟩
  have hg:=HG.out
  have hs:=HB.out.size
  exact HB.out.trans ⟨hg.os,hg.tape,hg.output,hg.size,fun b hb=>hg.block b (by simp at hs;simp;omega) (fun e=>by
   have e:b=w.heap.size:=Amg e
   omega)⟩
theorem Wv{w:World}{v:Value}{L:List (En)}{C:Nat->Nat->Value}(h:Ak w v L.length 2 C)(hC:CL Ai L C 2)(hone: ∀x∈L,∀u∈Ai x,u.oneCell'=true)(hn:L.length<=90000):
  Calls Tryz.prog 74 #[v] w fun e w'=>(∃v',e= .returned v'/\w'.ownsRow w.heap.size 132 2 v' L.length (L.flatMap Ai))/\Below w.heap.size w w':=by
 have HR:=lhi h
 have HC:=lhi hC
 have HO:=lhi hone
 obtain⟨A,cap,rfl,hcap,-⟩:=h
 clear hC hone
 have he: ∀(W:World) (a:Option Addr) (n c:Nat),(binOp BinOp.eql 91 (.slice a n c) (.slice none 0 0)).run Tryz.prog W= .ok (.bool a.isNone) W:=fun W a n c=>Lib.run_eql_slice_nil W 91 132 a n c 0 0 Tryz.underlying91
 go_enter Tryz.func74,Tryz.ntmps74
 cases A with
 | none=>
  have h0:L=[]:=by
   rcases Nat.eq_zero_or_pos L.length with q | q
   ·exact List.length_eq_zero_iff.1 q
   ·obtain⟨A',cap',e,-,hx⟩:=HR.out
    injection e with e1 e2 e3
    subst e1
    obtain⟨g,off,hg,-⟩:=hx q
    cases hg
  subst h0
  go_wp2_with (fail)
  go_ret
  exact⟨⟨_,rfl,World.ownsRow_nil _ _ _ _⟩,Amf _ _⟩
 | some ad=>
  obtain⟨i0,hi0,hz⟩:=Option.map_eq_some_iff.1 Lk
  have hz0:i0.zero=some (.agg #[.string ⟨#[]⟩,.int .i64 0]):=congrArg (fun p=>p.1) hz
  have hz1:i0.size=2:=congrArg (fun p=>p.2.1) hz
  have hz2:i0.bytes=24:=congrArg (fun p=>p.2.2) hz
  clear hz
  have HB:=lhi ((Amf w.heap.size w).alloc (Ama _) (.cells #[] 132))
  have HRA:=lhi (HR.out.keep HB.out)
  have HOW:=lhi (Iu w w.heap.size 132 2 (Ama _))
  go_wp2_with (at_builtin;refine Cm (k:=2) (enc:=Ai) _ rfl (.tmp 5) (.tmp 6) 91 132 rfl i0 _ 24 Tryz.underlying91 hi0 hz0 hz1 hz2 rfl (by decide) w.heap.size (.slice (some ⟨w.heap.size,0,none⟩) 0 0) [] rfl HOW.out (.slice (some ad) L.length cap) rfl L HRA.out HC.out Bn HO.out (by simp;omega) (by decide) HB.out.size ?_;intro A' n' cap' w5 hn' ho hgr hor;have HOO:=lhi ho;have HG:=lhi hgr;have HNE:=lhi hn';clear ho hgr hor hn')
  go_ret
  have hl:n'=L.length:=by have:=HNE.out;simpa using this
  subst hl
  refine⟨⟨_,rfl,by have:=HOO.out;simpa using this⟩,?_⟩
  have hg:=HG.out
  have hs:=HB.out.size
  exact HB.out.trans ⟨hg.os,hg.tape,hg.output,hg.size,fun b hb=>hg.block b (by simp at hs;simp;omega) (fun e=>by
   have e:b=w.heap.size:=Amg e
   omega)⟩
theorem Ww{w:World}{v:Value}{L:List (Int×Int×Int)}{C:Nat->Nat->Value}(h:Ak w v L.length 3 C)(hC:CL encD L C 3)(hone: ∀x∈L,∀u∈encD x,u.oneCell'=true)(hn:L.length<=90000):
  Calls Tryz.prog 75 #[v] w fun e w'=>(∃v',e= .returned v'/\w'.ownsRow w.heap.size 144 3 v' L.length (L.flatMap encD))/\Below w.heap.size w w':=by
 have HR:=lhi h
 have HC:=lhi hC
 have HO:=lhi hone
 obtain⟨A,cap,rfl,hcap,-⟩:=h
 clear hC hone
 have he: ∀(W:World) (a:Option Addr) (n c:Nat),(binOp BinOp.eql 27 (.slice a n c) (.slice none 0 0)).run Tryz.prog W= .ok (.bool a.isNone) W:=fun W a n c=>Lib.run_eql_slice_nil W 27 144 a n c 0 0 Tryz.underlying27
 go_enter Tryz.func75,Tryz.ntmps75
 cases A with
 | none=>
  have h0:L=[]:=by
   rcases Nat.eq_zero_or_pos L.length with q | q
   ·exact List.length_eq_zero_iff.1 q
   ·obtain⟨A',cap',e,-,hx⟩:=HR.out
    injection e with e1 e2 e3
    subst e1
    obtain⟨g,off,hg,-⟩:=hx q
    cases hg
  subst h0
  go_wp2_with (fail)
  go_ret
  exact⟨⟨_,rfl,World.ownsRow_nil _ _ _ _⟩,Amf _ _⟩
 | some ad=>
  obtain⟨i0,hi0,hz⟩:=Option.map_eq_some_iff.1 Jb
  have hz0:i0.zero=some (.agg #[.int .i64 0,.int .i64 0,.int .i64 0]):=congrArg (fun p=>p.1) hz
  have hz1:i0.size=3:=congrArg (fun p=>p.2.1) hz
  have hz2:i0.bytes=24:=congrArg (fun p=>p.2.2) hz
  clear hz
  have HB:=lhi ((Amf w.heap.size w).alloc (Ama _) (.cells #[] 144))
  have HRA:=lhi (HR.out.keep HB.out)
  have HOW:=lhi (Iu w w.heap.size 144 3 (Ama _))
  go_wp2_with (at_builtin;refine Cm (k:=3) (enc:=encD) _ rfl (.tmp 5) (.tmp 6) 27 144 rfl i0 _ 24 Tryz.underlying27 hi0 hz0 hz1 hz2 rfl (by decide) w.heap.size (.slice (some ⟨w.heap.size,0,none⟩) 0 0) [] rfl HOW.out (.slice (some ad) L.length cap) rfl L HRA.out HC.out Ek HO.out (by simp;omega) (by decide) HB.out.size ?_;intro A' n' cap' w5 hn' ho hgr hor;have HOO:=lhi ho;have HG:=lhi hgr;have HNE:=lhi hn';clear ho hgr hor hn')
  go_ret
  have hl:n'=L.length:=by have:=HNE.out;simpa using this
  subst hl
  refine⟨⟨_,rfl,by have:=HOO.out;simpa using this⟩,?_⟩
  have hg:=HG.out
  have hs:=HB.out.size
  exact HB.out.trans ⟨hg.os,hg.tape,hg.output,hg.size,fun b hb=>hg.block b (by simp at hs;simp;omega) (fun e=>by
   have e:b=w.heap.size:=Amg e
   omega)⟩
theorem Wt{w:World}{v:Value}{L:List (Int)}{C:Nat->Nat->Value}(h:Ak w v L.length 1 C)(hC:CL encM L C 1)(hone: ∀x∈L,∀u∈encM x,u.oneCell'=true)(hn:L.length<=90000):
  Calls Tryz.prog 76 #[v] w fun e w'=>(∃v',e= .returned v'/\w'.ownsRow w.heap.size 3 1 v' L.length (L.flatMap encM))/\Below w.heap.size w w':=by
 have HR:=lhi h
 have HC:=lhi hC
 have HO:=lhi hone
 obtain⟨A,cap,rfl,hcap,-⟩:=h
 clear hC hone
 have he: ∀(W:World) (a:Option Addr) (n c:Nat),(binOp BinOp.eql 28 (.slice a n c) (.slice none 0 0)).run Tryz.prog W= .ok (.bool a.isNone) W:=fun W a n c=>Lib.run_eql_slice_nil W 28 3 a n c 0 0 Tryz.underlying28
 go_enter Tryz.func76,Tryz.ntmps76
 cases A with
 | none=>
  have h0:L=[]:=by
   rcases Nat.eq_zero_or_pos L.length with q | q
   ·exact List.length_eq_zero_iff.1 q
   ·obtain⟨A',cap',e,-,hx⟩:=HR.out
    injection e with e1 e2 e3
    subst e1
    obtain⟨g,off,hg,-⟩:=hx q
    cases hg
  subst h0
  go_wp2_with (fail)
  go_ret
  exact⟨⟨_,rfl,World.ownsRow_nil _ _ _ _⟩,Amf _ _⟩
 | some ad=>
  obtain⟨i0,hi0,hz⟩:=Option.map_eq_some_iff.1 Aes
  have hz0:i0.zero=some (.int .i64 0):=congrArg (fun p=>p.1) hz
  have hz1:i0.size=1:=congrArg (fun p=>p.2.1) hz
  have hz2:i0.bytes=8:=congrArg (fun p=>p.2.2) hz
  clear hz
  have HB:=lhi ((Amf w.heap.size w).alloc (Ama _) (.cells #[] 3))
  have HRA:=lhi (HR.out.keep HB.out)
  have HOW:=lhi (Iu w w.heap.size 3 1 (Ama _))
  go_wp2_with (at_builtin;refine Cm (k:=1) (enc:=encM) _ rfl (.tmp 5) (.tmp 6) 28 3 rfl i0 _ 8 Tryz.underlying28 hi0 hz0 hz1 hz2 rfl (by decide) w.heap.size (.slice (some ⟨w.heap.size,0,none⟩) 0 0) [] rfl HOW.out (.slice (some ad) L.length cap) rfl L HRA.out HC.out Jf HO.out (by simp;omega) (by decide) HB.out.size ?_;intro A' n' cap' w5 hn' ho hgr hor;have HOO:=lhi ho;have HG:=lhi hgr;have HNE:=lhi hn';clear ho hgr hor hn')
  go_ret
  have hl:n'=L.length:=by have:=HNE.out;simpa using this
  subst hl
  refine⟨⟨_,rfl,by have:=HOO.out;simpa using this⟩,?_⟩
  have hg:=HG.out
  have hs:=HB.out.size
  exact HB.out.trans ⟨hg.os,hg.tape,hg.output,hg.size,fun b hb=>hg.block b (by simp at hs;simp;omega) (fun e=>by
   have e:b=w.heap.size:=Amg e
   omega)⟩
theorem Zh{w:World}{base:Nat}{v:Value}{L:List (InV)}(hown:w.ownsRow base 93 4 v L.length (L.flatMap encI)){xv:Value}{x:InV}{C:Nat->Nat->Value}(hx:Ak w xv 1 4 C)(hC:CL encI [x] C 4)(hone: ∀u∈encI x,u.oneCell'=true)(hn:L.length<=90000)(hbase:base<=w.heap.size):
  Calls Tryz.prog 122 #[v,.int .i64 L.length,xv] w fun e w'=>∃v',e= .returned v'/\w'.ownsRow base 93 4 v' (L.length+1) ((L++[x]).flatMap encI)/\w.grownBy w' v.ownBlock/\ (v'.ownBlock=v.ownBlock∨v'.ownBlock=some w.heap.size):=by
 obtain⟨A,cap,rfl,hcap⟩:=Aj hown
 have HO:=lhi hown
 have HX:=lhi hx
 have HC:=lhi hC
 have HON:=lhi hone
 obtain⟨xA,xcap,rfl,hxc,-⟩:=hx
 obtain⟨i0,hi0,hz⟩:=Option.map_eq_some_iff.1 Ja
 have hz0:i0.zero=some (.agg #[.int .i64 0,.bool false,.slice none 0 0,.string ⟨#[]⟩]):=congrArg (fun p=>p.1) hz
 have hz1:i0.size=4:=congrArg (fun p=>p.2.1) hz
 have hz2:i0.bytes=56:=congrArg (fun p=>p.2.2) hz
 obtain⟨n,hnn⟩:=xx L.length
 have HN:=lhi hnn
 have hll:L.length+1<=100000:=by omega
 rw[hnn]at hcap
 rw[hnn]
 clear hz hown hC hone
 have hO:w.ownsRow base 93 4 (.slice A n cap) L.length (L.flatMap encI):=by
  have h:=HO.out
  rw[hnn]at h
  rw[hnn]
  exact h
 have HOO:=lhi hO
 clear hO hnn
 obtain⟨W,hW⟩:=xx ((L++[x]).flatMap encI)
 have HW:=lhi hW
 rw[hW]
 clear hW
 go_enter Tryz.func122,Tryz.ntmps122
 go_upto_region 7 with(fail)
 all_goals go_wp2_with (at_builtin;refine Cm (k:=4) (enc:=encI) _ rfl (.tmp 23) (.tmp 24) 26 93 rfl i0 _ 56 Tryz.underlying26 hi0 hz0 hz1 hz2 rfl (by decide) base (.slice A n cap) L rfl HOO.out (.slice xA 1 xcap) rfl [x] HX.out HC.out Db (fun y hy=>by rw[List.mem_singleton.1 hy];exact HON.out) hll (by decide) hbase ?_;intro A' n' cap' w5 hn' ho hgr hor;have HR:=lhi ho;have HG:=lhi hgr;have HRR:=lhi hor;have HNE:=lhi hn';clear ho hgr hor hn')
 all_goals
  go_ret
  have hl:n'=n+1:=by have:=HNE.out;rw[this,Ami,HN.out];rfl
  subst hl
  have eo: ∀c c':Nat,(Value.slice A n c).ownBlock=(Value.slice A n c').ownBlock:=fun c c'=>by cases A <;> rfl
  exact⟨_,rfl,by have:=HR.out;rw[<-HNE.out,HW.out]at this;exact this,by first | exact HG.out | (rw[eo _ cap];exact HG.out),by first | exact HRR.out | (rw[eo _ cap];exact HRR.out)⟩
theorem Zk{w:World}{base:Nat}{v:Value}{L:List (En)}(hown:w.ownsRow base 132 2 v L.length (L.flatMap Ai)){xv:Value}{x:En}{C:Nat->Nat->Value}(hx:Ak w xv 1 2 C)(hC:CL Ai [x] C 2)(hone: ∀u∈Ai x,u.oneCell'=true)(hn:L.length<=90000)(hbase:base<=w.heap.size):
  Calls Tryz.prog 172 #[v,.int .i64 L.length,xv] w fun e w'=>∃v',e= .returned v'/\w'.ownsRow base 132 2 v' (L.length+1) ((L++[x]).flatMap Ai)/\w.grownBy w' v.ownBlock/\ (v'.ownBlock=v.ownBlock∨v'.ownBlock=some w.heap.size):=by
 obtain⟨A,cap,rfl,hcap⟩:=Aj hown
 have HO:=lhi hown
 have HX:=lhi hx
 have HC:=lhi hC
 have HON:=lhi hone
 obtain⟨xA,xcap,rfl,hxc,-⟩:=hx
 obtain⟨i0,hi0,hz⟩:=Option.map_eq_some_iff.1 Lk
 have hz0:i0.zero=some (.agg #[.string ⟨#[]⟩,.int .i64 0]):=congrArg (fun p=>p.1) hz
 have hz1:i0.size=2:=congrArg (fun p=>p.2.1) hz
 have hz2:i0.bytes=24:=congrArg (fun p=>p.2.2) hz
 obtain⟨n,hnn⟩:=xx L.length
 have HN:=lhi hnn
 have hll:L.length+1<=100000:=by omega
 rw[hnn]at hcap
 rw[hnn]
 clear hz hown hC hone
 have hO:w.ownsRow base 132 2 (.slice A n cap) L.length (L.flatMap Ai):=by
  have h:=HO.out
  rw[hnn]at h
  rw[hnn]
  exact h
 have HOO:=lhi hO
 clear hO hnn
 obtain⟨W,hW⟩:=xx ((L++[x]).flatMap Ai)
 have HW:=lhi hW
 rw[hW]
 clear hW
 go_enter Tryz.func172,Tryz.ntmps172
 go_upto_region 7 with(fail)
 all_goals go_wp2_with (at_builtin;refine Cm (k:=2) (enc:=Ai) _ rfl (.tmp 23) (.tmp 24) 91 132 rfl i0 _ 24 Tryz.underlying91 hi0 hz0 hz1 hz2 rfl (by decide) base (.slice A n cap) L rfl HOO.out (.slice xA 1 xcap) rfl [x] HX.out HC.out Bn (fun y hy=>by rw[List.mem_singleton.1 hy];exact HON.out) hll (by decide) hbase ?_;intro A' n' cap' w5 hn' ho hgr hor;have HR:=lhi ho;have HG:=lhi hgr;have HRR:=lhi hor;have HNE:=lhi hn';clear ho hgr hor hn')
 all_goals
  go_ret
  have hl:n'=n+1:=by have:=HNE.out;rw[this,Ami,HN.out];rfl
  subst hl
  have eo: ∀c c':Nat,(Value.slice A n c).ownBlock=(Value.slice A n c').ownBlock:=fun c c'=>by cases A <;> rfl
  exact⟨_,rfl,by have:=HR.out;rw[<-HNE.out,HW.out]at this;exact this,by first | exact HG.out | (rw[eo _ cap];exact HG.out),by first | exact HRR.out | (rw[eo _ cap];exact HRR.out)⟩
theorem Zn{w:World}{base:Nat}{v:Value}{L:List (Int×Int×Int)}(hown:w.ownsRow base 144 3 v L.length (L.flatMap encD)){xv:Value}{x:Int×Int×Int}{C:Nat->Nat->Value}(hx:Ak w xv 1 3 C)(hC:CL encD [x] C 3)(hone: ∀u∈encD x,u.oneCell'=true)(hn:L.length<=90000)(hbase:base<=w.heap.size):
  Calls Tryz.prog 124 #[v,.int .i64 L.length,xv] w fun e w'=>∃v',e= .returned v'/\w'.ownsRow base 144 3 v' (L.length+1) ((L++[x]).flatMap encD)/\w.grownBy w' v.ownBlock/\ (v'.ownBlock=v.ownBlock∨v'.ownBlock=some w.heap.size):=by
 obtain⟨A,cap,rfl,hcap⟩:=Aj hown
 have HO:=lhi hown
 have HX:=lhi hx
 have HC:=lhi hC
 have HON:=lhi hone
 obtain⟨xA,xcap,rfl,hxc,-⟩:=hx
 obtain⟨i0,hi0,hz⟩:=Option.map_eq_some_iff.1 Jb
 have hz0:i0.zero=some (.agg #[.int .i64 0,.int .i64 0,.int .i64 0]):=congrArg (fun p=>p.1) hz
 have hz1:i0.size=3:=congrArg (fun p=>p.2.1) hz
 have hz2:i0.bytes=24:=congrArg (fun p=>p.2.2) hz
 obtain⟨n,hnn⟩:=xx L.length
 have HN:=lhi hnn
 have hll:L.length+1<=100000:=by omega
 rw[hnn]at hcap
 rw[hnn]
 clear hz hown hC hone
 have hO:w.ownsRow base 144 3 (.slice A n cap) L.length (L.flatMap encD):=by
  have h:=HO.out
  rw[hnn]at h
  rw[hnn]
  exact h
 have HOO:=lhi hO
 clear hO hnn
 obtain⟨W,hW⟩:=xx ((L++[x]).flatMap encD)
 have HW:=lhi hW
 rw[hW]
 clear hW
 go_enter Tryz.func124,Tryz.ntmps124
 go_upto_region 7 with(fail)
 all_goals go_wp2_with (at_builtin;refine Cm (k:=3) (enc:=encD) _ rfl (.tmp 23) (.tmp 24) 27 144 rfl i0 _ 24 Tryz.underlying27 hi0 hz0 hz1 hz2 rfl (by decide) base (.slice A n cap) L rfl HOO.out (.slice xA 1 xcap) rfl [x] HX.out HC.out Ek (fun y hy=>by rw[List.mem_singleton.1 hy];exact HON.out) hll (by decide) hbase ?_;intro A' n' cap' w5 hn' ho hgr hor;have HR:=lhi ho;have HG:=lhi hgr;have HRR:=lhi hor;have HNE:=lhi hn';clear ho hgr hor hn')
 all_goals
  go_ret
  have hl:n'=n+1:=by have:=HNE.out;rw[this,Ami,HN.out];rfl
  subst hl
  have eo: ∀c c':Nat,(Value.slice A n c).ownBlock=(Value.slice A n c').ownBlock:=fun c c'=>by cases A <;> rfl
  exact⟨_,rfl,by have:=HR.out;rw[<-HNE.out,HW.out]at this;exact this,by first | exact HG.out | (rw[eo _ cap];exact HG.out),by first | exact HRR.out | (rw[eo _ cap];exact HRR.out)⟩
theorem Qg{w:World}{base:Nat}{e:TypeId}{k n g cap:Nat}{xs:List Value}(h:w.ownsRow base e k (.slice (some ⟨g,0,none⟩) n cap) n xs){t:Nat}(ht:t<n*k)(u:Value):
  (w.setCell ⟨g,t,none⟩ u).ownsRow base e k (.slice (some ⟨g,0,none⟩) n cap) n (xs.set t u):=by
 refine⟨by rw[List.length_set];exact h.1,?_⟩
 rcases h.2 with⟨q,_⟩ | ⟨g',cap',cur,hv,hb,hh,h1,h2,h3,h4⟩
 ·cases q
 ·have e1:g=g':=by simpa[Value.ownBlock]using congrArg Value.ownBlock hv
  subst e1
  have e2:cap=cap':=by injection hv
  subst e2
  have hB:=(show Blk w g e cur from hh).set_ t u
  refine .inr ⟨g,cap,_,rfl,hb,hB,h1,h2,by simpa using h3,?_⟩
  rw[<-h4]
  simp only[Array.toList_setIfInBounds]
  rw[List.take_set]
theorem Jd{A:Type}{enc:A->List Value}{k:Nat}(hk:0<k)(hl: ∀x,(enc x).length=k)(x':A)(j:Nat)(u:Value): ∀(L:List A) (i:Nat) (hi:i<L.length),j<k->enc x'=(enc L[i]).set j u->(L.set i x').flatMap enc=(L.flatMap enc).set (i*k+j) u
 | x::L,0,_,hj,h=>by
  have h:enc x'=(enc x).set j u:=h
  rw[List.set_cons_zero,List.flatMap_cons,List.flatMap_cons,h,Nat.zero_mul,Nat.zero_add,List.set_append_left _ _ (by rw[hl];exact hj)]
 | x::L,i+1,hi,hj,h=>by
  have ih:=Jd hk hl x' j u L i (by simpa using hi) hj (by simpa using h)
  rw[List.set_cons_succ,List.flatMap_cons,List.flatMap_cons,ih,Nat.succ_mul]
  rw[List.set_append_right _ _ (by rw[hl];omega),hl]
  congr 2
  omega
structure StO (w:World) (base:Nat) (iv ov mv:Value) (Iv:List InV) (S:St):Prop where
 len:Iv.map (·.1)=S.inodes
 ino:w.ownsRow base 93 4 iv Iv.length (Iv.flatMap encI)
 ent: ∀i (hi:i<Iv.length),w.ownsRow base 132 2 Iv[i].2 Iv[i].1.ents.length (Iv[i].1.ents.flatMap Ai)
 apart: ∀i j (hi:i<Iv.length) (hj:j<Iv.length),i≠j-> ∀b,Iv[i].2.ownBlock=some b->Iv[j].2.ownBlock≠some b
 opn:w.ownsRow base 144 3 ov S.opens.length (S.opens.flatMap encD)
 mad:w.ownsRow base 3 1 mv S.made.length (S.made.flatMap encM)
theorem StO.stv{w:World}{base:Nat}{iv ov mv:Value}{Iv:List InV}{S:St}(h:StO w base iv ov mv Iv S):StV w base iv ov mv (fun i=>(Iv.getD i (Ds,.int .i64 0)).2) S:=
 StV.of_list h.len h.ino (fun p hp=>by
  obtain⟨i,hi,rfl⟩:=List.mem_iff_getElem.1 hp
  exact Cc (by decide) Bn (h.ent i hi) (Ee _)) (Cc (by decide) Ek h.opn (Ab8 S)) (Cc (by decide) Jf h.mad (Ab9 S))
theorem StO.far{w:World}{base:Nat}{iv ov mv:Value}{Iv:List InV}{S:St}(h:StO w base iv ov mv Iv S){g:Nat}{u:TypeId}{cs:Array Value}(hg:Blk w g u cs)(h1:93≠u)(h2:132≠u)(h3:144≠u)(h4:3≠u)(i:Nat)(x:Value):StO (w.setCell ⟨g,i,none⟩ x) base iv ov mv Iv S:=by
 have hk: ∀{e:TypeId} {k n:Nat} {v:Value} {xs:List Value},w.ownsRow base e k v n xs->e≠u->(w.setCell ⟨g,i,none⟩ x).ownsRow base e k v n xs:=fun ho he=>ownsRow_setCell_other ho (a:=⟨g,i,none⟩) (fun q=>by
  obtain⟨-,cs',hq⟩:=Ag ho q
  exact Blk.ne_ hq hg he rfl) x
 exact⟨h.len,hk h.ino h1,fun j hj=>hk (h.ent j hj) h2,h.apart,hk h.opn h3,hk h.mad h4⟩
theorem StO.below{w w':World}{base:Nat}{iv ov mv:Value}{Iv:List InV}{S:St}(h:StO w base iv ov mv Iv S)(hb:Below w.heap.size w w'):StO w' base iv ov mv Iv S:=
 ⟨h.len,Bc h.ino hb,fun j hj=>Bc (h.ent j hj) hb,h.apart,Bc h.opn hb,Bc h.mad hb⟩
structure CloF (w:World) (xb:Nat) (iv ov mv:Value) (S:St) (k:Nat) (Iv:List InV) (W:World):Prop where
 b:Below w.heap.size w W
 x:Blk W xb 30 #[iv,ov,mv]
 o:Blk W (xb+1) 30 #[.slice none 0 0,.slice none 0 0,.slice none 0 0]
 len:Iv.map (·.1)=S.inodes
 ino:W.ownsRow w.heap.size 93 4 iv Iv.length (Iv.flatMap encI)
 src: ∀i (hi:i<Iv.length),k<=i->RowT W 0 132 2 Iv[i].2 Iv[i].1.ents.length (entL Iv[i].1.ents)
 own: ∀i (hi:i<Iv.length),i<k->W.ownsRow w.heap.size 132 2 Iv[i].2 Iv[i].1.ents.length (Iv[i].1.ents.flatMap Ai)
 apart: ∀i j (hi:i<Iv.length) (hj:j<Iv.length),i<k->j<k->i≠j-> ∀b,Iv[i].2.ownBlock=some b->Iv[j].2.ownBlock≠some b
def zipI(S:St)(ev:Nat->Value):List InV:=(List.range S.inodes.length).map fun j=>(S.ino j,ev j)
theorem Mw(S:St)(ev:Nat->Value):(zipI S ev).length=S.inodes.length:=by simp[zipI]
theorem Qn{S:St}{ev:Nat->Value}{i:Nat}(hi:i< (zipI S ev).length):(zipI S ev)[i]=(S.ino i,ev i):=by simp[zipI]
theorem Xf(S:St)(ev:Nat->Value):(zipI S ev).map (·.1)=S.inodes:=by
 apply List.ext_getElem
 ·simp[zipI]
 ·intro i h1 h2
  rw[List.getElem_map,Qn]
  show S.inodes.getD i Ds=_
  rw[Ame,Amh h2];rfl
theorem Afl{w:World}{iv ov mv:Value}{ev:Nat->Value}{S:St}(hS:StV w 0 iv ov mv ev S):RowT w 0 93 4 iv (zipI S ev).length (inoC S fun i=>((zipI S ev).getD i (Ds,.int .i64 0)).2):=by
 have h:RowT w 0 93 4 iv S.inodes.length (inoC S fun i=>((zipI S ev).getD i (Ds,.int .i64 0)).2):=hS.ino.congr fun i j hi hj=>by
  have e:((zipI S ev).getD i (Ds,.int .i64 0)).2=ev i:=by
   rw[Ame,Amh (by rw[Mw];exact hi)]
   show((zipI S ev)[i]'_).2=_
   rw[Qn]
  rcases(by omega:j=0∨j=1∨j=2∨j=3)with rfl | rfl | rfl | rfl
  ·rfl
  ·rfl
  ·exact e.symm
  ·rfl
 rw[Mw]
 exact h
theorem Afm{w:World}{iv ov mv:Value}{ev:Nat->Value}{S:St}(hS:StV w 0 iv ov mv ev S): ∀x∈zipI S ev,∀u∈encI x,u.oneCell'=true:=by
 intro x hx u hu
 obtain⟨j,hj,rfl⟩:=List.mem_map.1 hx
 obtain⟨A,cap,he,-⟩:=hS.ent j (List.mem_range.1 hj)
 simp only[encI,List.mem_cons,List.not_mem_nil,or_false]at hu
 rcases hu with rfl | rfl | rfl | rfl
 ·rfl
 ·rfl
 ·show(ev j).oneCell'=true
  rw[he];rfl
 ·rfl
theorem Jv{w:World}{iv ov mv:Value}{ev:Nat->Value}{S:St}(hS:StV w 0 iv ov mv ev S)(hs:S.small):
  Calls Tryz.prog 31 #[.agg #[iv,ov,mv]] w fun e w'=>∃iv' ov' mv' Iv,e= .returned (.agg #[iv',ov',mv'])/\StO w' w.heap.size iv' ov' mv' Iv S/\Below w.heap.size w w':=by
 have HS:=lhi hS
 have HSm:=lhi hs
 obtain⟨A,cap,rfl,-⟩:=hS.ino
 obtain⟨oA,ocap,rfl,-⟩:=hS.opn
 obtain⟨mA,mcap,rfl,-⟩:=hS.mad
 have hni:=hs.ni
 have HZL:=lhi (Mw S ev)
 have HZO:=lhi (Afm hS)
 obtain⟨w2,hw2⟩: ∃x,x=(w.alloc (.cells #[.slice A S.inodes.length cap,.slice oA S.opens.length ocap,.slice mA S.made.length mcap] 30)).alloc (.cells #[.slice none 0 0,.slice none 0 0,.slice none 0 0] 30):=⟨_,rfl⟩
 have HB2:=lhi (show Below w.heap.size w w2 by rw[hw2];exact((Amf _ _).alloc (Ama _) _).alloc (by simp) _)
 have HX2:=lhi (show Blk w2 w.heap.size 30 _ by rw[hw2];exact(Blk.new w 30 #[.slice A S.inodes.length cap,.slice oA S.opens.length ocap,.slice mA S.made.length mcap]).alloc _)
 have HO2:=lhi (show Blk w2 (w.heap.size+1) 30 #[.slice none 0 0,.slice none 0 0,.slice none 0 0]by rw[hw2];exact Blk.newAt _ _ _ (by simp))
 have HZR:=lhi ((Afl hS).below HB2.out)
 have HCI:=lhi (Wu (w:=w2) HZR.out.at' (Ah7 S (zipI S ev) (Xf S ev)) HZO.out (by rw[Mw];omega))
 clear hS hs
 go_enter Tryz.func31,Tryz.ntmps31
 go_upto_region 1 with(fail)
 rw[<-hw2]
 obtain⟨xb,hxb⟩: ∃x,x=w.heap.size:=⟨_,rfl⟩
 rw[<-hxb]at HX2 HO2⊢
 have HXE:=lhi hxb
 clear hxb hw2
 have x0:w2.cell? ⟨xb,0,none⟩=some (.slice A S.inodes.length cap):=HX2.out.cell 0
 go_upto_region 2 with(go_at_call 73;refine HCI.out.mono ?_;rintro e w3 ⟨⟨v3,rfl,hown⟩,hb3⟩;obtain⟨A3,cap3,rfl,hcap3⟩:=Aj hown;have HOW:=lhi hown;have HB3:=lhi hb3;have HX3:=lhi (Blk.of_heap (hb3.block _ HX2.out.lt) HX2.out);clear hown hb3 HCI;have y0:w3.cell? ⟨xb,0,none⟩=some (.slice A S.inodes.length cap):=HX3.out.cell 0;have f0:w3.frozen? ⟨xb,0,none⟩=false:=HX3.out.frozen _)
 have HIN:=lhi (Dr HOW.out HB2.out.size)
 have HF0:=lhi (show CloF w xb (.slice A3 S.inodes.length cap3) (.slice oA S.opens.length ocap) (.slice mA S.made.length mcap) S 0 (zipI S ev) (w3.setCell ⟨xb,0,none⟩ (.slice A3 S.inodes.length cap3))from by
  have hb3:=HB2.out.trans (HB3.out.mono HB2.out.size)
  refine⟨hb3.setCell (p:=⟨xb,0,none⟩) (by rw[HXE.out];exact Ama _) _,HX3.out.set_ 0 _,?_,Xf S ev,?_,fun i hi _=>?_,fun i hi q=>absurd q (by omega),fun i j hi hj q=>absurd q (by omega)⟩
  ·exact(Blk.of_heap (HB3.out.block _ HO2.out.lt) HO2.out).far (p:=⟨xb,0,none⟩) (by simp) _
  ·have h:=ownsRow_setCell_other HIN.out (a:=⟨xb,0,none⟩) (fun e=>by
    obtain⟨-,cs',hq⟩:=Ag HIN.out e
    exact Blk.ne_ HX3.out hq (by decide) rfl) (.slice A3 S.inodes.length cap3)
   have e:Value.slice A3 (zipI S ev).length cap3= .slice A3 S.inodes.length cap3:=by rw[HZL.out]
   rw[e]at h
   exact h
  ·have hi':i<S.inodes.length:=by rw[<-HZL.out];exact hi
   have e:entC S i=entL (S.ino i).ents:=by
    funext q j
    unfold entC entL St.enm St.enu
    cases j <;> rfl
   have h:=HS.out.ent i hi'
   rw[e]at h
   rw[Qn]
   exact(h.below hb3).far HX3.out (by decide) 0 _)
 rw[HZL.out]
 generalize w3.setCell ⟨xb,0,none⟩ (.slice A3 S.inodes.length cap3)=w4 at*
 have HSO:=lhi HS.out
 clear x0 HIN HOW HX2 HO2 HX3 HZR
 have x0:w4.cell? ⟨xb,0,none⟩=some (.slice A3 S.inodes.length cap3):=HF0.out.x.cell 0
 obtain⟨n,hn⟩:=xx S.inodes.length
 have HN:=lhi hn
 rw[hn]at x0 HF0 hni⊢
 clear hn
 go_wp2_with (fail)
 clear x0
 go_loopw [11] (fun i wr=>∃(k:Nat) (Iv:List InV),i= .int .i64 k/\k<=n/\CloF w xb (.slice A3 n cap3) (.slice oA S.opens.length ocap) (.slice mA S.made.length mcap) S k Iv wr) (fun i _=>n - (intOf i).toNat)
 case atStart=>exact⟨0,_,rfl,by omega,HF0.out⟩
 case round=>
  obtain⟨k,Iv,rfl,hk,hf⟩:=hrel
  have hIl:Iv.length=n:=by rw[<-HN.out,<-hf.len,List.length_map]
  have HF:=lhi hf
  clear hf HF0
  by_cases hp:k<n
  ·
   have hp1:(k:Int)<n:=by omega
   have hkI:k<Iv.length:=by omega
   have hrow:=HF.out.ino
   obtain⟨g,hA3,cs,hblk,hbase⟩: ∃g,A3=some ⟨g,0,none⟩/\ ∃cs,Blk wr g 93 cs/\w.heap.size<=g:=by
    rcases hrow.2 with⟨hv,h0⟩ | ⟨g,cp,cur,hv,hb,hh,-⟩
    ·omega
    ·injection hv with hv1
     exact⟨g,hv1,cur,hh,hb⟩
   subst hA3
   obtain⟨p,hpI⟩:=xx (Iv[k])
   have hsrc:=HF.out.src k hkI (Ama _)
   rw[hpI]at hsrc
   obtain⟨eA,ecap,hev,hecap,-⟩:=hsrc
   have hcell:wr.cell? ⟨g,k*4+2,none⟩=some p.2:=by
    have h:=hrow.cells (g:=g) rfl (k*4+2) p.2 (by
     rw[Hr (by decide) Db,show(k*4+2) / 4=k by omega,show(k*4+2) % 4=2 by omega,Amh hkI,hpI]
     rfl)
    rw[Addr.add_lit,Nat.zero_add]at h
    exact h
   have c2:wr.cell? ⟨g,k*4+2,none⟩=some (.slice eA p.1.ents.length ecap):=by rw[hcell,hev]
   have x0:wr.cell? ⟨xb,0,none⟩=some (.slice (some ⟨g,0,none⟩) n cap3):=HF.out.x.cell 0
   have HXD:=lhi (show Blk wr.drew xb 30 _ from HF.out.x)
   have HGD:=lhi (show Blk wr.drew g 93 cs from hblk)
   have hen:p.1.ents.length<=1000:=by
    have h:=HSm.out.en k
    have e:S.ino k=p.1:=by
     show S.inodes.getD k Ds=_
     rw[<-HF.out.len,Ame,List.getElem?_map,Amh hkI,hpI];rfl
    show p.1.ents.length<=_
    rw[<-e];exact h
   have HCE:=lhi (Wv (w:=wr.drew) (v:=.slice eA p.1.ents.length ecap) (L:=p.1.ents) (C:=entL p.1.ents) (by
    have h:=(HF.out.src k hkI (Ama _)).at'
    rw[hpI,hev]at h
    exact h) (Ee _) (fun x _=>Lm x) (by omega))
   have HBS:=lhi hbase
   have HPI:=lhi hpI
   clear hev hblk hbase hcell hrow hpI
   go_upto_region 5 with(fail)
   refine Af (L:=12) (S:=fun w'=>w'.cell? ⟨xb,0,none⟩=some (.slice (some ⟨g,0,none⟩) n cap3)/\w'.cell? ⟨g,k*4+2,none⟩=some (.slice eA p.1.ents.length ecap)) (by kernel_rfl) (⟨x0,c2⟩) (fun hHeld=>?_)
   refine tF 0 ?_
   refine tF 1 ?_
   refine tF 2 ?_
   refine tF 3 ?_
   refine tF 4 ?_
   refine tF 5 ?_
   refine tF 6 ?_
   refine tF 7 ?_
   refine tF 8 ?_
   refine Ap (i:=9) (by kernel_rfl) rfl (fun K hK=>?_)
   go_simp
   refine HCE.out.mono ?_
   rintro e w5 ⟨⟨v5,rfl,hown5⟩,hb5⟩
   have HB5:=lhi hb5
   have HO5:=lhi hown5
   obtain⟨vA,vcap,rfl,-⟩:=Aj hown5
   clear hb5 hown5
   show K _ _
   refine hK.out _ _ (fun _=>⟨(Blk.of_heap (HB5.out.block _ HXD.out.lt) HXD.out).cell 0,(HB5.out.cell (p:=⟨g,k*4+2,none⟩) HGD.out.lt).trans c2⟩) (fun hHeld=>?_)
   replace hHeld:=hHeld (by decide)
   clear hK K
   refine tF 10 ?_
   refine tF 11 ?_
   have z2:=hHeld.2
   have f2:w5.frozen? ⟨g,k*4+2,none⟩=false:=(Blk.of_heap (HB5.out.block _ HGD.out.lt) HGD.out).frozen _
   refine Ap (i:=12) (by kernel_rfl) rfl (fun K hK=>?_)
   go_simp
   show K _ _
   refine hK.out _ _ (fun h=>absurd rfl h) (fun _=>?_)
   clear hK K
   refine Cn (by kernel_rfl) ?_ _
   have hbw:Below wr.heap.size wr w5:=(Ae wr).trans (show Below wr.heap.size wr.drew w5 from HB5.out)
   have hsz:=HF.out.b.size
   have HFN:=lhi (show CloF w xb (.slice (some ⟨g,0,none⟩) n cap3) (.slice oA S.opens.length ocap) (.slice mA S.made.length mcap) S (k+1) (Iv.set k (p.1,.slice vA p.1.ents.length vcap)) (w5.setCell ⟨g,k*4+2,none⟩ (.slice vA p.1.ents.length vcap))from by
    have hG5:Blk w5 g 93 cs:=Blk.of_heap (HB5.out.block _ HGD.out.lt) HGD.out
    have hX5:Blk w5 xb 30 _:=Blk.of_heap (hbw.block _ HF.out.x.lt) HF.out.x
    have hO5:Blk w5 (xb+1) 30 _:=Blk.of_heap (hbw.block _ HF.out.o.lt) HF.out.o
    have hpI:=HPI.out
    have hfar: ∀{q:Value} {m:Nat} {ys:List Value},w5.ownsRow w.heap.size 132 2 q m ys->(w5.setCell ⟨g,k*4+2,none⟩ (.slice vA p.1.ents.length vcap)).ownsRow w.heap.size 132 2 q m ys:=fun ho=>ownsRow_setCell_other ho (a:=⟨g,k*4+2,none⟩) (fun q=>by
     obtain⟨-,cs',hq⟩:=Ag ho q
     exact Blk.ne_ hq hG5 (by decide) rfl) _
    have hnew:w5.ownsRow w.heap.size 132 2 (.slice vA p.1.ents.length vcap) p.1.ents.length (p.1.ents.flatMap Ai):=Dr HO5.out (show w.heap.size<=wr.drew.heap.size from hsz)
    have hgt: ∀{i:Nat} (hi:i< (Iv.set k (p.1,Value.slice vA p.1.ents.length vcap)).length),(Iv.set k (p.1,Value.slice vA p.1.ents.length vcap))[i]=if k=i then(p.1,Value.slice vA p.1.ents.length vcap)else Iv[i]'(by simpa using hi):=fun hi=>List.getElem_set ..
    refine⟨(HF.out.b.trans (hbw.mono hsz)).setCell (p:=⟨g,_,none⟩) HBS.out _,hX5.far (p:=⟨g,_,none⟩) (Blk.ne_ hX5 hG5 (by decide)) _,hO5.far (p:=⟨g,_,none⟩) (Blk.ne_ hO5 hG5 (by decide)) _,?_,?_,fun i hi hki=>?_,fun i hi hik=>?_,fun i j hi hj hik hjk hij=>?_⟩
    ·rw[<-HF.out.len,List.map_set]
     apply List.ext_getElem
     ·simp
     ·intro i h1 h2
      rw[List.getElem_set]
      by_cases e:k=i
      ·subst e
       rw[if_pos rfl,List.getElem_map,hpI]
      ·rw[if_neg e]
    ·have hino:=Bc HF.out.ino hbw
     rw[hIl]at hino
     have h:=Qg (n:=n) (k:=4) hino (t:=k*4+2) (by omega) (.slice vA p.1.ents.length vcap)
     rw[List.length_set]
     rw[hIl]
     have hs:=Jd (enc:=encI) (k:=4) (by decide) Db (p.1,Value.slice vA p.1.ents.length vcap) 2 (.slice vA p.1.ents.length vcap) Iv k hkI (by decide) (by rw[hpI];rfl)
     rw[hs]
     exact h
    ·have hki':k≠i:=by omega
     rw[hgt hi,if_neg hki']
     exact((HF.out.src i (by simpa using hi) (by omega)).below hbw).far hG5 (by decide) _ _
    ·rw[hgt hi]
     by_cases e:k=i
     ·rw[if_pos e]
      exact hfar hnew
     ·rw[if_neg e]
      exact hfar (Bc (HF.out.own i (by simpa using hi) (by omega)) hbw)
    ·rw[hgt hi,hgt hj]
     intro b
     have hnl: ∀q,(Value.slice vA p.1.ents.length vcap).ownBlock=some q->wr.heap.size<=q:=fun q hq=>(HO5.out.lt q hq).1
     have hol: ∀i (hi:i<Iv.length),i<k-> ∀q,Iv[i].2.ownBlock=some q->q<wr.heap.size:=fun i hi hik q hq=>((HF.out.own i hi hik).lt q hq).2
     by_cases e1:k=i
     ·rw[if_pos e1]
      by_cases e2:k=j
      ·omega
      ·rw[if_neg e2]
       intro h1 h2
       have:=hnl b h1
       have:=hol j (by simpa using hj) (by omega) b h2
       omega
     ·rw[if_neg e1]
      by_cases e2:k=j
      ·rw[if_pos e2]
       intro h1 h2
       have:=hnl b h2
       have:=hol i (by simpa using hi) (by omega) b h1
       omega
      ·rw[if_neg e2]
       exact HF.out.apart i j (by simpa using hi) (by simpa using hj) (by omega) (by omega) hij b)
   clear x0 c2 z2 f2 hHeld hbw hsz
   go_wp2_with (fail)
   go_roundw
   case rel=>exact⟨k+1,_,by go_num,by omega,HFN.out⟩
   case measure=>
    simp only[intOf]
    omega
  ·have e:k=n:=by omega
   subst e
   have hx:=HF.out.x
   have x0:wr.cell? ⟨xb,0,none⟩=some (.slice A3 k cap3):=hx.cell 0
   have x1:wr.cell? ⟨xb,1,none⟩=some (.slice oA S.opens.length ocap):=hx.cell 1
   have x2:wr.cell? ⟨xb,2,none⟩=some (.slice mA S.made.length mcap):=hx.cell 2
   have HCD:=lhi (fun(W:World) (h:Below wr.heap.size wr.drew W)=>Ww (w:=W) (L:=S.opens) ((HSO.out.opn.below HF.out.b).below ((Ae wr).trans h)).at' (Ab8 S) (fun x _=>Zz x) (by have:=HSm.out.no;omega))
   have HCM:=lhi (fun(W:World) (h:Below wr.heap.size wr.drew W)=>Wt (w:=W) (L:=S.made) ((HSO.out.mad.below HF.out.b).below ((Ae wr).trans h)).at' (Ab9 S) (fun x _=>Zy x) (by have:=HSm.out.nm;omega))
   clear hx
   go_upto_region 7 with(fail)
   have HXD:=lhi (show Blk wr.drew xb 30 _ from HF.out.x)
   have x1:wr.drew.cell? ⟨xb,1,none⟩=some (.slice oA S.opens.length ocap):=HXD.out.cell 1
   have x2:wr.drew.cell? ⟨xb,2,none⟩=some (.slice mA S.made.length mcap):=HXD.out.cell 2
   go_region_with ((first
     | (go_at_call 75;refine(HCD.out _ (Amf _ _)).mono ?_;rintro e w5 ⟨⟨v5,rfl,hown5⟩,hb5⟩;have HB5:=lhi hb5;have HO5:=lhi hown5;obtain⟨dA,dcap,rfl,-⟩:=Aj hown5;have q2:w5.cell? ⟨xb,2,none⟩=some (.slice mA S.made.length mcap):=(Blk.of_heap (hb5.block _ HXD.out.lt) HXD.out).cell 2;clear hb5 hown5)
     | (go_at_call 76;refine(HCM.out _ HB5.out).mono ?_;rintro e w6 ⟨⟨v6,rfl,hown6⟩,hb6⟩;have HB6:=lhi hb6;have HO6:=lhi hown6;have HX6:=lhi (Blk.of_heap (hb6.block _ (Amk HF.out.x.lt HB5.out.size)) (Blk.of_heap (HB5.out.block _ HF.out.x.lt) (show Blk wr.drew xb _ _ from HF.out.x)));obtain⟨nA,ncap,rfl,-⟩:=Aj hown6;have z1:w6.cell? ⟨xb,1,none⟩=some (.slice oA S.opens.length ocap):=HX6.out.cell 1;have z2:w6.cell? ⟨xb,2,none⟩=some (.slice mA S.made.length mcap):=HX6.out.cell 2;have f1:w6.frozen? ⟨xb,1,none⟩=false:=HX6.out.frozen _;have f2:w6.frozen? ⟨xb,2,none⟩=false:=HX6.out.frozen _;clear hb6 hown6)))
   all_goals
    have hbw:Below wr.heap.size wr w6:=(Ae wr).trans (show Below wr.heap.size wr.drew w6 from HB5.out.trans (HB6.out.mono HB5.out.size))
    have hsz:=HF.out.b.size
    have B1:=HX6.out.set_ 1 (.slice dA S.opens.length dcap)
    have B2:=B1.set_ 2 (.slice nA S.made.length ncap)
    have hO6:Blk w6 (xb+1) 30 _:=Blk.of_heap (hbw.block _ HF.out.o.lt) HF.out.o
    have hO8:=(hO6.far (p:=⟨xb,1,none⟩) (by simp) (.slice dA S.opens.length dcap)).far (p:=⟨xb,2,none⟩) (by simp) (.slice nA S.made.length ncap)
    generalize hw8:(w6.setCell ⟨xb,1,none⟩ (.slice dA S.opens.length dcap)).setCell ⟨xb,2,none⟩ (.slice nA S.made.length ncap)=w8 at*
    have HW8:=lhi hw8
    have s0:w8.cell? ⟨xb,0,none⟩=some (.slice A3 k cap3):=B2.cell 0
    have s1:w8.cell? ⟨xb,1,none⟩=some (.slice dA S.opens.length dcap):=B2.cell 1
    have s2:w8.cell? ⟨xb,2,none⟩=some (.slice nA S.made.length ncap):=B2.cell 2
    have o0:w8.cell? ⟨xb+1,0,none⟩=some (.slice none 0 0):=hO8.cell 0
    have o1:w8.cell? ⟨xb+1,1,none⟩=some (.slice none 0 0):=hO8.cell 1
    have o2:w8.cell? ⟨xb+1,2,none⟩=some (.slice none 0 0):=hO8.cell 2
    have g0:w8.frozen? ⟨xb+1,0,none⟩=false:=hO8.frozen 0
    have g1:w8.frozen? ⟨xb+1,1,none⟩=false:=hO8.frozen 1
    have g2:w8.frozen? ⟨xb+1,2,none⟩=false:=hO8.frozen 2
    clear hw8
    go_wp2_with (fail)
    have hIk:Iv.length=k:=hIl
    have hst8:StO w8 w.heap.size (.slice A3 k cap3) (.slice dA S.opens.length dcap) (.slice nA S.made.length ncap) Iv S:=by
     rw[<-HW8.out]
     have hd:w6.ownsRow w.heap.size 144 3 (.slice dA S.opens.length dcap) S.opens.length (S.opens.flatMap encD):=Bc (Dr HO5.out (show w.heap.size<=wr.drew.heap.size from hsz)) HB6.out
     have hm:w6.ownsRow w.heap.size 3 1 (.slice nA S.made.length ncap) S.made.length (S.made.flatMap encM):=Dr HO6.out (Aml hsz HB5.out.size)
     have hst:StO w6 w.heap.size (.slice A3 k cap3) (.slice dA S.opens.length dcap) (.slice nA S.made.length ncap) Iv S:=⟨HF.out.len,Bc HF.out.ino hbw,fun i hi=>Bc (HF.out.own i hi (by omega)) hbw,fun i j hi hj hij=>HF.out.apart i j hi hj (by omega) (by omega) hij,hd,hm⟩
     exact(hst.far HX6.out (by decide) (by decide) (by decide) (by decide) 1 _).far B1 (by decide) (by decide) (by decide) (by decide) 2 _
    have C1:=hO8.set_ 0 (.slice A3 k cap3)
    have C2:=C1.set_ 1 (.slice dA S.opens.length dcap)
    have hst9:=((hst8.far hO8 (by decide) (by decide) (by decide) (by decide) 0 (.slice A3 k cap3)).far C1 (by decide) (by decide) (by decide) (by decide) 1 (.slice dA S.opens.length dcap)).far C2 (by decide) (by decide) (by decide) (by decide) 2 (.slice nA S.made.length ncap)
    have hxl:w.heap.size<=xb:=by rw[HXE.out];exact Ama _
    have hb8:Below w.heap.size w w8:=by
     rw[<-HW8.out]
     exact((HF.out.b.trans (hbw.mono hsz)).setCell (p:=⟨xb,1,none⟩) hxl _).setCell (p:=⟨xb,2,none⟩) hxl _
    have hb9:=((hb8.setCell (p:=⟨xb+1,0,none⟩) (Aml hxl (Nat.le_succ _)) (.slice A3 k cap3)).setCell (p:=⟨xb+1,1,none⟩) (Aml hxl (Nat.le_succ _)) (.slice dA S.opens.length dcap)).setCell (p:=⟨xb+1,2,none⟩) (Aml hxl (Nat.le_succ _)) (.slice nA S.made.length ncap)
    refine bodyPost_ret (v:=.agg #[.slice A3 k cap3,.slice dA S.opens.length dcap,.slice nA S.made.length ncap]) ?_ rfl ⟨_,_,_,Iv,rfl,hst9,hb9⟩
    simp[results,Tryz.results31,go_sem,o0,o1,o2]
def Ac(l:List Value)(o:Nat)(cs:List Value):List Value:=l.take o++cs++l.drop (o+cs.length)
theorem Cd{l:List Value}{o:Nat}{cs:List Value}(h:o+cs.length<=l.length):(Ac l o cs).length=l.length:=by
 unfold Ac
 rw[Ami,Ami,List.length_take,List.length_drop]
 omega
theorem Pe{l:List Value}{o:Nat}{cs:List Value}{t:Nat}(ht:t<=o)(h:o<=l.length):(Ac l o cs).take t=l.take t:=by
 unfold Ac
 rw[List.append_assoc,List.take_append_of_le_length (by rw[List.length_take];omega),List.take_take,Nat.min_eq_left ht]
theorem Xs{l:List Value}{o:Nat}{cs:List Value}(h:o<=l.length):(Ac l o cs).drop o=cs++l.drop (o+cs.length):=by
 unfold Ac
 rw[List.append_assoc,List.drop_append_of_le_length (by rw[List.length_take];omega),List.drop_eq_nil_of_le (by rw[List.length_take];omega),List.nil_append]
theorem Kj{l P X D:List Value}{o n:Nat}(hP:l.take o=P)(ho:P.length=o)(hn:o+X.length+D.length<=l.length)(hnn:n=o+X.length+D.length):(Ac (Ac l (o+X.length) D) o X).take n=P++X++D:=by
 have h0:o<=l.length:=by omega
 have e1:(Ac l (o+X.length) D).take o=P:=by rw[Pe (by omega) (by omega),hP]
 have e2:(Ac l (o+X.length) D).drop (o+X.length)=D++l.drop (o+X.length+D.length):=Xs (by omega)
 show((Ac l (o+X.length) D).take o++X++(Ac l (o+X.length) D).drop (o+X.length)).take n=_
 rw[e1,e2,<-List.append_assoc,List.take_append_of_le_length (by rw[Ami,Ami];omega),List.take_of_length_le (by rw[Ami,Ami];omega)]
theorem Kk{l P X D:List Value}{o n:Nat}(hP:l.take o=P)(ho:P.length=o)(hn:o+X.length+D.length<=l.length)(hnn:n=o+X.length+D.length):(Ac (Ac l o X) (o+X.length) D).take n=P++X++D:=by
 have e1:(Ac l o X).take (o+X.length)=P++X:=by
  unfold Ac
  rw[List.take_append_of_le_length (by rw[Ami,List.length_take];omega),List.take_of_length_le (by rw[Ami,List.length_take];omega),hP]
 show((Ac l o X).take (o+X.length)++D++(Ac l o X).drop (o+X.length+D.length)).take n=_
 rw[e1,List.take_append_of_le_length (by rw[Ami,Ami];omega),List.take_of_length_le (by rw[Ami,Ami];omega)]
section
variable{P:Program}
theorem Df(w:World)(dT sT ty elem:TypeId)(g o dLen dCap:Nat)(a:Addr)(sLen sCap k:Nat)(cur:Array Value)(t:TypeId)(cs:List Value)
  (hu:P.underlying dT=some (.slice elem)) (hs:(P.info? elem).map (·.size)=some k)
  (hg:Blk w g t cur) (hn:cs.length=Nat.min sLen dLen*k)
  (hsrc: ∀j v,cs[j]? =some v->w.cell? (a.add j)=some v) (hfit:o+cs.length<=cur.size) (h1: ∀v∈cs,v.oneCell'=true):
  (Builtin.copy_ #[dT,sT] ty #[.slice (some ⟨g,o,none⟩) dLen dCap,.slice (some a) sLen sCap]).run P w=
   .ok (goInt (Nat.min sLen dLen)) (w.setRow g (Ac cur.toList o cs).toArray):=by
 have hl:=run_loadCells_list (P:=P) w a cs hsrc
 have hst:=run_storeCells_at P g o t cs 0 cur w hg (by simpa using hfit) h1
 cases hq:P.info? elem with
 | none=>simp[hq]at hs
 | some i=>
  have hi:i.size=k:=by simpa[hq]using hs
  simp[Builtin.copy_,run_underlying hu,Builtin.lenOf,Builtin.firstCells,sizeOf,typeInfo,hq,hi,<-hn,hl,hst,Ac]
end
section
variable{w:World}{g:Nat}{t:TypeId}{cur:Array Value}
theorem Blk.setRow(h:Blk w g t cur)(cs:Array Value):Blk (w.setRow g cs) g t cs:=setRow_heap w g cur cs t (0,0) h
theorem Ea(w:World)(g:Nat)(cs:Array Value):w.grownBy (w.setRow g cs) (some g):=
 ⟨rfl,rfl,rfl,by simp,fun k _ hk=>setRow_other w g k cs (fun e=>hk (by rw[e]))⟩
theorem Hz(w:World)(r:Option Nat):w.grownBy w.drew r:=⟨rfl,rfl,rfl,Ama _,fun _ _ _=>rfl⟩
theorem Di{w w' w'':World}{r:Option Nat}(h:w.grownBy w' r)(k:w'.grownBy w'' r):w.grownBy w'' r:=
 ⟨k.os.trans h.os,k.tape.trans h.tape,k.output.trans h.output,Aml h.size k.size,fun b hb hn=>(k.block b (Amk hb h.size) hn).trans (h.block b hb hn)⟩
end
section
variable{A:Type}{enc:A->List Value}{k:Nat}
theorem Jc(hl: ∀x,(enc x).length=k): ∀(L:List A) (i:Nat),(L.flatMap enc).take (i*k)=(L.take i).flatMap enc
 | [],i=>by simp
 | x::L,0=>by simp
 | x::L,i+1=>by
  rw[List.flatMap_cons,List.take_succ_cons,List.flatMap_cons,Nat.succ_mul,List.take_append,hl,Nat.add_sub_cancel,Jc hl L i,List.take_of_length_le (by rw[hl];omega)]
theorem Ut(hl: ∀x,(enc x).length=k): ∀(L:List A) (i:Nat),(L.flatMap enc).drop (i*k)=(L.drop i).flatMap enc
 | [],i=>by simp
 | x::L,0=>by simp
 | x::L,i+1=>by
  rw[List.flatMap_cons,List.drop_succ_cons,Nat.succ_mul,List.drop_append,hl,Nat.add_sub_cancel,Ut hl L i,List.drop_of_length_le (by rw[hl];omega),List.nil_append]
end
end Go.Proofs.YtkebjgebkneijaaGreat
