/- Texts of one's own that a claim's last text rests on: Mf15 Mf16 Cw1 Let Bk Lk1 Lk2 Lk3 Lk4. -/
import Derived.Test.YtkebjgebkneijaaGreatMG7
import Derived.Defers
import Derived.Recover
import Derived.Laws.Pointers
import Derived.Test.YtkebjgebkneijaaGreatMG6
import Derived.BigRegion
set_option linter.unusedVariables false
set_option linter.unusedSimpArgs false
namespace Go.Proofs.YtkebjgebkneijaaGreat
open Go.RowKit
set_option maxHeartbeats 16000000
set_option maxRecDepth 1000000
abbrev Ik:Value:=.iface 99 (.agg #[])
theorem Ud(W:World):(Instr.typeAssert (.iface 99 (.agg #[])) 20 239 true).run Tryz.prog W= .ok (.tuple #[.agg #[.int .i64 0,.string ⟨#[]⟩,.bool false,.slice none 0 0,.string ⟨#[]⟩,.string ⟨#[]⟩,.bool false],.bool false]) W:=by kernel_rfl
theorem Xo(W:World):(Instr.typeAssert (.iface 99 (.agg #[])) 20 243 true).run Tryz.prog W= .ok (.tuple #[.agg #[.int .i64 0,.string ⟨#[]⟩,.bool false,.string ⟨#[]⟩,.int .i64 0],.bool false]) W:=by kernel_rfl
theorem Aba{w:World}{sp:Nat}{kind:Int}(s2:w.cell? ⟨sp,2,none⟩=some (.int .i64 kind))(hk:kind=0∨kind=1){P:World->Prop}
  (hC: ∀W,Below w.heap.size w W->Calls Tryz.prog 160 #[.pointer (some ⟨sp,0,none⟩)] W fun e w'=>e= .returned (.tuple #[])/\P w'):
  Calls Tryz.prog 114 #[.pointer (some ⟨sp,0,none⟩),Ik] w fun e w'=>e= .returned (.tuple #[])/\P w':=by
 have hsl:=Amd w _ s2
 have h1:=Ud
 have h2:=Xo
 have HC:=lhi (hC ((w.alloc (.cells #[.int .i64 0,.string ⟨#[]⟩,.bool false,.slice none 0 0,.string ⟨#[]⟩,.string ⟨#[]⟩,.bool false] 239)).alloc (.cells #[.int .i64 0,.string ⟨#[]⟩,.bool false,.string ⟨#[]⟩,.int .i64 0] 243)) (((Amf _ _).alloc (Ama _) _).alloc (by simp) _))
 clear hC
 rcases hk with rfl | rfl
 all_goals
  go_enter Tryz.func114,Tryz.ntmps114
  go_wp2_with (go_at_call 160;refine HC.out.mono ?_;rintro e w' ⟨rfl,hp⟩;have HP:=lhi hp;clear hp)
  go_end0
  exact⟨rfl,HP.out⟩
theorem Afx(c:Int)(W:World):(Instr.typeAssert (.iface 195 (.agg #[.int .i64 c])) 20 195 true).run Tryz.prog W= .ok (.tuple #[.agg #[.int .i64 c],.bool true]) W:=by kernel_rfl
theorem Ail(v:Value)(W:World):(Instr.typeAssert (.iface 198 v) 20 198 true).run Tryz.prog W= .ok (.tuple #[v,.bool true]) W:=by kernel_rfl
def Aa1(R:World->Prop)(e:Exit)(a:Act)(w:World):Prop:=(e= .normal∨e= .ret)/\a.defers=[]/\R w
theorem Te(p q:Addr)(w:World):
  CallsD Tryz.prog 113 #[.pointer (some p),.pointer (some q)] .returning w fun e u' w'=>e= .returned (.tuple #[])/\u'= .returning/\w'=w:=by
 refine callsD_of_wpS Tryz.func113 rfl fun c₀ cs hu=>?_
 simp only[Tryz.ntmps113,List.size_toArray,List.length_cons,List.length_nil,Nat.reduceAdd,Nat.reduceSub,Array.replicate_succ,Array.replicate_zero,List.push_toArray,List.append_toArray,List.nil_append,List.cons_append]
 apply wpS_seq
 apply wpS_region
 simp[wpOpsS,go_sem,recoverD,hu,Exit.thenS]
 refine wpS_of_wp (Code.wp_mono (Q:=Aa1 (fun w'=>w'=w)) ?_ ?_)
 ·rintro e a w' ⟨he,hd,rfl⟩
  cases c₀
  rcases he with rfl | rfl <;> simp_all [bodyPostS,results,Tryz.results113]
 ·clear hu
  go_wp2_with (fail)
  exact⟨.inr rfl,rfl,rfl⟩
def Fl(c:Int):List Value:=[.int .i64 c,.int .i64 0,.int .i64 0,.bool false,.string ⟨#[]⟩,.slice none 0 0]
theorem Aal{p q:Nat}{c:Int}{w:World}{cs:Array Value}(hpq:p≠q)(hs:cs.size=6)(hp:Blk w p 41 cs){v:Value}(hq:Blk w q 20 #[v])(older:List PanicEntry):
  CallsD Tryz.prog 113 #[.pointer (some ⟨p,0,none⟩),.pointer (some ⟨q,0,none⟩)] (.panicking ({v:=Ss c,recovered:=false}::older)) w fun e u' w'=>e= .returned (.tuple #[])/\u'= .panicking ({v:=Ss c,recovered:=true}::older)/\w'=((w.setCells p 0 (Fl c)).setCell ⟨q,0,none⟩ .nilIface).alloc (.cells #[.int .i64 c] 195):=by
 have h1:=Afx c
 obtain⟨v0,v1,v2,v3,v4,v5,rfl⟩: ∃v0 v1 v2 v3 v4 v5,cs= #[v0,v1,v2,v3,v4,v5]:=by
  rcases cs with⟨_ | ⟨v0,_ | ⟨v1,_ | ⟨v2,_ | ⟨v3,_ | ⟨v4,_ | ⟨v5,_ | ⟨v6,l⟩⟩⟩⟩⟩⟩⟩⟩ <;> simp at hs⊢
 clear hs
 have hqs:=hq.lt
 have hps:=hp.lt
 have c0:w.cell? ⟨p,0,none⟩=some v0:=hp.cell 0
 have f0:w.frozen? ⟨p,0,none⟩=false:=hp.frozen 0
 have c1:w.cell? ⟨p,1,none⟩=some v1:=hp.cell 1
 have f1:w.frozen? ⟨p,1,none⟩=false:=hp.frozen 1
 have c2:w.cell? ⟨p,2,none⟩=some v2:=hp.cell 2
 have f2:w.frozen? ⟨p,2,none⟩=false:=hp.frozen 2
 have c3:w.cell? ⟨p,3,none⟩=some v3:=hp.cell 3
 have f3:w.frozen? ⟨p,3,none⟩=false:=hp.frozen 3
 have c4:w.cell? ⟨p,4,none⟩=some v4:=hp.cell 4
 have f4:w.frozen? ⟨p,4,none⟩=false:=hp.frozen 4
 have c5:w.cell? ⟨p,5,none⟩=some v5:=hp.cell 5
 have f5:w.frozen? ⟨p,5,none⟩=false:=hp.frozen 5
 have cq:w.cell? ⟨q,0,none⟩=some v:=hq.cell 0
 have fq:w.frozen? ⟨q,0,none⟩=false:=hq.frozen 0
 have hpq':q≠p:=Ne.symm hpq
 clear hp hq
 refine callsD_of_wpS Tryz.func113 rfl fun c₀ cs hu=>?_
 simp only[Tryz.ntmps113,List.size_toArray,List.length_cons,List.length_nil,Nat.reduceAdd,Nat.reduceSub,Array.replicate_succ,Array.replicate_zero,List.push_toArray,List.append_toArray,List.nil_append,List.cons_append]
 apply wpS_seq
 apply wpS_region
 simp[wpOpsS,go_sem,recoverD,hu,Exit.thenS,Ss]
 refine wpS_of_wp (Code.wp_mono (Q:=Aa1 (fun w'=>w'=((w.setCells p 0 (Fl c)).setCell ⟨q,0,none⟩ .nilIface).alloc (.cells #[.int .i64 c] 195))) ?_ ?_)
 ·rintro e a w' ⟨he,hd,rfl⟩
  cases c₀
  rcases he with rfl | rfl <;> simp_all [bodyPostS,results,Tryz.results113]
 ·clear hu
  go_wp2_with (fail)
  exact⟨.inl rfl,rfl,rfl⟩
structure Ad where
 kind:Int
 core:Int
 fd:Int
 off:Int
 num:Int
 path:ByteArray
 path2:ByteArray
 data:ByteArray
def Ad.cs(c:Ad):Array Value:=#[.int .i64 c.kind,.int .i64 c.core,.int .i64 c.fd,.int .i64 c.off,.int .i64 c.num,.string c.path,.string c.path2,.string c.data]
structure ResV where
 code:Int
 fd:Int
 num:Int
 dir:Bool
 data:ByteArray
 na:Option Addr
 nl:Nat
 nc:Nat
def ResV.cs(r:ResV):Array Value:=#[.int .i64 r.code,.int .i64 r.fd,.int .i64 r.num,.bool r.dir,.string r.data,Value.slice r.na r.nl r.nc]
def Aq:ResV:=⟨0,0,0,false,⟨#[]⟩,none,0,0⟩
def Bi(s:Nat)(core:Int)(c:Ad)(r:ResV):Array Value:=#[.pointer (some ⟨s,0,none⟩),.int .i64 core,.int .i64 c.kind,.int .i64 c.core,.int .i64 c.fd,.int .i64 c.off,.int .i64 c.num,.string c.path,.string c.path2,.string c.data,.int .i64 r.code,.int .i64 r.fd,.int .i64 r.num,.bool r.dir,.string r.data,Value.slice r.na r.nl r.nc]
def Ie(n s:Nat)(core:Int)(c:Ad)(r:ResV):List LB:=[⟨n+3,193,Bi s core c r⟩,⟨n+2,20,#[.nilIface]⟩,⟨n+1,41,Aq.cs⟩,⟨n,24,c.cs⟩]
theorem Aa4{L:Nat->Prop}{w w1:World}{s n:Nat}{M':Mem}{core:Int}{c:Ad}{r:ResV}(hw1:Wk L w s M' (Ie n s core c r) [] w1):
  w1.cell? ⟨n+3,10,none⟩=some (Value.int IntKind.i64 r.code)/\w1.cell? ⟨n+3,11,none⟩=some (Value.int IntKind.i64 r.fd)/\w1.cell? ⟨n+3,12,none⟩=some (Value.int IntKind.i64 r.num)/\w1.cell? ⟨n+3,13,none⟩=some (Value.bool r.dir)/\w1.cell? ⟨n+3,14,none⟩=some (Value.string r.data)/\w1.cell? ⟨n+3,15,none⟩=some (Value.slice r.na r.nl r.nc)/\w1.cell? ⟨n+1,0,none⟩=some (Value.int IntKind.i64 0)/\w1.frozen? ⟨n+1,0,none⟩=false/\w1.cell? ⟨n+1,1,none⟩=some (Value.int IntKind.i64 0)/\w1.frozen? ⟨n+1,1,none⟩=false/\w1.cell? ⟨n+1,2,none⟩=some (Value.int IntKind.i64 0)/\w1.frozen? ⟨n+1,2,none⟩=false/\w1.cell? ⟨n+1,3,none⟩=some (Value.bool false)/\w1.frozen? ⟨n+1,3,none⟩=false/\w1.cell? ⟨n+1,4,none⟩=some (Value.string ⟨#[]⟩)/\w1.frozen? ⟨n+1,4,none⟩=false/\w1.cell? ⟨n+1,5,none⟩=some (Value.slice none 0 0)/\w1.frozen? ⟨n+1,5,none⟩=false/\w1.cell? ⟨n+1+1,0,none⟩=some Value.nilIface/\w1.frozen? ⟨n+1+1,0,none⟩=false/\n+1<w1.heap.size:=by
 have B3:=hw1.bk (g:=n+3) (t:=193) (cs:=Bi s core c r) (by simp[Ie])
 have B2:=hw1.bk (g:=n+2) (t:=20) (cs:=#[.nilIface]) (by simp[Ie])
 have B1:=hw1.bk (g:=n+1) (t:=41) (cs:=Aq.cs) (by simp[Ie])
 exact⟨B3.cell 10,B3.cell 11,B3.cell 12,B3.cell 13,B3.cell 14,B3.cell 15,B1.cell 0,B1.frozen 0,B1.cell 1,B1.frozen 1,B1.cell 2,B1.frozen 2,B1.cell 3,B1.frozen 3,B1.cell 4,B1.frozen 4,B1.cell 5,B1.frozen 5,B2.cell 0,B2.frozen 0,B1.lt⟩
theorem Af2{L:Nat->Prop}{w w1:World}{s n:Nat}{M':Mem}{core:Int}{c:Ad}{r r':ResV}(hl:Bd L w)(h:Wk L w s M' (Ie n s core c r') [] w1):
  Wk L w s M' [⟨n+2,20,#[.nilIface]⟩,⟨n+1,41,r.cs⟩] [] ((w1.setCells (n+1) 0 [.int .i64 r.code,.int .i64 r.fd,.int .i64 r.num,.bool r.dir,.string r.data,.slice r.na r.nl r.nc]).setCell ⟨n+1+1,0,none⟩ .nilIface):=by
 have h2:Wk L w s M' [⟨n+2,20,#[.nilIface]⟩,⟨n+1,41,Aq.cs⟩] [] w1:=h.drop0.sub (List.sublist_append_left [_,_] [_])
 exact(Wk.setAll hl [.int .i64 r.code,.int .i64 r.fd,.int .i64 r.num,.bool r.dir,.string r.data,.slice r.na r.nl r.nc] 0 _ _ h2.swap).swap.set0 hl 0 .nilIface
theorem Af1{L:Nat->Prop}{w:World}{s:Nat}{M M':Mem}(h:Ab L w s M){fb:Nat}(hf:w.cell? ⟨fb,0,none⟩=some (.pointer (some ⟨s,0,none⟩))){core:Int}{c:Ad}{at_:Value}{r:ResV}
  (hrun: ∀W,Wk L w s M (Ie w.heap.size s core c Aq) [] W->Calls Tryz.prog 114 #[.pointer (some ⟨w.heap.size+3,0,none⟩),at_] W fun e w'=>e= .returned (.tuple #[])/\Wk L w s M' (Ie w.heap.size s core c r) [] w'):
  Calls Tryz.prog 71 #[.pointer (some ⟨fb,0,none⟩),.int .i64 core,.agg c.cs,at_] w fun e w'=>e= .returned (.tuple #[.agg r.cs,.nilIface])/\Ab L w' s M'/\Kp L w w':=by
 have hmf: ∀(fn:Fn) (first cap:Array Value) (w:World),(Instr.makeFunc fn first cap).run Tryz.prog w= .ok (.func fn first cap) w:=fun _ _ _ _=>rfl
 have hl:=h.bd
 have hfb:fb<w.heap.size:=Amd w _ hf
 have q0:(((w.alloc (.cells #[Value.int IntKind.i64 c.kind,Value.int IntKind.i64 c.core,Value.int IntKind.i64 c.fd,Value.int IntKind.i64 c.off,Value.int IntKind.i64 c.num,Value.string c.path,Value.string c.path2,Value.string c.data] 24)).alloc (.cells #[.int .i64 0,.int .i64 0,.int .i64 0,.bool false,.string ⟨#[]⟩,.slice none 0 0] 41)).alloc (.cells #[.nilIface] 20)).cell? ⟨w.heap.size,0,none⟩=some (Value.int IntKind.i64 c.kind):=by simp[go_sem]
 have q1:(((w.alloc (.cells #[Value.int IntKind.i64 c.kind,Value.int IntKind.i64 c.core,Value.int IntKind.i64 c.fd,Value.int IntKind.i64 c.off,Value.int IntKind.i64 c.num,Value.string c.path,Value.string c.path2,Value.string c.data] 24)).alloc (.cells #[.int .i64 0,.int .i64 0,.int .i64 0,.bool false,.string ⟨#[]⟩,.slice none 0 0] 41)).alloc (.cells #[.nilIface] 20)).cell? ⟨w.heap.size,1,none⟩=some (Value.int IntKind.i64 c.core):=by simp[go_sem]
 have q2:(((w.alloc (.cells #[Value.int IntKind.i64 c.kind,Value.int IntKind.i64 c.core,Value.int IntKind.i64 c.fd,Value.int IntKind.i64 c.off,Value.int IntKind.i64 c.num,Value.string c.path,Value.string c.path2,Value.string c.data] 24)).alloc (.cells #[.int .i64 0,.int .i64 0,.int .i64 0,.bool false,.string ⟨#[]⟩,.slice none 0 0] 41)).alloc (.cells #[.nilIface] 20)).cell? ⟨w.heap.size,2,none⟩=some (Value.int IntKind.i64 c.fd):=by simp[go_sem]
 have q3:(((w.alloc (.cells #[Value.int IntKind.i64 c.kind,Value.int IntKind.i64 c.core,Value.int IntKind.i64 c.fd,Value.int IntKind.i64 c.off,Value.int IntKind.i64 c.num,Value.string c.path,Value.string c.path2,Value.string c.data] 24)).alloc (.cells #[.int .i64 0,.int .i64 0,.int .i64 0,.bool false,.string ⟨#[]⟩,.slice none 0 0] 41)).alloc (.cells #[.nilIface] 20)).cell? ⟨w.heap.size,3,none⟩=some (Value.int IntKind.i64 c.off):=by simp[go_sem]
 have q4:(((w.alloc (.cells #[Value.int IntKind.i64 c.kind,Value.int IntKind.i64 c.core,Value.int IntKind.i64 c.fd,Value.int IntKind.i64 c.off,Value.int IntKind.i64 c.num,Value.string c.path,Value.string c.path2,Value.string c.data] 24)).alloc (.cells #[.int .i64 0,.int .i64 0,.int .i64 0,.bool false,.string ⟨#[]⟩,.slice none 0 0] 41)).alloc (.cells #[.nilIface] 20)).cell? ⟨w.heap.size,4,none⟩=some (Value.int IntKind.i64 c.num):=by simp[go_sem]
 have q5:(((w.alloc (.cells #[Value.int IntKind.i64 c.kind,Value.int IntKind.i64 c.core,Value.int IntKind.i64 c.fd,Value.int IntKind.i64 c.off,Value.int IntKind.i64 c.num,Value.string c.path,Value.string c.path2,Value.string c.data] 24)).alloc (.cells #[.int .i64 0,.int .i64 0,.int .i64 0,.bool false,.string ⟨#[]⟩,.slice none 0 0] 41)).alloc (.cells #[.nilIface] 20)).cell? ⟨w.heap.size,5,none⟩=some (Value.string c.path):=by simp[go_sem]
 have q6:(((w.alloc (.cells #[Value.int IntKind.i64 c.kind,Value.int IntKind.i64 c.core,Value.int IntKind.i64 c.fd,Value.int IntKind.i64 c.off,Value.int IntKind.i64 c.num,Value.string c.path,Value.string c.path2,Value.string c.data] 24)).alloc (.cells #[.int .i64 0,.int .i64 0,.int .i64 0,.bool false,.string ⟨#[]⟩,.slice none 0 0] 41)).alloc (.cells #[.nilIface] 20)).cell? ⟨w.heap.size,6,none⟩=some (Value.string c.path2):=by simp[go_sem]
 have q7:(((w.alloc (.cells #[Value.int IntKind.i64 c.kind,Value.int IntKind.i64 c.core,Value.int IntKind.i64 c.fd,Value.int IntKind.i64 c.off,Value.int IntKind.i64 c.num,Value.string c.path,Value.string c.path2,Value.string c.data] 24)).alloc (.cells #[.int .i64 0,.int .i64 0,.int .i64 0,.bool false,.string ⟨#[]⟩,.slice none 0 0] 41)).alloc (.cells #[.nilIface] 20)).cell? ⟨w.heap.size,7,none⟩=some (Value.string c.data):=by simp[go_sem]
 have qf:(((w.alloc (.cells #[Value.int IntKind.i64 c.kind,Value.int IntKind.i64 c.core,Value.int IntKind.i64 c.fd,Value.int IntKind.i64 c.off,Value.int IntKind.i64 c.num,Value.string c.path,Value.string c.path2,Value.string c.data] 24)).alloc (.cells #[.int .i64 0,.int .i64 0,.int .i64 0,.bool false,.string ⟨#[]⟩,.slice none 0 0] 41)).alloc (.cells #[.nilIface] 20)).cell? ⟨fb,0,none⟩=some (.pointer (some ⟨s,0,none⟩)):=by rw[Amj _ _ _ (by simp only[World.size_alloc];omega),Amj _ _ _ (by simp only[World.size_alloc];omega),Amj _ _ _ hfb];exact hf
 have HS:(((w.alloc (.cells #[Value.int IntKind.i64 c.kind,Value.int IntKind.i64 c.core,Value.int IntKind.i64 c.fd,Value.int IntKind.i64 c.off,Value.int IntKind.i64 c.num,Value.string c.path,Value.string c.path2,Value.string c.data] 24)).alloc (.cells #[.int .i64 0,.int .i64 0,.int .i64 0,.bool false,.string ⟨#[]⟩,.slice none 0 0] 41)).alloc (.cells #[.nilIface] 20)).heap.size=w.heap.size+3:=by simp
 have HW:=lhi (show Wk L w s M [⟨w.heap.size+2,20,#[.nilIface]⟩,⟨w.heap.size+1,41,#[.int .i64 0,.int .i64 0,.int .i64 0,.bool false,.string ⟨#[]⟩,.slice none 0 0]⟩,⟨w.heap.size,24,#[Value.int IntKind.i64 c.kind,Value.int IntKind.i64 c.core,Value.int IntKind.i64 c.fd,Value.int IntKind.i64 c.off,Value.int IntKind.i64 c.num,Value.string c.path,Value.string c.path2,Value.string c.data]⟩] [] (((w.alloc (.cells #[Value.int IntKind.i64 c.kind,Value.int IntKind.i64 c.core,Value.int IntKind.i64 c.fd,Value.int IntKind.i64 c.off,Value.int IntKind.i64 c.num,Value.string c.path,Value.string c.path2,Value.string c.data] 24)).alloc (.cells #[.int .i64 0,.int .i64 0,.int .i64 0,.bool false,.string ⟨#[]⟩,.slice none 0 0] 41)).alloc (.cells #[.nilIface] 20))from by simpa using(((Wk.start h).alloc hl #[Value.int IntKind.i64 c.kind,Value.int IntKind.i64 c.core,Value.int IntKind.i64 c.fd,Value.int IntKind.i64 c.off,Value.int IntKind.i64 c.num,Value.string c.path,Value.string c.path2,Value.string c.data] 24).alloc hl #[.int .i64 0,.int .i64 0,.int .i64 0,.bool false,.string ⟨#[]⟩,.slice none 0 0] 41).alloc hl #[.nilIface] 20)
 have HL:=lhi hl
 have HR:=lhi hrun
 clear h hrun hf
 simp only[Ad.cs,ResV.cs]at⊢
 go_enter_defers Tryz.func71,Tryz.ntmps71
 go_wp2_with (fail)
 generalize hW:(((w.alloc (.cells #[Value.int IntKind.i64 c.kind,Value.int IntKind.i64 c.core,Value.int IntKind.i64 c.fd,Value.int IntKind.i64 c.off,Value.int IntKind.i64 c.num,Value.string c.path,Value.string c.path2,Value.string c.data] 24)).alloc (.cells #[.int .i64 0,.int .i64 0,.int .i64 0,.bool false,.string ⟨#[]⟩,.slice none 0 0] 41)).alloc (.cells #[.nilIface] 20))=w3 at*
 go_region
 have HK:=lhi (show Wk L w s M (Ie w.heap.size s core c Aq) [] (w3.alloc (.cells #[.pointer (some ⟨s,0,none⟩),.int .i64 core,Value.int IntKind.i64 c.kind,Value.int IntKind.i64 c.core,Value.int IntKind.i64 c.fd,Value.int IntKind.i64 c.off,Value.int IntKind.i64 c.num,Value.string c.path,Value.string c.path2,Value.string c.data,Value.int IntKind.i64 0,Value.int IntKind.i64 0,Value.int IntKind.i64 0,Value.bool false,Value.string ⟨#[]⟩,Value.slice none 0 0] 193)).drew from by have:=(HW.out.alloc HL.out #[.pointer (some ⟨s,0,none⟩),.int .i64 core,Value.int IntKind.i64 c.kind,Value.int IntKind.i64 c.core,Value.int IntKind.i64 c.fd,Value.int IntKind.i64 c.off,Value.int IntKind.i64 c.num,Value.string c.path,Value.string c.path2,Value.string c.data,Value.int IntKind.i64 0,Value.int IntKind.i64 0,Value.int IntKind.i64 0,Value.bool false,Value.string ⟨#[]⟩,Value.slice none 0 0] 193).drew;rw[HS]at this;exact this)
 go_wp2_with (go_at_call 114;refine(HR.out _ HK.out).mono ?_;rintro e w1 ⟨rfl,hw1⟩;obtain⟨s0,s1,s2,s3,s4,s5,z0,y0,z1,y1,z2,y2,z3,y3,z4,y4,z5,y5,z6,y6,h1s⟩:=Aa4 hw1;have H1:=lhi hw1;clear hw1)
 have HF:=lhi (Af2 (r:=r) HL.out H1.out)
 refine leaves_cons (f:=113) (args:=#[.pointer (some ⟨w.heap.size+1,0,none⟩),.pointer (some ⟨w.heap.size+1+1,0,none⟩)]) (by simp) (by simp[go_sem]) ?_
 refine(Te _ _ _).mono ?_
 rintro e u' w'' ⟨rfl,rfl,rfl⟩
 refine⟨_,?_,rfl,HF.out.fin⟩
 simp[results,Tryz.results71,go_sem,z0,z1,z2,z3,z4,z5,z6]
theorem Sp(x:Int)(w:World):Calls Tryz.prog 204 #[.int .i64 x] w fun e w'=>e= .returned (.bool (decide (0<=x/\x<=256)))/\w=w':=by
 by_cases h0:0<=x
 ·by_cases h1:x<=256
  ·rw[show decide (0<=x/\x<=256)=true by simp[h0,h1]]
   go_enter Tryz.func204,Tryz.ntmps204
   go_wp2_with (fail)
   go_ret
   exact⟨rfl,rfl⟩
  ·rw[show decide (0<=x/\x<=256)=false by simp[h1]]
   have h2:decide (x<=256)=false:=by simpa using h1
   go_enter Tryz.func204,Tryz.ntmps204
   go_wp2_with (fail)
   go_ret
   exact⟨rfl,rfl⟩
 ·rw[show decide (0<=x/\x<=256)=false by simp[h0]]
  have h2:decide (0<=x)=false:=by simpa using h0
  go_enter Tryz.func204,Tryz.ntmps204
  go_wp2_with (fail)
  go_ret
  exact⟨rfl,rfl⟩
theorem Aeh(x:Int)(hx:0<=x/\x<=256)(w:World):Calls Tryz.prog 204 #[.int .i64 x] w fun e w'=>e= .returned (.bool true)/\w=w':=by
 have:=Sp x w
 rwa [show decide (0<=x/\x<=256)=true by simp[hx]]at this
def Lz(num:Int)(e:Ending):Prop:=e=if num=0 then Ki 4 else .returned (.int .i64 num)
section
variable{L:Nat->Prop}{w:World}{s:Nat}{M:Mem}{m:Nat}
theorem Ahq{sp:Nat}{k:Int}(s4:w.cell? ⟨sp,4,none⟩=some (.int .i64 k))(hk:k<0∨4<=k):
  Calls Tryz.prog 162 #[.pointer (some ⟨sp,0,none⟩)] w fun e w'=>e=Ki 4/\w=w':=by
 by_cases h:k<0
 ·go_enter Tryz.func162,Tryz.ntmps162
  go_wp2_with (go_at_call 199;refine(Em _ _).mono ?_;rintro e w' ⟨rfl,rfl⟩)
  (try simp only[Exit.inBlock,Exit.then])
  exact⟨rfl,rfl,rfl⟩
 ·have h1:decide (k<0)=false:=by simpa using h
  have h2:decide (4<=k)=true:=by simp;omega
  go_enter Tryz.func162,Tryz.ntmps162
  go_wp2_with (go_at_call 199;refine(Em _ _).mono ?_;rintro e w' ⟨rfl,rfl⟩)
  (try simp only[Exit.inBlock,Exit.then])
  exact⟨rfl,rfl,rfl⟩
theorem Ajl(h:Ab L w s M)(hok:M.ok m)(hm:m<=1000000000){c:Int}(hc:0<=c/\c<M.ts.length){sp:Nat}(hL:L sp)(s0:w.cell? ⟨sp,0,none⟩=some (.pointer (some ⟨s,0,none⟩)))(s1:w.cell? ⟨sp,1,none⟩=some (.int .i64 c)){k:Int}(s4:w.cell? ⟨sp,4,none⟩=some (.int .i64 k))(hk:0<=k/\k<4){num:Int}(hnum:rd M.ws (fdw c k)=num):
  Calls Tryz.prog 162 #[.pointer (some ⟨sp,0,none⟩)] w fun e w'=>Lz num e/\Ab L w' s (M.see c (fdw c k))/\Kp L w w':=by
 have h8:=h.tsl
 have HC:=lhi (fun W=>Nu c k (by omega) (by omega) W)
 have HLD:=lhi (Ac4 h.drew hok hm (c:=c) (.inr hc) (i:=fdw c k) (by unfold fdw;omega) hnum)
 have HSL:=lhi (fun(w':World) (hk':Kp L w w')=>And.intro (hk'.cellOf (p:=⟨sp,0,none⟩) hL s0) (And.intro (hk'.cellOf (p:=⟨sp,1,none⟩) hL s1) (hk'.cellOf (p:=⟨sp,4,none⟩) hL s4)))
 have HSD:=lhi (show w.drew.cell? ⟨sp,0,none⟩=some (.pointer (some ⟨s,0,none⟩))/\w.drew.cell? ⟨sp,1,none⟩=some (.int .i64 c)/\w.drew.cell? ⟨sp,4,none⟩=some (.int .i64 k)from⟨s0,s1,s4⟩)
 have hk1:decide (k<0)=false:=by simp;omega
 have hk2:decide (4<=k)=false:=by simp;omega
 obtain⟨ix,hix⟩: ∃x,fdw c k=x:=⟨_,rfl⟩
 rw[hix]at HC HLD⊢
 clear h hok hnum hix
 go_enter Tryz.func162,Tryz.ntmps162
 go_upto_region 2 with(go_at_call 199;refine(Ec _ _).mono ?_;rintro e w' ⟨rfl,rfl⟩)
 clear hk1 hk2
 go_region_held3 (fun w'=>w'.cell? ⟨sp,0,none⟩=some (.pointer (some ⟨s,0,none⟩))/\w'.cell? ⟨sp,1,none⟩=some (.int .i64 c)/\w'.cell? ⟨sp,4,none⟩=some (.int .i64 k))
  (with_reducible first | exact HSD.out | exact⟨z0,z1,z4⟩)
  ((first
   | (go_at_call 70;refine(HC.out _).mono ?_;rintro e w' ⟨rfl,rfl⟩)
   | (go_at_call 180;refine HLD.out.mono ?_;rintro e w1 ⟨rfl,hm1,hk1⟩;have HM1:=lhi hm1;have HK1:=lhi hk1.undrew';obtain⟨z0,z1,z4⟩:=HSL.out _ hk1.undrew';clear hm1 hk1)))
 by_cases hz:num=0
 ·have HZ:=lhi hz
  have hz':(num==0)=true:=by simp[hz]
  clear hz
  go_wp2_with (go_at_call 199;refine(Em _ _).mono ?_;rintro e w' ⟨rfl,rfl⟩)
  (try simp only[Exit.inBlock,Exit.then])
  exact⟨rfl,(show Lz num _ by unfold Lz;rw[if_pos HZ.out]),HM1.out,HK1.out⟩
 ·have HZ:=lhi hz
  have hz':(num==0)=false:=by simp[hz]
  clear hz
  go_wp2_with (go_at_call 199;refine(Ec _ _).mono ?_;rintro e w' ⟨rfl,rfl⟩)
  go_ret
  exact⟨(show Lz num _ by unfold Lz;rw[if_neg HZ.out];rfl),HM1.out,HK1.out⟩
end
theorem letW{P:Program}{cd:Code}{Q:Exit->Act->World->Prop}{a:Act}{w:World}(h: ∀W,W=w->cd.wp P Q a W):cd.wp P Q a w:=h w rfl
theorem Du{w W:World}{cs:Array Value}{t:TypeId}(h:W=w.alloc (.cells cs t)):Blk W w.heap.size t cs/\Below w.heap.size w W:=by
 subst h
 exact⟨Blk.new _ _ _,(Amf _ _).alloc (Ama _) _⟩
theorem Lp{w W:World}{cs cs':Array Value}{t t':TypeId}(h:W=(w.alloc (.cells cs t)).alloc (.cells cs' t')):Blk W w.heap.size t cs/\Blk W (w.heap.size+1) t' cs'/\Below w.heap.size w W:=by
 subst h
 exact⟨(Blk.new _ _ _).alloc _,Blk.newAt _ _ _ (by simp),((Amf _ _).alloc (Ama _) _).alloc (by simp) _⟩
theorem letE{K:Act->World->Prop}{Q:Exit->Act->World->Prop}{e:Exit}{a:Act}{w:World}(h: ∀W,W=w->Exit.then K Q e a W):Exit.then K Q e a w:=h w rfl
section
variable{w:World}{n:Nat}{t:TypeId}{a b c d e f g h:Value}
theorem Blk.d3(k:Blk w n t #[a,b,c]):w.cell? ⟨n,0,none⟩=some a/\w.cell? ⟨n,1,none⟩=some b/\w.cell? ⟨n,2,none⟩=some c:=⟨k.cell 0,k.cell 1,k.cell 2⟩
theorem Blk.f3(k:Blk w n t #[a,b,c]):w.frozen? ⟨n,0,none⟩=false/\w.frozen? ⟨n,1,none⟩=false/\w.frozen? ⟨n,2,none⟩=false:=⟨k.frozen 0,k.frozen 1,k.frozen 2⟩
theorem Blk.d6(k:Blk w n t #[a,b,c,d,e,f]):w.cell? ⟨n,0,none⟩=some a/\w.cell? ⟨n,1,none⟩=some b/\w.cell? ⟨n,2,none⟩=some c/\w.cell? ⟨n,3,none⟩=some d/\w.cell? ⟨n,4,none⟩=some e/\w.cell? ⟨n,5,none⟩=some f:=⟨k.cell 0,k.cell 1,k.cell 2,k.cell 3,k.cell 4,k.cell 5⟩
theorem Blk.f6(k:Blk w n t #[a,b,c,d,e,f]):w.frozen? ⟨n,0,none⟩=false/\w.frozen? ⟨n,1,none⟩=false/\w.frozen? ⟨n,2,none⟩=false/\w.frozen? ⟨n,3,none⟩=false/\w.frozen? ⟨n,4,none⟩=false/\w.frozen? ⟨n,5,none⟩=false:=⟨k.frozen 0,k.frozen 1,k.frozen 2,k.frozen 3,k.frozen 4,k.frozen 5⟩
theorem Blk.d8(k:Blk w n t #[a,b,c,d,e,f,g,h]):w.cell? ⟨n,0,none⟩=some a/\w.cell? ⟨n,1,none⟩=some b/\w.cell? ⟨n,2,none⟩=some c/\w.cell? ⟨n,3,none⟩=some d/\w.cell? ⟨n,4,none⟩=some e/\w.cell? ⟨n,5,none⟩=some f/\w.cell? ⟨n,6,none⟩=some g/\w.cell? ⟨n,7,none⟩=some h:=⟨k.cell 0,k.cell 1,k.cell 2,k.cell 3,k.cell 4,k.cell 5,k.cell 6,k.cell 7⟩
theorem Blk.dr{cs:Array Value}(k:Blk w n t cs):Blk w.drew n t cs:=k
theorem Fb(w:World)(n i:Nat)(u:Value):w.grownBy (w.setCell ⟨n,i,none⟩ u) (some n):=⟨rfl,rfl,rfl,by simp[World.setCell],fun _ _ hk=>Below.heap_setCell _ _ _ _ fun e=>hk (by rw[e])⟩
theorem Ew{w1 w2:World}{r:Option Nat}(h:w.grownBy w1 r)(k:w1.grownBy w2 r):w.grownBy w2 r:=⟨k.os.trans h.os,k.tape.trans h.tape,k.output.trans h.output,Aml h.size k.size,fun b hb hr=>(k.block b (Amk hb h.size) hr).trans (h.block b hb hr)⟩
theorem Blk.put3(k:Blk w n t #[a,b,c])(x y z:Value):Blk (((w.setCell ⟨n,0,none⟩ x).setCell ⟨n,1,none⟩ y).setCell ⟨n,2,none⟩ z) n t #[x,y,z]/\w.grownBy (((w.setCell ⟨n,0,none⟩ x).setCell ⟨n,1,none⟩ y).setCell ⟨n,2,none⟩ z) (some n):=
 ⟨((k.set_ 0 x).set_ 1 y).set_ 2 z,Ew (Ew (Fb ..) (Fb ..)) (Fb ..)⟩
theorem Blk.put6(k:Blk w n t #[a,b,c,d,e,f])(x y z x' y' z':Value):Blk ((((((w.setCell ⟨n,0,none⟩ x).setCell ⟨n,1,none⟩ y).setCell ⟨n,2,none⟩ z).setCell ⟨n,3,none⟩ x').setCell ⟨n,4,none⟩ y').setCell ⟨n,5,none⟩ z') n t #[x,y,z,x',y',z']/\w.grownBy ((((((w.setCell ⟨n,0,none⟩ x).setCell ⟨n,1,none⟩ y).setCell ⟨n,2,none⟩ z).setCell ⟨n,3,none⟩ x').setCell ⟨n,4,none⟩ y').setCell ⟨n,5,none⟩ z') (some n):=
 ⟨(((((k.set_ 0 x).set_ 1 y).set_ 2 z).set_ 3 x').set_ 4 y').set_ 5 z',Ew (Ew (Ew (Ew (Ew (Fb ..) (Fb ..)) (Fb ..)) (Fb ..)) (Fb ..)) (Fb ..)⟩
end
def Seen(c:Int)(n:Nat)(M M':Mem):Prop:=∃l:List Int,l.length<=n/\ (∀i∈l,0<=i/\i<9549)/\M'=M.sees c l
namespace Seen
variable{c:Int}{n k m:Nat}{M M' M'':Mem}
theorem refl(c:Int)(n:Nat)(M:Mem):Seen c n M M:=⟨[],by simp,by simp,rfl⟩
theorem trans(h:Seen c n M M')(g:Seen c k M' M''):Seen c (n+k) M M'':=by
 obtain⟨l,h1,h2,rfl⟩:=h
 obtain⟨l',g1,g2,rfl⟩:=g
 exact⟨l++l',by simp;omega,fun i hi=>(List.mem_append.1 hi).elim (h2 i) (g2 i),(Mem.sees_append c l l' M).symm⟩
theorem see(M:Mem){i:Int}(hi:0<=i/\i<9549):Seen c 1 M (M.see c i):=⟨[i],by simp,by simpa using hi,rfl⟩
theorem same(h:Seen c n M M'):M.same M':=by obtain⟨l,-,-,rfl⟩:=h;exact Mem.same.sees c l M
theorem ok(h:Seen c n M M')(hk:M.ok m):M'.ok (m+n):=by obtain⟨l,h1,-,rfl⟩:=h;exact(Mem.ok.sees c l hk).mono (by omega)
theorem mono(h:Seen c n M M')(hn:n<=k):Seen c k M M':=by obtain⟨l,h1,h2,h3⟩:=h;exact⟨l,by omega,h2,h3⟩
end Seen
theorem Wk.callE{L:Nat->Prop}{w W:World}{s:Nat}{M:Mem}{Bs:List LB}{Rs:List RB}(h:Wk L w s M Bs Rs W){P:FuncId}{args:Array Value}{R:Mem->Ending->World->Prop}
  (hc: ∀K,(∀b,L b->K b)->(∀x∈Bs,K x.g)->Ab K W s M->Calls Tryz.prog P args W fun e w'=>∃M',R M' e w'/\Ab K w' s M'/\Kp K W w'):
  Calls Tryz.prog P args W fun e w'=>∃M',R M' e w'/\Wk L w s M' Bs Rs w':=by
 obtain⟨K,h1,h2,h3,h4⟩:=h.ex
 refine(hc K h1 (fun x hx=>(h3 x hx).1) h2).mono ?_
 rintro e w' ⟨M',hr,hm,hk⟩
 refine⟨M',hr,⟨K,h1,hm,fun x hx=>⟨(h3 x hx).1,(h3 x hx).2.1,hk.blk (h3 x hx).2.2 (h3 x hx).1⟩,fun r hr=>⟨?_,(h4 r hr).2⟩⟩,h.kp.trans (hk.sub h1),h.bb,h.br,h.rr⟩
 obtain⟨o1,o2⟩:=h4 r hr
 refine⟨o1.1,?_⟩
 rcases o1.2 with q | ⟨g,cap,cur,hv,hg,hh,rest⟩
 ·exact .inl q
 ·refine .inr ⟨g,cap,cur,hv,hg,?_,rest⟩
  rw[hk.k.block g (o2 g (by rw[hv];rfl))]
  exact hh
structure Ok (M:Mem) (c:Int):Prop where
 ok:M.ok 500000000
 c:0<=c/\c<M.ts.length
def Rf(L:Nat->Prop)(w:World)(s:Nat)(M:Mem)(c:Int)(n:Nat)(Bs:List LB)(Rs:List RB)(W:World):Prop:=Ok M c/\n<=1000/\ ∃M',Seen c n M M'/\Wk L w s M' Bs Rs W
namespace Rf
variable{L:Nat->Prop}{w W W':World}{s:Nat}{M:Mem}{c:Int}{n k:Nat}{Bs:List LB}{Rs:List RB}
theorem mono(h:Rf L w s M c n Bs Rs W)(hn:n<=k)(hk:k<=1000):Rf L w s M c k Bs Rs W:=by obtain⟨h0,-,M',h1,h2⟩:=h;exact⟨h0,hk,M',h1.mono hn,h2⟩
theorem map{Bs':List LB}{Rs':List RB}(h:Rf L w s M c n Bs Rs W)(f: ∀M',Wk L w s M' Bs Rs W->Wk L w s M' Bs' Rs' W'):Rf L w s M c n Bs' Rs' W':=by obtain⟨h0,hn,M',h1,h2⟩:=h;exact⟨h0,hn,M',h1,f M' h2⟩
theorem bk(h:Rf L w s M c n Bs Rs W){g:Nat}{t:TypeId}{cs:Array Value}(hx:(⟨g,t,cs⟩:LB)∈Bs):Blk W g t cs:=by obtain⟨-,-,M',-,h2⟩:=h;exact h2.bk hx
theorem drew(h:Rf L w s M c n Bs Rs W):Rf L w s M c n Bs Rs W.drew:=h.map fun _ h=>h.drew
theorem call(h:Rf L w s M c n Bs Rs W){P:FuncId}{args:Array Value}{R:Ending->World->Prop}(k:Nat)
  (hc: ∀K M',(∀b,L b->K b)->(∀x∈Bs,K x.g)->M.same M'->M'.ok 600000000->(0<=c/\c<M'.ts.length)->Ab K W s M'->Calls Tryz.prog P args W fun e w'=>∃M'',(Seen c k M' M''/\R e w')/\Ab K w' s M''/\Kp K W w') (hk:n+k<=1000:=by omega):
  Calls Tryz.prog P args W fun e w'=>R e w'/\Rf L w s M c (n+k) Bs Rs w':=by
 obtain⟨h0,hn,M',h1,h2⟩:=h
 refine(h2.callE fun K hL hB hm=>hc K M' hL hB h1.same ((h1.ok h0.ok).mono (by omega)) (by rw[h1.same.ts];exact h0.c) hm).mono ?_
 rintro e w' ⟨M'',⟨h3,hr⟩,hw⟩
 exact⟨hr,h0,hk,M'',h1.trans h3,hw⟩
end Rf
abbrev Bas:=Int×ByteArray×Bool
def pgs(b:Bas)(f u:Nat):ByteArray:=catP (fun p=>(Hm b (p / 4)).extract (p % 4*16) (p % 4*16+16)) f (u - f)
def fdN(M:Mem)(c k:Int):Int:=if 0<=k/\k<4 then rd M.ws (fdw c k)else 0
section
variable{L:Nat->Prop}{w W:World}{s sp:Nat}{M:Mem}{c:Int}{n:Nat}{Bs:List LB}{Rs:List RB}{cv:Ad}{r:ResV}
theorem Ahp(h:Rf L w s M c n Bs Rs W)(hb:(⟨sp,193,Bi s c cv r⟩:LB)∈Bs)(hn:n<=900):
  Calls Tryz.prog 162 #[.pointer (some ⟨sp,0,none⟩)] W fun e w'=>Lz (fdN M c cv.fd) e/\Rf L w s M c (n+1) Bs Rs w':=by
 have hB:=h.bk hb
 refine h.call 1 fun K M' hL hK hs hok hc hm=>?_
 by_cases hk:0<=cv.fd/\cv.fd<4
 ·refine(Ajl hm hok (by omega) hc (hK _ hb) (hB.cell 0) (hB.cell 1) (hB.cell 4) hk rfl).mono ?_
  rintro e w' ⟨he,h1,h2⟩
  rw[hs.ws]at he
  exact⟨_,⟨Seen.see M' (by have:=hm.tsl;unfold fdw;omega),by unfold fdN;rw[if_pos hk];exact he⟩,h1,h2⟩
 ·refine(Ahq (hB.cell 4) (by omega)).mono ?_
  rintro e w' ⟨he,rfl⟩
  exact⟨_,⟨Seen.refl c 1 M',by unfold fdN Lz;rw[if_neg hk,if_pos rfl];exact he⟩,hm,Kp.refl _ _⟩
theorem Xb(h:Rf L w s M c n Bs Rs W){num:Int}(hnum:1<=num/\num<=257)(hk:M.isBase num)(hz:rd M.ws (wd num 16)<=1000000000000)(hn:n<=900):
  Calls Tryz.prog 139 #[.agg #[.pointer (some ⟨s,0,none⟩),.int .i64 c],.int .i64 num] W fun e w'=>e= .returned (Id (M.bas num))/\Rf L w s M c (n+1) Bs Rs w':=by
 refine h.call 1 fun K M' hL hK hs hok hc hm=>?_
 refine(Tl hm hok (by omega) (.inr hc) hnum ⟨(hs.fine _).2 hk.f,by rw[hs.at_];exact hk.k⟩ (by rw[hs.ws];exact hz)).mono ?_
 rintro e w' ⟨he,h1,h2⟩
 rw[hs.bas]at he
 exact⟨_,⟨Seen.see M' (Il (b:=16) hnum (by omega)),he⟩,h1,h2⟩
theorem Abr(h:Rf L w s M c n Bs Rs W){i:Int}(hi:0<=i/\i<9549)(hn:n<=900):
  Calls Tryz.prog 180 #[.agg #[.pointer (some ⟨s,0,none⟩),.int .i64 c],.int .i64 i] W fun e w'=>e= .returned (.int .i64 (rd M.ws i))/\Rf L w s M c (n+1) Bs Rs w':=by
 refine h.call 1 fun K M' hL hK hs hok hc hm=>?_
 refine(Wa hm hok (by omega) (.inr hc) hi).mono ?_
 rintro e w' ⟨he,h1,h2⟩
 rw[hs.ws]at he
 exact⟨_,⟨Seen.see M' hi,he⟩,h1,h2⟩
theorem Acy(h:Rf L w s M c n Bs Rs W){num:Int}(hnum:1<=num/\num<=257){f u:Nat}(hfu:f<=u)(hu:u<=16)(hq: ∀a,16<a->a<37->rd M.ws (wd num a)=0){b:Int×ByteArray×Bool}(hb:b.2.1.size<=1000)(hn:n<=900):
  Calls Tryz.prog 140 #[.agg #[.pointer (some ⟨s,0,none⟩),.int .i64 c],.int .i64 num,.int .i64 f,.int .i64 u,Id b] W fun e w'=>e= .returned (.string (pgs b f u))/\Rf L w s M c (n+32) Bs Rs w':=by
 refine h.call 32 fun K M' hL hK hs hok hc hm=>?_
 refine(Yh hm hok (by omega) (.inr hc) hnum hfu hu (fun q hq'=>by rw[hs.ws];exact hq _ (by omega) (by omega)) hb (fun p h1 h2=>.inl ⟨by rw[hs.ws];exact hq _ (by omega) (by omega),rfl⟩)).mono ?_
 rintro e w' ⟨he,h1,h2⟩
 refine⟨_,⟨⟨_,Aml (Nh num f _) (by omega),fun i hi=>?_,rfl⟩,he⟩,h1,h2⟩
 simp only[pgWs,pgW,List.mem_flatMap,List.mem_range,List.mem_append,List.mem_singleton]at hi
 obtain⟨j,hj,hi | rfl⟩:=hi
 ·split at hi
  ·obtain rfl:=List.mem_singleton.1 hi
   exact Il hnum (by omega)
  ·cases hi
 ·exact Il hnum (by omega)
end
def Fo(o k n:Nat):Nat×Nat×Nat:=
 let e:=min (o+k) n
 if e<=o then(0,0,0)else
  let u:=(e+15) / 16
  (o / 16,if 10<u - o / 16+ ((u - 1) / 4 - o / 16 / 4+1)then(o / 16 / 4+2)*4 else u,u)
theorem Xu{o k n e:Nat}(he:min (o+k) n=e)(h:e<=o):Fo o k n=(0,0,0):=by unfold Fo;rw[he];exact if_pos h
theorem Om{o k n e u f:Nat}(he:min (o+k) n=e)(h: ¬ e<=o)(hu:(e+15) / 16=u)(hf:o / 16=f):Fo o k n=(f,if 10<u - f+ ((u - 1) / 4 - f / 4+1)then(f / 4+2)*4 else u,u):=by
 subst hu hf
 unfold Fo
 rw[he]
 exact if_neg h
theorem Rh{w:World}{sp o k:Nat}{v:Int}{d:ByteArray}{h:Bool}(s5:w.cell? ⟨sp,5,none⟩=some (.int .i64 o))(s6:w.cell? ⟨sp,6,none⟩=some (.int .i64 k))(ho:o<=256)(hk:k<=256)(hd:d.size<=1000):
  Calls Tryz.prog 191 #[.pointer (some ⟨sp,0,none⟩),.agg #[.int .i64 v,.string d,.bool h]] w fun e w'=>e= .returned (.tuple #[.int .i64 (Fo o k d.size).1,.int .i64 (Fo o k d.size).2.1,.int .i64 (Fo o k d.size).2.2])/\Below w.heap.size w w':=by
 have HPG:=lhi (fun(n:Nat) (hn:n<=1000) W=>Tt n hn W)
 have HS:=lhi (Amd _ _ s5)
 have HS5:=lhi s5
 have HS6:=lhi s6
 clear s5 s6
 go_enter Tryz.func191,Tryz.ntmps191
 go_upto_region 1 with(fail)
 refine letW (fun w1 hw1=>?_)
 obtain⟨hq,hb⟩:=Du hw1
 have HB:=lhi hb
 have s5:w1.cell? ⟨sp,5,none⟩=some (.int .i64 o):=(hb.cell HS.out).trans HS5.out
 have s6:w1.cell? ⟨sp,6,none⟩=some (.int .i64 k):=(hb.cell (p:=⟨sp,6,none⟩) HS.out).trans HS6.out
 have b1:w1.cell? ⟨w.heap.size,1,none⟩=some (.string d):=hq.cell 1
 obtain⟨q,hqq⟩: ∃x,w.heap.size=x:=⟨_,rfl⟩
 rw[hqq]at b1⊢
 clear hw1 hq hb hqq
 go_region
 obtain⟨e,he⟩: ∃e:Nat,min (o+k) d.size=e:=⟨_,rfl⟩
 have he':(if(d.size:Int)< (o:Int)+k then(d.size:Int)else(o:Int)+k)=e:=by split <;> omega
 have he2:e<=512:=by omega
 have HB':=lhi (HB.out.trans ((Ae w1).mono HB.out.size))
 rw[he']
 have HE:=lhi he
 clear he' he HB HS HS5 HS6
 by_cases hz:e<=o
 ·have HF:=lhi (Xu HE.out hz)
  have hz2:(e:Int)<=o:=by omega
  clear hz
  go_wp2
  refine bodyPost_ret (v:=.tuple #[.int .i64 0,.int .i64 0,.int .i64 0]) (by simp[results,Tryz.results191,go_sem]) rfl ?_
  rw[HF.out]
  exact⟨rfl,HB'.out⟩
 ·have HP:=lhi (fun W=>HPG.out e (by omega) W)
  obtain⟨u,hu⟩: ∃u:Nat,(e+15) / 16=u:=⟨_,rfl⟩
  obtain⟨f,hf⟩: ∃u:Nat,o / 16=u:=⟨_,rfl⟩
  have HF:=lhi (Om HE.out hz hu hf)
  have hz2: ¬ (e:Int)<=o:=by omega
  have hfu:f+1<=u:=by omega
  have hu64:u<=64:=by omega
  have hf':(o:Int).tdiv 16=f:=by rw[Int.tdiv_eq_ediv_of_nonneg (by omega)];omega
  rw[hu]at HP
  clear hu hf HPG hz
  go_upto_region 4 with(fail)
  go_quiet ((go_at_call 141;refine(HP.out _).mono ?_;rintro e w' ⟨rfl,rfl⟩;exact⟨rfl,_,rfl⟩))
  have HB2:=lhi (fun n=>HB'.out.trans (show Below w.heap.size w1.drew (w1.drewN n)from⟨rfl,rfl,rfl,Ama _,fun _ _=>rfl⟩))
  have h1:((u:Int) - 1).tdiv 4=((u - 1) / 4:Nat):=by rw[Int.tdiv_eq_ediv_of_nonneg (by omega)];omega
  have h2:(f:Int).tdiv 4=(f / 4:Nat):=by rw[Int.tdiv_eq_ediv_of_nonneg (by omega)];omega
  obtain⟨a,ha⟩: ∃x,(u - 1) / 4=x:=⟨_,rfl⟩
  obtain⟨g,hg⟩: ∃x,f / 4=x:=⟨_,rfl⟩
  rw[ha,hg]at HF
  rw[ha]at h1
  rw[hg]at h2
  have hga:g<=a:=by omega
  have hal:a<=64:=by omega
  clear ha hg hz2 HB'
  by_cases hc:10<u - f+ (a - g+1)
  ·rw[if_pos hc]at HF
   have hc2:(10:Int)< (u - f:Int)+ ((a:Int) - g+1):=by omega
   clear hc
   go_wp2
   refine bodyPost_ret (v:=.tuple #[.int .i64 f,.int .i64 ((g+2)*4:Nat),.int .i64 u]) (by simp[results,Tryz.results191,go_sem]) rfl ?_
   rw[HF.out]
   exact⟨rfl,HB2.out _⟩
  ·rw[if_neg hc]at HF
   have hc2: ¬ (10:Int)< (u - f:Int)+ ((a:Int) - g+1):=by omega
   clear hc
   go_wp2
   refine bodyPost_ret (v:=.tuple #[.int .i64 f,.int .i64 u,.int .i64 u]) (by simp[results,Tryz.results191,go_sem]) rfl ?_
   rw[HF.out]
   exact⟨rfl,HB2.out _⟩
theorem Aav{L:Nat->Prop}{w W:World}{s sp:Nat}{M:Mem}{c:Int}{n:Nat}{Bs:List LB}{Rs:List RB}{cv:Ad}{r:ResV}(h:Rf L w s M c n (⟨sp,193,Bi s c cv r⟩::Bs) Rs W)(hl:Bd L w){o k f:Nat}{v:Int}{d t:ByteArray}{hd:Bool}(ho:cv.off=o)(hk:cv.num=k)(hf:16*f<=o)(ho2:o<=256)(hk2:k<=256)(hds:d.size<=1000)(hod:o<=d.size)(ht:o - 16*f+min k (d.size - o)<=t.size)(hts:t.size<=1000):
  Calls Tryz.prog 194 #[.pointer (some ⟨sp,0,none⟩),.agg #[.int .i64 v,.string d,.bool hd],.int .i64 f,.string t] W fun e w'=>e= .returned (.tuple #[])/\Rf L w s M c n (⟨sp,193,Bi s c cv {r with data:=t.extract (o - 16*f) (o - 16*f+min k (d.size - o))}⟩::Bs) Rs w':=by
 have HL:=lhi hl
 have HH:=lhi h
 obtain⟨g,hg⟩:=xx (o - 16*f)
 obtain⟨a,ha⟩:=xx (min k (d.size - o))
 have ha':(if(d.size:Int) - o<k then(d.size:Int) - o else k)=a:=by split <;> omega
 have hg':(o:Int) - f*16=g:=by omega
 rw[hg,ha]at ht⊢
 clear h hg ha
 obtain⟨ck,cc,cf,co,cn,p1,p2,cd⟩:=cv
 obtain rfl:co=o:=ho
 obtain rfl:cn=k:=hk
 go_enter Tryz.func194,Tryz.ntmps194
 go_upto_region 1 with(fail)
 refine letW (fun w1 hw1=>?_)
 have h1:=HH.out.map (W':=w1) fun _ h=>hw1▸h.alloc HL.out #[.int .i64 v,.string d,.bool hd] 142
 obtain⟨q,hq⟩:=xx W.heap.size
 rw[hq]at h1⊢
 have H1:=lhi h1
 have b1:=(h1.bk (g:=q) (t:=142) (cs:=#[.int .i64 v,.string d,.bool hd]) (by simp)).cell 1
 have hb:=h1.bk (g:=sp) (t:=193) (cs:=Bi s c ⟨ck,cc,cf,o,k,p1,p2,cd⟩ r) (by simp)
 have s5:=hb.cell 5
 have s6:=hb.cell 6
 have s14:=hb.cell 14
 have f14:=hb.frozen 14
 simp[Bi]at s5 s6 s14 b1
 clear hb h1 hw1 hq HH
 go_upto_region 2 with(fail)
 obtain⟨C,hC⟩: ∃C:World->Prop,∀W,C W↔W=w1.drew:=⟨fun W=>W=w1.drew,fun _=>Iff.rfl⟩
 haveI:Nonempty (WIn C):=⟨⟨_,(hC _).2 rfl⟩⟩
 have v5: ∀x:WIn C,x.v.cell? ⟨sp,5,none⟩=some (.int .i64 o):=fun x=>by rw[(hC _).1 x.h];exact s5
 have v6: ∀x:WIn C,x.v.cell? ⟨sp,6,none⟩=some (.int .i64 k):=fun x=>by rw[(hC _).1 x.h];exact s6
 have c1: ∀x:WIn C,x.v.cell? ⟨q,1,none⟩=some (.string d):=fun x=>by rw[(hC _).1 x.h];exact b1
 refine Fa C (by kernel_rfl) (by kernel_rfl) (by kernel_rfl) (by kernel_rfl) (by kernel_rfl) (by decide) ((hC _).2 rfl) ?_
 simp only[List.dropLast]
 repeat (go_big_quiet_step (fail))
 refine wpQuiet_nil ?_
 rintro wx ⟨x,rfl⟩
 have hx:=(hC _).1 x.h
 have g14:x.v.cell? ⟨sp,14,none⟩=some (.string r.data):=by rw[hx];exact s14
 have e14:x.v.frozen? ⟨sp,14,none⟩=false:=by rw[hx];exact f14
 have HX:=lhi (H1.out.drew)
 rw[<-hx]at HX
 clear v5 v6 c1 s5 s6 s14 f14 b1 hx
 refine Qe (o:=⟨none,_,_,_,_,_⟩) rfl (fun K hK=>?_)
 go_simp
 refine hK.out _ _ ?_
 clear hK K
 go_end0
 exact⟨rfl,HX.out.map fun _ h=>((h.set1 HL.out 14 _).drop0)⟩
def wN(f:Nat):Nat->Nat
 | 0=>0
 | k+1=>wN f k+ (if k=0∨(f+k) % 4=0 then 2 else 1)
theorem Acn(f:Nat): ∀k,wN f k<=2*k
 | 0=>Ama _
 | k+1=>by have:=Acn f k;unfold wN;split <;> omega
abbrev zRow (v:Value) (k:Nat):RB:=⟨3,1,v,k,List.replicate k (.int .i64 0)⟩
theorem Rf.row0{L:Nat->Prop}{w W:World}{s:Nat}{M:Mem}{c:Int}{n:Nat}{Bs:List LB}{r:RB}{Rs:List RB}(h:Rf L w s M c n Bs (r::Rs) W):W.ownsRow w.heap.size r.t r.k r.v r.n r.xs:=by obtain⟨-,-,M',-,h2⟩:=h;exact h2.row (Amb ..)
theorem Rf.size{L:Nat->Prop}{w W:World}{s:Nat}{M:Mem}{c:Int}{n:Nat}{Bs:List LB}{Rs:List RB}(h:Rf L w s M c n Bs Rs W):w.heap.size<=W.heap.size:=by obtain⟨-,-,M',-,h2⟩:=h;exact h2.size
section
variable{L:Nat->Prop}{w W W':World}{s sp:Nat}{M:Mem}{c:Int}{n:Nat}{Bs:List LB}{Rs:List RB}
theorem zRow.push{A:Option Addr}{k cap g cap':Nat}(h:Rf L w s M c n Bs (zRow (.slice A k cap) k::Rs) W)(hl:Bd L w)(ho:W'.ownsRow w.heap.size 3 1 (.slice (some ⟨g,0,none⟩) (k+1) cap') (k+1) (List.replicate k (.int .i64 0)++[.int .i64 0]))(hg:W.grownBy W' (Value.slice A k cap).ownBlock)(hat:(Value.slice A k cap).ownBlock=some g∨g=W.heap.size):
  Rf L w s M c n Bs (zRow (.slice (some ⟨g,0,none⟩) (k+1) cap') (k+1)::Rs) W':=
 h.map fun _ h=>by
  rw[<-List.replicate_succ']at ho
  exact h.app hl ho hg (fun q hq=>by injection hq with hq;subst hq;exact hat)
theorem Acm{cv:Ad}{r:ResV}(h:Rf L w s M c n Bs Rs W)(hl:Bd L w)(hb:(⟨sp,193,Bi s c cv r⟩:LB)∈Bs){num:Int}(hnum:1<=num/\num<=257){f u:Nat}(hfu:f<=u)(hu:u<=16)(hq: ∀a,16<a->a<37->rd M.ws (wd num a)=0)(hn:n<=800):
  Calls Tryz.prog 193 #[.pointer (some ⟨sp,0,none⟩),.int .i64 num,.int .i64 f,.int .i64 u] W fun e w'=>∃A cap,e= .returned (.slice A (wN f (u - f)) cap)/\Rf L w s M c (n+2* (u - f)) Bs (zRow (.slice A (wN f (u - f)) cap) (wN f (u - f))::Rs) w':=by
 have HL:=lhi hl
 have HB:=lhi hb
 have H0:=lhi (h.map fun _ h=>h.nilRow 3 1)
 have HLD:=lhi (fun(k:Nat) (Bs':List LB) (Rs':List RB) (W:World) (h:Rf L w s M c k Bs' Rs' W) (hk:k<=850) (a:Int) (ha:16<a/\a<37)=>by
  have:=Abr (h:=h) (i:=wd num a) (Il hnum (by omega)) (by omega)
  rw[hq a ha.1 ha.2]at this
  exact this)
 have HWD:=lhi (fun(a:Int) (ha:0<=a/\a<=100) W=>Cs num a (by omega) (by omega) W)
 clear h hl hb hq
 go_enter Tryz.func193,Tryz.ntmps193
 go_upto_region 3 with(fail)
 go_loopw [9,10] (fun v x wr=>∃(j:Nat) (A:Option Addr) (cap:Nat),v= .slice A (wN f j) cap/\x= .int .i64 (f+j:Nat)/\j<=u - f/\Rf L w s M c (n+2*j) Bs (zRow v (wN f j)::Rs) wr) (fun _ x _=>u - (intOf x).toNat)
 case atStart=>exact⟨0,_,_,rfl,rfl,by omega,H0.out⟩
 case round=>
  obtain⟨j,A,cap,rfl,rfl,hj,hr⟩:=hrel
  have HR:=lhi hr
  clear hr H0
  obtain⟨p,hp⟩:=xx (f+j)
  have HP:=lhi hp
  rw[hp]
  by_cases hlt:j<u - f
  ·have hpu:(p:Int)<u:=by omega
   have hp16:p<16:=by omega
   obtain⟨k,hk⟩:=xx (wN f j)
   have hk32:k<=32:=by have:=Acn f j;omega
   have HK:=lhi hk
   have hd:(p:Int).tdiv 4=(p / 4:Nat):=by rw[Int.tdiv_eq_ediv_of_nonneg (by omega)];omega
   have hq4:p / 4<4:=by omega
   obtain⟨q,hqq⟩:=xx (p / 4)
   rw[hk]at HR⊢
   rw[hqq]at hd hq4
   have e1:IntKind.i64.wrap (q:Int)=q:=IntWalk.i64_in _ (by omega)
   have e2:IntKind.i64.wrap (17+ (q:Int))=17+q:=IntWalk.i64_in _ (by omega)
   have e3:IntKind.i64.wrap (21+ (p:Int))=21+p:=IntWalk.i64_in _ (by omega)
   clear hp hk hqq
   have hc:(j=0∨p % 4=0)∨ ¬ (j=0∨p % 4=0):=Classical.em _
   rcases hc with hc | hc
   case' inl=>
    have HN:=lhi (show k+2=wN f (j+1)by rw[wN,HK.out,HP.out,if_pos hc])
    have hg:((p:Int)==(f:Int))=true∨(((p:Int)==(f:Int))=false/\ ((p:Int) % 4==0)=true):=by
     by_cases e:p=f
     ·exact .inl (by simp;omega)
     ·exact .inr ⟨by simp;omega,by simp;have:=HP.out;omega⟩
    clear hc
    rcases hg with hg | ⟨hg,hg2⟩
    all_goals
     go_upto_region 6 with(fail)
     have hr:=HR.out
     have hs:=hr.bk HB.out
     have HWX:=lhi (HWD.out (17+q) (by omega))
     refine Af (L:=13) (S:=fun w'=>w'.cell? ⟨sp,0,none⟩=some (.pointer (some ⟨s,0,none⟩))/\w'.cell? ⟨sp,1,none⟩=some (.int .i64 c)) (by kernel_rfl) ⟨hs.cell 0,hs.cell 1⟩ (fun hHeld=>?_)
     refine tF 0 ?_
     refine tF 1 ?_
     refine tF 2 ?_
     refine tF 3 ?_
     refine tF 4 ?_
     refine tF 5 ?_
     refine tF 6 ?_
     refine tF 7 ?_
     refine tF 8 ?_
     refine t1 9 (fun K hK=>?_)
     go_simp
     refine(HWX.out _).mono ?_
     rintro e w' ⟨rfl,rfl⟩
     show K _ _
     refine tK hK ⟨hs.cell 0,hs.cell 1⟩ (fun hHeld=>?_)
     clear hK K
     refine t1 10 (fun K hK=>?_)
     go_simp
     refine(HLD.out _ _ _ _ hr.drew (by omega) _ ⟨by omega,by omega⟩).mono ?_
     rintro e w6 ⟨rfl,h6⟩
     show K _ _
     have hs6:=h6.bk HB.out
     refine tK hK ⟨hs6.cell 0,hs6.cell 1⟩ (fun hHeld=>?_)
     clear hK K
     refine t1 11 (fun K hK=>?_)
     go_simp
     have h7:=h6.map fun _ h=>h.below ((Amf w6.heap.size w6).alloc (Ama _) (.cells #[.int .i64 0] 3)) HL.out
     have hs7:=h7.bk HB.out
     refine tK hK ⟨hs7.cell 0,hs7.cell 1⟩ (fun hHeld=>?_)
     clear hK K
     obtain⟨j0,hj0,hy0,hy1,hy2⟩:=info_parts (show(Tryz.prog.info? 3).map (fun i=>(i.zero,i.size,i.bytes))=some (some (.int .i64 0),1,8)by kernel_rfl)
     have hO:=h7.row0
     have hsz:=h7.size
     refine t1 12 (fun K hK=>?_)
     refine step_append_lies _ rfl (.tmp 25) (.tmp 36) 28 rfl w.heap.size 3 j0 _ 1 8 Tryz.underlying28 hj0 hy0 hy1 hy2 rfl (by decide) (.slice A k cap) k _ rfl hO ⟨w6.heap.size,0,none⟩ 1 1 [.int .i64 0] rfl rfl (World.news_of_block (heap_alloc_new _ _)) (by intro u hu;simp at hu;subst hu;rfl) (by decide) (by simp only[maxLen];omega) (by omega) hsz _ rfl ?_
     intro g2 cap2 w8 hown2 hgrow hat hlt2
     have h8:=zRow.push h7 HL.out hown2 hgrow hat
     have hs8:=h8.bk HB.out
     refine tK hK ⟨hs8.cell 0,hs8.cell 1⟩ (fun hHeld=>?_)
     clear hK K
     refine t1 13 (fun K hK=>?_)
     go_simp
     refine tL hK ?_
     have H8:=lhi h8
     clear hK K hHeld h8 hs8 h7 hs7 h6 hs6 hown2 hgrow hat hO hsz hs hr HWX
     obtain⟨A1,hA1⟩: ∃x,some (⟨g2,0,none⟩:Addr)=x:=⟨_,rfl⟩
     obtain⟨k1,hk1⟩: ∃x,k+1=x:=⟨_,rfl⟩
     obtain⟨n1,hn1⟩: ∃x,n+2*j+1=x:=⟨_,rfl⟩
     obtain⟨cap1,hcap1⟩: ∃x,cap2=x:=⟨_,rfl⟩
     have HN1:=lhi (show n1+1<=n+2* (j+1)by omega)
     replace HN:=lhi (show k1+1=wN f (j+1)by have:=HN.out;omega)
     rw[hA1,hk1,hcap1]at H8⊢
     rw[hn1]at H8
     clear hA1 hk1 hn1 hcap1
     go_upto_region 7 with(fail)
     have hr:=H8.out
   case' inr=>
    have HN:=lhi (show k+1=wN f (j+1)by rw[wN,HK.out,HP.out,if_neg hc])
    have hg:((p:Int)==(f:Int))=false:=by simp;have:=HP.out;omega
    have hg2:((p:Int) % 4==0)=false:=by simp;omega
    obtain⟨A1,hA1⟩: ∃x,A=x:=⟨_,rfl⟩
    obtain⟨k1,hk1⟩: ∃x,k=x:=⟨_,rfl⟩
    obtain⟨n1,hn1⟩: ∃x,n+2*j=x:=⟨_,rfl⟩
    obtain⟨cap1,hcap1⟩: ∃x,cap=x:=⟨_,rfl⟩
    have HN1:=lhi (show n1+1<=n+2* (j+1)by omega)
    rw[hk1]at HN
    have hr:=HR.out
    rw[hA1,hk1,hcap1]at hr⊢
    rw[hn1]at hr
    clear hA1 hk1 hn1 hcap1 hc
    go_upto_region 7 with(fail)
   all_goals
    have hk1:k1<=40:=by have:=Acn f (j+1);have:=HN.out;omega
    have hn1:n1<=840:=by have:=HN1.out;omega
    have hs:=hr.bk HB.out
    have HWX:=lhi (HWD.out (21+p) (by omega))
    refine Af (L:=12) (S:=fun w'=>w'.cell? ⟨sp,0,none⟩=some (.pointer (some ⟨s,0,none⟩))/\w'.cell? ⟨sp,1,none⟩=some (.int .i64 c)) (by kernel_rfl) ⟨hs.cell 0,hs.cell 1⟩ (fun hHeld=>?_)
    refine tF 0 ?_
    refine tF 1 ?_
    refine tF 2 ?_
    refine tF 3 ?_
    refine tF 4 ?_
    refine tF 5 ?_
    refine tF 6 ?_
    refine tF 7 ?_
    refine t1 8 (fun K hK=>?_)
    go_simp
    refine(HWX.out _).mono ?_
    rintro e w' ⟨rfl,rfl⟩
    show K _ _
    refine tK hK ⟨hs.cell 0,hs.cell 1⟩ (fun hHeld=>?_)
    clear hK K
    refine t1 9 (fun K hK=>?_)
    go_simp
    refine(HLD.out _ _ _ _ hr.drew (by omega) _ ⟨by omega,by omega⟩).mono ?_
    rintro e w6 ⟨rfl,h6⟩
    show K _ _
    have hs6:=h6.bk HB.out
    refine tK hK ⟨hs6.cell 0,hs6.cell 1⟩ (fun hHeld=>?_)
    clear hK K
    refine t1 10 (fun K hK=>?_)
    go_simp
    have h7:=h6.map fun _ h=>h.below ((Amf w6.heap.size w6).alloc (Ama _) (.cells #[.int .i64 0] 3)) HL.out
    have hs7:=h7.bk HB.out
    refine tK hK ⟨hs7.cell 0,hs7.cell 1⟩ (fun hHeld=>?_)
    clear hK K
    obtain⟨j0,hj0,hy0,hy1,hy2⟩:=info_parts (show(Tryz.prog.info? 3).map (fun i=>(i.zero,i.size,i.bytes))=some (some (.int .i64 0),1,8)by kernel_rfl)
    have hO:=h7.row0
    have hsz:=h7.size
    refine t1 11 (fun K hK=>?_)
    refine step_append_lies _ rfl (.tmp 38) (.tmp 48) 28 rfl w.heap.size 3 j0 _ 1 8 Tryz.underlying28 hj0 hy0 hy1 hy2 rfl (by decide) (.slice A1 k1 cap1) k1 _ rfl hO ⟨w6.heap.size,0,none⟩ 1 1 [.int .i64 0] rfl rfl (World.news_of_block (heap_alloc_new _ _)) (by intro u hu;simp at hu;subst hu;rfl) (by decide) (by simp only[maxLen];omega) (by omega) hsz _ rfl ?_
    intro g2 cap2 w8 hown2 hgrow hat hlt2
    have h8:=zRow.push h7 HL.out hown2 hgrow hat
    have hs8:=h8.bk HB.out
    refine tK hK ⟨hs8.cell 0,hs8.cell 1⟩ (fun hHeld=>?_)
    clear hK K
    refine t1 12 (fun K hK=>?_)
    go_simp
    refine tL hK ?_
    have H8:=lhi h8
    clear hK K hHeld h8 hs8 h7 hs7 h6 hs6 hown2 hgrow hat hO hsz hs hr HWX
    go_wp2_with (fail)
    go_roundw
    case rel=>
     refine⟨j+1,_,_,by rw[<-HN.out],by rw[<-Nat.add_assoc,HP.out];simp,by omega,?_⟩
     rw[<-HN.out]
     exact H8.out.mono HN1.out (by omega)
    case measure=>simp only[intOf];omega
  ·obtain rfl:j=u - f:=by omega
   obtain rfl:p=u:=by have:=HP.out;omega
   go_wp2_with (fail)
   go_ret
   exact⟨_,_,rfl,HR.out⟩
end
end Go.Proofs.YtkebjgebkneijaaGreat
