/- Texts of one's own that a claim's last text rests on: Uf3 Mr7 Uf4 Uf5 Shp1 Shp2 Shp3 Shp4 Shp5 Shp6 Shp7 Shp8. -/
import Derived.Test.YtkebjgebkneijaaGreatDoorMG26
import Derived.Test.YtkebjgebkneijaaGreatDoorMG15
import Derived.Test.YtkebjgebkneijaaGreatDoorMG2
import Derived.Test.YtkebjgebkneijaaGreatDoorMG3
import Derived.Lib.Builder
import Derived.Lib.AppendStr
import Derived.Lib.UnsafeStr
import Derived.Lib.Strings
import Derived.Test.YtkebjgebkneijaaGreatDoorMShelf
import Derived.Test.YtkebjgebkneijaaGreatDoorMG23
set_option linter.unusedVariables false
set_option linter.unusedSimpArgs false
namespace Go.Proofs.YtkebjgebkneijaaGreatDoor
section
open Go.RowKit
set_option maxHeartbeats 1000000
def nmN (j : Nat) : ByteArray := ⟨#[110, UInt8.ofNat (48 + j)]⟩
def pathN (j : Nat) : ByteArray := ⟨#[47, 110, UInt8.ofNat (48 + j)]⟩
theorem parse_all : ((List.range 8).all fun j => match parseF (pathN j) with | .ok [x] => decide (x.toList = (nmN j).toList) | _ => false) = true := by kernel_rfl
theorem parse_N {j : Nat} (hj : j < 8) : parseF (pathN j) = .ok [nmN j] := by
 have h := List.all_eq_true.1 parse_all j (List.mem_range.2 hj)
 cases hp : parseF (pathN j) with
 | err k => rw [hp] at h; cases h
 | ok l =>
  rw [hp] at h
  match l, h with
  | [x], h =>
   have e : x = nmN j := toList_injM (by simpa using h)
   rw [e]
theorem path_all : ((List.range 8).all fun j => decide (((⟨#[47, 110]⟩ : ByteArray) ++ strD (dgs j)).data = (pathN j).data)) = true := by kernel_rfl
theorem path_N {j : Nat} (hj : j < 8) : (⟨#[47, 110]⟩ : ByteArray) ++ strD (dgs j) = pathN j := by
 have h := List.all_eq_true.1 path_all j (List.mem_range.2 hj)
 exact ByteArray.ext (by simpa using h)
def nmO : ByteArray := ⟨#[111, 116, 104, 101, 114]⟩
def pathO : ByteArray := ⟨#[47, 111, 116, 104, 101, 114]⟩
theorem parse_O : parseF pathO = .ok [nmO] := by kernel_rfl
end
section
open Go.RowKit
set_option maxHeartbeats 2000000
def callA : CallV := ⟨0, 0, 0, 0, 0, pathA, ⟨#[]⟩, ⟨#[]⟩⟩
theorem ts_M1A : M1A.ts.length = 2 /\ ∀ y ∈ tr M1A.ts 0, 0 <= y.1 /\ y.1 <= 1000000 := by
 have h := tr_create (M := M0A.see 0 (wd 1 (nbucket nmA : Nat))) (c := 0) (it := rootItem) (nm := nmA) (kind := 0) (n := 0) ⟨by omega, by rw [see_len, ts_M0A]; omega⟩
 refine ⟨h.2.trans (by rw [see_len, ts_M0A]), fun y hy => ?_⟩
 have hy : y ∈ tr (M0A.see 0 (wd 1 (nbucket nmA : Nat))).ts 0 ++ accC 0 rootItem.num (nbucket nmA : Nat) 0 0 := by rw [<- h.1]; exact hy
 rw [tr_see ⟨by omega, by rw [ts_M0A]; omega⟩] at hy
 have h0 : tr M0A.ts 0 = [] := by
  unfold M0A Mem.clear tr
  simp only
  rw [getD_set _ _ _ _ _ (by rw [loadM_ts]; simp [newS]), if_pos rfl]
 rw [h0] at hy
 have hb := nb_lt nmA
 rcases List.mem_append.1 hy with hy | hy
 ·simp at hy
  rw [hy]
  simp only [wd]; omega
 ·exact accC_num ⟨by omega, by omega⟩ (by decide) hb ⟨by omega, by omega⟩ y hy
theorem step_A (w1 : World) (fb s : Nat) : StepC w1 fb s M0A M1A 0 callA 112 (.agg #[]) noRes := by
 have h := stepC_create (w := w1) (fb := fb) (s := s) (M := M0A) (M1 := M0A) ok_M0A (by omega) (k := 0) (by rw [ts_M0A]; omega) dk_M0A.fit (cv := callA) (.inl rfl) (by decide) (ns := []) (nm := nmA) parse_A (by simp) (it := rootItem) rfl rfl (by
  rw [dk_M0A.bkt (by decide) (nb_lt nmA)]; rfl) (n := 0) (words_M0A.1 0 (by omega)) ⟨by omega, by omega⟩
 exact h
theorem data_A (s : Nat) : DataC M1A s (fun i => (filesO [2] (opsTo M1A 2) i).isSome = true) (fun _ => ⟨#[]⟩) := by
 intro K W num hn hM
 have hn : (filesO [2] (opsTo M1A 2) num).isSome = true := hn
 rw [ops_A] at hn
 have e : num = 2 := by
  unfold filesO at hn
  split at hn
  ·rename_i q
   simpa using q
  ·cases hn
 subst e
 obtain ⟨h1, h2, h3⟩ := bz_M1A.base (num := 2) ⟨by omega, by omega⟩
 exact data_none hM ok_M1A (by omega) ⟨by omega, by omega⟩ h1 h2 h3
set_option maxRecDepth 1000000 in
theorem awake_calls (w : World) : Calls Tryz.prog 4 #[] w fun e w' => e = .returned (.bool true) /\ Below w.heap.size w w' := by
 have HN := lhi (fsNew_ok (L := fun b => b < w.heap.size) (w := w) (fun b hb => hb) (n := 2) (by omega) (by omega))
 have hraw := inv_SA.raw_nil
 have HCK := lhi (fun (W : World) (iv ov mv : Value) (ev : Nat -> Value) (hS : StM W iv ov mv ev SA) => State_calls hS inv_SA.small (E := []) List.Pairwise.nil (by rw [hraw]))
 clear hraw
 go_enter Tryz.func4, Tryz.ntmps4
 go_upto_region 4 with (first
  | (go_at_call 5; refine HN.out.mono ?_; rintro e w1 ⟨fb, s, pb, rfl, hf1, hb1⟩; have HF1 := lhi hf1; have HB1 := lhi hb1; clear hf1 hb1 HN)
  | (go_at_call 6; refine (num_calls _ _).mono ?_; rintro e w' ⟨rfl, rfl⟩))
 have HAL := lhi (alone_ok HF1.out (M' := M1A) (ok_M0A.mono (by omega)) ok_M1A (by omega) (k := 0) (by simp) (cv := callA) rfl ⟨by decide, by decide⟩ (by simp [idleP]) (r := noRes) ⟨rfl, rfl, rfl⟩ (by rw [ts_M1A.1]; exact ts_M0A.symm) (by
  show (tr M0A.ts 0).length <= _
  have h0 : tr M0A.ts 0 = [] := by
   unfold M0A Mem.clear tr
   simp only
   rw [getD_set _ _ _ _ _ (by rw [loadM_ts]; simp [newS]), if_pos rfl]
  rw [h0]; exact Nat.zero_le _) ts_M1A.2 (fun w1 => step_A w1 fb s))
 simp only [CallV.cs, ResV.cs, callA, noRes, pathA] at HAL
 go_upto_region 5 with (go_at_call 8; refine HAL.out.mono ?_; rintro e w2 ⟨rfl, ⟨tc, hf2⟩, hk2⟩; have HF2 := lhi hf2; have HK2 := lhi hk2; clear hf2 hk2 HAL)
 have HF3 := lhi (HF2.out.allocIns (.cells #[.int .i64 0, .int .i64 0, .int .i64 0, .bool false, .string ⟨#[]⟩, .slice none 0 0] 37))
 have HR3 := lhi (Blk.new w2 37 #[.int .i64 0, .int .i64 0, .int .i64 0, .bool false, .string ⟨#[]⟩, .slice none 0 0])
 have HB3 := lhi ((Below.refl w2.heap.size w2).alloc (Nat.le_refl _) (.cells #[.int .i64 0, .int .i64 0, .int .i64 0, .bool false, .string ⟨#[]⟩, .slice none 0 0] 37))
 obtain ⟨P, hP⟩ : ∃ P : PV, P = ⟨⟨0, 0, 0, 0, 0, ⟨#[47, 97]⟩, ⟨#[]⟩, ⟨#[]⟩⟩, .nilIface, true, ⟨0, 0, 0, false, ⟨#[]⟩, none, 0, 0⟩, tc⟩ := ⟨_, rfl⟩
 rw [<- hP] at HF3
 obtain ⟨ps, hps⟩ : ∃ ps, ps = (List.replicate 2 idleP).set 0 P := ⟨_, rfl⟩
 rw [<- hps] at HF3
 have hpl : ps.length = 2 := by rw [hps]; simp
 have HPL := lhi hpl
 have HST := lhi (State_ok HF3.out (fun c hc => by
  rw [hpl] at hc
  subst hps
  rcases (by omega : c = 0 ∨ c = 1) with rfl | rfl
  ·simp [hP]
  ·simp [idleP]) ok_M1A (by omega) dk_M1A.fit gather_A (by decide) deep_A (fun _ => ⟨#[]⟩) (fun c k hc hk => by
   rw [words_M1A.2 c k (by omega) hk]; omega) (fun i hi => by
   rw [List.mem_singleton.1 hi]; omega) (by rw [hpl]; exact data_A s))
 clear hP hps hpl
 go_upto_region 6 with (go_at_call 7; refine HST.out.mono ?_; rintro e w4 ⟨⟨iv, ov, mv, ev, S, rfl, hst, his⟩, hf4, hk4⟩; rw [HPL.out] at his; obtain rfl := state_A his; have HS4 := lhi hst.stm; have HK4 := lhi hk4; obtain ⟨iA, icap, rfl, -⟩ := hst.ino; obtain ⟨oA, ocap, rfl, -⟩ := hst.opn; obtain ⟨mA, mcap, rfl, -⟩ := hst.mad; clear hst his hf4 hk4 HST)
 obtain ⟨rb, hrb⟩ : ∃ x, x = w2.heap.size := ⟨_, rfl⟩
 have HR4 := lhi (Blk.of_heap (HK4.out.k.k.block rb (by rw [hrb]; exact ins.new _ _)) (show Blk _ rb _ _ by rw [hrb]; exact HR3.out))
 rw [<- hrb]
 clear hrb
 obtain ⟨sb, hsb⟩ : ∃ x, x = w4.heap.size := ⟨_, rfl⟩
 obtain ⟨w5, hw5⟩ : ∃ x, x = w4.alloc (.cells #[.slice iA SA.inodes.length icap, .slice oA SA.opens.length ocap, .slice mA SA.made.length mcap] 32) := ⟨_, rfl⟩
 have HB5 := lhi (show Below w4.heap.size w4 w5 by rw [hw5]; exact (Below.refl _ _).alloc (Nat.le_refl _) _)
 have HS5 := lhi (HS4.out.keep HB5.out)
 have HX5 := lhi (show Blk w5 sb 32 _ by rw [hw5, hsb]; exact Blk.new w4 32 #[.slice iA SA.inodes.length icap, .slice oA SA.opens.length ocap, .slice mA SA.made.length mcap])
 have HR5 := lhi (Blk.of_heap (HB5.out.block _ HR4.out.lt) HR4.out)
 rw [<- hsb, <- hw5]
 clear hw5 hsb
 have HFD := lhi (show Calls Tryz.prog 11 #[.agg #[.slice iA SA.inodes.length icap, .slice oA SA.opens.length ocap, .slice mA SA.made.length mcap], .string ⟨#[47, 97]⟩] w5 fun e w' => e = .returned (.tuple #[.int .i64 2, .int .i64 0]) /\ Below w5.heap.size w5 w' from by
  have h := Find_calls HS5.out inv_SA (path := pathA) (by decide)
  rw [find_A] at h
  exact h)
 have s0 : w5.cell? ⟨sb, 0, none⟩ = some (.slice iA SA.inodes.length icap) := HX5.out.cell 0
 have s1 : w5.cell? ⟨sb, 1, none⟩ = some (.slice oA SA.opens.length ocap) := HX5.out.cell 1
 have s2 : w5.cell? ⟨sb, 2, none⟩ = some (.slice mA SA.made.length mcap) := HX5.out.cell 2
 go_upto_region 7 with (go_at_call 11; refine HFD.out.mono ?_; rintro e w6 ⟨rfl, hb6⟩; have HB6 := lhi hb6; clear hb6 HFD)
 clear s0 s1 s2
 have HS6 := lhi (HS5.out.keep HB6.out)
 have HX6 := lhi (Blk.of_heap (HB6.out.block _ HX5.out.lt) HX5.out)
 have HR6 := lhi (Blk.of_heap (HB6.out.block _ HR5.out.lt) HR5.out)
 have HMY := lhi (May_yes HS6.out inv_SA)
 have r0 : w6.cell? ⟨rb, 0, none⟩ = some (.int .i64 0) := HR6.out.cell 0
 have s0 : w6.cell? ⟨sb, 0, none⟩ = some (.slice iA SA.inodes.length icap) := HX6.out.cell 0
 have s1 : w6.cell? ⟨sb, 1, none⟩ = some (.slice oA SA.opens.length ocap) := HX6.out.cell 1
 have s2 : w6.cell? ⟨sb, 2, none⟩ = some (.slice mA SA.made.length mcap) := HX6.out.cell 2
 go_wp2_with (first
  | (go_at_call 6; refine (num_calls _ _).mono ?_; rintro e w' ⟨rfl, rfl⟩)
  | (go_at_call 12; refine HMY.out.mono ?_; rintro e w7 ⟨rfl, hb7⟩; have HB7 := lhi hb7; have HX7 := lhi (Blk.of_heap (hb7.block _ HX6.out.lt) HX6.out); have HC7 := lhi (HCK.out w7 _ _ _ _ (HS6.out.keep hb7)); clear hb7 HMY; have t0 : w7.cell? ⟨sb, 0, none⟩ = some (.slice iA SA.inodes.length icap) := HX7.out.cell 0; have t1 : w7.cell? ⟨sb, 1, none⟩ = some (.slice oA SA.opens.length ocap) := HX7.out.cell 1; have t2 : w7.cell? ⟨sb, 2, none⟩ = some (.slice mA SA.made.length mcap) := HX7.out.cell 2)
  | (go_at_call 13; refine HC7.out.mono ?_; rintro e w8 ⟨v, rfl, hb8, hown⟩; have HB8 := lhi hb8; obtain ⟨fA, fcap, rfl, -⟩ := own_form hown; clear hb8 hown))
 go_ret
 have k2 : Below w.heap.size w1 w2 := ⟨HK2.out.k.os, HK2.out.k.tape, HK2.out.k.output, HK2.out.k.size, fun b hb => HK2.out.k.block b hb⟩
 have z1 := HB1.out.size
 have z2 := k2.size
 have k3 := HB3.out.mono (show w.heap.size <= w2.heap.size by omega)
 have k4 : Below w.heap.size (w2.alloc (.cells #[.int .i64 0, .int .i64 0, .int .i64 0, .bool false, .string ⟨#[]⟩, .slice none 0 0] 37)) w4 := ⟨HK4.out.k.k.os, HK4.out.k.k.tape, HK4.out.k.k.output, HK4.out.size, fun b hb => HK4.out.k.k.block b (ins.old hb)⟩
 have z3 := k3.size
 have z4 := k4.size
 have z5 := HB5.out.size
 have z6 := HB6.out.size
 have z7 := HB7.out.size
 exact ⟨rfl, HB1.out.trans (k2.trans (k3.trans (k4.trans ((HB5.out.mono (by omega)).trans ((HB6.out.mono (by omega)).trans ((HB7.out.mono (by omega)).trans (HB8.out.mono (by omega))))))))⟩
end
section
open Go.RowKit
set_option maxHeartbeats 1000000
def Idle2 (ps : List PV) : Prop := ps.length = 2 /\ ∀ c (hc : c < ps.length), ps[c].at_ = .nilIface
theorem Idle2.set {ps : List PV} (h : Idle2 ps) {k : Nat} (hk : k < 2) {p : PV} (hp : p.at_ = .nilIface) : Idle2 (ps.set k p) := by
 refine ⟨by rw [List.length_set]; exact h.1, fun c hc => ?_⟩
 rw [List.getElem_set]
 split
 ·exact hp
 ·exact h.2 c (by simpa using hc)
theorem alone_st {K : Nat -> Prop} {w : World} {fb s pb : Nat} {M M' : Mem} {ps : List PV} {c i m i' m' : Nat} {D D' : DkT} (h : FsAt K w fb s pb M ps) (hps : Idle2 ps) (hF : Fm M c i m D) (hm : m' <= 600000000) (hmm : m <= m') {d : Nat} (hd : d <= 1) {cv : CallV} (hc : cv.core = d) (hk : 0 <= cv.kind /\ cv.kind <= 16) {r : ResV} (hr : r.na = none /\ r.nl = 0 /\ r.nc = 0)
  (hst : (∀ w1, StepC w1 fb s (M.clear d) M' d cv 112 (.agg #[]) r) /\ Fm M' c i' m' D' /\ M'.ts.length = (M.clear d).ts.length /\ (tr (M.clear d).ts (d : Nat)).length <= (tr M'.ts (d : Nat)).length /\ ∀ y ∈ tr M'.ts (d : Nat), 0 <= y.1 /\ y.1 <= 1000000) :
  Calls Tryz.prog 8 #[.pointer (some ⟨fb, 0, none⟩), .agg cv.cs] w fun e w' => e = .returned (.tuple #[.agg r.cs, .bool true]) /\ (∃ ps', FsAt K w' fb s pb M' ps' /\ Idle2 ps') /\ Kp K w w' := by
 obtain ⟨h1, h2, h3, h4, h5⟩ := hst
 have hdl : d < ps.length := by rw [hps.1]; omega
 refine (alone_ok h (m := m') ((hF.clear d).ok.mono hmm) h2.ok (by omega) hdl hc hk (hps.2 d hdl) hr h3 h4 h5 h1).mono ?_
 rintro e w' ⟨q1, ⟨tc, q2⟩, q3⟩
 exact ⟨q1, ⟨_, q2, hps.set (by omega) rfl⟩, q3⟩
end
section
open Go.RowKit
set_option maxHeartbeats 4000000
namespace Fm
variable {M : Mem} {c i m : Nat}
theorem step_other (h : Fm M c i m D0) (hm : m <= 600000000) {cv : CallV} (hk : cv.kind = 0) (hs : cv.path.size <= 4611686018427387904) {nm : ByteArray} (hp : parseF cv.path = .ok [nm]) (fb s : Nat) {d : Nat} (hd : d = 1 - c) :
  ∃ M', (∀ w1, StepC w1 fb s (M.clear d) M' d cv 112 (.agg #[]) noRes) /\ M'.ok (m + 7) /\ M'.ts.length = (M.clear d).ts.length /\ (tr (M.clear d).ts (d : Nat)).length <= (tr M'.ts (d : Nat)).length /\ ∀ y ∈ tr M'.ts (d : Nat), 0 <= y.1 /\ y.1 <= 1000000 := by
 subst hd
 have h1 := h.clear (1 - c)
 have hc1 := h.c1
 obtain ⟨d, hd⟩ : ∃ d, 1 - c = d := ⟨_, rfl⟩
 have hmd := h1.md
 rw [hd] at h1 hmd ⊢
 have hd1 : d <= 1 := by omega
 have h2 := h1.see (d : Nat) (wd 1 (nbucket nm : Nat))
 have h0 : tr (M.clear d).ts (d : Nat) = [] := by
  unfold Mem.clear tr
  simp only
  rw [getD_set _ _ _ _ _ (by rw [h.tl]; omega), if_pos rfl]
 have ht := tr_create (M := (M.clear d).see (d : Nat) (wd 1 (nbucket nm : Nat))) (c := (d : Nat)) (it := rootItem) (nm := nm) (kind := 0) (n := (0 : Nat)) ⟨by omega, by rw [h2.tl]; omega⟩
 have hta := ht.1
 rw [tr_see ⟨by omega, by rw [h1.tl]; omega⟩, h0] at hta
 have hb := nb_lt nm
 refine ⟨_, fun w1 => ?_, ok_create h2.ok, ht.2.trans (h2.tl.trans h1.tl.symm), ?_, ?_⟩
 ·have := stepC_create (w := w1) (fb := fb) (s := s) (M := M.clear d) (M1 := M.clear d) h1.ok (by omega) (k := d) (by rw [h1.tl]; omega) h1.dk.fit (cv := cv) (.inl hk) hs (ns := []) (nm := nm) hp (by simp) (it := rootItem) rfl rfl (by
   rw [h1.dk.bkt (by decide) (nb_lt nm)]; rfl) (n := (0 : Nat)) hmd ⟨by omega, by omega⟩
  exact hk ▸ this
 ·rw [h0]; exact Nat.zero_le _
 ·intro y hy
  rw [hta] at hy
  rcases List.mem_append.1 hy with hy | hy
  ·have e : y = (wd 1 (nbucket nm : Nat), false) := by simpa using hy
   rw [e]
   simp only [wd]; omega
  ·exact accC_num ⟨by omega, by omega⟩ (by decide) hb ⟨by omega, by omega⟩ y hy
end Fm
theorem below_kp {w wr w' : World} {K : Nat -> Prop} (h : Below w.heap.size w wr) (hK : ∀ b, b < w.heap.size -> K b) (k : Kp K wr w') : Below w.heap.size w w' :=
 h.trans ⟨k.k.os, k.k.tape, k.k.output, k.k.size, fun b hb => k.k.block b (hK b hb)⟩
theorem row_heap {w w' : World} {t : TypeId} {k n base : Nat} {v : Value} {C : Nat -> Nat -> Value} (h : RowT w base t k v n C) (hk : 0 < n -> ∀ b, v.ownBlock = some b -> w'.heap[b]? = w.heap[b]?) : RowT w' base t k v n C := by
 obtain ⟨A, cap, rfl, hle, hc⟩ := h
 refine ⟨A, cap, rfl, hle, fun hn => ?_⟩
 obtain ⟨g, off, cs, rfl, hg, hb, hcc⟩ := hc hn
 exact ⟨g, off, cs, rfl, hg, Blk.of_heap (hk hn g rfl) hb, hcc⟩
theorem made_SF (c n : Nat) : (SF c n).made.length = 2 := by unfold SF; by_cases e : c = 0 <;> simp [e]
theorem stv_root {w w' : World} {iv ov mv : Value} {ev : Nat -> Value} {c n : Nat} (h : StV w 0 iv ov mv ev (SF c n)) (hi : ∀ b, iv.ownBlock = some b -> w'.heap[b]? = w.heap[b]?) (hm : ∀ b, mv.ownBlock = some b -> w'.heap[b]? = w.heap[b]?) : StV w' 0 iv ov mv ev (SF c n) := by
 refine ⟨row_heap h.ino fun _ => hi, fun i hl => row_heap (h.ent i hl) fun hn => ?_, row_heap h.opn fun hn => ?_, row_heap h.mad fun _ => hm⟩
 ·have hl : i < 1 := hl
  obtain rfl : i = 0 := by omega
  exact absurd (show 0 < 0 from hn) (by omega)
 ·exact absurd (show 0 < 0 from hn) (by omega)
def FullR (w : World) (fb s pb c j : Nat) (wr : World) : Prop := ∃ M ps, FsAt (fun b => b < w.heap.size) wr fb s pb M ps /\ Idle2 ps /\ Fm M c (min j 32) (9000 + 40 * j) D0 /\ Below w.heap.size w wr
end
section
open Go.RowKit
set_option maxHeartbeats 1000000
theorem size_builder : (Tryz.prog.info? 124).map (fun i => i.size) = some 2 := by kernel_rfl
theorem lies_builder : liesAt Tryz.prog Tryz.prog.depth 126 (3 / Tryz.prog.cellsOf 126) 1 124 1 = true := by kernel_rfl
theorem info_byte : (Tryz.prog.info? 5).map (fun i => (i.zero, i.size, i.bytes)) = some (some (.int .u8 0), 1, 1) := by kernel_rfl
theorem cells_byte : Tryz.prog.cellsOf 5 = 1 := by kernel_rfl
def WrAt (B b : Nat) (sp p : Value) (bs : List Value) (w : World) : Prop := B <= b /\ ∃ v, Blk w b 126 #[sp, p, v] /\ w.ownsRow B 5 1 v bs.length bs /\ v.ownBlock ≠ some b
def IsWr (B b : Nat) (sp : Value) (bs : List Value) (w : World) : Prop := WrAt B b sp (.pointer none) bs w ∨ WrAt B b sp (.pointer (some ⟨b, 1, none⟩)) bs w
theorem WrAt.below {B b : Nat} {sp p : Value} {bs : List Value} {w w' : World} (h : WrAt B b sp p bs w) (hb : Below w.heap.size w w') : WrAt B b sp p bs w' := by
 obtain ⟨h1, v, h2, h3, h4⟩ := h
 exact ⟨h1, v, Blk.of_heap (hb.block _ h2.lt) h2, own_below h3 hb, h4⟩
theorem own_ne {w : World} {B : Nat} {v : Value} {n : Nat} {xs : List Value} {b : Nat} {cs : Array Value} (h : w.ownsRow B 5 1 v n xs) (hb : Blk w b 126 cs) : v.ownBlock ≠ some b := Lib.ownBlock_ne h hb (by decide)
theorem WrAt.put {B b : Nat} {sp p v v' : Value} {bs' : List Value} {w : World} (hB : B <= b) (hb : Blk w b 126 #[sp, p, v]) (hown : w.ownsRow B 5 1 v' bs'.length bs') : WrAt B b sp p bs' (w.setCell ⟨b, 2, none⟩ v') := by
 have hne := own_ne hown hb
 refine ⟨hB, v', hb.set_ 2 v', ?_, hne⟩
 exact hown.kept (row := some b) ⟨rfl, rfl, rfl, by simp [World.setCell], fun k _ hk => Below.heap_setCell _ _ _ _ (fun e => hk (by simp [e]))⟩ (Or.inr hne)
set_option maxRecDepth 100000 in
theorem fcopy {B b : Nat} {sp : Value} {bs : List Value} {w : World} (h : IsWr B b sp bs w) :
  Calls Tryz.prog 100 #[.pointer (some ⟨b, 1, none⟩)] w fun e w' => e = .returned (.tuple #[]) /\ WrAt B b sp (.pointer (some ⟨b, 1, none⟩)) bs w' /\ Below B w w' := by
 obtain ⟨j, hj, hjs⟩ := Option.map_eq_some_iff.1 size_builder
 rcases h with h | h
 ·have HH := lhi h
  obtain ⟨hB, v, hbk, hown, hne⟩ := h
  have c1 : w.cell? ⟨b, 1, none⟩ = some (.pointer none) := hbk.cell 1
  have f1 := hbk.frozen 1
  have hsh : w.shape? b = some (126, 3) := by
   have : w.heap[b]? = _ := hbk
   simp [World.shape?, this]
  clear hbk hown hne
  go_enter Tryz.func100, Tryz.ntmps100
  go_wp2_with (fail)
  rw [Lib.run_to_unsafe w ⟨b, 1, none⟩ Tryz.underlying122 Tryz.underlying230 hj (by rw [hjs]; decide) hsh (by show 1 < 3; decide)]
  simp only [Result.andThen]
  rw [Oper.upon_value]
  go_wp2_with (fail)
  rw [run_callFunc_extern Tryz.func141 (by kernel_rfl) (by kernel_rfl) (by kernel_rfl) (e := Extern.AbiNoEscape.same) (by kernel_rfl)]
  rw [Lib.run_noEscape]
  simp only [Result.andThen]
  rw [Oper.upon_value]
  go_wp2_with (fail)
  rw [Lib.run_from_unsafe w ⟨b, 1, none⟩ Tryz.underlying230 Tryz.underlying122 hj hsh lies_builder]
  simp only [Result.andThen]
  rw [Oper.upon_value]
  go_wp2_with (fail)
  go_end0
  obtain ⟨hB, v, hbk, hown, hne⟩ := HH.out
  refine ⟨rfl, ⟨hB, v, hbk.set_ 1 _, ?_, hne⟩, (Below.refl B w).setCell (p := ⟨b, 1, none⟩) hB _⟩
  exact hown.kept (row := some b) ⟨rfl, rfl, rfl, by simp [World.setCell], fun k _ hk => Below.heap_setCell _ _ _ _ (fun e => hk (by simp [e]))⟩ (Or.inr hne)
 ·obtain ⟨hB, v, hbk, hown, hne⟩ := h
  have HH := lhi (show WrAt B b sp (.pointer (some ⟨b, 1, none⟩)) bs w from ⟨hB, v, hbk, hown, hne⟩)
  have c1 : w.cell? ⟨b, 1, none⟩ = some (.pointer (some ⟨b, 1, none⟩)) := hbk.cell 1
  clear hbk hown hne
  go_enter Tryz.func100, Tryz.ntmps100
  go_wp2_with (fail)
  rw [Lib.run_neq_ptr_same w _ Tryz.underlying122 hj]
  go_wp2_with (fail)
  go_end0
  exact ⟨rfl, HH.out, Below.refl B _⟩
end
section
open Go.RowKit
set_option maxHeartbeats 2000000
theorem one_new {w : World} {t : TypeId} {x u : Value} {j : Nat} (hj : [x][j]? = some u) : (w.alloc (.cells #[x] t)).cell? ((⟨w.heap.size, 0, none⟩ : Addr).add j) = some u := by
 match j, hj with
 | 0, hj => simp at hj; subst hj; simp [Addr.add]
set_option maxRecDepth 100000 in
theorem fwriteS {B b : Nat} {sp : Value} {bs : List Value} {w : World} (h : IsWr B b sp bs w) (s : ByteArray) (hlen : bs.length + s.size <= 140737488355328) (hBw : B <= w.heap.size) :
  Calls Tryz.prog 59 #[.pointer (some ⟨b, 1, none⟩), .string s] w fun e w' => e = .returned (.tuple #[.int .i64 s.size, .nilIface]) /\ WrAt B b sp (.pointer (some ⟨b, 1, none⟩)) (bs ++ Lib.strCells s) w' /\ Below B w w' := by
 obtain ⟨i0, hi, hz0, hz1, hz2⟩ := info_parts info_byte
 have HH := lhi h
 clear h
 go_enter Tryz.func59, Tryz.ntmps59
 go_wp2_with (first
  | (go_at_call 100; refine (fcopy HH.out).mono ?_; rintro e w1 ⟨rfl, h1, hb1⟩; have H1 := lhi h1; have HB1 := lhi hb1; obtain ⟨hB, v, hbk, hown, hne⟩ := h1; have HOW := lhi hown; have HBK := lhi hbk; have HNE := lhi hne; have c2 : w1.cell? ⟨b, 2, none⟩ = some v := hbk.cell 2; clear hb1 hbk hown hne)
  | (at_builtin; refine Lib.wpList_append_own_string _ rfl _ _ 63 9 rfl B 5 i0 Tryz.underlying63 Tryz.underlying9 hi hz0 hz1 hz2 _ _ _ rfl HOW.out s rfl (by unfold maxLen; omega) (by omega) (by have := HB1.out.size; omega) ?_; intro v' w2 hown' hgrow hz; have hb2 : Blk w2 b 126 #[sp, .pointer (some ⟨b, 1, none⟩), v] := Blk.of_heap (hgrow.block b HBK.out.lt (fun e => HNE.out e.symm)) HBK.out; have HB2 := lhi hb2; have HO2 := lhi hown'; have HG2 := lhi hgrow; have d2 : w2.cell? ⟨b, 2, none⟩ = some v := hb2.cell 2; have f2 : w2.frozen? ⟨b, 2, none⟩ = false := hb2.frozen 2; obtain ⟨ao, n', cap, rfl⟩ : ∃ ao n' cap, v' = .slice ao n' cap := (by rcases hown'.2 with ⟨hv, _⟩ | ⟨g, cap, cur, hv, _⟩; exact ⟨_, _, _, hv⟩; exact ⟨_, _, _, hv⟩); clear hb2 hown' hgrow hz c2))
 go_ret2
 refine ⟨rfl, ?_, ?_⟩
 ·exact WrAt.put H1.out.1 HB2.out (by simpa [Lib.strCells_length] using HO2.out)
 ·exact (HB1.out.grown HG2.out (by have := HB1.out.size; omega) (fun k hk => (HOW.out.lt k hk).1)).setCell (p := ⟨b, 2, none⟩) H1.out.1 _
set_option maxRecDepth 100000 in
theorem fwriteB {B b : Nat} {sp : Value} {bs : List Value} {w : World} (h : IsWr B b sp bs w) (c : Int) (hlen : bs.length + 1 <= 140737488355328) (hBw : B <= w.heap.size) :
  Calls Tryz.prog 58 #[.pointer (some ⟨b, 1, none⟩), .int .u8 c] w fun e w' => e = .returned .nilIface /\ WrAt B b sp (.pointer (some ⟨b, 1, none⟩)) (bs ++ [.int .u8 c]) w' /\ Below B w w' := by
 obtain ⟨i0, hi, hz0, hz1, hz2⟩ := info_parts info_byte
 have HH := lhi h
 clear h
 go_enter Tryz.func58, Tryz.ntmps58
 go_wp2_with (first
  | (go_at_call 100; refine (fcopy HH.out).mono ?_; rintro e w1 ⟨rfl, h1, hb1⟩; have H1 := lhi h1; have HB1 := lhi hb1; obtain ⟨hB, v, hbk, hown, hne⟩ := h1; have HOW := lhi hown; have HBK := lhi hbk; have HNE := lhi hne; have c2 : w1.cell? ⟨b, 2, none⟩ = some v := hbk.cell 2; clear hb1 hbk hown hne)
  | (at_builtin; refine wpList_append_own _ rfl _ _ 63 rfl B 5 i0 (.int .u8 0) 1 1 Tryz.underlying63 hi hz0 hz1 hz2 rfl (by decide) _ _ _ rfl (HOW.out.alloc _) ⟨w1.heap.size, 0, none⟩ 1 1 [.int .u8 c] rfl rfl (fun j u hj => one_new (w := w1) hj) (by intro u hu; simp at hu; subst hu; rfl) (by unfold maxLen; omega) (by omega) (by have := HB1.out.size; simp; omega) ?_; intro v' w2 hown' hgrow hz; have hb2 : Blk w2 b 126 #[sp, .pointer (some ⟨b, 1, none⟩), v] := Blk.of_heap (hgrow.block b (by have := HBK.out.lt; simp; omega) (fun e => HNE.out e.symm)) (HBK.out.alloc _); have HB2 := lhi hb2; have HO2 := lhi hown'; have HG2 := lhi hgrow; have d2 : w2.cell? ⟨b, 2, none⟩ = some v := hb2.cell 2; have f2 : w2.frozen? ⟨b, 2, none⟩ = false := hb2.frozen 2; obtain ⟨ao, n', cap, rfl⟩ : ∃ ao n' cap, v' = .slice ao n' cap := (by rcases hown'.2 with ⟨hv, _⟩ | ⟨g, cap, cur, hv, _⟩; exact ⟨_, _, _, hv⟩; exact ⟨_, _, _, hv⟩); clear hb2 hown' hgrow hz c2))
 go_ret
 refine ⟨rfl, ?_, ?_⟩
 ·exact WrAt.put H1.out.1 HB2.out (by simpa using HO2.out)
 ·exact ((HB1.out.alloc (by have := HB1.out.size; omega) _).grown HG2.out (by have := HB1.out.size; simp; omega) (fun k hk => (HOW.out.lt k hk).1)).setCell (p := ⟨b, 2, none⟩) H1.out.1 _
set_option maxRecDepth 100000 in
theorem fstring {B b : Nat} {sp p : Value} {l : List UInt8} {w : World} (h : WrAt B b sp p (Lib.byteCells l) w) (h0 : l ≠ []) :
  Calls Tryz.prog 60 #[.pointer (some ⟨b, 1, none⟩)] w fun e w' => e = .returned (.string ⟨l.toArray⟩) /\ Below B w w' := by
 obtain ⟨hB, v, hbk, hown, hne⟩ := h
 have hl0 : l.length ≠ 0 := by simpa using h0
 rw [Lib.byteCells_length] at hown
 obtain ⟨g, cap, cur, rfl, hbg, hg, hnc, hcm, hcs, htake⟩ : ∃ g cap cur, v = .slice (some ⟨g, 0, none⟩) l.length cap /\ B <= g /\ w.heap[g]? = some (.cells cur 5 (0, 0)) /\ l.length <= cap /\ cap <= maxLen /\ cur.size = cap * 1 /\ cur.toList.take (l.length * 1) = Lib.byteCells l := by
  rcases hown.2 with ⟨_, hz⟩ | ⟨g, cap, cur, hv, r⟩
  ·exact absurd hz hl0
  ·exact ⟨g, cap, cur, hv, r⟩
 have c1 : w.drew.cell? ⟨b, 2, none⟩ = some (.slice (some ⟨g, 0, none⟩) l.length cap) := hbk.cell 2
 have hSD : (Builtin.unsafeSliceData_ #[63] 194 #[.slice (some ⟨g, 0, none⟩) l.length cap]).run Tryz.prog w.drew = .ok (.pointer (some ⟨g, 0, none⟩)) w.drew :=
  Lib.run_unsafeSliceData_row _ _ _ _ _ _ (by omega)
 have hUS : (Builtin.unsafeString_ #[194, 3] 9 #[.pointer (some ⟨g, 0, none⟩), .int .i64 l.length]).run Tryz.prog w.drew = .ok (.string ⟨l.toArray⟩) (w.drew.freeze ⟨g, 0, none⟩ l.length) := by
  refine Lib.run_unsafeString_row w.drew 194 3 9 5 Tryz.underlying194 cells_byte g cur.size (by have hg' : w.drew.heap[g]? = some (.cells cur 5 (0, 0)) := hg; simp [World.shape?, hg']) l h0 (by omega) (by unfold maxLen at hcm; omega) ?_
  intro j x hx
  have := hown.cells (g := g) rfl j (.int .u8 x.toNat) (by simp [Lib.byteCells, hx])
  exact this
 have HBG := lhi hbg
 clear hbk hown hne hg htake hcs
 go_enter Tryz.func60, Tryz.ntmps60
 go_upto_region 1 with (fail)
 go_region
 all_goals
  go_wp2_with (fail)
  go_ret
  exact ⟨rfl, Lib.below_freeze (Below.drew (Below.refl B w)) (p := ⟨g, 0, none⟩) HBG.out _⟩
end
section
open Go.RowKit
set_option maxHeartbeats 2000000
def lineS (xs : List ByteArray) : ByteArray := ⟨(Lib.join (xs.map (·.data.toList)) [32]).toArray⟩ ++ ⟨#[10]⟩
set_option maxRecDepth 100000 in
theorem line_calls {B b : Nat} {sp : Value} {bs : List Value} {w : World} (h : IsWr B b sp bs w) {q n c : Nat} (xs : List ByteArray) (hn : xs.length = n) (hcells : ∀ (j : Nat) x, xs[j]? = some x -> w.cell? ⟨q, 0 + j, none⟩ = some (.string x)) (hq : q < w.heap.size) (hc : n <= c) (hN : n <= 1000)
  (hlen : (Lib.join (xs.map (·.data.toList)) [32]).length <= 100000) {S : ByteArray} (hS : lineS xs = S) (hSl : bs.length + S.size <= 1000000) (hBw : B <= w.heap.size) :
  Calls Tryz.prog 55 #[.pointer (some ⟨b, 0, none⟩), .slice (some ⟨q, 0, none⟩) n c] w fun e w' => e = .returned (.tuple #[]) /\ WrAt B b sp (.pointer (some ⟨b, 1, none⟩)) (bs ++ Lib.strCells S) w' /\ Below B w w' := by
 subst hn
 have HJ := lhi (show Calls Tryz.prog 98 #[.slice (some ⟨q, 0, none⟩) xs.length c, .string ⟨#[32]⟩] w.drew fun e w' => e = .returned (.string ⟨(Lib.join (xs.map (·.data.toList)) [32]).toArray⟩) /\ Below w.drew.heap.size w.drew w' from Tryz.strings_Join q 0 c xs ⟨#[32]⟩ w.drew hcells hq (by omega) hc (by exact Nat.le_trans hlen (by decide)))
 have HW := lhi (show ∀ W, Below w.heap.size w W -> Calls Tryz.prog 59 #[.pointer (some ⟨b, 1, none⟩), .string S] W fun e w' => e = .returned (.tuple #[.int .i64 S.size, .nilIface]) /\ WrAt B b sp (.pointer (some ⟨b, 1, none⟩)) (bs ++ Lib.strCells S) w' /\ Below B W w' from fun W hW => by
  have h' : IsWr B b sp bs W := by
   rcases h with h | h
   ·exact .inl (h.below hW)
   ·exact .inr (h.below hW)
  exact fwriteS h' S (by omega) (by have := hW.size; omega))
 have HSS := lhi hS
 have HBW := lhi hBw
 obtain ⟨n, hn⟩ : ∃ n, xs.length = n := ⟨_, rfl⟩
 rw [hn] at HJ ⊢
 clear hcells h hS hn
 go_enter Tryz.func55, Tryz.ntmps55
 go_region_with (first
  | (go_at_call 98; refine HJ.out.mono ?_; rintro e w1 ⟨rfl, hb1⟩; have HB1 := lhi hb1; clear hb1)
  | (go_at_call 59; first | (refine (HSS.out ▸ HW.out _ ((Below.drew (Below.refl _ w)).trans HB1.out)).mono ?_; rintro e w2 ⟨rfl, h2, hb2⟩; have H2 := lhi h2; have HB2 := lhi hb2; clear h2 hb2) | trace_state))
 all_goals
  go_wp2_with (fail)
  go_end0
  exact ⟨rfl, HSS.out ▸ H2.out, ((Below.drew (Below.refl B w)).trans (HB1.out.mono HBW.out)).trans HB2.out⟩
end
section
open Go.RowKit
set_option maxHeartbeats 2000000
structure RootS (w : World) (g off : Nat) (eA : Option Addr) (ecap : Nat) : Prop where
 c0 : w.cell? ⟨g, off, none⟩ = some (.int .i64 1)
 c1 : w.cell? ⟨g, off + 1, none⟩ = some (.bool true)
 c2 : w.cell? ⟨g, off + 2, none⟩ = some (.slice eA 0 ecap)
 c3 : w.cell? ⟨g, off + 3, none⟩ = some (.string ⟨#[]⟩)
theorem RootS.below {w w' : World} {g off : Nat} {eA : Option Addr} {ecap : Nat} (h : RootS w g off eA ecap) {B : Nat} (hb : Below B w w') (hg : g < B) : RootS w' g off eA ecap := by
 exact ⟨(hb.cell (p := ⟨g, off, none⟩) hg).trans h.c0, (hb.cell (p := ⟨g, off + 1, none⟩) hg).trans h.c1, (hb.cell (p := ⟨g, off + 2, none⟩) hg).trans h.c2, (hb.cell (p := ⟨g, off + 3, none⟩) hg).trans h.c3⟩
theorem RootS.lt {w : World} {g off : Nat} {eA : Option Addr} {ecap : Nat} (h : RootS w g off eA ecap) : g < w.heap.size := World.block_lt_of_cell? _ _ h.c0
set_option maxRecDepth 1000000 in
theorem inodec_calls {eA : Option Addr} {ecap p : Nat} {w : World} (hp : w.cell? ⟨p, 0, none⟩ = some (.int .i64 1)) : Calls Tryz.prog 185 #[.agg #[.int .i64 1, .bool true, .slice eA 0 ecap, .string ⟨#[]⟩], .pointer (some ⟨p, 0, none⟩)] w fun e w' => e = .returned (.bool true) /\ Below w.heap.size w w' := by
 have hl := World.block_lt_of_cell? w _ hp
 have HB := lhi (below_alloc w (.cells #[.int .i64 1, .bool true, .slice eA 0 ecap, .string ⟨#[]⟩] 72))
 go_enter Tryz.func185, Tryz.ntmps185
 go_wp2_with (fail)
 go_ret
 exact ⟨rfl, HB.out⟩
set_option maxRecDepth 1000000 in
theorem inodeIdx_calls {w : World} {g off icap p : Nat} {eA : Option Addr} {ecap : Nat} (h : RootS w g off eA ecap) (hp : w.cell? ⟨p, 0, none⟩ = some (.int .i64 1)) :
  Calls Tryz.prog 184 #[.slice (some ⟨g, off, none⟩) 1 icap, .func (.func 185) #[] #[.pointer (some ⟨p, 0, none⟩)]] w fun e w' => e = .returned (.int .i64 0) /\ Below w.heap.size w w' := by
 have HC := lhi (inodec_calls (eA := eA) (ecap := ecap) hp)
 obtain ⟨c0, c1, c2, c3⟩ := h
 go_enter Tryz.func184, Tryz.ntmps184
 go_wp2_with (fail)
 go_loopw [8] (fun i wr => i = .int .i64 0 /\ wr = w) (fun _ _ => 0)
 case atStart => exact ⟨rfl, rfl⟩
 case round =>
  obtain ⟨rfl, rfl⟩ := hrel
  go_wp2_with (go_at_call 185; refine HC.out.mono ?_; rintro e w1 ⟨rfl, hb1⟩; have HB1 := lhi hb1; clear hb1)
  go_ret
  exact ⟨rfl, HB1.out⟩
set_option maxRecDepth 1000000 in
theorem inode_calls {w : World} {g off icap : Nat} {eA : Option Addr} {ecap wb sb : Nat} (h : RootS w g off eA ecap) (hw : w.cell? ⟨wb, 0, none⟩ = some (.pointer (some ⟨sb, 0, none⟩))) (hs : w.cell? ⟨sb, 0, none⟩ = some (.slice (some ⟨g, off, none⟩) 1 icap)) :
  Calls Tryz.prog 138 #[.pointer (some ⟨wb, 0, none⟩), .int .i64 1] w fun e w' => e = .returned (.pointer (some ⟨g, off, none⟩)) /\ Below w.heap.size w w' := by
 obtain ⟨q, hq⟩ : ∃ q, q = w.heap.size := ⟨_, rfl⟩
 have hwl := World.block_lt_of_cell? w _ hw
 have hsl := World.block_lt_of_cell? w _ hs
 have hgl := h.lt
 obtain ⟨w0, hw0⟩ : ∃ x, x = w.alloc (.cells #[.int .i64 1] 3) := ⟨_, rfl⟩
 have HB0 := lhi (show Below w.heap.size w w0 by rw [hw0]; exact below_alloc _ _)
 have HR := lhi (h.below HB0.out hgl)
 have z0 : w0.cell? ⟨wb, 0, none⟩ = some (.pointer (some ⟨sb, 0, none⟩)) := (HB0.out.cell (p := ⟨wb, 0, none⟩) hwl).trans hw
 have z1 : w0.cell? ⟨sb, 0, none⟩ = some (.slice (some ⟨g, off, none⟩) 1 icap) := (HB0.out.cell (p := ⟨sb, 0, none⟩) hsl).trans hs
 have z2 : w0.cell? ⟨q, 0, none⟩ = some (.int .i64 1) := by rw [hw0, hq]; simp [go_sem]
 have HC := lhi (inodeIdx_calls (icap := icap) HR.out z2)
 have HZ := lhi (show wb < w0.heap.size /\ sb < w0.heap.size from ⟨Nat.lt_of_lt_of_le hwl HB0.out.size, Nat.lt_of_lt_of_le hsl HB0.out.size⟩)
 have hmf : ∀ (fn : Fn) (first cap : Array Value) (w : World), (Instr.makeFunc fn first cap).run Tryz.prog w = .ok (.func fn first cap) w := fun _ _ _ _ => rfl
 clear h hw hs z2 hwl hsl hgl
 go_enter Tryz.func138, Tryz.ntmps138
 go_upto_region 1 with (fail)
 rw [<- hq, <- hw0]
 clear hq hw0
 go_wp2_with (go_at_call 184; refine HC.out.mono ?_; rintro e w1 ⟨rfl, hb1⟩; have HB1 := lhi hb1; have y0 : w1.cell? ⟨wb, 0, none⟩ = some (.pointer (some ⟨sb, 0, none⟩)) := (hb1.cell (p := ⟨wb, 0, none⟩) HZ.out.1).trans z0; have y1 : w1.cell? ⟨sb, 0, none⟩ = some (.slice (some ⟨g, off, none⟩) 1 icap) := (hb1.cell (p := ⟨sb, 0, none⟩) HZ.out.2).trans z1; clear hb1 z0 z1)
 go_ret
 exact ⟨rfl, HB0.out.trans (HB1.out.mono HB0.out.size)⟩
end
section
open Go.RowKit
set_option maxHeartbeats 2000000
def rootLine : ByteArray := ⟨#[100, 32, 47, 32, 49, 10]⟩
theorem root_line : lineS [⟨#[100]⟩, ⟨#[47]⟩, ⟨#[49]⟩] = rootLine := by kernel_rfl
theorem dec_one : (⟨(Lib.decDigits 1).toArray⟩ : ByteArray) = ⟨#[49]⟩ := by kernel_rfl
theorem IsWr.below {B b : Nat} {sp : Value} {bs : List Value} {w w' : World} (h : IsWr B b sp bs w) (hb : Below w.heap.size w w') : IsWr B b sp bs w' := by
 rcases h with h | h
 ·exact .inl (h.below hb)
 ·exact .inr (h.below hb)
theorem IsWr.cell0 {B b : Nat} {sp : Value} {bs : List Value} {w : World} (h : IsWr B b sp bs w) : w.cell? ⟨b, 0, none⟩ = some sp := by
 rcases h with ⟨_, v, h, _⟩ | ⟨_, v, h, _⟩ <;> exact h.cell 0
set_option maxRecDepth 1000000 in
theorem walk_root {w : World} {B b g off icap ecap sb : Nat} {eA : Option Addr} (hw : IsWr B b (.pointer (some ⟨sb, 0, none⟩)) [] w) (h : RootS w g off eA ecap) (hs : w.cell? ⟨sb, 0, none⟩ = some (.slice (some ⟨g, off, none⟩) 1 icap)) (hg : g < B) (hB : B <= w.heap.size) :
  Calls Tryz.prog 97 #[.pointer (some ⟨b, 0, none⟩), .int .i64 1, .string ⟨#[]⟩] w fun e w' => e = .returned (.tuple #[]) /\ WrAt B b (.pointer (some ⟨sb, 0, none⟩)) (.pointer (some ⟨b, 1, none⟩)) (Lib.strCells rootLine) w' /\ Below B w w' := by
 have HIN := lhi (inode_calls h hw.cell0 hs)
 have HIT := lhi (fun W => by have := Tryz.strconv_Itoa_small 1 (by decide) W; rw [dec_one] at this; exact this)
 have HW := lhi hw
 have HR := lhi h
 have HG := lhi hg
 have HB := lhi hB
 clear hw h hs
 go_enter Tryz.func97, Tryz.ntmps97
 go_upto_region 4 with (go_at_call 138; refine HIN.out.mono ?_; rintro e w1 ⟨rfl, hb1⟩; have HB1 := lhi hb1; clear hb1)
 have HR1 := lhi (HR.out.below (HB1.out.mono (Nat.le_refl _)) HR.out.lt)
 have c1 : w1.cell? ⟨g, off + 1, none⟩ = some (.bool true) := HR1.out.c1
 have c2 : w1.cell? ⟨g, off + 2, none⟩ = some (.slice eA 0 ecap) := HR1.out.c2
 have hsz := HB1.out.size
 have HW2 := lhi ((HW.out.below HB1.out).below (below_alloc w1 (.cells #[.string ⟨#[100]⟩, .string ⟨#[47]⟩, .string ⟨#[49]⟩] 9)))
 have HBK := lhi (Blk.new w1 9 #[.string ⟨#[100]⟩, .string ⟨#[47]⟩, .string ⟨#[49]⟩])
 have HLN := lhi (line_calls HW2.out (q := w1.heap.size) (n := 3) (c := 3) [⟨#[100]⟩, ⟨#[47]⟩, ⟨#[49]⟩] rfl (fun j x hj => by
  rw [Nat.zero_add, HBK.out.cell]
  match j, hj with
  | 0, hj => simp at hj; subst hj; rfl
  | 1, hj => simp at hj; subst hj; rfl
  | 2, hj => simp at hj; subst hj; rfl) (by simp) (by omega) (by omega) (by decide) root_line (by decide) (by simp; omega))
 have HBA := lhi ((HB1.out.mono HB.out).trans ((below_alloc w1 (.cells #[.string ⟨#[100]⟩, .string ⟨#[47]⟩, .string ⟨#[49]⟩] 9)).mono (by omega)))
 clear hsz
 go_upto_region 7 with (first
  | (go_at_call 56; refine (HIT.out _).mono ?_; rintro e w' ⟨rfl, hww⟩; obtain rfl : w1 = w' := hww.symm)
  | (go_at_call 55; refine HLN.out.mono ?_; rintro e w2 ⟨rfl, h2, hb2⟩; have H2 := lhi h2; have HB2 := lhi hb2; clear h2 hb2 c1 c2))
 have hsz := HB1.out.size
 have HR2 := lhi ((HR1.out.below (below_alloc w1 (.cells #[.string ⟨#[100]⟩, .string ⟨#[47]⟩, .string ⟨#[49]⟩] 9)) HR1.out.lt).below HB2.out HG.out)
 have c2 : w2.cell? ⟨g, off + 2, none⟩ = some (.slice eA 0 ecap) := HR2.out.c2
 go_wp2_with (fail)
 go_loopw [43] (fun i wr => i = .int .i64 0 /\ wr = w2) (fun _ _ => 0)
 case atStart => exact ⟨rfl, rfl⟩
 case round =>
  obtain ⟨rfl, rfl⟩ := hrel
  go_wp2_with (fail)
  go_end0
  exact ⟨rfl, by simpa using H2.out, HBA.out.trans HB2.out⟩
end
section
open Go.RowKit
set_option maxHeartbeats 2000000
set_option maxRecDepth 1000000 in
theorem files_calls {w : World} {iv ov mv : Value} {ev : Nat -> Value} {S : St} (hS : StM w iv ov mv ev S) (hI : Inv S) {g off icap ecap : Nat} {eA : Option Addr} (hi : iv = .slice (some ⟨g, off, none⟩) 1 icap) (h : RootS w g off eA ecap) :
  Calls Tryz.prog 53 #[.agg #[iv, ov, mv]] w fun e w' => e = .returned (.tuple #[.string rootLine, .int .i64 0]) /\ Below w.heap.size w w' := by
 subst hi
 obtain ⟨OA, ocap, rfl, -⟩ := hS.opn
 obtain ⟨MA, mcap, rfl, -⟩ := hS.mad
 obtain ⟨no, hno⟩ : ∃ n, S.opens.length = n := ⟨_, rfl⟩
 obtain ⟨nm, hnm⟩ : ∃ n, S.made.length = n := ⟨_, rfl⟩
 obtain ⟨sb, hsb⟩ : ∃ x, x = w.heap.size := ⟨_, rfl⟩
 rw [hno, hnm] at hS ⊢
 obtain ⟨w1, hw1⟩ : ∃ x, x = w.alloc (.cells #[.slice (some ⟨g, off, none⟩) 1 icap, .slice OA no ocap, .slice MA nm mcap] 32) := ⟨_, rfl⟩
 have HB1 := lhi (show Below w.heap.size w w1 by rw [hw1]; exact below_alloc _ _)
 have HX1 := lhi (show Blk w1 sb 32 #[.slice (some ⟨g, off, none⟩) 1 icap, .slice OA no ocap, .slice MA nm mcap] by rw [hw1, hsb]; exact Blk.new _ _ _)
 have HMY := lhi (May_yes (hS.keep HB1.out) hI)
 have HR1 := lhi (h.below HB1.out h.lt)
 have s0 : w1.cell? ⟨sb, 0, none⟩ = some (.slice (some ⟨g, off, none⟩) 1 icap) := HX1.out.cell 0
 have s1 : w1.cell? ⟨sb, 1, none⟩ = some (.slice OA no ocap) := HX1.out.cell 1
 have s2 : w1.cell? ⟨sb, 2, none⟩ = some (.slice MA nm mcap) := HX1.out.cell 2
 clear hS hI h
 go_enter Tryz.func53, Tryz.ntmps53
 go_upto_region 1 with (fail)
 rw [<- hsb, <- hw1]
 have HSB := lhi hsb
 clear hsb hw1
 go_upto_region 4 with (go_at_call 12; refine HMY.out.mono ?_; rintro e w2 ⟨rfl, hb2⟩; have HB2 := lhi hb2; clear hb2 s0 s1 s2)
 have HR2 := lhi (HR1.out.below HB2.out HR1.out.lt)
 have HX2 := lhi (Blk.of_heap (HB2.out.block _ HX1.out.lt) HX1.out)
 obtain ⟨b, hb⟩ : ∃ x, x = w2.heap.size := ⟨_, rfl⟩
 obtain ⟨w3, hw3⟩ : ∃ x, x = w2.alloc (.cells #[.pointer (some ⟨sb, 0, none⟩), .pointer none, .slice none 0 0] 126) := ⟨_, rfl⟩
 have HB3 := lhi (show Below b w2 w3 by rw [hw3, hb]; exact below_alloc _ _)
 have hsz3 : b <= w3.heap.size := by rw [hw3, hb]; simp
 have HW3 := lhi (show IsWr b b (.pointer (some ⟨sb, 0, none⟩)) [] w3 by
  refine .inl ⟨Nat.le_refl _, .slice none 0 0, ?_, World.ownsRow_nil _ _ _ _, by simp [Value.ownBlock]⟩
  rw [hw3, hb]; exact Blk.new _ _ _)
 have HR3 := lhi (HR2.out.below (hb ▸ HB3.out) (hb ▸ HR2.out.lt))
 have HX3 := lhi (Blk.of_heap (HB3.out.block _ (hb ▸ HX2.out.lt)) HX2.out)
 have HWK := lhi (walk_root (icap := icap) HW3.out HR3.out (HX3.out.cell 0) (by rw [hb]; exact HR2.out.lt) hsz3)
 rw [<- hb, <- hw3]
 have HBB := lhi hb
 clear hb hw3 hsz3
 go_upto_region 5 with (go_at_call 97; refine HWK.out.mono ?_; rintro e w4 ⟨rfl, h4, hb4⟩; have H4 := lhi h4; have HB4 := lhi hb4; clear h4 hb4)
 have HST := lhi (fstring (show WrAt b b _ _ (Lib.byteCells rootLine.data.toList) w4 from H4.out) (by decide))
 go_wp2_with (go_at_call 60; refine HST.out.mono ?_; rintro e w5 ⟨rfl, hb5⟩; have HB5 := lhi hb5; clear hb5)
 go_ret2
 have z1 := HB1.out.size
 have z2 := HB2.out.size
 have zb : w.heap.size <= b := by rw [HBB.out]; omega
 exact ⟨rfl, ((HB1.out.trans (HB2.out.mono z1)).trans (HB3.out.mono zb)).trans ((HB4.out.mono zb).trans (HB5.out.mono zb))⟩
end
section
open Go.RowKit
set_option maxHeartbeats 2000000
def madeD (S : St) (j : Nat) : List UInt8 := 32 :: Lib.decDigits (S.mad j).toNat
def madeT (S : St) (k : Nat) : List UInt8 := 109 :: (List.range k).flatMap (madeD S)
theorem madeT_succ (S : St) (k : Nat) : madeT S (k + 1) = madeT S k ++ madeD S k := by
 unfold madeT
 rw [List.range_succ, List.flatMap_append]; simp
theorem str_made (d : List UInt8) : Lib.strCells ((⟨#[32]⟩ : ByteArray) ++ ⟨d.toArray⟩) = Lib.byteCells (32 :: d) := by
 have e : ((⟨#[32]⟩ : ByteArray) ++ ⟨d.toArray⟩) = ⟨(32 :: d).toArray⟩ := by
  apply ByteArray.ext
  simp [ByteArray.data_append]
 rw [e]; rfl
theorem dec_len : ((List.range 33).all fun n => decide ((Lib.decDigits n).length <= 100)) = true := by kernel_rfl
theorem str_size (d : List UInt8) : ((⟨#[32]⟩ : ByteArray) ++ ⟨d.toArray⟩).size = 1 + d.length := by
 rw [ByteArray.size_append]
 show 1 + d.toArray.size = _
 rw [List.size_toArray]
def ofS (S : St) : ByteArray := rootLine ++ ⟨(madeT S S.made.length).toArray⟩ ++ ⟨#[10]⟩
set_option maxRecDepth 1000000 in
theorem of_calls {w : World} {iv ov mv : Value} {ev : Nat -> Value} {S : St} (hS : StM w iv ov mv ev S) (hI : Inv S) (ho : S.opens = []) {g off icap ecap : Nat} {eA : Option Addr} (hi : iv = .slice (some ⟨g, off, none⟩) 1 icap) (h : RootS w g off eA ecap) :
  Calls Tryz.prog 21 #[.agg #[iv, ov, mv]] w fun e w' => e = .returned (.tuple #[.string (ofS S), .int .i64 0]) /\ Below w.heap.size w w' := by
 have hm8 := hI.m8
 have HMB := lhi (show ∀ j, j < S.made.length -> 0 <= S.mad j /\ S.mad j <= 32 from fun j hj => hI.mb _ (getD_mem hj))
 obtain ⟨OA, ocap, rfl, -⟩ := hS.opn
 obtain ⟨MA, mcap, rfl, hmc, hmm⟩ := hS.mad
 have hno : S.opens.length = 0 := by rw [ho]; rfl
 obtain ⟨nm, hnm⟩ : ∃ n, S.made.length = n := ⟨_, rfl⟩
 have HOF := lhi (show ofS S = rootLine ++ ⟨(madeT S nm).toArray⟩ ++ ⟨#[10]⟩ by unfold ofS; rw [hnm])
 obtain ⟨sb, hsb⟩ : ∃ x, x = w.heap.size := ⟨_, rfl⟩
 rw [hno, hnm] at hS ⊢
 rw [hnm] at HMB hm8 hmm
 obtain ⟨w1, hw1⟩ : ∃ x, x = w.alloc (.cells #[iv, .slice OA 0 ocap, .slice MA nm mcap] 32) := ⟨_, rfl⟩
 have HB1 := lhi (show Below w.heap.size w w1 by rw [hw1]; exact below_alloc _ _)
 have HX1 := lhi (show Blk w1 sb 32 #[iv, .slice OA 0 ocap, .slice MA nm mcap] by rw [hw1, hsb]; exact Blk.new _ _ _)
 have HR1 := lhi (h.below HB1.out h.lt)
 have HFI := lhi (files_calls (hS.keep HB1.out) hI hi HR1.out)
 have HMM := lhi (show ∀ W, Below w.heap.size w W -> 0 < nm -> ∃ g off, MA = some ⟨g, off, none⟩ /\ ∀ k, k < nm -> W.cell? ⟨g, off + k, none⟩ = some (.int .i64 (S.mad k)) from fun W hW hn => by
  obtain ⟨q, o, e, hc⟩ := hmm hn
  refine ⟨q, o, e, fun k hk => ?_⟩
  have := hc k 0 hk (by omega)
  rw [Nat.mul_one, Nat.add_zero] at this
  exact (hW.cell (p := ⟨q, o + k, none⟩) (World.block_lt_of_cell? _ _ this)).trans this)
 subst hi
 have s0 : w1.cell? ⟨sb, 0, none⟩ = some (.slice (some ⟨g, off, none⟩) 1 icap) := HX1.out.cell 0
 have s1 : w1.cell? ⟨sb, 1, none⟩ = some (.slice OA 0 ocap) := HX1.out.cell 1
 have s2 : w1.cell? ⟨sb, 2, none⟩ = some (.slice MA nm mcap) := HX1.out.cell 2
 clear hS hI h hmm ho hno hnm
 go_enter Tryz.func21, Tryz.ntmps21
 go_upto_region 1 with (fail)
 rw [<- hsb, <- hw1]
 have HSB := lhi hsb
 clear hsb hw1
 go_upto_region 4 with (go_at_call 53; refine HFI.out.mono ?_; rintro e w2 ⟨rfl, hb2⟩; have HB2 := lhi hb2; clear hb2 s0 s1 s2)
 have HR2 := lhi (HR1.out.below HB2.out HR1.out.lt)
 have HX2 := lhi (Blk.of_heap (HB2.out.block _ HX1.out.lt) HX1.out)
 obtain ⟨b, hb⟩ : ∃ x, x = w2.heap.size := ⟨_, rfl⟩
 obtain ⟨w3, hw3⟩ : ∃ x, x = w2.alloc (.cells #[.pointer (some ⟨sb, 0, none⟩), .pointer none, .slice none 0 0] 126) := ⟨_, rfl⟩
 have HB3 := lhi (show Below b w2 w3 by rw [hw3, hb]; exact below_alloc _ _)
 have HS3 := lhi (show b <= w3.heap.size by rw [hw3, hb]; simp)
 have HW3 := lhi (show IsWr b b (.pointer (some ⟨sb, 0, none⟩)) [] w3 by
  refine .inl ⟨Nat.le_refl _, .slice none 0 0, ?_, World.ownsRow_nil _ _ _ _, by simp [Value.ownBlock]⟩
  rw [hw3, hb]; exact Blk.new _ _ _)
 have HR3 := lhi (HR2.out.below (hb ▸ HB3.out) (hb ▸ HR2.out.lt))
 have HX3 := lhi (Blk.of_heap (HB3.out.block _ (hb ▸ HX2.out.lt)) HX2.out)
 have HLB := lhi (show sb < b /\ g < b by rw [hb]; exact ⟨HX2.out.lt, HR2.out.lt⟩)
 have HZB := lhi (show w.heap.size <= b by rw [hb]; have := HB1.out.size; have := HB2.out.size; omega)
 have s0 : w3.cell? ⟨sb, 0, none⟩ = some (.slice (some ⟨g, off, none⟩) 1 icap) := HX3.out.cell 0
 have HBW3 := lhi (show Below w.heap.size w w3 from (HB1.out.trans (HB2.out.mono HB1.out.size)).trans (HB3.out.mono HZB.out))
 go_upto_region 5 with (fail)
 rw [<- hb, <- hw3]
 clear hb hw3
 go_wp2_with (fail)
 have HS0 := lhi s0
 go_loopw [26] (fun i wr => ∃ k : Nat, i = .int .i64 k /\ k <= 1 /\ Below w3.heap.size w3 wr) (fun i _ => 1 - (intOf i).toNat)
 case atStart => exact ⟨0, rfl, by omega, Below.refl _ _⟩
 case round =>
  obtain ⟨k, rfl, hk, hb⟩ := hrel
  have HB := lhi hb
  rcases (by omega : k = 0 ∨ k = 1) with rfl | rfl
  ·have HRr := lhi (HR3.out.below hb HR3.out.lt)
   have q0 : wr.cell? ⟨g, off, none⟩ = some (.int .i64 1) := HRr.out.c0
   have q1 : wr.cell? ⟨g, off + 1, none⟩ = some (.bool true) := HRr.out.c1
   have q2 : wr.cell? ⟨g, off + 2, none⟩ = some (.slice eA 0 ecap) := HRr.out.c2
   have q3 : wr.cell? ⟨g, off + 3, none⟩ = some (.string ⟨#[]⟩) := HRr.out.c3
   have HBA := lhi (hb.trans ((below_alloc wr (.cells #[.int .i64 1, .bool true, .slice eA 0 ecap, .string ⟨#[]⟩] 72)).mono hb.size))
   clear hb
   go_wp2_with (fail)
   go_roundw
   case rel => exact ⟨1, rfl, by omega, HBA.out⟩
   case measure =>
    simp only [intOf]
    omega
  ·have HX4 := lhi (Blk.of_heap (hb.block _ HX3.out.lt) HX3.out)
   have HW4 := lhi (HW3.out.below hb)
   have HS4 := lhi (show b <= wr.heap.size from Nat.le_trans HS3.out hb.size)
   have HBW4 := lhi (HBW3.out.trans (hb.mono HBW3.out.size))
   obtain ⟨w4, hw4⟩ : ∃ x : World, x = wr := ⟨_, rfl⟩
   subst hw4
   have s1 : w4.cell? ⟨sb, 1, none⟩ = some (.slice OA 0 ocap) := HX4.out.cell 1
   clear hb HB s0 HS0
   go_wp2_with (fail)
   go_loopw [53] (fun i wr => i = .int .i64 0 /\ wr = w4) (fun _ _ => 0)
   case atStart => exact ⟨rfl, rfl⟩
   case round =>
    obtain ⟨rfl, rfl⟩ := hrel
    have HWB := lhi (fwriteB HW4.out 109 (by simp) HS4.out)
    go_upto_region 17 with (go_at_call 58; refine HWB.out.mono ?_; rintro e w5 ⟨rfl, h5, hb5⟩; have H5 := lhi h5; have HB5 := lhi hb5; clear h5 hb5 s1)
    have HX5 := lhi (Blk.of_heap (HB5.out.block _ HLB.out.1) HX4.out)
    have s2 : w5.cell? ⟨sb, 2, none⟩ = some (.slice MA nm mcap) := HX5.out.cell 2
    have HBW5 := lhi (HBW4.out.trans (HB5.out.mono HZB.out))
    have HL5 := lhi (HB5.out.size)
    have HW5 := lhi (show WrAt b b (.pointer (some ⟨sb, 0, none⟩)) (.pointer (some ⟨b, 1, none⟩)) (Lib.byteCells (madeT S 0)) w5 from H5.out)
    clear H5 HB5
    go_wp2_with (fail)
    go_loopw [77] (fun i wr => ∃ k : Nat, i = .int .i64 k /\ k <= nm /\ (madeT S k).length <= 1 + 200 * k /\ WrAt b b (.pointer (some ⟨sb, 0, none⟩)) (.pointer (some ⟨b, 1, none⟩)) (Lib.byteCells (madeT S k)) wr /\ Below b w5 wr) (fun i _ => nm - (intOf i).toNat)
    case atStart => exact ⟨0, rfl, by omega, by simp [madeT], HW5.out, Below.refl _ _⟩
    case round =>
     obtain ⟨k, rfl, hk, hl, hw, hb⟩ := hrel
     have HWk := lhi hw
     have HBk := lhi hb
     have HLk := lhi (show b <= wr.heap.size by have := HL5.out; have := HS4.out; have := hb.size; omega)
     clear hw
     by_cases hq : k < nm
     ·obtain ⟨mg, mo, rfl, hcell⟩ := HMM.out wr (HBW5.out.trans (hb.mono HZB.out)) (by omega)
      have q0 : wr.cell? ⟨mg, mo + k, none⟩ = some (.int .i64 (S.mad k)) := hcell k hq
      have hq1 : (k : Int) < (nm : Int) := by omega
      have hmk := HMB.out k hq
      obtain ⟨d, hd⟩ : ∃ d, Lib.decDigits (S.mad k).toNat = d := ⟨_, rfl⟩
      have hdl : d.length <= 100 := by
       have := List.all_eq_true.1 dec_len (S.mad k).toNat (List.mem_range.2 (by omega))
       rw [<- hd]
       simpa using this
      have HSU := lhi (show Lib.byteCells (madeT S (k + 1)) = Lib.byteCells (madeT S k) ++ Lib.strCells ((⟨#[32]⟩ : ByteArray) ++ ⟨d.toArray⟩) by
       rw [str_made, madeT_succ]
       unfold madeD
       rw [hd]
       simp [Lib.byteCells])
      have HLN := lhi (show (madeT S (k + 1)).length <= 1 + 200 * (k + 1) by
       rw [madeT_succ, List.length_append]
       unfold madeD
       rw [hd, List.length_cons]
       omega)
      have HIT := lhi (show ∀ W, Calls Tryz.prog 56 #[.int .i64 (S.mad k)] W fun e w' => e = .returned (.string ⟨d.toArray⟩) /\ w' = W from fun W => by
       have := Tryz.strconv_Itoa_small (S.mad k).toNat (by omega) W
       rw [hd, Int.toNat_of_nonneg hmk.1] at this
       exact this)
      have HWS := lhi (show ∀ W, Below wr.heap.size wr W -> Calls Tryz.prog 59 #[.pointer (some ⟨b, 1, none⟩), .string ((⟨#[32]⟩ : ByteArray) ++ ⟨d.toArray⟩)] W fun e w' => e = .returned (.tuple #[.int .i64 ((⟨#[32]⟩ : ByteArray) ++ ⟨d.toArray⟩).size, .nilIface]) /\ WrAt b b (.pointer (some ⟨sb, 0, none⟩)) (.pointer (some ⟨b, 1, none⟩)) (Lib.byteCells (madeT S (k + 1))) w' /\ Below b W w' from fun W hW => by
       have := fwriteS (.inr (HWk.out.below hW)) ((⟨#[32]⟩ : ByteArray) ++ ⟨d.toArray⟩) (by
        rw [Lib.byteCells_length, str_size]
        omega) (by have := hW.size; have := HLk.out; omega)
       rw [<- HSU.out] at this
       exact this)
      have hz3 : ¬ 9223372036854775807 < 1 + d.length := by omega
      have hz4 : ¬ 9223372036854775807 < (⟨#[32]⟩ : ByteArray).size + d.length := hz3
      generalize S.mad k = mk at *
      clear hcell hb hd hl hmk hdl
      go_upto_region 20 with (fail)
      go_region_with (first
       | (go_at_call 56; refine (HIT.out _).mono ?_; rintro e w' ⟨rfl, hww⟩; obtain rfl : _ = w' := hww.symm)
       | (go_at_call 59; refine (HWS.out _ (Below.drew (Below.refl _ wr))).mono ?_; rintro e w6 ⟨rfl, h6, hb6⟩; have H6 := lhi h6; have HB6 := lhi hb6; clear h6 hb6))
      all_goals
       go_wp2_with (fail)
       go_roundw
       case rel => exact ⟨k + 1, by go_num, by omega, HLN.out, H6.out, HBk.out.trans ((Below.drew (Below.refl b wr)).trans HB6.out)⟩
       case measure =>
        simp only [intOf]
        omega
     ·have e : k = nm := by omega
      subst e
      have HST := lhi (fstring HWk.out (by simp [madeT]))
      have hr6 : rootLine.size = 6 := rfl
      have hl9 := hl
      clear hb
      go_wp2_with (go_at_call 60; refine HST.out.mono ?_; rintro e w6 ⟨rfl, hb6⟩; have HB6 := lhi hb6; clear hb6)
      all_goals try (exfalso; omega)
      (try simp only [Exit.inBlock, Exit.then])
      go_ret2
      exact ⟨by (rw [HOF.out]; rfl), HBW5.out.trans ((HBk.out.mono HZB.out).trans (HB6.out.mono HZB.out))⟩
end
section
open Go.RowKit
set_option maxHeartbeats 2000000
theorem root_of {w : World} {iv ov mv : Value} {ev : Nat -> Value} {S : St} (hS : StM w iv ov mv ev S) (hin : S.inodes = [⟨1, true, [], ⟨#[]⟩⟩]) :
  ∃ g off icap eA ecap, iv = .slice (some ⟨g, off, none⟩) 1 icap /\ RootS w g off eA ecap := by
 have h1 : S.inodes.length = 1 := by rw [hin]; rfl
 obtain ⟨A, icap, rfl, -, hc⟩ := hS.ino
 obtain ⟨g, off, rfl, hcc⟩ := hc (by omega)
 obtain ⟨eA, ecap, he, -⟩ := hS.ent 0 (by omega)
 have hne : S.ne 0 = 0 := by
  unfold St.ne St.ino
  rw [hin]; rfl
 rw [hne] at he
 have hnum : S.num 0 = 1 /\ S.dir 0 = true /\ S.dat 0 = ⟨#[]⟩ := by
  unfold St.num St.dir St.dat St.ino
  rw [hin]; exact ⟨rfl, rfl, rfl⟩
 have c0 := hcc 0 0 (by omega) (by omega)
 have c1 := hcc 0 1 (by omega) (by omega)
 have c2 := hcc 0 2 (by omega) (by omega)
 have c3 := hcc 0 3 (by omega) (by omega)
 simp only [Nat.zero_mul, Nat.zero_add, Nat.add_zero, inoC, hnum.1, hnum.2.1, hnum.2.2, he] at c0 c1 c2 c3
 exact ⟨g, off, icap, eA, ecap, by rw [h1], ⟨c0, c1, c2, c3⟩⟩
set_option maxRecDepth 1000000 in
theorem same_calls {w : World} {iv ov mv iv' ov' mv' : Value} {ev ev' : Nat -> Value} {S : St} (hS : StM w iv ov mv ev S) (hS' : StM w iv' ov' mv' ev' S) (hI : Inv S) (ho : S.opens = []) (hin : S.inodes = [⟨1, true, [], ⟨#[]⟩⟩]) :
  Calls Tryz.prog 10 #[.agg #[iv, ov, mv], .agg #[iv', ov', mv']] w fun e w' => e = .returned (.bool true) /\ Below w.heap.size w w' := by
 obtain ⟨w2, hw2⟩ : ∃ x, x = (w.alloc (.cells #[iv, ov, mv] 32)).alloc (.cells #[iv', ov', mv'] 32) := ⟨_, rfl⟩
 obtain ⟨p, hp⟩ : ∃ x, x = w.heap.size := ⟨_, rfl⟩
 have HP := lhi hp
 have HB2 := lhi (show Below w.heap.size w w2 by rw [hw2]; exact ((Below.refl _ _).alloc (Nat.le_refl _) _).alloc (by simp) _)
 have HX := lhi (show Blk w2 p 32 #[iv, ov, mv] by rw [hw2, hp]; exact (Blk.new _ _ _).alloc _)
 have HX' := lhi (show Blk w2 (p + 1) 32 #[iv', ov', mv'] by rw [hw2, hp]; exact Blk.newAt _ _ _ (by simp))
 have HO1 := lhi (show Calls Tryz.prog 21 #[.agg #[iv, ov, mv]] w2 fun e w' => e = .returned (.tuple #[.string (ofS S), .int .i64 0]) /\ Below w2.heap.size w2 w' by
  have h2 := hS.keep HB2.out
  obtain ⟨g, off, icap, eA, ecap, hi, hr⟩ := root_of h2 hin
  exact of_calls h2 hI ho hi hr)
 have HO2 := lhi (show ∀ W, Below w2.heap.size w2 W -> Calls Tryz.prog 21 #[.agg #[iv', ov', mv']] W fun e w' => e = .returned (.tuple #[.string (ofS S), .int .i64 0]) /\ Below W.heap.size W w' from fun W hW => by
  have h2 := (hS'.keep HB2.out).keep hW
  obtain ⟨g, off, icap, eA, ecap, hi, hr⟩ := root_of h2 hin
  exact of_calls h2 hI ho hi hr)
 obtain ⟨iA, icap, rfl, -⟩ := hS.ino
 obtain ⟨oA, ocap, rfl, -⟩ := hS.opn
 obtain ⟨mA, mcap, rfl, -⟩ := hS.mad
 obtain ⟨iA', icap', rfl, -⟩ := hS'.ino
 obtain ⟨oA', ocap', rfl, -⟩ := hS'.opn
 obtain ⟨mA', mcap', rfl, -⟩ := hS'.mad
 have s0 := HX.out.cell 0
 have s1 := HX.out.cell 1
 have s2 := HX.out.cell 2
 simp at s0 s1 s2
 obtain ⟨X, hX⟩ : ∃ X, ofS S = X := ⟨_, rfl⟩
 rw [hX] at HO1 HO2
 clear hS hS' hI ho hin hX
 generalize S.inodes.length = ni at *
 generalize S.opens.length = no at *
 generalize S.made.length = nm at *
 go_enter Tryz.func10, Tryz.ntmps10
 go_upto_region 1 with (fail)
 rw [<- hp, <- hw2]
 clear hp hw2
 go_upto_region 2 with (go_at_call 21; refine HO1.out.mono ?_; rintro e w3 ⟨rfl, hb3⟩; have HB3 := lhi hb3; clear hb3 s0 s1 s2)
 have HX3 := lhi (Blk.of_heap (HB3.out.block _ HX'.out.lt) HX'.out)
 have HO3 := lhi (HO2.out w3 HB3.out)
 have s0 := HX3.out.cell 0
 have s1 := HX3.out.cell 1
 have s2 := HX3.out.cell 2
 simp at s0 s1 s2
 have hxx : (X.toList == X.toList) = true := by simp
 go_wp2_with (go_at_call 21; refine HO3.out.mono ?_; rintro e w4 ⟨rfl, hb4⟩; have HB4 := lhi hb4; clear hb4 s0 s1 s2)
 go_ret
 have z2 := HB2.out.size
 have z3 := HB3.out.size
 exact ⟨rfl, HB2.out.trans ((HB3.out.mono z2).trans (HB4.out.mono (by omega)))⟩
end
end Go.Proofs.YtkebjgebkneijaaGreatDoor
