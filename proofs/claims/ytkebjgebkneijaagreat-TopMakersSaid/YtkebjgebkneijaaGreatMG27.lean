/- Texts of one's own that a claim's last text rests on: Pk Mr7 Bz Rnd Tm2 Tm3 Dr7. -/
import Derived.Test.YtkebjgebkneijaaGreatMG5
import Derived.Test.YtkebjgebkneijaaGreatMG7
import Derived.Test.YtkebjgebkneijaaGreatMG26
import Derived.Test.YtkebjgebkneijaaGreatMG6
import Derived.Test.YtkebjgebkneijaaGreatMG23
set_option linter.unusedVariables false
set_option linter.unusedSimpArgs false
namespace Go.Proofs.YtkebjgebkneijaaGreat
section
open Go.RowKit
set_option maxHeartbeats 2000000
def cntT (r : Nat -> Bool) : Nat -> Nat
 | 0 => 0
 | k + 1 => cntT r k + if r k then 1 else 0
theorem cntT_le (r : Nat -> Bool) : ∀ k, cntT r k <= k
 | 0 => Nat.le_refl _
 | k + 1 => by have := cntT_le r k; unfold cntT; split <;> omega
theorem cntT_zero {r : Nat -> Bool} : ∀ {n}, cntT r n = 0 -> ∀ c, c < n -> r c = false
 | n + 1, h, c, hc => by
  unfold cntT at h
  by_cases e : c = n
  ·subst e
   cases hr : r c with
   | false => rfl
   | true => rw [hr] at h; simp at h
  ·exact cntT_zero (n := n) (by omega) c (by omega)
def PickR (r : Nat -> Bool) (n : Nat) (e : Ending) : Prop := (∃ c : Nat, e = .returned (.tuple #[.int .i64 c, .bool true]) /\ c < n /\ r c = true) ∨ (e = .returned (.tuple #[.int .i64 0, .bool false]) /\ ∀ c, c < n -> r c = false)
set_option maxRecDepth 1000000 in
theorem Pick_calls {w : World} {v : Value} {n : Nat} {r : Nat -> Bool} (h : RowAt w v n 1 (fun i _ => .bool (r i))) (hn : n <= 1000) {p : Int} (hp : -9223372036854775808 <= p /\ p <= 9223372036854775807) :
  Calls Tryz.prog 38 #[v, .int .i64 p] w fun e w' => PickR r n e /\ w' = w := by
 have HR := lhi h
 obtain ⟨A, cap, rfl, hcap, -⟩ := h
 go_enter Tryz.func38, Tryz.ntmps38
 go_wp2_with (fail)
 go_loopw [14, 6] (fun i c wr => ∃ k : Nat, i = .int .i64 k /\ c = .int .i64 (cntT r k) /\ k <= n /\ wr = w) (fun i _ _ => n - (intOf i).toNat)
 case atStart => exact ⟨0, rfl, rfl, by omega, rfl⟩
 case round =>
  obtain ⟨k, rfl, rfl, hk, rfl⟩ := hrel
  have hck := cntT_le r k
  by_cases hkn : k < n
  ·have hk1 : (k : Int) < n := by omega
   obtain ⟨-, -, g, off, rfl, hcell⟩ := HR.out.at_ hkn
   have c0 : wr.cell? ⟨g, off + k * 1, none⟩ = some (.bool (r k)) := hcell 0 (by omega)
   rw [Nat.mul_one] at c0
   have HS := lhi (show cntT r (k + 1) = cntT r k + if r k then 1 else 0 from rfl)
   clear hcell
   generalize r k = b at *
   generalize cntT r k = ck at *
   cases b
   ·go_wp2_with (fail)
    go_roundw
    case rel => exact ⟨k + 1, by go_num, by rw [HS.out]; rfl, by omega, by trivial⟩
    case measure =>
     simp only [intOf]
     omega
   ·go_wp2_with (fail)
    go_roundw
    case rel => exact ⟨k + 1, by go_num, by rw [HS.out]; go_num, by omega, by trivial⟩
    case measure =>
     simp only [intOf]
     omega
  ·have e : k = n := by omega
   subst e
   obtain ⟨N, hN⟩ : ∃ N, cntT r k = N := ⟨_, rfl⟩
   have HNN := lhi hN
   rw [hN] at hck
   rw [hN]
   clear hN
   by_cases h0 : N = 0
   ·subst h0
    go_wp2_with (fail)
    go_ret2
    exact ⟨.inr ⟨rfl, cntT_zero HNN.out⟩, rfl⟩
   ·have h1 : (N : Int) ≠ 0 := by omega
    go_wp2_with (fail)
    obtain ⟨K, hK, hKN⟩ := u64_tmod p N (by omega)
    have hw : wrap64 (K : Int) = K := by unfold wrap64; omega
    rw [hK, hw]
    clear hK hw h1
    obtain ⟨wq, rfl⟩ : ∃ wq : World, wq = wr := ⟨_, rfl⟩
    go_loopw [32, 9] (fun i q wr => ∃ j : Nat, i = .int .i64 j /\ j <= k /\ cntT r j <= K /\ q = .int .i64 ((K : Int) - (cntT r j : Nat)) /\ wr = wq) (fun i _ _ => k - (intOf i).toNat)
    case atStart => exact ⟨0, rfl, by omega, Nat.zero_le _, by show _ = Value.int .i64 ((K : Int) - ((0 : Nat) : Int)); simp, by trivial⟩
    case round =>
     obtain ⟨j, rfl, hj, hcj, rfl, rfl⟩ := hrel
     by_cases hjk : j < k
     ·have hj1 : (j : Int) < k := by omega
      obtain ⟨-, -, g, off, rfl, hcell⟩ := HR.out.at_ hjk
      have c0 : wr.cell? ⟨g, off + j * 1, none⟩ = some (.bool (r j)) := hcell 0 (by omega)
      rw [Nat.mul_one] at c0
      have HS := lhi (show cntT r (j + 1) = cntT r j + if r j then 1 else 0 from rfl)
      have HRJ := lhi (show r j = r j from rfl)
      clear hcell
      obtain ⟨b, hb⟩ : ∃ b, r j = b := ⟨_, rfl⟩
      have HBE := lhi hb
      rw [hb] at c0 HS
      clear hb HRJ
      obtain ⟨ck, hck2⟩ : ∃ ck, cntT r j = ck := ⟨_, rfl⟩
      rw [hck2] at HS hcj
      rw [hck2]
      clear hck2
      cases b
      ·go_wp2_with (fail)
       go_roundw
       case rel => exact ⟨j + 1, by go_num, by omega, by rw [HS.out]; simpa using hcj, by rw [HS.out]; rfl, by trivial⟩
       case measure =>
        simp only [intOf]
        omega
      ·by_cases hq : ck = K
       ·subst hq
        have hz : (ck : Int) - ck = 0 := by omega
        rw [hz]
        go_wp2_with (fail)
        go_ret2
        exact ⟨.inl ⟨j, rfl, hjk, HBE.out⟩, rfl⟩
       ·have hz : ¬ ((K : Int) - ck = 0) := by omega
        go_wp2_with (fail)
        go_roundw
        case rel => exact ⟨j + 1, by go_num, by omega, by rw [HS.out]; simp; omega, by rw [HS.out]; go_num, by trivial⟩
        case measure =>
         simp only [intOf]
         omega
     ·have e : j = k := by omega
      subst e
      exfalso
      have := HNN.out
      omega
end
section
open Go.RowKit
set_option maxHeartbeats 2000000
def callA : CallV := ⟨0, 0, 0, 0, 0, pathA, ⟨#[]⟩, ⟨#[]⟩⟩
theorem ts_M1A : M1A.ts.length = 2 /\ ∀ y ∈ tr M1A.ts 0, 0 <= y.1 /\ y.1 <= 1000000 := by
 have h := tr_create (M := M0A.see 0 (wd 1 (nbucket nmA : Nat))) (c := 0) (it := rootItem) (nm := nmA) (kind := 0) (n := 0) ⟨by omega, by rw [see_len, ts_M0A]; omega⟩
 refine ⟨h.2.trans (by rw [see_len, ts_M0A]), fun y hy => ?_⟩
 have hy : y ∈ tr (M0A.see 0 (wd 1 (nbucket nmA : Nat))).ts 0 ++ accC 0 rootItem.num (nbucket nmA : Nat) 0 0 := by rw [<- h.1]; exact hy
 rw [tr_see ⟨by omega, by rw [ts_M0A]; omega⟩] at hy
 have h0 : tr M0A.ts 0 = [] := by
  unfold M0A Mem.clear tr
  simp only
  rw [getD_set _ _ _ _ _ (by rw [loadM_ts]; simp [newS]), if_pos rfl]
 rw [h0] at hy
 have hb := nb_lt nmA
 rcases List.mem_append.1 hy with hy | hy
 ·simp at hy
  rw [hy]
  simp only [wd]; omega
 ·exact accC_num ⟨by omega, by omega⟩ (by decide) hb ⟨by omega, by omega⟩ y hy
theorem step_A (w1 : World) (fb s : Nat) : StepC w1 fb s M0A M1A 0 callA 99 (.agg #[]) noRes := by
 have h := stepC_create (w := w1) (fb := fb) (s := s) (M := M0A) (M1 := M0A) ok_M0A (by omega) (k := 0) (by rw [ts_M0A]; omega) dk_M0A.fit (cv := callA) (.inl rfl) (by decide) (ns := []) (nm := nmA) parse_A (by simp) (it := rootItem) rfl rfl (by
  rw [dk_M0A.bkt (by decide) (nb_lt nmA)]; rfl) (n := 0) (words_M0A.1 0 (by omega)) ⟨by omega, by omega⟩
 exact h
theorem data_A (s : Nat) : DataC M1A s (fun i => (filesO [2] (opsTo M1A 2) i).isSome = true) (fun _ => ⟨#[]⟩) := by
 intro K W num hn hM
 have hn : (filesO [2] (opsTo M1A 2) num).isSome = true := hn
 rw [ops_A] at hn
 have e : num = 2 := by
  unfold filesO at hn
  split at hn
  ·rename_i q
   simpa using q
  ·cases hn
 subst e
 obtain ⟨h1, h2, h3⟩ := bz_M1A.base (num := 2) ⟨by omega, by omega⟩
 exact data_none hM ok_M1A (by omega) ⟨by omega, by omega⟩ h1 h2 h3
set_option maxRecDepth 1000000 in
theorem awake_calls (w : World) : Calls Tryz.prog 6 #[] w fun e w' => e = .returned (.bool true) /\ Below w.heap.size w w' := by
 have HN := lhi (fsNew_ok (L := fun b => b < w.heap.size) (w := w) (fun b hb => hb) (n := 2) (by omega) (by omega))
 have hraw := inv_SA.raw_nil
 have HCK := lhi (fun (W : World) (iv ov mv : Value) (ev : Nat -> Value) (hS : StM W iv ov mv ev SA) => State_calls hS inv_SA.small (E := []) List.Pairwise.nil (by rw [hraw]))
 clear hraw
 go_enter Tryz.func6, Tryz.ntmps6
 go_upto_region 4 with (first
  | (go_at_call 23; refine HN.out.mono ?_; rintro e w1 ⟨fb, s, pb, rfl, hf1, hb1⟩; have HF1 := lhi hf1; have HB1 := lhi hb1; clear hf1 hb1 HN)
  | (go_at_call 9; refine (num_calls _ _).mono ?_; rintro e w' ⟨rfl, rfl⟩))
 have HAL := lhi (alone_ok HF1.out (M' := M1A) (ok_M0A.mono (by omega)) ok_M1A (by omega) (k := 0) (by simp) (cv := callA) rfl ⟨by decide, by decide⟩ (by simp [idleP]) (r := noRes) ⟨rfl, rfl, rfl⟩ (by rw [ts_M1A.1]; exact ts_M0A.symm) (by
  show (tr M0A.ts 0).length <= _
  have h0 : tr M0A.ts 0 = [] := by
   unfold M0A Mem.clear tr
   simp only
   rw [getD_set _ _ _ _ _ (by rw [loadM_ts]; simp [newS]), if_pos rfl]
  rw [h0]; exact Nat.zero_le _) ts_M1A.2 (fun w1 => step_A w1 fb s))
 simp only [CallV.cs, ResV.cs, callA, noRes, pathA] at HAL
 go_upto_region 5 with (go_at_call 10; refine HAL.out.mono ?_; rintro e w2 ⟨rfl, ⟨tc, hf2⟩, hk2⟩; have HF2 := lhi hf2; have HK2 := lhi hk2; clear hf2 hk2 HAL)
 have HF3 := lhi (HF2.out.allocIns (.cells #[.int .i64 0, .int .i64 0, .int .i64 0, .bool false, .string ⟨#[]⟩, .slice none 0 0] 41))
 have HR3 := lhi (Blk.new w2 41 #[.int .i64 0, .int .i64 0, .int .i64 0, .bool false, .string ⟨#[]⟩, .slice none 0 0])
 have HB3 := lhi ((Below.refl w2.heap.size w2).alloc (Nat.le_refl _) (.cells #[.int .i64 0, .int .i64 0, .int .i64 0, .bool false, .string ⟨#[]⟩, .slice none 0 0] 41))
 obtain ⟨P, hP⟩ : ∃ P : PV, P = ⟨⟨0, 0, 0, 0, 0, ⟨#[47, 97]⟩, ⟨#[]⟩, ⟨#[]⟩⟩, .nilIface, true, ⟨0, 0, 0, false, ⟨#[]⟩, none, 0, 0⟩, tc⟩ := ⟨_, rfl⟩
 rw [<- hP] at HF3
 obtain ⟨ps, hps⟩ : ∃ ps, ps = (List.replicate 2 idleP).set 0 P := ⟨_, rfl⟩
 rw [<- hps] at HF3
 have hpl : ps.length = 2 := by rw [hps]; simp
 have HPL := lhi hpl
 have HST := lhi (State_ok HF3.out (fun c hc => by
  rw [hpl] at hc
  subst hps
  rcases (by omega : c = 0 ∨ c = 1) with rfl | rfl
  ·simp [hP]
  ·simp [idleP]) ok_M1A (by omega) dk_M1A.fit gather_A (by decide) deep_A (fun _ => ⟨#[]⟩) (fun c k hc hk => by
   rw [words_M1A.2 c k (by omega) hk]; omega) (fun i hi => by
   rw [List.mem_singleton.1 hi]; omega) (by rw [hpl]; exact data_A s))
 clear hP hps hpl
 go_upto_region 6 with (go_at_call 19; refine HST.out.mono ?_; rintro e w4 ⟨⟨iv, ov, mv, ev, S, rfl, hst, his⟩, hf4, hk4⟩; rw [HPL.out] at his; obtain rfl := state_A his; have HS4 := lhi hst.stm; have HK4 := lhi hk4; obtain ⟨iA, icap, rfl, -⟩ := hst.ino; obtain ⟨oA, ocap, rfl, -⟩ := hst.opn; obtain ⟨mA, mcap, rfl, -⟩ := hst.mad; clear hst his hf4 hk4 HST)
 obtain ⟨rb, hrb⟩ : ∃ x, x = w2.heap.size := ⟨_, rfl⟩
 have HR4 := lhi (Blk.of_heap (HK4.out.k.k.block rb (by rw [hrb]; exact ins.new _ _)) (show Blk _ rb _ _ by rw [hrb]; exact HR3.out))
 rw [<- hrb]
 clear hrb
 obtain ⟨sb, hsb⟩ : ∃ x, x = w4.heap.size := ⟨_, rfl⟩
 obtain ⟨w5, hw5⟩ : ∃ x, x = w4.alloc (.cells #[.slice iA SA.inodes.length icap, .slice oA SA.opens.length ocap, .slice mA SA.made.length mcap] 30) := ⟨_, rfl⟩
 have HB5 := lhi (show Below w4.heap.size w4 w5 by rw [hw5]; exact (Below.refl _ _).alloc (Nat.le_refl _) _)
 have HS5 := lhi (HS4.out.keep HB5.out)
 have HX5 := lhi (show Blk w5 sb 30 _ by rw [hw5, hsb]; exact Blk.new w4 30 #[.slice iA SA.inodes.length icap, .slice oA SA.opens.length ocap, .slice mA SA.made.length mcap])
 have HR5 := lhi (Blk.of_heap (HB5.out.block _ HR4.out.lt) HR4.out)
 rw [<- hsb, <- hw5]
 clear hw5 hsb
 have HFD := lhi (show Calls Tryz.prog 21 #[.agg #[.slice iA SA.inodes.length icap, .slice oA SA.opens.length ocap, .slice mA SA.made.length mcap], .string ⟨#[47, 97]⟩] w5 fun e w' => e = .returned (.tuple #[.int .i64 2, .int .i64 0]) /\ Below w5.heap.size w5 w' from by
  have h := Find_calls HS5.out inv_SA (path := pathA) (by decide)
  rw [find_A] at h
  exact h)
 have s0 : w5.cell? ⟨sb, 0, none⟩ = some (.slice iA SA.inodes.length icap) := HX5.out.cell 0
 have s1 : w5.cell? ⟨sb, 1, none⟩ = some (.slice oA SA.opens.length ocap) := HX5.out.cell 1
 have s2 : w5.cell? ⟨sb, 2, none⟩ = some (.slice mA SA.made.length mcap) := HX5.out.cell 2
 go_upto_region 7 with (go_at_call 21; refine HFD.out.mono ?_; rintro e w6 ⟨rfl, hb6⟩; have HB6 := lhi hb6; clear hb6 HFD)
 clear s0 s1 s2
 have HS6 := lhi (HS5.out.keep HB6.out)
 have HX6 := lhi (Blk.of_heap (HB6.out.block _ HX5.out.lt) HX5.out)
 have HR6 := lhi (Blk.of_heap (HB6.out.block _ HR5.out.lt) HR5.out)
 have HMY := lhi (May_yes HS6.out inv_SA)
 have r0 : w6.cell? ⟨rb, 0, none⟩ = some (.int .i64 0) := HR6.out.cell 0
 have s0 : w6.cell? ⟨sb, 0, none⟩ = some (.slice iA SA.inodes.length icap) := HX6.out.cell 0
 have s1 : w6.cell? ⟨sb, 1, none⟩ = some (.slice oA SA.opens.length ocap) := HX6.out.cell 1
 have s2 : w6.cell? ⟨sb, 2, none⟩ = some (.slice mA SA.made.length mcap) := HX6.out.cell 2
 go_wp2_with (first
  | (go_at_call 9; refine (num_calls _ _).mono ?_; rintro e w' ⟨rfl, rfl⟩)
  | (go_at_call 22; refine HMY.out.mono ?_; rintro e w7 ⟨rfl, hb7⟩; have HB7 := lhi hb7; have HX7 := lhi (Blk.of_heap (hb7.block _ HX6.out.lt) HX6.out); have HC7 := lhi (HCK.out w7 _ _ _ _ (HS6.out.keep hb7)); clear hb7 HMY; have t0 : w7.cell? ⟨sb, 0, none⟩ = some (.slice iA SA.inodes.length icap) := HX7.out.cell 0; have t1 : w7.cell? ⟨sb, 1, none⟩ = some (.slice oA SA.opens.length ocap) := HX7.out.cell 1; have t2 : w7.cell? ⟨sb, 2, none⟩ = some (.slice mA SA.made.length mcap) := HX7.out.cell 2)
  | (go_at_call 24; refine HC7.out.mono ?_; rintro e w8 ⟨v, rfl, hb8, hown⟩; have HB8 := lhi hb8; obtain ⟨fA, fcap, rfl, -⟩ := own_form hown; clear hb8 hown))
 go_ret
 have k2 : Below w.heap.size w1 w2 := ⟨HK2.out.k.os, HK2.out.k.tape, HK2.out.k.output, HK2.out.k.size, fun b hb => HK2.out.k.block b hb⟩
 have z1 := HB1.out.size
 have z2 := k2.size
 have k3 := HB3.out.mono (show w.heap.size <= w2.heap.size by omega)
 have k4 : Below w.heap.size (w2.alloc (.cells #[.int .i64 0, .int .i64 0, .int .i64 0, .bool false, .string ⟨#[]⟩, .slice none 0 0] 41)) w4 := ⟨HK4.out.k.k.os, HK4.out.k.k.tape, HK4.out.k.k.output, HK4.out.size, fun b hb => HK4.out.k.k.block b (ins.old hb)⟩
 have z3 := k3.size
 have z4 := k4.size
 have z5 := HB5.out.size
 have z6 := HB6.out.size
 have z7 := HB7.out.size
 exact ⟨rfl, HB1.out.trans (k2.trans (k3.trans (k4.trans ((HB5.out.mono (by omega)).trans ((HB6.out.mono (by omega)).trans ((HB7.out.mono (by omega)).trans (HB8.out.mono (by omega))))))))⟩
end
section
open Go.RowKit
set_option maxHeartbeats 2000000
theorem info_bool1 : (Tryz.prog.info? 4).map (fun i => (i.zero, i.size, i.bytes)) = some (some (.bool false), 1, 1) := by kernel_rfl
theorem make_bools {n : Nat} (hn : n <= 1000) (W : World) : (Instr.makeSlice 102 (.int .i64 n) (.int .i64 n)).run Tryz.prog W = .ok (.slice (some ⟨W.heap.size, 0, none⟩) n n) (W.alloc (.cells (Array.replicate n (.bool false)) 4)) := by
 obtain ⟨i0, hi, hz⟩ := Option.map_eq_some_iff.1 info_bool1
 have hz0 : i0.zero = some (.bool false) := congrArg (fun p => p.1) hz
 have hz1 : i0.size = 1 := congrArg (fun p => p.2.1) hz
 have hz2 : i0.bytes = 1 := congrArg (fun p => p.2.2) hz
 have h := run_make_rowN (P := Tryz.prog) (w := W) 102 4 i0 _ Tryz.underlying102 hi hz0 .i64 .i64 n n (Nat.le_refl _) (by rw [hz2]; omega) (by omega)
 simp only [hz1, Nat.mul_one, Value.cells, madeCells_one] at h
 simpa using h
def BusyP (ps : List PV) (b : Nat -> Bool) : Prop := ∀ c (hc : c < ps.length), (b c = false /\ ps[c].at_ = .nilIface) ∨ (b c = true /\ ∃ ty x, ps[c].at_ = .iface ty x)
theorem busy_b {L : Nat -> Prop} {w : World} {fb s pb : Nat} {M : Mem} {ps : List PV} (h : FsAt L w fb s pb M ps) {b : Nat -> Bool} (hb : BusyP ps b) {c : Nat} (hc : c < ps.length) :
  Calls Tryz.prog 40 #[.pointer (some ⟨fb, 0, none⟩), .int .i64 c] w fun e w' => e = .returned (.bool (b c)) /\ w' = w := by
 rcases hb c hc with ⟨h1, h2⟩ | ⟨h1, ty, x, h2⟩
 ·rw [h1]; exact busy_no h hc h2
 ·rw [h1]; exact busy_yes h hc h2
set_option maxRecDepth 1000000 in
theorem busy_calls {L : Nat -> Prop} {w : World} {fb s pb : Nat} {M : Mem} {ps : List PV} (h : FsAt L w fb s pb M ps) {b : Nat -> Bool} (hb : BusyP ps b) {n : Nat} (hn : ps.length = n) :
  Calls Tryz.prog 39 #[.pointer (some ⟨fb, 0, none⟩), .int .i64 n] w fun e w' => (∃ v, e = .returned v /\ RowAt w' v n 1 (fun i _ => .bool (b i))) /\ Below w.heap.size w w' := by
 have h8 := h.tsl
 have HF := lhi h
 have HBB := lhi hb
 have HN := lhi hn
 have hn8 : n <= 8 := by omega
 have HB0 := lhi ((Below.refl w.heap.size w).alloc (Nat.le_refl _) (.cells (Array.replicate n (.bool false)) 4))
 have HR0 := lhi (RowB.made w 4 n (.bool false))
 clear h hb hn
 go_enter Tryz.func39, Tryz.ntmps39
 have hmk := make_bools (n := n) (by omega)
 go_upto_region 3 with (fail)
 obtain ⟨g, hg⟩ : ∃ x, x = w.heap.size := ⟨_, rfl⟩
 obtain ⟨w1, hw1⟩ : ∃ x, x = w.alloc (.cells (Array.replicate n (.bool false)) 4) := ⟨_, rfl⟩
 rw [<- hw1] at HB0 HR0
 rw [<- hg] at HR0
 try rw [<- hw1]
 try rw [<- hg]
 have HGE := lhi hg
 clear hw1 hg hmk
 go_loopw [6] (fun i wr => ∃ c : Nat, i = .int .i64 c /\ c <= n /\ Below w.heap.size w wr /\ RowB wr g 4 n (fun j => .bool (if j < c then b j else false))) (fun i _ => n - (intOf i).toNat)
 case atStart => exact ⟨0, rfl, by omega, HB0.out, HR0.out.congr fun j _ => by simp⟩
 case round =>
  obtain ⟨c, rfl, hc, hbl, hr⟩ := hrel
  have HBR := lhi hbl
  have HRR := lhi hr
  clear hbl hr HB0 HR0
  by_cases hp : c < n
  ·have hp1 : (c : Int) < n := by omega
   have HBC := lhi (busy_b (HF.out.below HBR.out) HBB.out (c := c) (by rw [HN.out]; exact hp))
   have c0 : wr.cell? ⟨g, c, none⟩ = some (.bool (if c < c then b c else false)) := HRR.out.cell hp
   have f0 : wr.frozen? ⟨g, c, none⟩ = false := by obtain ⟨cs, q1, -, -⟩ := HRR.out; exact q1.frozen _
   rw [if_neg (by omega)] at c0
   go_wp2_with (go_at_call 40; refine HBC.out.mono ?_; rintro e w' ⟨rfl, rfl⟩)
   go_roundw
   case rel => exact ⟨c + 1, by go_num, by omega, HBR.out.setCell (p := ⟨g, c, none⟩) (by rw [HGE.out]; exact Nat.le_refl _) _, HRR.out.set _ fun j hj => by
    by_cases e : j = c
    ·subst e; simp
    ·rw [if_neg e]
     by_cases q : j < c
     ·rw [if_pos q, if_pos (by omega)]
     ·rw [if_neg q, if_neg (by omega)]⟩
   case measure =>
    simp only [intOf]
    omega
  ·have e : c = n := by omega
   subst e
   go_wp2_with (fail)
   go_ret
   exact ⟨⟨_, rfl, _, _, rfl, Nat.le_refl _, fun _ => ⟨g, 0, rfl, fun i j hi hj => by
    obtain rfl : j = 0 := by omega
    have := HRR.out.cell hi
    rw [if_pos hi] at this
    simpa using this⟩⟩, HBR.out⟩
end
section
open Go.RowKit
set_option maxHeartbeats 2000000
def less (b : Nat -> Bool) (c : Nat) : Nat -> Bool := fun j => b j && !decide (j = c)
theorem cntT_less_far {b : Nat -> Bool} {c : Nat} : ∀ {n}, n <= c -> cntT (less b c) n = cntT b n
 | 0, _ => rfl
 | n + 1, h => by
  unfold cntT
  rw [cntT_less_far (n := n) (by omega)]
  unfold less
  rw [decide_eq_false (by omega)]
  simp
theorem cntT_less {b : Nat -> Bool} {c : Nat} (hb : b c = true) : ∀ {n}, c < n -> cntT (less b c) n + 1 = cntT b n
 | n + 1, h => by
  unfold cntT
  by_cases e : n = c
  ·subst e
   rw [cntT_less_far (Nat.le_refl _)]
   unfold less
   simp [hb]
  ·have ih := cntT_less hb (n := n) (by omega)
   unfold less at ih ⊢
   rw [decide_eq_false (show ¬ n = c from e)]
   simp only [Bool.not_false, Bool.and_true]
   omega
theorem PickR.form {r : Nat -> Bool} {n : Nat} {e : Ending} (h : PickR r n e) : ∃ (c : Int) (ok : Bool), e = .returned (.tuple #[.int .i64 c, .bool ok]) /\ (ok = true -> ∃ c' : Nat, c = c' /\ c' < n /\ r c' = true) /\ (ok = false -> ∀ c, c < n -> r c = false) := by
 rcases h with ⟨c, rfl, h1, h2⟩ | ⟨rfl, h1⟩
 ·exact ⟨c, true, rfl, fun _ => ⟨c, rfl, h1, h2⟩, fun h => by cases h⟩
 ·exact ⟨0, false, rfl, (fun h => by cases h), fun _ => h1⟩
set_option maxRecDepth 1000000 in
theorem round_calls {L : Nat -> Prop} {w : World} {fb s pb : Nat} {n : Nat} (hn : n <= 8) (hL : Bd L w) (Q : (Nat -> Bool) -> World -> Prop)
  (hfs : ∀ b W, Q b W -> ∃ M ps, FsAt L W fb s pb M ps /\ BusyP ps b /\ ps.length = n) (hbl : ∀ b W W', Q b W -> Below W.heap.size W W' -> Q b W')
  (hst : ∀ b W c, c < n -> b c = true -> Q b W -> Calls Tryz.prog 27 #[.pointer (some ⟨fb, 0, none⟩), .int .i64 (c : Nat)] W fun e w' => e = .returned (.tuple #[.bool true, .int .i64 0]) /\ Q (less b c) w' /\ Kp L W w')
  {pv : Value} {np : Nat} (hnp : np <= 9223372036854775807) {pk : Nat -> Int} (hpk : ∀ W, Kp L w W -> RowAt W pv np 1 (fun i _ => .int .i64 (pk i))) (hpr : ∀ i, i < np -> -9223372036854775808 <= pk i /\ pk i <= 9223372036854775807) {most : Int} (hmost : 100 <= most /\ most <= 1000000) {b0 : Nat -> Bool} (h0 : Q b0 w) :
  Calls Tryz.prog 18 #[.pointer (some ⟨fb, 0, none⟩), .int .i64 n, pv, .int .i64 most] w fun e w' => e = .returned (.bool true) /\ (∃ b, Q b w' /\ ∀ c, c < n -> b c = false) /\ Kp L w w' := by
 have HL := lhi hL
 have HFS := lhi hfs
 have HBL := lhi hbl
 have HSTP := lhi hst
 have HPK := lhi hpk
 have HPR := lhi hpr
 have H0 := lhi h0
 obtain ⟨A, cap, rfl, hcap, -⟩ := hpk w (Kp.refl _ _)
 clear hL hfs hbl hst hpk hpr h0
 go_enter Tryz.func18, Tryz.ntmps18
 go_wp2_with (fail)
 go_loopw [9] (fun i wr => ∃ (k : Nat) (b : Nat -> Bool), i = .int .i64 k /\ k + cntT b n <= n /\ Q b wr /\ Kp L w wr) (fun i _ => 10 - (intOf i).toNat)
 case atStart => exact ⟨0, b0, rfl, by have := cntT_le b0 n; omega, H0.out, Kp.refl _ _⟩
 case round =>
  obtain ⟨k, b, rfl, hk, hq, hkp⟩ := hrel
  have HQ := lhi hq
  have HKP := lhi hkp
  clear hq hkp
  have hk1 : (k : Int) < most := by omega
  obtain ⟨M, ps, hf, hbp, hpl⟩ := HFS.out b wr HQ.out
  have HBS := lhi (busy_calls hf hbp hpl)
  clear hf hbp hpl
  have HGO := lhi (show ∀ (p : Int), -9223372036854775808 <= p /\ p <= 9223372036854775807 -> True from fun _ _ => trivial)
  by_cases hkp : k < np
  ·have hk2 : (k : Int) < np := by omega
   obtain ⟨-, -, g, off, rfl, hcell⟩ := (HPK.out wr HKP.out).at_ hkp
   have c0 : wr.cell? ⟨g, off + k * 1, none⟩ = some (.int .i64 (pk k)) := hcell 0 (by omega)
   rw [Nat.mul_one] at c0
   have hpp := HPR.out k hkp
   clear hcell
   generalize pk k = p at *
   go_upto_region 8 with (first
    | (go_at_call 39; refine HBS.out.mono ?_; rintro e w1 ⟨⟨v, rfl, hrow⟩, hb1⟩; have HB1 := lhi hb1; have HPI := lhi (Pick_calls hrow (by omega) hpp); clear hb1 hrow)
    | (go_at_call 38; refine HPI.out.mono ?_; rintro e w' ⟨hpick, hw⟩; subst hw; obtain ⟨cv, bv, rfl, hp1, hp2⟩ := hpick.form; have HP1 := lhi hp1; have HP2 := lhi hp2; clear hpick hp1 hp2 HPI))
   have HQ1 := lhi (HBL.out _ _ _ HQ.out HB1.out)
   have HK1 := lhi (HKP.out.trans (Kp.below (HKP.out.bd HL.out) HB1.out))
   cases bv
   ·go_wp2_with (fail)
    go_ret
    exact ⟨rfl, ⟨b, HQ1.out, HP2.out trivial⟩, HK1.out⟩
   ·obtain ⟨c, rfl, hc, hbc⟩ := HP1.out rfl
    have HSS := lhi (HSTP.out b _ c hc hbc HQ1.out)
    have hcl := cntT_less hbc hc
    go_wp2_with (first
     | (go_at_call 27; refine HSS.out.mono ?_; rintro e w3 ⟨rfl, hq3, hk3⟩; have HQ3 := lhi hq3; have HK3 := lhi hk3; clear hq3 hk3 HSS)
     | (go_at_call 9; refine (num_calls _ _).mono ?_; rintro e w' ⟨rfl, rfl⟩))
    go_roundw
    case rel => exact ⟨k + 1, less b c, by go_num, by omega, HQ3.out, HK1.out.trans HK3.out⟩
    case measure =>
     simp only [intOf]
     omega
  ·have hpp : -9223372036854775808 <= (k : Int) /\ (k : Int) <= 9223372036854775807 := by omega
   go_upto_region 8 with (first
    | (go_at_call 39; refine HBS.out.mono ?_; rintro e w1 ⟨⟨v, rfl, hrow⟩, hb1⟩; have HB1 := lhi hb1; have HPI := lhi (Pick_calls hrow (by omega) hpp); clear hb1 hrow)
    | (go_at_call 38; refine HPI.out.mono ?_; rintro e w' ⟨hpick, hw⟩; subst hw; obtain ⟨cv, bv, rfl, hp1, hp2⟩ := hpick.form; have HP1 := lhi hp1; have HP2 := lhi hp2; clear hpick hp1 hp2 HPI))
   have HQ1 := lhi (HBL.out _ _ _ HQ.out HB1.out)
   have HK1 := lhi (HKP.out.trans (Kp.below (HKP.out.bd HL.out) HB1.out))
   cases bv
   ·go_wp2_with (fail)
    go_ret
    exact ⟨rfl, ⟨b, HQ1.out, HP2.out trivial⟩, HK1.out⟩
   ·obtain ⟨c, rfl, hc, hbc⟩ := HP1.out rfl
    have HSS := lhi (HSTP.out b _ c hc hbc HQ1.out)
    have hcl := cntT_less hbc hc
    go_wp2_with (first
     | (go_at_call 27; refine HSS.out.mono ?_; rintro e w3 ⟨rfl, hq3, hk3⟩; have HQ3 := lhi hq3; have HK3 := lhi hk3; clear hq3 hk3 HSS)
     | (go_at_call 9; refine (num_calls _ _).mono ?_; rintro e w' ⟨rfl, rfl⟩))
    go_roundw
    case rel => exact ⟨k + 1, less b c, by go_num, by omega, HQ3.out, HK1.out.trans HK3.out⟩
    case measure =>
     simp only [intOf]
     omega
end
section
open Go.RowKit
set_option maxHeartbeats 1000000
theorem tr_note_far {M : Mem} {c c' : Int} (hc : 0 <= c) (hc' : 0 <= c') (h : c' ≠ c) (x : Acc) : tr (M.note c x).ts c' = tr M.ts c' := by
 unfold tr Mem.note noted
 simp only
 rw [List.getD_eq_getElem?_getD, List.getElem?_set_ne (by omega), <- List.getD_eq_getElem?_getD]
theorem tr_see_far {M : Mem} {c c' : Int} (hc : 0 <= c) (hc' : 0 <= c') (h : c' ≠ c) (i : Int) : tr (M.see c i).ts c' = tr M.ts c' := by
 unfold Mem.see
 split
 ·rfl
 ·exact tr_note_far hc hc' h _
theorem tr_setW_far {M : Mem} {c c' : Int} (hc : 0 <= c) (hc' : 0 <= c') (h : c' ≠ c) (i : Int) (t : Thing) : tr (M.setW c i t).ts c' = tr M.ts c' := by
 unfold Mem.setW
 rw [tr_note_far hc hc' h]
 rfl
theorem tr_create_far {M : Mem} {c c' : Int} (hc : 0 <= c) (hc' : 0 <= c') (h : c' ≠ c) {it : Item} {nm : ByteArray} {kind n : Int} : tr (createM M c it nm kind n).ts c' = tr M.ts c' := by
 have h1 : tr (((M.see c (mdw c)).put (mdw c) (n + 1)).note c (mdw c, true)).ts c' = tr M.ts c' := by
  rw [tr_note_far hc hc' h]
  exact tr_see_far hc hc' h _
 unfold createM
 simp only
 split
 ·rw [tr_note_far hc hc' h]
  show tr (Mem.setW _ _ _ _).ts c' = _
  rw [tr_setW_far hc hc' h, h1]
 ·rw [tr_setW_far hc hc' h, h1]
def dmRoot (k : Nat) (bb : Int) : List Item := ((List.range k).filter fun (i : Nat) => ((nbucket (nmW i) : Nat) : Int) == bb).map fun (i : Nat) => ⟨nmW i, 2 + 8 * (i : Int), true⟩
def Dm (k : Nat) (dirs : Bool) (b : Nat -> Bool) : DkT := fun num bb => if num = 1 then dmRoot k bb else if 2 <= num /\ (num - 2) % 8 = 0 /\ (num - 2) / 8 < k /\ bb = (nbucket nmSame : Nat) /\ b ((num - 2) / 8).toNat = false then [⟨nmSame, newN k ((num - 2) / 8).toNat, dirs⟩] else []
theorem dm_empty {k : Nat} {dirs : Bool} {b : Nat -> Bool} {c : Nat} (hb : b c = true) : Dm k dirs b (2 + 8 * (c : Int)) (nbucket nmSame : Nat) = [] := by
 unfold Dm
 have e : ((2 + 8 * (c : Int) - 2) / 8).toNat = c := by omega
 rw [if_neg (by omega), if_neg]
 rintro ⟨-, -, -, -, h⟩
 rw [e, hb] at h
 cases h
theorem dm_less {k : Nat} {dirs : Bool} {b : Nat -> Bool} {c : Nat} (hc : c < k) (hb : b c = true) (num bb : Int) : (if num = 2 + 8 * (c : Int) /\ bb = (nbucket nmSame : Nat) then Dm k dirs b (2 + 8 * (c : Int)) (nbucket nmSame : Nat) ++ [⟨nmSame, newN k c, dirs⟩] else Dm k dirs b num bb) = Dm k dirs (less b c) num bb := by
 by_cases e : num = 2 + 8 * (c : Int) /\ bb = (nbucket nmSame : Nat)
 ·rw [if_pos e, dm_empty hb]
  obtain ⟨rfl, rfl⟩ := e
  have e1 : ((2 + 8 * (c : Int) - 2) / 8).toNat = c := by omega
  unfold Dm
  rw [if_neg (by omega), e1, if_pos ⟨by omega, by omega, by omega, rfl, by simp [less]⟩]
  rfl
 ·rw [if_neg e]
  unfold Dm
  by_cases e1 : num = 1
  ·rw [if_pos e1, if_pos e1]
  ·rw [if_neg e1, if_neg e1]
   have : (2 <= num /\ (num - 2) % 8 = 0 /\ (num - 2) / 8 < k /\ bb = (nbucket nmSame : Nat) /\ b ((num - 2) / 8).toNat = false) ↔ (2 <= num /\ (num - 2) % 8 = 0 /\ (num - 2) / 8 < k /\ bb = (nbucket nmSame : Nat) /\ less b c ((num - 2) / 8).toNat = false) := by
    constructor
    ·rintro ⟨h1, h2, h3, h4, h5⟩
     exact ⟨h1, h2, h3, h4, by simp [less, h5]⟩
    ·rintro ⟨h1, h2, h3, h4, h5⟩
     refine ⟨h1, h2, h3, h4, ?_⟩
     have hne : ((num - 2) / 8).toNat ≠ c := fun q => e ⟨by omega, h4⟩
     simpa [less, hne] using h5
   simp only [this]
def madeN (k c : Nat) : Int := if c = 0 then (k : Int) else 0
def kindM (dirs : Bool) : Int := if dirs then 1 else 0
def accM (k : Nat) (dirs : Bool) (c : Nat) : List Acc := [(wd 1 (nbucket (nmW c) : Nat), false), (wd (2 + 8 * (c : Int)) (nbucket nmSame : Nat), false)] ++ accC (c : Nat) (2 + 8 * (c : Int)) (nbucket nmSame : Nat) (kindM dirs) (madeN k c)
structure Qm (k : Nat) (dirs : Bool) (b : Nat -> Bool) (M : Mem) : Prop where
 ok : M.ok (20000 - 10 * cntT b k)
 dk : Dk M (Dm k dirs b)
 bz : Bz M
 nl : M.nm.length = k
 tl : M.ts.length = k
 md : ∀ c, c < k -> rd M.ws (mdw (c : Nat)) = madeN k c + if b c then 0 else 1
 fd : ∀ c q : Nat, c < 8 -> q < 4 -> rd M.ws (fdw (c : Nat) (q : Nat)) = 0
 tr : ∀ c, c < k -> tr M.ts (c : Nat) = if b c then [] else accM k dirs c
def itW (c : Nat) : Item := ⟨nmW c, 2 + 8 * (c : Int), true⟩
def M1m (M : Mem) (c : Nat) : Mem := (M.see (c : Nat) (wd 1 (nbucket (nmW c) : Nat))).see (c : Nat) (wd (2 + 8 * (c : Int)) (nbucket nmSame : Nat))
def stepM (k : Nat) (dirs : Bool) (c : Nat) (M : Mem) : Mem := createM (M1m M c) (c : Nat) (itW c) nmSame (kindM dirs) (madeN k c)
theorem root_all : ((List.range 4).all fun q => (List.range (q + 2)).all fun c => match (dmRoot (q + 2) (nbucket (nmW c) : Nat)).find? (Item.is (nmW c)) with
 | none => false
 | some i => decide (i.name = nmW c) && decide (i.num = 2 + 8 * (c : Int)) && i.dir) = true := by kernel_rfl
theorem root_find {k c : Nat} (hk : 2 <= k /\ k <= 5) (hc : c < k) : (dmRoot k (nbucket (nmW c) : Nat)).find? (Item.is (nmW c)) = some (itW c) := by
 have h := all_range root_all (i := k - 2) (by omega)
 have e : k - 2 + 2 = k := by omega
 simp only [e] at h
 have h := all_range h hc
 split at h
 ·cases h
 ·rename_i i hi
  simp only [Bool.and_eq_true, decide_eq_true_eq] at h
  rw [hi]
  obtain ⟨a, x, d⟩ := i
  simp only at h
  obtain ⟨⟨rfl, rfl⟩, rfl⟩ := h
  rfl
theorem parse_all : ((List.range 5).all fun c => match parseF (pathS c) with
 | .err _ => false
 | .ok l => decide (l = [nmW c, nmSame])) = true := by kernel_rfl
theorem parse_S {c : Nat} (hc : c < 5) : parseF (pathS c) = .ok ([nmW c] ++ [nmSame]) := by
 have h := all_range parse_all hc
 split at h
 ·cases h
 ·rename_i l hl
  rw [hl, of_decide_eq_true h]
  rfl
namespace Qm
variable {k c : Nat} {dirs : Bool} {b : Nat -> Bool} {M : Mem}
theorem walk (h : Qm k dirs b M) (hk : 2 <= k /\ k <= 5) (hc : c < k) : walkM (c : Nat) [nmW c] M rootItem = (.at_ (itW c), M.see (c : Nat) (wd 1 (nbucket (nmW c) : Nat))) := by
 unfold walkM
 rw [if_neg (by decide)]
 have hb := nb_lt (nmW c)
 have e : (M.bkt rootItem.num (nbucket (nmW c) : Nat)).find? (Item.is (nmW c)) = some (itW c) := by
  rw [show rootItem.num = 1 from rfl, h.dk.bkt ⟨by omega, by omega⟩ hb]
  show (Dm k dirs b 1 _).find? _ = _
  unfold Dm
  rw [if_pos rfl]
  exact root_find hk hc
 rw [e]
 rfl
theorem fresh (h : Qm k dirs b M) (hk : 2 <= k /\ k <= 5) (hc : c < k) (hb : b c = true) : freshC (M.bkt (itW c).num (nbucket nmSame : Nat)) nmSame = 0 := by
 have hnb := nb_lt nmSame
 rw [h.dk.bkt (show 1 <= (itW c).num /\ (itW c).num <= 257 by unfold itW; simp only; omega) hnb]
 show freshC (Dm k dirs b (2 + 8 * (c : Int)) _) _ = 0
 rw [dm_empty hb]
 rfl
theorem acc_le (hk : 2 <= k /\ k <= 5) (hc : c < k) : ∀ y ∈ accM k dirs c, 0 <= y.1 /\ y.1 <= 1000000 := by
 have h1 := nb_lt (nmW c)
 have h2 := nb_lt nmSame
 intro y hy
 unfold accM at hy
 rcases List.mem_append.1 hy with hy | hy
 ·simp at hy
  rcases hy with rfl | rfl <;> simp only [wd] <;> omega
 ·exact accC_num ⟨by omega, by omega⟩ (by omega) h2 (by unfold madeN; split <;> omega) y hy
theorem step (h : Qm k dirs b M) (hk : 2 <= k /\ k <= 5) (hc : c < k) (hb : b c = true) : Qm k dirs (less b c) (stepM k dirs c M) := by
 have hcnt := cntT_less hb hc
 have hle := cntT_le b k
 have hm : 0 <= madeN k c /\ madeN k c < 32 := by unfold madeN; split <;> omega
 have h1 := nb_lt (nmW c)
 have h2 := nb_lt nmSame
 have hit : 1 <= (itW c).num /\ (itW c).num <= 257 := by unfold itW; simp only; omega
 have hok1 := (h.ok.see (c : Nat) (wd 1 (nbucket (nmW c) : Nat))).see (c : Nat) (wd (2 + 8 * (c : Int)) (nbucket nmSame : Nat))
 have hdk1 := (h.dk.see (c : Nat) (wd 1 (nbucket (nmW c) : Nat))).see (c : Nat) (wd (2 + 8 * (c : Int)) (nbucket nmSame : Nat))
 have hbz1 := (h.bz.see (c : Nat) (wd 1 (nbucket (nmW c) : Nat))).see (c : Nat) (wd (2 + 8 * (c : Int)) (nbucket nmSame : Nat))
 have hn1 : (M1m M c).nm.length = k := by unfold M1m; rw [see_nm, see_nm]; exact h.nl
 have ht1 : (M1m M c).ts.length = k := by unfold M1m; rw [see_len, see_len]; exact h.tl
 have hw1 : (M1m M c).ws = M.ws := by unfold M1m; rw [see_ws, see_ws]
 have hrd : ∀ j, 9509 <= j -> rd (stepM k dirs c M).ws j = if j = mdw (c : Nat) then madeN k c + 1 else rd M.ws j := fun j hj => by
  have := rd_create (M := M1m M c) (c := (c : Nat)) (n := madeN k c) (kind := kindM dirs) (it := itW c) (nm := nmSame) hok1 ⟨by omega, by omega⟩ hm hit hj
  rw [hw1] at this
  exact this
 have htr := tr_create (M := M1m M c) (c := (c : Nat)) (it := itW c) (nm := nmSame) (kind := kindM dirs) (n := madeN k c) ⟨by omega, by rw [ht1]; omega⟩
 refine ⟨(ok_create hok1).mono (by omega), ?_, bz_create hbz1 ⟨by omega, by omega⟩ hm hit, ?_, htr.2.trans ht1, fun c' hc' => ?_, fun c' q hc' hq => ?_, fun c' hc' => ?_⟩
 ·have hd := dk_create (M := M1m M c) (c := (c : Nat)) (n := madeN k c) (kind := kindM dirs) (it := itW c) (nm := nmSame) hdk1 hok1 (by omega) ⟨by omega, by rw [hn1]; omega⟩ (by omega) hm hit (by
   show (Dm k dirs b (2 + 8 * (c : Int)) _).length < 1000
   rw [dm_empty hb]; simp)
  refine hd.congr fun num bb _ _ => ?_
  rw [<- dm_less hc hb num bb]
  have e1 : (kindM dirs == 1) = dirs := by cases dirs <;> rfl
  have e2 : (2 + (c : Int) + 8 * madeN k c) = newN k c := by unfold newN madeN; rfl
  simp only [e1, e2]
  rfl
 ·have e : (stepM k dirs c M).nm.length = (M1m M c).nm.length := by
   unfold stepM createM
   simp only
   split <;> simp [Mem.setW, Mem.note, Mem.put, Mem.give, see_nm]
  rw [e, hn1]
 ·rw [hrd _ (by unfold mdw; omega)]
  by_cases e : c' = c
  ·subst e
   rw [if_pos rfl]
   simp [less]
  ·rw [if_neg (by unfold mdw; omega), h.md c' hc']
   simp [less, e]
 ·rw [hrd _ (by unfold fdw; omega), if_neg (by unfold fdw mdw; omega)]
  exact h.fd c' q hc' hq
 ·by_cases e : c' = c
  ·subst e
   rw [show (stepM k dirs c' M).ts = (createM (M1m M c') (c' : Nat) (itW c') nmSame (kindM dirs) (madeN k c')).ts from rfl, htr.1]
   have e1 : YtkebjgebkneijaaGreat.tr (M1m M c').ts (c' : Nat) = [(wd 1 (nbucket (nmW c') : Nat), false), (wd (2 + 8 * (c' : Int)) (nbucket nmSame : Nat), false)] := by
    unfold M1m
    rw [tr_see ⟨by omega, by rw [see_len, h.tl]; omega⟩, tr_see ⟨by omega, by rw [h.tl]; omega⟩, h.tr c' hc', hb]
    rfl
   rw [e1]
   simp only [less, decide_true, Bool.not_true, Bool.and_false]
   rfl
  ·rw [show (stepM k dirs c M).ts = (createM (M1m M c) (c : Nat) (itW c) nmSame (kindM dirs) (madeN k c)).ts from rfl, tr_create_far (by omega) (by omega) (by omega)]
   unfold M1m
   rw [tr_see_far (by omega) (by omega) (by omega), tr_see_far (by omega) (by omega) (by omega), h.tr c' hc']
   simp [less, e]
end Qm
end
section
open Go.RowKit
set_option maxHeartbeats 1000000
def itsD (D : DkT) (num : Int) : List Item := (List.range 8).flatMap fun q => D num (q : Nat)
def gD (D : DkT) : Nat -> Int -> Gt -> Gt
 | 0, _, g => g
 | f + 1, num, g => ⟨((itsD D num).foldl (gIt (gD D f)) g).fs, num :: ((itsD D num).foldl (gIt (gD D f)) g).ds⟩
def deepB (D : DkT) : Nat -> Int -> Bool
 | 0, _ => false
 | f + 1, num => decide (1 <= num) && decide (num <= 257) && (itsD D num).all fun i => !i.dir || deepB D f i.num
theorem deep_of {M : Mem} {D : DkT} (h : Dk M D) : ∀ (f : Nat) (num : Int), deepB D f num = true -> Deep M f num /\ ∀ g, gDir M f num g = gD D f num g
 | 0, _, q => by cases q
 | f + 1, num, q => by
  unfold deepB at q
  simp only [Bool.and_eq_true, decide_eq_true_eq, List.all_eq_true] at q
  obtain ⟨⟨h1, h2⟩, h3⟩ := q
  have e : itsM M num = itsD D num := itsM_dk h ⟨h1, h2⟩
  refine ⟨⟨⟨h1, h2⟩, fun i hi hd => ?_⟩, fun g => ?_⟩
  ·rw [e] at hi
   have := h3 i hi
   rw [hd] at this
   exact (deep_of h f i.num (by simpa using this)).1
  ·have hf : ∀ (l : List Item) (g : Gt), (∀ i ∈ l, i.dir = true -> deepB D f i.num = true) -> l.foldl (gIt (gDir M f)) g = l.foldl (gIt (gD D f)) g := by
    intro l
    induction l with
    | nil => exact fun _ _ => rfl
    | cons i l ih =>
     intro g hl
     rw [List.foldl_cons, List.foldl_cons]
     have e1 : gIt (gDir M f) g i = gIt (gD D f) g i := by
      unfold gIt
      split
      ·rename_i hd
       exact (deep_of h f i.num (hl i List.mem_cons_self hd)).2 g
      ·rfl
     rw [e1]
     exact ih _ fun j hj => hl j (List.mem_cons_of_mem _ hj)
   unfold gDir gD
   rw [e, hf _ _ fun i hi hd => by
    have := h3 i hi
    rw [hd] at this
    simpa using this]
theorem perm_sorted {l m : List (ByteArray × Int)} (hp : l.Perm m) (hl : SortedL l) (hm : m.Pairwise fun a b => Op.bytesLess a.1.data.toList b.1.data.toList = true) : l = m := by
 have hm' : m.Pairwise fun a b => nlt a.1 b.1 = true := hm.imp fun {a b} h => by
  unfold nlt
  rw [ByteArray.toList_eq, ByteArray.toList_eq]
  exact h
 clear hm
 induction m generalizing l with
 | nil => exact hp.eq_nil
 | cons y m ih =>
  obtain ⟨x, l', rfl⟩ : ∃ x l', l = x :: l' := by
   cases l with
   | nil => exact absurd hp.symm.eq_nil (by simp)
   | cons x l' => exact ⟨x, l', rfl⟩
  obtain ⟨hy, hm2⟩ := List.pairwise_cons.1 hm'
  obtain ⟨hx, hl2⟩ := List.pairwise_cons.1 hl
  have e : x = y := by
   have h1 : x ∈ y :: m := hp.subset List.mem_cons_self
   have h2 : y ∈ x :: l' := hp.symm.subset List.mem_cons_self
   rcases List.mem_cons.1 h1 with h1 | h1
   ·exact h1
   ·rcases List.mem_cons.1 h2 with h2 | h2
    ·exact h2.symm
    ·have a1 := hy x h1
     have a2 := hx y h2
     rw [a1] at a2
     cases a2
  subst e
  rw [ih (List.Perm.cons_inv hp) hl2 hm2]
def Df (k : Nat) (dirs : Bool) : DkT := Dm k dirs fun _ => false
def gK (k : Nat) (dirs : Bool) : Gt := gD (Df k dirs) 3 1 ⟨[], []⟩
def rootL (k : Nat) : List (ByteArray × Int) := (List.range k).map fun (i : Nat) => (nmW i, 2 + 8 * (i : Int))
def entsK (k : Nat) (dirs : Bool) (i : Int) : List (ByteArray × Int) := if i = 1 then rootL k else (itsD (Df k dirs) i).map entIt
def aK (k : Nat) (dirs : Bool) (i : Int) : Option Ino := if (gK k dirs).fs.contains i then some ⟨i, false, [], nm0⟩ else if (gK k dirs).ds.contains i then some ⟨i, true, entsK k dirs i, nm0⟩ else none
def ascB (l : List (ByteArray × Int)) : Bool := (List.range l.length).all fun j => (List.range j).all fun i => Op.bytesLess (l.getD i (⟨#[]⟩, 0)).1.data.toList (l.getD j (⟨#[]⟩, 0)).1.data.toList
def endB (k : Nat) (dirs : Bool) : Bool :=
 deepB (Df k dirs) 3 1 && decide ((gK k dirs).n <= 1000000) && ((gK k dirs).fs.all fun i => decide (0 <= i) && decide (i <= 257)) && decide (((itsD (Df k dirs) 1).map entIt).Perm (rootL k)) && ascB (rootL k)
  && ((gK k dirs).ds.all fun i => decide (i = 1) || decide (((itsD (Df k dirs) i).map entIt).length <= 1)) && decide ((gK k dirs).ds.contains 1 = true) && okE (.ok ⟨(List.range 257).filterMap (fun (j : Nat) => aK k dirs ((j : Int) + 1)), [], (List.range k).map fun (c : Nat) => madeN k c + 1⟩) (finS k dirs)
theorem end_all : ((List.range 4).all fun q => endB (q + 2) true && endB (q + 2) false) = true := by kernel_rfl
theorem end_B {k : Nat} (hk : 2 <= k /\ k <= 5) (dirs : Bool) : endB k dirs = true := by
 have h := all_range end_all (i := k - 2) (by omega)
 have e : k - 2 + 2 = k := by omega
 simp only [e, Bool.and_eq_true] at h
 cases dirs
 ·exact h.2
 ·exact h.1
theorem ascB_of {l : List (ByteArray × Int)} (h : ascB l = true) : l.Pairwise fun a b => Op.bytesLess a.1.data.toList b.1.data.toList = true := by
 rw [List.pairwise_iff_getElem]
 intro i j hi hj hij
 have := all_range (all_range h hj) hij
 rw [getD_lt hi, getD_lt hj] at this
 exact this
theorem ops_none {M : Mem} {n : Nat} (h : ∀ c q : Nat, c < 8 -> q < 4 -> rd M.ws (fdw (c : Nat) (q : Nat)) = 0) (hn : n <= 8) : opsTo M n = [] := by
 have : ∀ c, c < 8 -> opsC M c 4 = [] := fun c hc => by
  unfold opsC
  rw [List.filterMap_eq_nil_iff]
  intro k hk
  rw [if_pos (h c k hc (List.mem_range.1 hk))]
 unfold opsTo
 rw [List.flatMap_eq_nil_iff]
 intro q hq
 exact this q (by have := List.mem_range.1 hq; omega)
theorem filterMap_same {A B : Type} {f g : A -> Option B} : ∀ {l : List A}, (∀ x ∈ l, f x = g x) -> l.filterMap f = l.filterMap g
 | [], _ => rfl
 | x :: l, h => by
  rw [List.filterMap_cons, List.filterMap_cons, h x List.mem_cons_self, filterMap_same fun y hy => h y (List.mem_cons_of_mem _ hy)]
theorem filesO_has {F : List Int} {i : Int} : (filesO F [] i).isSome = true ↔ i ∈ F := by
 unfold filesO
 by_cases e : i ∈ F <;> simp [e]
section
variable {k : Nat} {dirs : Bool} {M : Mem}
theorem fin_dk {b : Nat -> Bool} (h : Qm k dirs b M) (hb : ∀ c, c < k -> b c = false) : Dk M (Df k dirs) := h.dk.congr fun num bb _ _ => by
 unfold Df Dm
 by_cases e : num = 1
 ·rw [if_pos e, if_pos e]
 ·rw [if_neg e, if_neg e]
  have : (2 <= num /\ (num - 2) % 8 = 0 /\ (num - 2) / 8 < k /\ bb = (nbucket nmSame : Nat) /\ b ((num - 2) / 8).toNat = false) ↔ (2 <= num /\ (num - 2) % 8 = 0 /\ (num - 2) / 8 < k /\ bb = (nbucket nmSame : Nat) /\ (fun _ : Nat => false) ((num - 2) / 8).toNat = false) :=
   ⟨fun ⟨h1, h2, h3, h4, _⟩ => ⟨h1, h2, h3, h4, rfl⟩, fun ⟨h1, h2, h3, h4, _⟩ => ⟨h1, h2, h3, h4, hb _ (by omega)⟩⟩
  simp only [this]
theorem fin_gather {b : Nat -> Bool} (h : Qm k dirs b M) (hb : ∀ c, c < k -> b c = false) (hk : 2 <= k /\ k <= 5) : gDir M 3 1 ⟨[], []⟩ = gK k dirs /\ Deep M 3 1 /\ (gK k dirs).n <= 1000000 /\ ∀ i ∈ (gK k dirs).fs, 0 <= i /\ i <= 257 := by
 have he := end_B hk dirs
 unfold endB at he
 simp only [Bool.and_eq_true, decide_eq_true_eq, List.all_eq_true] at he
 obtain ⟨⟨⟨⟨⟨⟨⟨h1, h2⟩, h3⟩, h4⟩, h5⟩, h6⟩, h7⟩, h8⟩ := he
 obtain ⟨d1, d2⟩ := deep_of (fin_dk h hb) 3 1 h1
 exact ⟨d2 _, d1, h2, h3⟩
theorem fin_state {b : Nat -> Bool} (h : Qm k dirs b M) (hb : ∀ c, c < k -> b c = false) (hk : 2 <= k /\ k <= 5) {S : St} (hS : IsState M (gK k dirs) (fun _ => ⟨#[]⟩) k S) : S = finS k dirs := by
 have he := end_B hk dirs
 unfold endB at he
 simp only [Bool.and_eq_true, decide_eq_true_eq, List.all_eq_true] at he
 obtain ⟨⟨⟨⟨⟨⟨⟨h1, h2⟩, h3⟩, h4⟩, h5⟩, h6⟩, h7⟩, h8⟩ := he
 have hdk := fin_dk h hb
 obtain ⟨d1, d2⟩ := deep_of hdk 3 1 h1
 obtain ⟨m1, m2, A, m3, m4⟩ := hS
 rw [ops_none h.fd (by omega)] at m2 m4
 have e8 := okE_eq h8
 injection e8 with e8
 have hmade : S.made = (List.range k).map fun (c : Nat) => madeN k c + 1 := by
  rw [m1]
  unfold madeTo
  refine List.map_congr_left fun c hc => ?_
  rw [h.md c (List.mem_range.1 hc), hb c (List.mem_range.1 hc)]
  rfl
 have hin : ∀ i : Int, 1 <= i /\ i <= 257 -> A i = aK k dirs i := fun i hi => by
  unfold aK
  by_cases hf : i ∈ (gK k dirs).fs
  ·rw [if_pos (by simpa using hf)]
   exact (m4 i).1 (filesO_has.2 hf)
  ·rw [if_neg (by simpa using hf)]
   obtain ⟨q1, q2⟩ := (m4 i).2 (fun q => hf (filesO_has.1 q))
   by_cases hd : i ∈ (gK k dirs).ds
   ·rw [if_pos (by simpa using hd)]
    rw [decide_eq_true hd] at q1
    obtain ⟨p, hp⟩ := Option.isSome_iff_exists.1 q1
    obtain ⟨r1, r2, r3, r4, r5⟩ := q2 p hp
    rw [hp]
    obtain ⟨pn, pd, pe, pdat⟩ := p
    simp only at r1 r2 r3 r4 r5
    subst r1 r2 r3
    replace r4 : pe.Perm ((itsD (Df k dirs) pn).map entIt) := by rw [show itsM M pn = itsD (Df k dirs) pn from itsM_dk hdk hi] at r4; exact r4
    have e : pe = entsK k dirs pn := by
     unfold entsK
     by_cases e1 : pn = 1
     ·subst e1
      rw [if_pos rfl]
      exact perm_sorted (r4.trans h4) r5 (ascB_of h5)
     ·rw [if_neg e1]
      have h6' := h6 pn hd
      simp only [Bool.or_eq_true, decide_eq_true_eq] at h6'
      rcases h6' with h6' | h6'
      ·exact absurd h6' e1
      ·generalize (itsD (Df k dirs) pn).map entIt = q at r4 h6' ⊢
       match q, h6' with
       | [], _ => exact r4.eq_nil
       | [x], _ => exact List.perm_singleton.1 r4
    rw [e]
    rfl
   ·rw [if_neg (by simpa using hd)]
    rw [decide_eq_false hd] at q1
    cases hA : A i with
    | none => rfl
    | some p => rw [hA] at q1; cases q1
 have hino : S.inodes = (List.range 257).filterMap (fun (j : Nat) => aK k dirs ((j : Int) + 1)) := by
  rw [m3]
  refine filterMap_same fun j hj => ?_
  exact hin _ (by have := List.mem_range.1 hj; omega)
 rw [<- e8]
 obtain ⟨s1, s2, s3⟩ := S
 simp only at hmade m2 hino
 rw [hmade, m2, hino]
end
def accsB (k : Nat) (dirs : Bool) : Bool := (List.range k).all fun i => (List.range i).all fun j => !((accM k dirs i).any fun x => (accM k dirs j).any fun y => x.1 == y.1 && (x.2 || y.2))
theorem accs_all : ((List.range 4).all fun q => accsB (q + 2) true && accsB (q + 2) false) = true := by kernel_rfl
theorem accs_B {k : Nat} (hk : 2 <= k /\ k <= 5) (dirs : Bool) {i j : Nat} (hi : i < k) (hj : j < i) : ((accM k dirs i).any fun x => (accM k dirs j).any fun y => x.1 == y.1 && (x.2 || y.2)) = false := by
 have h := all_range accs_all (i := k - 2) (by omega)
 have e : k - 2 + 2 = k := by omega
 simp only [e, Bool.and_eq_true] at h
 have h : accsB k dirs = true := by
  cases dirs
  ·exact h.2
  ·exact h.1
 have := all_range (all_range h hi) hj
 simpa using this
end
section
open Go.RowKit
set_option maxHeartbeats 2000000
def DoneR (base ob db : Nat) (c : CallV) (W : World) (e : Ending) (w' : World) : Except Int (St × ResV) -> Prop
 | .error k => e = mthrown k /\ Below base W w'
 | .ok (S', r') => e = .returned (.tuple #[]) /\ Below base W w' /\ ∃ iv' ov' mv' Iv', Doer w' base ob db c r' iv' ov' mv' Iv' S'
section
variable {W : World} {base ob db : Nat} {c : CallV} {r : ResV} {iv ov mv : Value} {Iv : List InV} {S : St}
set_option maxRecDepth 1000000 in
theorem create_bad1 (h : Doer W base ob db c r iv ov mv Iv S) (hI : Inv S) (hp : c.path.size <= 4611686018427387904) {k : Int} (hs : parentS S c.path = .error k) :
  Calls Tryz.prog 77 #[.pointer (some ⟨db, 0, none⟩)] W fun e w' => e = mthrown k /\ Below base W w' := by
 obtain ⟨g, icap, ics, rfl, -, -, -⟩ := h.row hI.pos
 have HPR := lhi (parent_calls h hI hp)
 rw [hs] at HPR
 have hbs := h.bs
 have d6 : W.cell? ⟨db, 6, none⟩ = some (.string c.path) := h.d.cell 6
 clear h hI hp hs
 go_enter Tryz.func77, Tryz.ntmps77
 go_wp2_with (go_at_call 115; refine HPR.out.mono ?_; rintro e w1 ⟨he, hb1⟩; have he : e = mthrown k := he; subst he)
 exact ⟨rfl, rfl, hb1.mono hbs⟩
set_option maxRecDepth 1000000 in
theorem create_bad2 (h : Doer W base ob db c r iv ov mv Iv S) (hI : Inv S) (hp : c.path.size <= 4611686018427387904) {k : Nat} {nm : ByteArray} (hs : parentS S c.path = .ok (k, nm)) {j : Nat} (hE : entF (S.ino k).ents nm = some j) :
  Calls Tryz.prog 77 #[.pointer (some ⟨db, 0, none⟩)] W fun e w' => e = mthrown 2 /\ Below base W w' := by
 obtain ⟨g, icap, ics, rfl, -, -, -⟩ := h.row hI.pos
 have HPR := lhi (parent_calls h hI hp)
 rw [hs] at HPR
 obtain ⟨hk, -⟩ := parentS_lt hI hs
 have hl := h.st.len'
 have hkI : k < Iv.length := by omega
 have hino := h.st.at_ hkI
 have hek := h.st.ent k hkI
 have c2 := h.st.cell hl.symm hkI (show 2 < 4 by omega)
 have hbs := h.bs
 have d6 : W.cell? ⟨db, 6, none⟩ = some (.string c.path) := h.d.cell 6
 obtain ⟨q, hq⟩ : ∃ q, Iv[k] = q := ⟨_, rfl⟩
 rw [hq] at hino hek c2
 obtain ⟨p1, ev⟩ := q
 replace hino : p1 = S.ino k := hino
 subst hino
 obtain ⟨es, hes⟩ : ∃ es, (S.ino k).ents = es := ⟨_, rfl⟩
 replace hek : W.ownsRow base 132 2 ev es.length (es.flatMap encEn) := by rw [<- hes]; exact hek
 have hen := (hI.ord).ents k hk
 rw [hes] at hE hen
 have HEN := lhi (fun (V : World) (hb : Below W.heap.size W V) => entry_yes (own_rowT (by decide) encEn_len (own_below hek hb) (cl_entEn _)).at' hen.1 nm hen.2 hE)
 obtain ⟨EA, ecap, rfl, -⟩ := own_form hek
 replace c2 : W.cell? ⟨g, k * 4 + 2, none⟩ = some (.slice EA es.length ecap) := c2
 clear h hI hp hs hek hes hq hen hE hkI hl
 go_enter Tryz.func77, Tryz.ntmps77
 go_wp2_with (first
  | (go_at_call 115; refine HPR.out.mono ?_; rintro e w1 ⟨he, hb1⟩; have he : e = .returned (.tuple #[.pointer (some ⟨g, k * 4, none⟩), .string nm]) := he; subst he; have HB1 := lhi hb1; have y2 : w1.cell? ⟨g, k * 4 + 2, none⟩ = some (.slice EA es.length ecap) := (hb1.cell (World.block_lt_of_cell? _ _ c2)).trans c2; clear hb1 HPR)
  | (go_at_call 93; refine (HEN.out _ HB1.out).mono ?_; rintro e w2 ⟨rfl, hb2⟩)
  | (go_at_call 116; refine (mthrow_yes _ _).mono ?_; rintro e w3 ⟨rfl, rfl⟩))
 exact ⟨rfl, rfl, (HB1.out.mono hbs).trans (hb2.mono (Nat.le_trans hbs HB1.out.size))⟩
end
end
end Go.Proofs.YtkebjgebkneijaaGreat
