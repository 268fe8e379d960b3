/- Texts of one's own that a claim's last text rests on: Mf6 Mf7 Mf8 Un1. -/
import Derived.Test.YtkebjgebkneijaaGreatDoorMG4
import Derived.Test.YtkebjgebkneijaaGreatDoorMG3
import Derived.Test.YtkebjgebkneijaaGreatDoorMG2
set_option linter.unusedVariables false
set_option linter.unusedSimpArgs false
namespace Go.Proofs.YtkebjgebkneijaaGreatDoor
section
open Go.RowKit
set_option maxHeartbeats 1000000
theorem ta_base (v : Value) (W : World) : (Instr.typeAssert (.iface 169 v) 20 169 true).run Tryz.prog W = .ok (.tuple #[v, .bool true]) W := by kernel_rfl
theorem ta_base0 (W : World) : (Instr.typeAssert .nilIface 20 169 true).run Tryz.prog W = .ok (.tuple #[.agg #[.int .i64 0, .string ⟨#[]⟩, .bool false], .bool false]) W := by kernel_rfl
section
variable {L : Nat -> Prop} {w w0 : World} {s a : Nat} {M : Mem} {m : Nat}
theorem fresh_old {w w' : World} {L : Nat -> Prop} {b : Nat} (h : L b) : new w w' L b := .inl h
theorem fresh_in {w w' : World} {L : Nat -> Prop} {b : Nat} (h1 : w.heap.size <= b) (h2 : b < w'.heap.size) : new w w' L b := .inr ⟨h1, h2⟩
theorem load_any (h : MemAt L w0 s M) (hok : M.ok m) (hm : m <= 1000000000) {c i : Int} (hc : Who M c) (hi : 0 <= i /\ i < 9549) {r : Int} (hr : rd M.ws i = r) (W : World) (hb : Below w0.heap.size w0 W) :
  Calls Tryz.prog 121 #[.agg #[.pointer (some ⟨s, 0, none⟩), .int .i64 c], .int .i64 i] W fun e w' => e = .returned (.int .i64 r) /\ MemAt (new w0 W L) w' s (M.see c i) /\ Kp (new w0 W L) W w' := by
 subst hr
 exact load_v (h.fresh hb) hok hm hc hi
theorem get_any (h : MemAt L w0 s M) (hok : M.ok m) {n : Int} {t : Thing} (ht : M.thing n = some t) (hn : n <= 1000000000000) (W : World) (hb : Below w0.heap.size w0 W) :
  Calls Tryz.prog 120 #[.pointer (some ⟨s, 0, none⟩), .int .i64 n] W fun e w' => (∃ v, e = .returned v /\ ThingV L W v t) /\ W = w' := get_calls (h.below hb) hok ht hn
def Mem.bas (M : Mem) (num : Int) : Int × ByteArray × Bool := match M.at_ (wd num 16) with
 | some (.base v d h) => (v, d, h)
 | _ => (0, ⟨#[]⟩, false)
def baseV (x : Int × ByteArray × Bool) : Value := .agg #[.int .i64 x.1, .string x.2.1, .bool x.2.2]
structure Mem.isBase (M : Mem) (num : Int) : Prop where
 f : M.fine (wd num 16)
 k : ∀ t, M.at_ (wd num 16) = some t -> ∃ v d h, t = .base v d h
theorem base_fine {num : Int} (hf : M.isBase num) :
  (rd M.ws (wd num 16) = 0 /\ M.bas num = (0, ⟨#[]⟩, false)) ∨ (0 < rd M.ws (wd num 16) /\ ∃ v d h, M.bas num = (v, d, h) /\ M.thing (rd M.ws (wd num 16)) = some (.base v d h)) := by
 obtain ⟨hf, hk⟩ := hf
 unfold Mem.bas
 unfold Mem.at_ at *
 rcases hf with h0 | ⟨h0, h1⟩
 ·refine .inl ⟨h0, ?_⟩
  rw [h0, show M.thing 0 = none from rfl]
 ·obtain ⟨t, ht⟩ := Option.isSome_iff_exists.1 h1
  obtain ⟨v, d, h, rfl⟩ := hk t ht
  exact .inr ⟨h0, v, d, h, by rw [ht], ht⟩
theorem below_drew (w : World) : Below w.heap.size w w.drew := ⟨rfl, rfl, rfl, Nat.le_refl _, fun _ _ => rfl⟩
theorem below_ad (w : World) (o : Obj) : Below w.heap.size w (w.alloc o).drew := by
 have h := (Below.refl _ w).alloc (Nat.le_refl _) o
 exact ⟨h.os, h.tape, h.output, h.size, h.block⟩
theorem cell_set3 {W : World} {q p j : Nat} (h : p ≠ q) {x y z v : Value} (hc : W.cell? ⟨p, j, none⟩ = some v) : (((W.setCell ⟨q, 0, none⟩ x).setCell ⟨q, 1, none⟩ y).setCell ⟨q, 2, none⟩ z).cell? ⟨p, j, none⟩ = some v :=
 (World.cell?_setCell_far _ _ _ _ (by exact Ne.symm h)).trans ((World.cell?_setCell_far _ _ _ _ (by exact Ne.symm h)).trans ((World.cell?_setCell_far _ _ _ _ (by exact Ne.symm h)).trans hc))
theorem Kp.undrew' {L : Nat -> Prop} {w w' : World} (h : Kp L w.drew w') : Kp L w w' := ⟨h.k.undrew, h.i.undrew⟩
structure Var3 (w0 : World) (L : Nat -> Prop) (s : Nat) (M : Mem) (T : TypeId) (x y z : Value) (q : Nat) (wx : World) : Prop where
 m : MemAt L wx s M
 k : Kp L w0 wx
 b : Blk wx q T #[x, y, z]
 n : w0.heap.size <= q
theorem var3A {w1 : World} {T : TypeId} {z0 z1 z2 x y z : Value} (hb : Bd L w0) (ht : ¬ still T) (hq : MemAt (new w0 (w0.alloc (.cells #[z0, z1, z2] T)).drew L) w1 s M /\ Kp (new w0 (w0.alloc (.cells #[z0, z1, z2] T)).drew L) (w0.alloc (.cells #[z0, z1, z2] T)).drew w1) :
  Var3 w0 L s M T x y z w0.heap.size (((w1.setCell ⟨w0.heap.size, 0, none⟩ x).setCell ⟨w0.heap.size, 1, none⟩ y).setCell ⟨w0.heap.size, 2, none⟩ z) := by
 obtain ⟨hm, hk⟩ := hq
 have hin : new w0 (w0.alloc (.cells #[z0, z1, z2] T)).drew L w0.heap.size := fresh_in (Nat.le_refl _) (show w0.heap.size < (w0.alloc (.cells #[z0, z1, z2] T)).heap.size by simp)
 have hB : Blk w1 w0.heap.size T #[z0, z1, z2] := hk.blk (show Blk (w0.alloc (.cells #[z0, z1, z2] T)).drew w0.heap.size T #[z0, z1, z2] from Blk.new w0 T _) hin
 have hB1 := hB.set_ 0 x
 have hB2 := hB1.set_ 1 y
 have hB3 := hB2.set_ 2 z
 have hn : ¬ L w0.heap.size := hb.new
 refine ⟨(((hm.set hB hin 0 x).set hB1 hin 1 y).set hB2 hin 2 z).sub fun _ h => fresh_old h, ?_, hB3, Nat.le_refl _⟩
 have k0 : Kp L w0 w1 := (Kp.alloc hb (.cells #[z0, z1, z2] T)).trans ((hk.sub fun _ h => fresh_old h).undrew')
 refine ⟨((k0.k.setCell (p := ⟨w0.heap.size, 0, none⟩) hn x).setCell (p := ⟨w0.heap.size, 1, none⟩) hn y).setCell (p := ⟨w0.heap.size, 2, none⟩) hn z, ?_⟩
 exact ((k0.i.trans (KI.set hB ht 0 x)).trans (KI.set hB1 ht 1 y)).trans (KI.set hB2 ht 2 z)
theorem var3B {w1 : World} {T : TypeId} {x y z : Value} (hb : Bd L w0) (hq : MemAt (new w0 w0.drew L) w1 s M /\ Kp (new w0 w0.drew L) w0.drew w1) :
  Var3 w0 L s M T x y z w1.heap.size (w1.alloc (.cells #[x, y, z] T)) := by
 obtain ⟨hm, hk⟩ := hq
 have hm := hm.sub (L' := L) fun _ h => fresh_old h
 have k0 : Kp L w0 w1 := (hk.sub fun _ h => fresh_old h).undrew'
 exact ⟨hm.alloc _, k0.trans (Kp.alloc hm.bd _), Blk.new _ _ _, k0.size⟩
theorem var3_out {wc : World} {T T' : TypeId} {x y z a b d x' y' z' : Value} {q r : Nat} (hB : Below w.heap.size w w0) (hbd : Bd L w) (hv : Var3 w0 (new w w0 L) s M T x y z q wc) (hr : Blk wc r T' #[a, b, d]) (ht : ¬ still T') (hn : w.heap.size <= r) (hr2 : r < w0.heap.size) :
  MemAt L (((wc.setCell ⟨r, 0, none⟩ x').setCell ⟨r, 1, none⟩ y').setCell ⟨r, 2, none⟩ z') s M /\ Kp L w (((wc.setCell ⟨r, 0, none⟩ x').setCell ⟨r, 1, none⟩ y').setCell ⟨r, 2, none⟩ z') := by
 have hB1 := hr.set_ 0 x'
 have hB2 := hB1.set_ 1 y'
 have hin : new w w0 L r := fresh_in hn hr2
 have hl : ¬ L r := fun h => absurd (hbd r h) (by omega)
 have k0 : Kp L w wc := (Kp.below hbd hB).trans (hv.k.sub fun _ h => fresh_old h)
 refine ⟨(((hv.m.set hr hin 0 x').set hB1 hin 1 y').set hB2 hin 2 z').sub fun _ h => fresh_old h, ((k0.k.setCell (p := ⟨r, 0, none⟩) hl x').setCell (p := ⟨r, 1, none⟩) hl y').setCell (p := ⟨r, 2, none⟩) hl z', ?_⟩
 exact ((k0.i.trans (KI.set hr ht 0 x')).trans (KI.set hB1 ht 1 y')).trans (KI.set hB2 ht 2 z')
theorem set3_cells {wc : World} {r : Nat} {T : TypeId} {a b d : Value} (hr : Blk wc r T #[a, b, d]) (x y z : Value) :
  (((wc.setCell ⟨r, 0, none⟩ x).setCell ⟨r, 1, none⟩ y).setCell ⟨r, 2, none⟩ z).cell? ⟨r, 0, none⟩ = some x /\ (((wc.setCell ⟨r, 0, none⟩ x).setCell ⟨r, 1, none⟩ y).setCell ⟨r, 2, none⟩ z).cell? ⟨r, 1, none⟩ = some y /\ (((wc.setCell ⟨r, 0, none⟩ x).setCell ⟨r, 1, none⟩ y).setCell ⟨r, 2, none⟩ z).cell? ⟨r, 2, none⟩ = some z := by
 have h := ((hr.set_ 0 x).set_ 1 y).set_ 2 z
 exact ⟨h.cell 0, h.cell 1, h.cell 2⟩
set_option maxRecDepth 1000000 in
theorem base_calls (h : MemAt L w s M) (hok : M.ok m) (hm : m <= 1000000000) {c num : Int} (hc : Who M c) (hn : 1 <= num /\ num <= 257) (hk : M.isBase num) (hz : rd M.ws (wd num 16) <= 1000000000000) :
  Calls Tryz.prog 91 #[.agg #[.pointer (some ⟨s, 0, none⟩), .int .i64 c], .int .i64 num] w fun e w' => e = .returned (baseV (M.bas num)) /\ MemAt L w' s (M.see c (wd num 16)) /\ Kp L w w' := by
 have hcase := base_fine hk
 obtain ⟨w0, hw0⟩ : ∃ x, x = (w.alloc (.cells #[.pointer (some ⟨s, 0, none⟩), .int .i64 c] 95)).alloc (.cells #[.int .i64 0, .string ⟨#[]⟩, .bool false] 169) := ⟨_, rfl⟩
 obtain ⟨p, hp⟩ : ∃ p, p = w.heap.size := ⟨_, rfl⟩
 have hsz : w0.heap.size = p + 1 + 1 := by rw [hw0, hp]; simp
 have HB := lhi (show Below w.heap.size w w0 by rw [hw0]; exact ((Below.refl _ _).alloc (Nat.le_refl _) _).alloc (by simp) _)
 have HA := h.fresh HB.out
 have HP := lhi (show Blk w0 p 95 #[.pointer (some ⟨s, 0, none⟩), .int .i64 c] by rw [hw0, hp]; exact (Blk.new _ _ _).alloc _)
 have HR := lhi (show Blk w0 (p + 1) 169 #[.int .i64 0, .string ⟨#[]⟩, .bool false] by rw [hw0, hp]; exact Blk.newAt _ _ _ (by simp))
 have HW := lhi (word_calls num 16 (by omega) (by omega))
 have HL := load_any HA hok hm (i := wd num 16) hc (wd_in (b := 16) hn (by omega)) rfl
 have HK := lhi (Kp.below h.bd HB.out)
 have HOK := lhi (hok.see c (wd num 16))
 have HTS := lhi (M.thing_see c (wd num 16))
 obtain ⟨ix, hix⟩ : ∃ x, wd num 16 = x := ⟨_, rfl⟩
 obtain ⟨bl, hbl⟩ : ∃ x, M.bas num = x := ⟨_, rfl⟩
 rw [hix] at HL HOK HTS hcase hz HW ⊢
 rw [hbl] at hcase ⊢
 have p0 : w0.cell? ⟨p, 0, none⟩ = some (.pointer (some ⟨s, 0, none⟩)) := HP.out.cell 0
 have p1 : w0.cell? ⟨p, 1, none⟩ = some (.int .i64 c) := HP.out.cell 1
 have hpl : p < w0.heap.size := by omega
 have HIP := lhi (show new w w0 L p from fresh_in (by omega) hpl)
 have hpn : p ≠ w0.heap.size := by omega
 have HPD := lhi (show w0.drew.cell? ⟨p, 0, none⟩ = some (.pointer (some ⟨s, 0, none⟩)) /\ w0.drew.cell? ⟨p, 1, none⟩ = some (.int .i64 c) from ⟨p0, p1⟩)
 have HPA := lhi (show (w0.alloc (.cells #[.int .i64 0, .string ⟨#[]⟩, .bool false] 169)).drew.cell? ⟨p, 0, none⟩ = some (.pointer (some ⟨s, 0, none⟩)) /\ (w0.alloc (.cells #[.int .i64 0, .string ⟨#[]⟩, .bool false] 169)).drew.cell? ⟨p, 1, none⟩ = some (.int .i64 c) from ⟨(World.cell?_alloc_past _ _ _ hpl).trans p0, (World.cell?_alloc_past _ _ _ hpl).trans p1⟩)
 have HSZ := lhi hsz
 have HIR := lhi (show new w w0 L (p + 1) from fresh_in (by omega) (by omega))
 have HBD := lhi HA.bd
 have HBDL := lhi h.bd
 have HPP := lhi hp
 clear hsz
 rcases hcase with ⟨h0, rfl⟩ | ⟨h0, bv, bd, bh, rfl, h1⟩
 ·rw [h0] at HL
  have HLH := lhi HL
  have hta := ta_base0
  clear h hok HA hk HL hix hbl h0 hc hn hz
  go_enter Tryz.func91, Tryz.ntmps91
  go_wp2_with (fail)
  rw [<- hp, <- hw0]
  clear hp hw0
  go_cut [5, 6] (fun s5 s6 wx => ∃ q, s5 = .pointer (some ⟨q, 0, none⟩) /\ s6 = .bool false /\ Var3 w0 (new w w0 L) s (M.see c ix) 169 (.int .i64 0) (.string ⟨#[]⟩) (.bool false) q wx)
  case first =>
   go_region_held3 (fun w' => w'.cell? ⟨p, 0, none⟩ = some (.pointer (some ⟨s, 0, none⟩)) /\ w'.cell? ⟨p, 1, none⟩ = some (.int .i64 c))
    (with_reducible first | exact HPD.out | exact HPA.out | exact ⟨z0, z1⟩ | exact ⟨(World.cell?_alloc_past _ _ _ zl).trans z0, (World.cell?_alloc_past _ _ _ zl).trans z1⟩ | exact ⟨cell_set3 hpn z0, cell_set3 hpn z1⟩)
    ((first
     | (go_at_call 85; refine (HW.out _).mono ?_; rintro e w' ⟨rfl, rfl⟩)
     | (go_at_call 121; refine (HLH.out _ (by first | exact below_drew _ | exact below_ad _ _)).mono ?_; rintro e w1 ⟨rfl, hq⟩; have HQ := lhi hq; have z0 := hq.2.cellOf (p := ⟨p, 0, none⟩) (fresh_old HIP.out) (by first | exact p0 | exact (World.cell?_alloc_past _ _ _ hpl).trans p0); have z1 := hq.2.cellOf (p := ⟨p, 1, none⟩) (fresh_old HIP.out) (by first | exact p1 | exact (World.cell?_alloc_past _ _ _ hpl).trans p1); have zl := World.block_lt_of_cell? _ _ z0; (try (have hy := hq.2.blk (Blk.new w0 169 #[.int .i64 0, .string ⟨#[]⟩, .bool false]) (fresh_in (Nat.le_refl _) (by simp)); have y0 : w1.cell? ⟨w0.heap.size, 0, none⟩ = some (.int .i64 0) := hy.cell 0; have y1 : w1.cell? ⟨w0.heap.size, 1, none⟩ = some (.string ⟨#[]⟩) := hy.cell 1; have y2 : w1.cell? ⟨w0.heap.size, 2, none⟩ = some (.bool false) := hy.cell 2; have u0 := hy.frozen 0; have u1 := hy.frozen 1; have u2 := hy.frozen 2; clear hy)); clear hq)
     | (go_at_call 120; refine (get_zero _ _).mono ?_; rintro e w' ⟨rfl, rfl⟩)))
   all_goals
    go_wp2_with (fail)
    go_meet
    case rel => first | exact ⟨_, rfl, rfl, var3A HBD.out (by unfold still; decide) HQ.out⟩ | exact ⟨_, rfl, rfl, var3B HBD.out HQ.out⟩
  case rest =>
   obtain ⟨q, rfl, rfl, hv⟩ := hcut
   have HV := lhi hv
   have v0 : wc.cell? ⟨q, 0, none⟩ = some (.int .i64 0) := hv.b.cell 0
   have v1 : wc.cell? ⟨q, 1, none⟩ = some (.string ⟨#[]⟩) := hv.b.cell 1
   have v2 : wc.cell? ⟨q, 2, none⟩ = some (.bool false) := hv.b.cell 2
   have hr := hv.k.blk HR.out HIR.out
   have HRR := lhi hr
   have r0 : wc.cell? ⟨p + 1, 0, none⟩ = some (.int .i64 0) := hr.cell 0
   have r1 : wc.cell? ⟨p + 1, 1, none⟩ = some (.string ⟨#[]⟩) := hr.cell 1
   have r2 : wc.cell? ⟨p + 1, 2, none⟩ = some (.bool false) := hr.cell 2
   have f0 := hr.frozen 0
   have f1 := hr.frozen 1
   have f2 := hr.frozen 2
   clear hv hr p0 p1
   go_wp2_with (fail)
   obtain ⟨e0, e1, e2⟩ := set3_cells HRR.out (.int .i64 0) (.string ⟨#[]⟩) (.bool false)
   refine bodyPost_ret (v := .agg #[.int .i64 0, .string ⟨#[]⟩, .bool false]) (by simp [results, Tryz.results91, go_sem, e0, e1, e2]) rfl ⟨rfl, ?_⟩
   exact var3_out HB.out HBDL.out HV.out HRR.out (by unfold still; decide) (by have := HPP.out; omega) (by have := HSZ.out; omega)
 ·have HLH := lhi HL
  have HT := lhi h1
  have HZ := lhi hz
  obtain ⟨nn, hnn⟩ : ∃ x, rd M.ws ix = x := ⟨_, rfl⟩
  rw [hnn] at HLH HT HZ
  clear h hok HA hk HL hix hbl h0 hc hn hz h1 hnn
  go_enter Tryz.func91, Tryz.ntmps91
  go_wp2_with (fail)
  rw [<- hp, <- hw0]
  clear hp hw0
  go_cut [5, 6] (fun s5 s6 wx => ∃ q, s5 = .pointer (some ⟨q, 0, none⟩) /\ s6 = .bool true /\ Var3 w0 (new w w0 L) s (M.see c ix) 169 (.int .i64 bv) (.string bd) (.bool bh) q wx)
  case first =>
   go_region_held3 (fun w' => w'.cell? ⟨p, 0, none⟩ = some (.pointer (some ⟨s, 0, none⟩)) /\ w'.cell? ⟨p, 1, none⟩ = some (.int .i64 c))
    (with_reducible first | exact HPD.out | exact HPA.out | exact ⟨z0, z1⟩ | exact ⟨(World.cell?_alloc_past _ _ _ zl).trans z0, (World.cell?_alloc_past _ _ _ zl).trans z1⟩ | exact ⟨cell_set3 hpn z0, cell_set3 hpn z1⟩)
    ((first
     | (go_at_call 85; refine (HW.out _).mono ?_; rintro e w' ⟨rfl, rfl⟩)
     | (go_at_call 121; refine (HLH.out _ (by first | exact below_drew _ | exact below_ad _ _)).mono ?_; rintro e w1 ⟨rfl, hq⟩; have HQ := lhi hq; have z0 := hq.2.cellOf (p := ⟨p, 0, none⟩) (fresh_old HIP.out) (by first | exact p0 | exact (World.cell?_alloc_past _ _ _ hpl).trans p0); have z1 := hq.2.cellOf (p := ⟨p, 1, none⟩) (fresh_old HIP.out) (by first | exact p1 | exact (World.cell?_alloc_past _ _ _ hpl).trans p1); have zl := World.block_lt_of_cell? _ _ z0; (try (have hy := hq.2.blk (Blk.new w0 169 #[.int .i64 0, .string ⟨#[]⟩, .bool false]) (fresh_in (Nat.le_refl _) (by simp)); have y0 : w1.cell? ⟨w0.heap.size, 0, none⟩ = some (.int .i64 0) := hy.cell 0; have y1 : w1.cell? ⟨w0.heap.size, 1, none⟩ = some (.string ⟨#[]⟩) := hy.cell 1; have y2 : w1.cell? ⟨w0.heap.size, 2, none⟩ = some (.bool false) := hy.cell 2; have u0 := hy.frozen 0; have u1 := hy.frozen 1; have u2 := hy.frozen 2; clear hy)); clear hq)
     | (go_at_call 120; refine (get_any HQ.out.1 HOK.out (by rw [HTS.out]; exact HT.out) HZ.out _ (by first | exact Below.refl _ _ | exact (Below.refl _ _).alloc (Nat.le_refl _) _)).mono ?_; rintro e w' ⟨⟨v, rfl, hv⟩, rfl⟩; have hv : v = .iface 169 (.agg #[.int .i64 bv, .string bd, .bool bh]) := hv; subst hv; have hta := ta_base (.agg #[.int .i64 bv, .string bd, .bool bh]))))
   all_goals
    go_wp2_with (fail)
    go_meet
    case rel => first | exact ⟨_, rfl, rfl, var3A HBD.out (by unfold still; decide) HQ.out⟩ | exact ⟨_, rfl, rfl, var3B HBD.out HQ.out⟩
  case rest =>
   obtain ⟨q, rfl, rfl, hv⟩ := hcut
   have HV := lhi hv
   have v0 : wc.cell? ⟨q, 0, none⟩ = some (.int .i64 bv) := hv.b.cell 0
   have v1 : wc.cell? ⟨q, 1, none⟩ = some (.string bd) := hv.b.cell 1
   have v2 : wc.cell? ⟨q, 2, none⟩ = some (.bool bh) := hv.b.cell 2
   have hr := hv.k.blk HR.out HIR.out
   have HRR := lhi hr
   have r0 : wc.cell? ⟨p + 1, 0, none⟩ = some (.int .i64 0) := hr.cell 0
   have r1 : wc.cell? ⟨p + 1, 1, none⟩ = some (.string ⟨#[]⟩) := hr.cell 1
   have r2 : wc.cell? ⟨p + 1, 2, none⟩ = some (.bool false) := hr.cell 2
   have f0 := hr.frozen 0
   have f1 := hr.frozen 1
   have f2 := hr.frozen 2
   clear hv hr p0 p1
   go_wp2_with (fail)
   obtain ⟨e0, e1, e2⟩ := set3_cells HRR.out (.int .i64 bv) (.string bd) (.bool bh)
   refine bodyPost_ret (v := .agg #[.int .i64 bv, .string bd, .bool bh]) (by simp [results, Tryz.results91, go_sem, e0, e1, e2]) rfl ⟨rfl, ?_⟩
   exact var3_out HB.out HBDL.out HV.out HRR.out (by unfold still; decide) (by have := HPP.out; omega) (by have := HSZ.out; omega)
end
end
section
open Go.RowKit
set_option maxHeartbeats 1000000
def itV (x : Item) : Value := .agg #[.string x.name, .int .i64 x.num, .bool x.dir]
def Item.is (s : ByteArray) (x : Item) : Bool := decide (x.name = s)
def findV (l : List Item) (s : ByteArray) : Value := match l.find? (Item.is s) with
 | some x => .tuple #[itV x, .bool true]
 | none => .tuple #[.agg #[.string ⟨#[]⟩, .int .i64 0, .bool false], .bool false]
theorem CL_it (l : List Item) : CL encIt l (itC l) 3 := fun i j hi hj => by
 have : j = 0 ∨ j = 1 ∨ j = 2 := by omega
 rcases this with rfl | rfl | rfl <;> simp [encIt, itC, List.getD, hi]
theorem toList_injM {s t : ByteArray} (h : s.toList = t.toList) : s = t := by
 rw [ByteArray.toList_eq, ByteArray.toList_eq] at h
 cases s; cases t
 simpa using congrArg List.toArray h
theorem find_at {l : List Item} {s : ByteArray} {k : Nat} (hk : k < l.length) (h : (l.getD k noItem).name = s) (hb : ∀ j, j < k -> (l.getD j noItem).name ≠ s) : findV l s = .tuple #[itV (l.getD k noItem), .bool true] := by
 have : l.find? (Item.is s) = some l[k] := by
  rw [List.find?_eq_some_iff_getElem]
  have e : l.getD k noItem = l[k] := by simp [List.getD, hk]
  refine ⟨by rw [e] at h; simpa [Item.is] using h, k, hk, rfl, fun i hi => ?_⟩
  have := hb i hi
  rw [show l.getD i noItem = l[i] by simp [List.getD, show i < l.length by omega]] at this
  simpa [Item.is] using this
 unfold findV
 rw [this]
 simp [List.getD, hk]
theorem find_no {l : List Item} {s : ByteArray} (hb : ∀ j, j < l.length -> (l.getD j noItem).name ≠ s) : findV l s = .tuple #[.agg #[.string ⟨#[]⟩, .int .i64 0, .bool false], .bool false] := by
 have : l.find? (Item.is s) = none := by
  rw [List.find?_eq_none]
  intro x hx
  obtain ⟨i, hi, rfl⟩ := List.getElem_of_mem hx
  have := hb i hi
  rw [show l.getD i noItem = l[i] by simp [List.getD, hi]] at this
  simpa [Item.is] using this
 unfold findV
 rw [this]
set_option maxRecDepth 1000000 in
theorem find_calls {w : World} {v : Value} {l : List Item} (h : ItB w v l) (hl : l.length <= 1000) (s : ByteArray) :
  Calls Tryz.prog 181 #[v, .string s] w fun e w' => e = .returned (findV l s) /\ Below w.heap.size w w' := by
 have hrow := RowT.at' h
 obtain ⟨A, cap, rfl, hcap, hA⟩ := hrow
 obtain ⟨n, hn⟩ : ∃ n, l.length = n := ⟨_, rfl⟩
 have HF1 := lhi (fun k (hk : k < n) => find_at (l := l) (s := s) (k := k) (by omega))
 have HF2 := lhi (fun (h : ∀ j, j < n -> (l.getD j noItem).name ≠ s) => find_no (l := l) (s := s) (fun j hj => h j (by omega)))
 have HA := lhi hA
 rw [hn] at hl hcap HA ⊢
 obtain ⟨p, hp⟩ : ∃ p, p = w.heap.size := ⟨_, rfl⟩
 have HP := lhi hp
 have HB := lhi (show Below w.heap.size w (w.alloc (.cells #[.string ⟨#[]⟩, .int .i64 0, .bool false] 165)) from (Below.refl _ _).alloc (Nat.le_refl _) _)
 have HR := lhi (show Blk (w.alloc (.cells #[.string ⟨#[]⟩, .int .i64 0, .bool false] 165)) p 165 #[.string ⟨#[]⟩, .int .i64 0, .bool false] by rw [hp]; exact Blk.new _ _ _)
 clear hA h hn
 go_enter Tryz.func181, Tryz.ntmps181
 go_wp2_with (fail)
 rw [<- hp] at HB ⊢
 generalize w.alloc (.cells #[.string ⟨#[]⟩, .int .i64 0, .bool false] 165) = w1 at *
 clear hp
 go_loopw [10] (fun i wr => ∃ k : Nat, i = .int .i64 k /\ k <= n /\ Below p w wr /\ Blk wr p 165 #[.string ⟨#[]⟩, .int .i64 0, .bool false] /\ ∀ j, j < k -> (l.getD j noItem).name ≠ s) (fun i _ => n - (intOf i).toNat)
 case atStart => exact ⟨0, rfl, by omega, HB.out, HR.out, fun j hj => absurd hj (by omega)⟩
 case round =>
  obtain ⟨k, rfl, hk, hb, hr, hlt⟩ := hrel
  have HL := lhi hlt
  have HBR := lhi hb
  have HRR := lhi hr
  clear hlt
  by_cases hq : k < n
  ·obtain ⟨g, off, rfl, hcell⟩ := HA.out (by omega)
   have hg : g < p := by rw [HP.out]; exact World.block_lt_of_cell? _ _ (hcell k 0 hq (by omega))
   have q0 : wr.cell? ⟨g, off + k * 3, none⟩ = some (.string (l.getD k noItem).name) := (hb.cell (p := ⟨g, off + k * 3, none⟩) hg).trans (hcell k 0 hq (by omega))
   have q1 : wr.cell? ⟨g, off + k * 3 + 1, none⟩ = some (.int .i64 (l.getD k noItem).num) := (hb.cell (p := ⟨g, off + k * 3 + 1, none⟩) hg).trans (hcell k 1 hq (by omega))
   have q2 : wr.cell? ⟨g, off + k * 3 + 2, none⟩ = some (.bool (l.getD k noItem).dir) := (hb.cell (p := ⟨g, off + k * 3 + 2, none⟩) hg).trans (hcell k 2 hq (by omega))
   have hq1 : (k : Int) < n := by omega
   have hpw : p <= wr.heap.size := by rw [HP.out]; exact hb.size
   have hpw1 : p < wr.heap.size := hr.lt
   have r0 : wr.cell? ⟨p, 0, none⟩ = some (.string ⟨#[]⟩) := hr.cell 0
   have r1 : wr.cell? ⟨p, 1, none⟩ = some (.int .i64 0) := hr.cell 1
   have r2 : wr.cell? ⟨p, 2, none⟩ = some (.bool false) := hr.cell 2
   have f0 := hr.frozen 0
   have f1 := hr.frozen 1
   have f2 := hr.frozen 2
   have HRA := lhi (hr.alloc (.cells #[.string (l.getD k noItem).name, .int .i64 (l.getD k noItem).num, .bool (l.getD k noItem).dir] 165))
   have HBA := lhi (hb.alloc hpw (.cells #[.string (l.getD k noItem).name, .int .i64 (l.getD k noItem).num, .bool (l.getD k noItem).dir] 165))
   have HV := lhi (show itV (l.getD k noItem) = .agg #[.string (l.getD k noItem).name, .int .i64 (l.getD k noItem).num, .bool (l.getD k noItem).dir] from rfl)
   obtain ⟨nm, hnm⟩ : ∃ x, (l.getD k noItem).name = x := ⟨_, rfl⟩
   obtain ⟨nu, hnu⟩ : ∃ x, (l.getD k noItem).num = x := ⟨_, rfl⟩
   obtain ⟨nd, hnd⟩ : ∃ x, (l.getD k noItem).dir = x := ⟨_, rfl⟩
   have HNM := lhi hnm
   rw [hnm, hnu, hnd] at HRA HBA HV
   rw [hnm] at q0
   rw [hnu] at q1
   rw [hnd] at q2
   have HPW := lhi hpw
   clear hcell hb hr hnm hnu hnd
   by_cases e : nm = s
   ·have HX := lhi (HF1.out k hq (HNM.out.trans e) HL.out)
    have e2 : (nm.toList == s.toList) = true := by rw [e]; simp
    clear e
    go_wp2_with (fail)
    have hfin := (((HRR.out.set_ 0 (.string nm)).set_ 1 (.int .i64 nu)).set_ 2 (.bool nd)).alloc (.cells #[.string nm, .int .i64 nu, .bool nd] 165)
    have c0 := hfin.cell 0
    have c1 := hfin.cell 1
    have c2 := hfin.cell 2
    clear hfin r0 r1 r2 f0 f1 f2
    (try simp only [Exit.inBlock, Exit.then])
    refine bodyPost_ret (v := .tuple #[.agg #[.string nm, .int .i64 nu, .bool nd], .bool true]) ?_ rfl ⟨?_, ?_⟩
    ·simp [results, Tryz.results181, go_sem, c0, c1, c2]
    ·rw [HX.out, HV.out]
    ·rw [<- HP.out]
     exact (((HBR.out.setCell (p := ⟨p, 0, none⟩) (Nat.le_refl _) _).setCell (p := ⟨p, 1, none⟩) (Nat.le_refl _) _).setCell (p := ⟨p, 2, none⟩) (Nat.le_refl _) _).alloc (by simpa [World.setCell] using HPW.out) _
   ·have e2 : (nm.toList == s.toList) = false := by
     rw [beq_eq_false_iff_ne]
     exact fun h => e (toList_injM h)
    have HX := lhi (show ∀ j, j < k + 1 -> (l.getD j noItem).name ≠ s from fun j hj => by
     by_cases h : j = k
     ·subst h; rw [HNM.out]; exact e
     ·exact HL.out j (by omega))
    clear e
    go_wp2_with (fail)
    go_roundw
    case rel => exact ⟨k + 1, by go_num, by omega, HBA.out, HRA.out, HX.out⟩
    case measure =>
     simp only [intOf]
     omega
  ·have e : k = n := by omega
   subst e
   have HX := lhi (HF2.out HL.out)
   have r0 : wr.cell? ⟨p, 0, none⟩ = some (.string ⟨#[]⟩) := hr.cell 0
   have r1 : wr.cell? ⟨p, 1, none⟩ = some (.int .i64 0) := hr.cell 1
   have r2 : wr.cell? ⟨p, 2, none⟩ = some (.bool false) := hr.cell 2
   have f0 := hr.frozen 0
   have f1 := hr.frozen 1
   have f2 := hr.frozen 2
   clear hr hb
   go_wp2_with (fail)
   obtain ⟨c0, c1, c2⟩ := set3_cells HRR.out (.string ⟨#[]⟩) (.int .i64 0) (.bool false)
   (try simp only [Exit.inBlock, Exit.then])
   refine bodyPost_ret (v := .tuple #[.agg #[.string ⟨#[]⟩, .int .i64 0, .bool false], .bool false]) ?_ rfl ⟨?_, ?_⟩
   ·simp [results, Tryz.results181, go_sem, c0, c1, c2]
   ·rw [HX.out]
   ·rw [<- HP.out]
    exact ((HBR.out.setCell (p := ⟨p, 0, none⟩) (Nat.le_refl _) _).setCell (p := ⟨p, 1, none⟩) (Nat.le_refl _) _).setCell (p := ⟨p, 2, none⟩) (Nat.le_refl _) _
end
section
open Go.RowKit
set_option maxHeartbeats 1000000
theorem info_item : (Tryz.prog.info? 165).map (fun i => (i.zero, i.size, i.bytes)) = some (some (.agg #[.string ⟨#[]⟩, .int .i64 0, .bool false]), 3, 32) := by kernel_rfl
theorem encIt_len (x : Item) : (encIt x).length = 3 := rfl
theorem encIt_one (x : Item) : ∀ u ∈ encIt x, u.oneCell' = true := by
 intro u hu
 simp [encIt] at hu
 rcases hu with rfl | rfl | rfl <;> rfl
theorem bel_drew {B : Nat} {w w' : World} (h : Below B w w') : Below B w w'.drew := ⟨h.os, h.tape, h.output, h.size, h.block⟩
theorem below_grown {w w' : World} {B : Nat} {v : Value} (hg : w.grownBy w' v.ownBlock) (hv : ∀ q, v.ownBlock = some q -> B <= q) (hB : B <= w.heap.size) : Below B w w' :=
 ⟨hg.os, hg.tape, hg.output, hg.size, fun q hq => hg.block q (by omega) (fun e => by have := hv q e.symm; omega)⟩
theorem with_end {w2 : World} {B g cap : Nat} {l : List Item} {x : Item} {c : List Value} (h : w2.ownsRow B 165 3 (.slice (some ⟨g, 0, none⟩) (l.length + 1) cap) (l.length + 1) (l.flatMap encIt ++ c)) (hE : encIt x = c) : ItB w2 (.slice (some ⟨g, 0, none⟩) (l.length + 1) cap) (l ++ [x]) := by
 have e1 : (l ++ [x]).length = l.length + 1 := by simp
 have e2 : (l ++ [x]).flatMap encIt = l.flatMap encIt ++ c := by simp [hE]
 rw [<- e2] at h
 have h2 : w2.ownsRow B 165 3 (.slice (some ⟨g, 0, none⟩) (l.length + 1) cap) (l ++ [x]).length ((l ++ [x]).flatMap encIt) := by rw [e1]; exact h
 exact (own_rowT (by decide) encIt_len h2 (CL_it _)).base_le (Nat.zero_le _)
set_option maxRecDepth 1000000 in
theorem with_calls {w : World} {v : Value} {l : List Item} (h : ItB w v l) (hl : l.length <= 1000) (x : Item) :
  Calls Tryz.prog 83 #[v, .agg #[.string x.name, .int .i64 x.num, .bool x.dir]] w fun e w' => (∃ v', e = .returned v' /\ ItB w' v' (l ++ [x]) /\ ∀ q, svBlk v' q -> w.heap.size <= q) /\ Below w.heap.size w w' := by
 obtain ⟨i0, hi, hz0, hz1, hz2⟩ := info_parts info_item
 obtain ⟨B, hB⟩ : ∃ B, B = w.heap.size := ⟨_, rfl⟩
 obtain ⟨w0, hw0⟩ : ∃ x', x' = w.alloc (.cells #[.string x.name, .int .i64 x.num, .bool x.dir] 165) := ⟨_, rfl⟩
 have HB0 := lhi (show Below B w w0 by rw [hw0, hB]; exact (Below.refl _ _).alloc (Nat.le_refl _) _)
 have hsz : w0.heap.size = B + 1 := by rw [hw0, hB]; simp
 have HBX := lhi (show Blk w0 B 165 #[.string x.name, .int .i64 x.num, .bool x.dir] by rw [hw0, hB]; exact Blk.new _ _ _)
 have x0 : w0.cell? ⟨B, 0, none⟩ = some (.string x.name) := HBX.out.cell 0
 have x1 : w0.cell? ⟨B, 1, none⟩ = some (.int .i64 x.num) := HBX.out.cell 1
 have x2 : w0.cell? ⟨B, 2, none⟩ = some (.bool x.dir) := HBX.out.cell 2
 have HI := lhi (show RowAt w0 v l.length 3 (itC l) from (RowT.at' h).keep (hB ▸ HB0.out))
 have HI2 := lhi (show RowAt (w0.alloc (.cells #[.string x.name, .int .i64 x.num, .bool x.dir] 165)) v l.length 3 (itC l) from HI.out.keep (below_alloc _ _))
 have HSZ := lhi hsz
 have hbb : B <= w0.heap.size := by omega
 have hblt : B < w0.heap.size := by omega
 have HBB := lhi hB
 clear h hsz
 obtain ⟨nm, hnm⟩ : ∃ y, x.name = y := ⟨_, rfl⟩
 obtain ⟨nu, hnu⟩ : ∃ y, x.num = y := ⟨_, rfl⟩
 obtain ⟨nd, hnd⟩ : ∃ y, x.dir = y := ⟨_, rfl⟩
 have HE := lhi (show encIt x = [.string nm, .int .i64 nu, .bool nd] by unfold encIt; rw [hnm, hnu, hnd])
 rw [hnm, hnu, hnd] at hw0 HBX HI2 ⊢
 rw [hnm] at x0
 rw [hnu] at x1
 rw [hnd] at x2
 clear hnm hnu hnd
 go_enter Tryz.func83, Tryz.ntmps83
 go_wp2_with (fail)
 rw [<- hB, <- hw0]
 clear hB hw0
 go_region_law ((first
  | (refine step_app (enc := encIt) (k := 3) _ (by rfl) (.const (.slice none 0 0)) (.tmp 5) 161 165 (by rfl) i0 _ 32 Tryz.underlying161 hi hz0 hz1 hz2 rfl (by decide) B (.slice none 0 0) [] (by rfl) (World.ownsRow_nil _ _ _ _) v (by rfl) l (by first | exact HI.out | exact HI2.out) (CL_it l) encIt_len (fun x _ => encIt_one x) (by simp; omega) (by decide) (by first | exact hbb | (simp; omega)) ?_; intro A1 n1 cap1 w1 hn1 hown1 hgrow1; have hn1 : n1 = l.length := hn1; subst hn1; have hown1 : w1.ownsRow B 165 3 (.slice A1 l.length cap1) l.length (l.flatMap encIt) := hown1; have z0 : w1.cell? ⟨B, 0, none⟩ = some (.string nm) := (hgrow1.cell_far ⟨B, 0, none⟩ (by simp; omega) (by simp [Value.ownBlock])).trans (by first | exact x0 | exact (World.cell?_alloc_past _ _ _ hblt).trans x0); have z1 : w1.cell? ⟨B, 1, none⟩ = some (.int .i64 nu) := (hgrow1.cell_far ⟨B, 1, none⟩ (by simp; omega) (by simp [Value.ownBlock])).trans (by first | exact x1 | exact (World.cell?_alloc_past _ _ _ hblt).trans x1); have z2 : w1.cell? ⟨B, 2, none⟩ = some (.bool nd) := (hgrow1.cell_far ⟨B, 2, none⟩ (by simp; omega) (by simp [Value.ownBlock])).trans (by first | exact x2 | exact (World.cell?_alloc_past _ _ _ hblt).trans x2))
  | (refine step_append_lies _ (by rfl) (.tmp 6) (.tmp 8) 161 (by rfl) B 165 i0 _ 3 32 Tryz.underlying161 hi hz0 hz1 hz2 rfl (by decide) (.slice A1 l.length cap1) _ _ (by rfl) (hown1.alloc (.cells #[.string nm, .int .i64 nu, .bool nd] 165)) ⟨w1.heap.size, 0, none⟩ 1 1 [.string nm, .int .i64 nu, .bool nd] (by rfl) (by rfl) (World.news_of_block (heap_alloc_new _ _)) (by intro u hu; simp at hu; rcases hu with rfl | rfl | rfl <;> rfl) (by decide) (by simp only [maxLen]; omega) (by omega) (by have := hgrow1.size; simp at this ⊢; omega) _ rfl ?_; intro g cap w2 hown2 hgrow2 hat hlt)
  | (refine step_append_lies _ (by rfl) (.tmp 6) (.tmp 8) 161 (by rfl) B 165 i0 _ 3 32 Tryz.underlying161 hi hz0 hz1 hz2 rfl (by decide) (.slice A1 l.length cap1) _ _ (by rfl) hown1 ⟨w0.heap.size, 0, none⟩ 1 1 [.string nm, .int .i64 nu, .bool nd] (by rfl) (by rfl) (World.news_of_block (show Blk w1 w0.heap.size 165 #[.string nm, .int .i64 nu, .bool nd] from Blk.of_heap (hgrow1.block _ (by simp) (by simp [Value.ownBlock])) (Blk.new w0 _ _))) (by intro u hu; simp at hu; rcases hu with rfl | rfl | rfl <;> rfl) (by decide) (by simp only [maxLen]; omega) (by omega) (by have := hgrow1.size; simp at this ⊢; omega) _ rfl ?_; intro g cap w2 hown2 hgrow2 hat hlt)))
 all_goals
  have HV2 := lhi (with_end hown2 HE.out)
  have HV3 := lhi (show ∀ q, svBlk (.slice (some ⟨g, 0, none⟩) (l.length + 1) cap) q -> B <= q from fun q hq => by
   obtain ⟨o, n, c, e⟩ := hq
   injection e with e
   injection e with e
   injection e with e
   exact e ▸ (hown2.lt g rfl).1)
  have hB1 : Below B w w1 := by
   have h1 : Below B w0 w1 := by
    first
    | exact (bel_drew (Below.refl _ _)).trans (below_grown (v := .slice none 0 0) hgrow1 (fun q hq => by cases hq) hbb)
    | exact (bel_drew ((Below.refl _ _).alloc hbb (.cells #[.string nm, .int .i64 nu, .bool nd] 165))).trans (below_grown (v := .slice none 0 0) hgrow1 (fun q hq => by cases hq) (by simp; omega))
   exact HB0.out.trans h1
  have hB2 : Below B w w2 := by
   have hq : ∀ q, (Value.slice A1 l.length cap1).ownBlock = some q -> B <= q := fun q hq => (hown1.lt q hq).1
   have hs := hB1.size
   have hs2 := HB0.out.size
   have hs3 := hgrow1.size
   first
   | exact hB1.trans (below_grown hgrow2 hq (by simp at hs3; omega))
   | exact hB1.trans (((Below.refl _ _).alloc (by simp at hs3; omega) (.cells #[.string nm, .int .i64 nu, .bool nd] 165)).trans (below_grown hgrow2 hq (by simp at hs3 ⊢; omega)))
  have HB2 := lhi hB2
  clear hB1 hB2 hgrow1 hgrow2 hown1 hown2 hat hlt z0 z1 z2 hn1
  go_wp2_with (fail)
  go_ret
  exact ⟨⟨_, rfl, HV2.out, HBB.out ▸ HV3.out⟩, HBB.out ▸ HB2.out⟩
end
section
open Go.RowKit
set_option maxHeartbeats 1000000
def withoutL (l : List Item) (s : ByteArray) : List Item := l.filter fun x => !decide (x.name = s)
theorem without_snoc (l : List Item) (s : ByteArray) {k : Nat} (hk : k < l.length) : withoutL (l.take (k + 1)) s = withoutL (l.take k) s ++ (if (l.getD k noItem).name = s then [] else [l.getD k noItem]) := by
 have e : l.getD k noItem = l[k] := by simp [List.getD, hk]
 unfold withoutL
 rw [List.take_succ_eq_append_getElem hk, List.filter_append, e]
 by_cases h : l[k].name = s <;> simp [h]
theorem without_len (l : List Item) (s : ByteArray) : (withoutL l s).length <= l.length := List.length_filter_le _ _
set_option maxRecDepth 1000000 in
theorem without_calls {w : World} {v : Value} {l : List Item} (h : ItB w v l) (hl : l.length <= 1000) (s : ByteArray) :
  Calls Tryz.prog 179 #[v, .string s] w fun e w' => (∃ v', e = .returned v' /\ ItB w' v' (withoutL l s) /\ ∀ q, svBlk v' q -> w.heap.size <= q) /\ Below w.heap.size w w' := by
 obtain ⟨d0_, hd, hx0, hx1, hx2⟩ := info_parts info_item
 have hrow := RowT.at' h
 obtain ⟨A, cap, rfl, hcap, hA⟩ := hrow
 obtain ⟨n, hn⟩ : ∃ n, l.length = n := ⟨_, rfl⟩
 have HA := lhi hA
 have HN := lhi hn
 have HS := lhi (fun k hk => without_snoc l s (k := k) hk)
 rw [hn] at hl hcap HA
 rw [hn]
 clear hA h hn
 obtain ⟨p, hp⟩ : ∃ p, p = w.heap.size := ⟨_, rfl⟩
 have HP := lhi hp
 clear hp
 go_enter Tryz.func179, Tryz.ntmps179
 go_wp2_with (fail)
 go_loopw [5, 10] (fun v i wr => ∃ (k : Nat), i = .int .i64 k /\ k <= n /\ (∃ A cap, v = .slice A (withoutL (l.take k) s).length cap) /\ wr.ownsRow p 165 3 v (withoutL (l.take k) s).length ((withoutL (l.take k) s).flatMap encIt) /\ Below p w wr) (fun _ i _ => n - (intOf i).toNat)
 case atStart => exact ⟨0, rfl, by omega, ⟨_, _, rfl⟩, World.ownsRow_nil _ _ _ _, Below.refl _ _⟩
 case round =>
  obtain ⟨k, rfl, hk, ⟨VA, vc, rfl⟩, hown, hb⟩ := hrel
  have HO := lhi hown
  have HB := lhi hb
  have HLL := lhi (show (withoutL (l.take k) s).length <= 1000 by have := without_len (l.take k) s; have h2 := List.length_take_le k l; have := HN.out; omega)
  clear hown hb
  by_cases hq : k < n
  ·have hq1 : (k : Int) < n := by omega
   obtain ⟨g, off, rfl, hcell⟩ := HA.out (by omega)
   have hg : g < p := by rw [HP.out]; exact World.block_lt_of_cell? _ _ (hcell k 0 hq (by omega))
   have q0 : wr.cell? ⟨g, off + k * 3, none⟩ = some (.string (l.getD k noItem).name) := (HB.out.cell (p := ⟨g, off + k * 3, none⟩) hg).trans (hcell k 0 hq (by omega))
   have q1 : wr.cell? ⟨g, off + k * 3 + 1, none⟩ = some (.int .i64 (l.getD k noItem).num) := (HB.out.cell (p := ⟨g, off + k * 3 + 1, none⟩) hg).trans (hcell k 1 hq (by omega))
   have q2 : wr.cell? ⟨g, off + k * 3 + 2, none⟩ = some (.bool (l.getD k noItem).dir) := (HB.out.cell (p := ⟨g, off + k * 3 + 2, none⟩) hg).trans (hcell k 2 hq (by omega))
   have HTK := HS.out k (by have := HN.out; omega)
   have HIT := lhi (show l.getD k noItem = ⟨(l.getD k noItem).name, (l.getD k noItem).num, (l.getD k noItem).dir⟩ from rfl)
   obtain ⟨nm, hnm⟩ : ∃ x, (l.getD k noItem).name = x := ⟨_, rfl⟩
   obtain ⟨nu, hnu⟩ : ∃ x, (l.getD k noItem).num = x := ⟨_, rfl⟩
   obtain ⟨nd, hnd⟩ : ∃ x, (l.getD k noItem).dir = x := ⟨_, rfl⟩
   rw [hnm, hnu, hnd] at HIT
   rw [HIT.out] at HTK
   rw [hnm] at q0
   rw [hnu] at q1
   rw [hnd] at q2
   obtain ⟨L, hL⟩ : ∃ X, withoutL (l.take k) s = X := ⟨_, rfl⟩
   rw [hL] at HO HLL HTK ⊢
   have HTK := lhi HTK
   clear hcell hnm hnu hnd hL HIT
   have HX := lhi (Blk.new wr 165 #[.string nm, .int .i64 nu, .bool nd])
   have HOx := lhi (own_below HO.out (below_alloc wr (Obj.cells #[.string nm, .int .i64 nu, .bool nd] 165)))
   have HBx := lhi (HB.out.trans ((below_alloc wr (Obj.cells #[.string nm, .int .i64 nu, .bool nd] 165)).mono (show p <= wr.heap.size by have := HB.out.size; have := HP.out; omega)))
   go_upto_region 5 with (fail)
   obtain ⟨xb, hxb⟩ : ∃ x, x = wr.heap.size := ⟨_, rfl⟩
   rw [<- hxb] at HX ⊢
   clear hxb q0 q1 q2 HO HB
   generalize wr.alloc (Obj.cells #[.string nm, .int .i64 nu, .bool nd] 165) = wx at *
   have x0 : wx.cell? ⟨xb, 0, none⟩ = some (.string nm) := HX.out.cell 0
   have x1 : wx.cell? ⟨xb, 1, none⟩ = some (.int .i64 nu) := HX.out.cell 1
   have x2 : wx.cell? ⟨xb, 2, none⟩ = some (.bool nd) := HX.out.cell 2
   by_cases e : nm = s
   ·have e2 : (nm.toList == s.toList) = true := by rw [e]; simp
    have HTK := lhi (show withoutL (l.take (k + 1)) s = L by have := HTK.out; rw [if_pos e] at this; simpa using this)
    clear e
    go_wp2_with (fail)
    go_roundw
    case rel => exact ⟨k + 1, by go_num, by omega, ⟨VA, vc, by rw [HTK.out]⟩, by rw [HTK.out]; exact HOx.out, HBx.out⟩
    case measure =>
     simp only [intOf]
     omega
   ·have e2 : (nm.toList == s.toList) = false := by
     rw [beq_eq_false_iff_ne]
     exact fun h => e (toList_injM h)
    have HTK := lhi (show withoutL (l.take (k + 1)) s = L ++ [⟨nm, nu, nd⟩] by have := HTK.out; rw [if_neg e] at this; exact this)
    clear e
    have HENC := lhi (show encIt ⟨nm, nu, nd⟩ = [.string nm, .int .i64 nu, .bool nd] from rfl)
    have HNW := lhi (Blk.new wx 165 #[.string nm, .int .i64 nu, .bool nd])
    have HOW := lhi (own_below HOx.out (below_alloc wx (Obj.cells #[.string nm, .int .i64 nu, .bool nd] 165)))
    have HBW := lhi (HBx.out.trans ((below_alloc wx (Obj.cells #[.string nm, .int .i64 nu, .bool nd] 165)).mono (show p <= wx.heap.size by have := HBx.out.size; have := HP.out; omega)))
    have HQW := lhi (show p <= (wx.alloc (Obj.cells #[.string nm, .int .i64 nu, .bool nd] 165)).heap.size by have := HBW.out.size; have := HP.out; omega)
    go_wp2_with (at_builtin; refine wpList_app (enc := encIt) _ rfl (.tmp 18) (.tmp 20) 161 165 rfl d0_ _ 32 Tryz.underlying161 hd hx0 hx1 hx2 rfl (by decide) p _ L rfl HOW.out (.slice (some ⟨wx.heap.size, 0, none⟩) 1 1) rfl [⟨nm, nu, nd⟩] (C := fun _ b => [.string nm, .int .i64 nu, .bool nd].getD b (.int .i64 0)) (RowAt.blk HNW.out (Nat.le_refl _) (fun a b ha hb => by (obtain rfl : a = 0 := (by simpa using ha)); rcases (show b = 0 ∨ b = 1 ∨ b = 2 by omega) with rfl | rfl | rfl <;> rfl)) (fun a b ha hb => by (obtain rfl : a = 0 := (by simpa using ha)); (show (encIt ⟨nm, nu, nd⟩)[b]? = _); (rw [HENC.out]); rcases (show b = 0 ∨ b = 1 ∨ b = 2 by omega) with rfl | rfl | rfl <;> rfl) encIt_len (fun x hx u hu => encIt_one x u hu) (by have := HLL.out; simp; omega) (by decide) HQW.out ?_; intro A6 n6 c6 w6 hn6 ho6 hg6; have HN6 := lhi hn6; have HO6 := lhi ho6; have HG6 := lhi hg6; clear hn6 ho6 hg6)
    have HB6 := lhi (show Below p w w6 from HBW.out.trans ⟨HG6.out.os, HG6.out.tape, HG6.out.output, HG6.out.size, fun k' hk' => HG6.out.block k' (by have := HQW.out; omega) (fun e => by have := (HOW.out.lt k' e.symm).1; omega)⟩)
    go_roundw
    case rel => exact ⟨k + 1, by go_num, by omega, ⟨A6, c6, by rw [HTK.out, HN6.out]⟩, by rw [HTK.out, <- HN6.out] at *; rw [HTK.out]; exact HN6.out ▸ HO6.out, HB6.out⟩
    case measure =>
     simp only [intOf]
     omega
  ·have e : k = n := by omega
   subst e
   go_wp2_with (fail)
   go_ret
   have et : l.take k = l := List.take_of_length_le (by have := HN.out; omega)
   refine ⟨⟨_, rfl, ?_, ?_⟩, HP.out ▸ HB.out⟩
   ·have := HO.out
    rw [et] at this ⊢
    exact (own_rowT (by decide) encIt_len this (CL_it _)).base_le (Nat.zero_le _)
   ·intro q hq
    obtain ⟨o, n', c', e⟩ := hq
    injection e with e
    subst e
    rw [<- HP.out]
    exact (HO.out.lt q rfl).1
end
end Go.Proofs.YtkebjgebkneijaaGreatDoor
