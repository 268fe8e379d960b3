/- Texts of one's own that a claim's last text rests on: Mp6 Mp7 Mr4 NoP4 NoP5 NoP6 NoP7 NoP8 NoP9 NoP10 NoP11 NoP12 Mr5. -/
import Derived.Test.YtkebjgebkneijaaGreatDoorMG24
import Derived.Test.YtkebjgebkneijaaGreatDoorMG17
import Derived.Test.YtkebjgebkneijaaGreatDoorMG22
import Derived.Test.YtkebjgebkneijaaGreatDoorMG23
set_option linter.unusedVariables false
set_option linter.unusedSimpArgs false
namespace Go.Proofs.YtkebjgebkneijaaGreatDoor
section
open Go.RowKit
set_option maxHeartbeats 2000000
theorem info_proc : (Tryz.prog.info? 93).map (fun i => (i.zero, i.size, i.bytes)) = some (some (.agg idleP.cs.toArray), 17, 192) := by kernel_rfl
theorem made_procs (n : Nat) : madeCells idleP.cs.toArray (n * 17) = ((List.replicate n idleP).map PV.cs).flatten.toArray := by
 have hlen : ∀ x ∈ (List.replicate n idleP).map PV.cs, x.length = 17 := by
  intro x hx
  obtain ⟨p, -, rfl⟩ := List.mem_map.1 hx
  rfl
 have hsz : ((List.replicate n idleP).map PV.cs).flatten.length = n * 17 := by
  rw [List.length_flatten]
  have : (((List.replicate n idleP).map PV.cs).map List.length) = List.replicate n 17 := by simp [PV.cs]
  rw [this, List.sum_replicate_nat]
 apply Array.ext
 ·rw [size_madeCells, List.size_toArray, hsz]
 ·intro i h1 h2
  rw [size_madeCells] at h1
  have e : i = i / 17 * 17 + i % 17 := by omega
  have hq : i / 17 < ((List.replicate n idleP).map PV.cs).length := by simp; omega
  have hg := flat_get _ hlen (i / 17) (i % 17) (by omega) hq
  rw [<- e] at hg
  simp only [List.getElem_toArray, madeCells, Array.getElem_map, Array.getElem_range]
  have h3 : (idleP.cs.toArray).size = 17 := rfl
  rw [h3, getElem!_pos _ _ (by rw [h3]; omega)]
  have hi : i < ((List.replicate n idleP).map PV.cs).flatten.length := by rw [hsz]; exact h1
  rw [List.getElem?_eq_getElem hi] at hg
  have h4 : ((List.replicate n idleP).map PV.cs)[i / 17] = idleP.cs := by simp
  rw [h4, List.getElem?_eq_getElem (by show i % 17 < 17; omega)] at hg
  injection hg with hg
  rw [hg]; simp
theorem RowAt.same {w w' : World} {v : Value} {n k : Nat} {C : Nat -> Nat -> Value} (h : RowAt w v n k C) (hb : ∀ b, b < w.heap.size -> w'.heap[b]? = w.heap[b]?) : RowAt w' v n k C := by
 obtain ⟨A, cap, h2, h3, h4⟩ := h
 refine ⟨A, cap, h2, h3, fun hn => ?_⟩
 obtain ⟨g, off, hA, hc⟩ := h4 hn
 refine ⟨g, off, hA, fun i j hi hj => ?_⟩
 have := hc i j hi hj
 have hl := World.block_lt_of_cell? w _ this
 unfold World.cell? at this ⊢
 rw [hb g hl]; exact this
theorem StM.same {w w' : World} {iv ov mv : Value} {ev : Nat -> Value} {S : St} (h : StM w iv ov mv ev S) (hb : ∀ b, b < w.heap.size -> w'.heap[b]? = w.heap[b]?) : StM w' iv ov mv ev S :=
 ⟨h.ino.same hb, fun i hi => (h.ent i hi).same hb, h.opn.same hb, h.mad.same hb⟩
theorem fs_new {w0 w1 : World} {s pb n : Nat} (hm : MemAt (fun b => b < w0.heap.size ∨ b = pb) w1 s (Mem.new n)) (hb : Below w0.heap.size w0 w1) (hp : Blk w1 pb 93 (madeCells idleP.cs.toArray (n * 17))) (hpn : w0.heap.size <= pb) :
  FsAt (fun b => b < w0.heap.size) (w1.alloc (.cells #[.pointer (some ⟨s, 0, none⟩), .slice (some ⟨pb, 0, none⟩) n n] 55)) w1.heap.size s pb (Mem.new n) (List.replicate n idleP) := by
 have hs := hb.size
 refine ⟨(hm.allocIns _).sub fun b q => ?_, ?_, ⟨?_, fun x hx => ?_⟩, fun q => ?_, fun q => ?_, ?_⟩
 ·rcases q with q | q | q
  ·exact .inl (.inl q)
  ·exact .inr q
  ·exact .inl (.inr q)
 ·have := Blk.new w1 55 #[.pointer (some ⟨s, 0, none⟩), .slice (some ⟨pb, 0, none⟩) n n]
  simpa using this
 ·rw [<- made_procs]; exact hp.alloc _
 ·obtain ⟨p, -, rfl⟩ := List.mem_map.1 hx
  rfl
 ·omega
 ·omega
 ·simp [Mem.new]
theorem fsA {w2 w3 : World} {s n : Nat} {mc : Array Value} (hb : Below w2.heap.size w2 w3) (hm : MemAt (fun b => b < w2.drew.heap.size) w3 s (Mem.new n)) (hc : madeCells idleP.cs.toArray (n * 17) = mc) :
  FsAt (fun b => b < w2.heap.size) ((w3.alloc (.cells mc 93)).alloc (.cells #[.pointer (some ⟨s, 0, none⟩), .slice (some ⟨w3.heap.size, 0, none⟩) n n] 55)) (w3.heap.size + 1) s w3.heap.size (Mem.new n) (List.replicate n idleP) := by
 subst hc
 have := fs_new (w0 := w2) (w1 := w3.alloc (.cells (madeCells idleP.cs.toArray (n * 17)) 93)) (s := s) (pb := w3.heap.size) (hm.allocIns _) (hb.alloc hb.size _) (Blk.new _ _ _) hb.size
 simpa using this
theorem fsB {w2 w3 : World} {s n : Nat} {mc : Array Value} (hb' : Below (w2.alloc (.cells mc 93)).drew.heap.size (w2.alloc (.cells mc 93)).drew w3) (hb : Below w2.heap.size w2 w3) (hm : MemAt (fun b => b < (w2.alloc (.cells mc 93)).drew.heap.size) w3 s (Mem.new n)) (hc : madeCells idleP.cs.toArray (n * 17) = mc) :
  FsAt (fun b => b < w2.heap.size) (w3.alloc (.cells #[.pointer (some ⟨s, 0, none⟩), .slice (some ⟨w2.heap.size, 0, none⟩) n n] 55)) w3.heap.size s w2.heap.size (Mem.new n) (List.replicate n idleP) := by
 subst hc
 have hsz : (w2.alloc (.cells (madeCells idleP.cs.toArray (n * 17)) 93)).drew.heap.size = w2.heap.size + 1 := by simp [World.drew]
 refine fs_new (w0 := w2) (w1 := w3) (s := s) (pb := w2.heap.size) (hm.sub fun b q => ?_) hb (Blk.of_heap (hb'.block _ ?_) (show Blk (w2.alloc (.cells (madeCells idleP.cs.toArray (n * 17)) 93)).drew w2.heap.size 93 _ from Blk.new _ _ _)) (Nat.le_refl _)
 ·rw [hsz]; omega
 ·rw [hsz]; omega
set_option maxRecDepth 1000000 in
theorem Load_ok {L : Nat -> Prop} {w : World} {iv ov mv : Value} {ev : Nat -> Value} {S : St} (hb : Bd L w) (hS : StM w iv ov mv ev S) (hI : Inv S) :
  Calls Tryz.prog 15 #[.agg #[iv, ov, mv]] w fun e w' => ∃ fb s pb, e = .returned (.tuple #[.pointer (some ⟨fb, 0, none⟩), .int .i64 0]) /\ FsAt L w' fb s pb (loadM S) (List.replicate S.made.length idleP) /\ Below w.heap.size w w' := by
 have hsm := hI.small
 have h8 := hI.m8
 have h1 := hI.m1
 have hbx := (Below.refl w.heap.size w).alloc (Nat.le_refl _) (.cells #[iv, ov, mv] 32)
 have HS1 := lhi (hS.keep hbx)
 have HI := lhi hI
 have HB1 := lhi hbx
 have HX := lhi (Blk.new w 32 #[iv, ov, mv])
 have HBL := lhi hb
 obtain ⟨A, cap, rfl, -, -⟩ := hS.ino
 obtain ⟨OA, ocap, rfl, -, -⟩ := hS.opn
 obtain ⟨MA, mcap, rfl, -, -⟩ := hS.mad
 obtain ⟨i0, hi0, hz0, hz1, hz2⟩ := info_parts info_proc
 clear hS hI hb hbx hsm
 go_enter Tryz.func15, Tryz.ntmps15
 go_upto_region 1 with (fail)
 obtain ⟨w1, hw1⟩ : ∃ w1, w1 = w.alloc (.cells #[.slice A S.inodes.length cap, .slice OA S.opens.length ocap, .slice MA S.made.length mcap] 32) := ⟨_, rfl⟩
 obtain ⟨sp, hsp⟩ : ∃ sp, sp = w.heap.size := ⟨_, rfl⟩
 rw [<- hw1] at HS1 HB1 HX ⊢
 rw [<- hsp] at HX ⊢
 have HMY := lhi (May_yes HS1.out HI.out)
 have x0 : w1.cell? ⟨sp, 0, none⟩ = some (.slice A S.inodes.length cap) := HX.out.cell 0
 have x1 : w1.cell? ⟨sp, 1, none⟩ = some (.slice OA S.opens.length ocap) := HX.out.cell 1
 have x2 : w1.cell? ⟨sp, 2, none⟩ = some (.slice MA S.made.length mcap) := HX.out.cell 2
 clear hw1 hsp
 go_upto_region 3 with (go_at_call 12; refine HMY.out.mono ?_; rintro e w2 ⟨rfl, hb2⟩; have HB2 := lhi hb2; clear hb2)
 have HX2 := lhi (Blk.of_heap (HB2.out.block _ HX.out.lt) HX.out)
 have HS2 := lhi (HS1.out.keep HB2.out)
 have HBW := lhi (HB1.out.trans (HB2.out.mono HB1.out.size))
 clear x0 x1 x2 HB1 HB2 HS1 HX HMY
 obtain ⟨n, hnn⟩ : ∃ n, S.made.length = n := ⟨_, rfl⟩
 have HNN := lhi hnn
 rw [hnn] at h8 h1 HX2
 try rw [hnn]
 clear hnn
 have hmk : ∀ W : World, (Instr.makeSlice 53 (.int .i64 n) (.int .i64 n)).run Tryz.prog W = .ok (.slice (some ⟨W.heap.size, 0, none⟩) n n) (W.alloc (.cells (madeCells idleP.cs.toArray (n * 17)) 93)) := by
  intro W
  have h := run_make_rowN (P := Tryz.prog) (w := W) 53 93 i0 _ Tryz.underlying53 hi0 hz0 .i64 .i64 n n (Nat.le_refl _) (by rw [hz2]; omega) (by omega)
  rw [hz1] at h
  exact h
 obtain ⟨mc, hmc⟩ : ∃ mc, madeCells idleP.cs.toArray (n * 17) = mc := ⟨_, rfl⟩
 have HMC := lhi hmc
 rw [hmc] at hmk
 clear hmc hi0 hz0 hz1 hz2
 have HNS := lhi (fun (W : World) => newStore_ok (L := fun b => b < W.heap.size) (w := W) (fun b hb => hb) (k := n) ⟨h1, h8⟩)
 have hsl := HX2.out.lt
 go_cut [4] (fun s4 wx => ∃ fb s pb, s4 = .pointer (some ⟨fb, 0, none⟩) /\ FsAt (fun b => b < w2.heap.size) wx fb s pb (Mem.new n) (List.replicate n idleP) /\ Below w2.heap.size w2 wx)
 case first =>
  have c2 : w2.cell? ⟨sp, 2, none⟩ = some (.slice MA n mcap) := HX2.out.cell 2
  have HPA := lhi (fun o => show (w2.alloc o).drew.cell? ⟨sp, 2, none⟩ = some (.slice MA n mcap) from (World.cell?_alloc_past _ _ _ hsl).trans c2)
  have HPB := lhi (fun (W : World) (h : Below w2.heap.size w2 W) => (h.cell (p := ⟨sp, 2, none⟩) hsl).trans c2)
  go_region_held3 (fun w' => w'.cell? ⟨sp, 2, none⟩ = some (.slice MA n mcap))
   (first | exact HPB.out _ (below_drew w2) | exact HPA.out _ | exact HPB.out _ HB3.out | exact HPB.out _ (HB3.out.alloc HB3.out.size _) | exact HPB.out _ ((HB3.out.alloc HB3.out.size _).alloc (by have := HB3.out.size; simp; omega) _))
   ((go_at_call 40; refine (HNS.out _).mono ?_; rintro e w3 ⟨s, rfl, hm3, hb3, hs3⟩; have HM3 := lhi hm3; have HB3' := lhi hb3; have HB3 := lhi (show Below w2.heap.size w2 w3 from by first | exact (below_drew w2).trans hb3 | exact (below_ad w2 _).trans (hb3.mono (by simp))); clear hm3 hb3 hs3))
  all_goals
   go_wp2_with (fail)
   go_meet
   case rel => first
    | exact ⟨_, s, _, rfl, fsA HB3.out HM3.out HMC.out, (HB3.out.alloc HB3.out.size _).alloc (by have := HB3.out.size; simp; omega) _⟩
    | exact ⟨_, s, _, rfl, fsB HB3'.out HB3.out HM3.out HMC.out, HB3.out.alloc HB3.out.size _⟩
 case rest =>
  obtain ⟨fb, s, pb, rfl, hfs, hb3⟩ := hcut
  have HFS := lhi hfs
  have HB3 := lhi hb3
  have HXC := lhi (Blk.of_heap (hb3.block _ hsl) HX2.out)
  have c0 : wc.cell? ⟨fb, 0, none⟩ = some (.pointer (some ⟨s, 0, none⟩)) := hfs.f.cell 0
  have HPD := lhi (show wc.drew.cell? ⟨fb, 0, none⟩ = some (.pointer (some ⟨s, 0, none⟩)) /\ wc.drew.cell? ⟨sp, 0, none⟩ = some (.slice A S.inodes.length cap) /\ wc.drew.cell? ⟨sp, 1, none⟩ = some (.slice OA S.opens.length ocap) /\ wc.drew.cell? ⟨sp, 2, none⟩ = some (.slice MA n mcap) from ⟨c0, HXC.out.cell 0, HXC.out.cell 1, HXC.out.cell 2⟩)
  have HLD := lhi (load_st (w := wc.drew) (iv := .slice A S.inodes.length cap) (ov := .slice OA S.opens.length ocap) (mv := .slice MA n mcap) (ev := ev) hfs.m.drew (Mem.new_ok n) (by omega) (fun W hW => by have := HS2.out.same fun b hb => (hW b (.inl hb)).trans (hb3.block b hb); rw [HNN.out] at this; exact this) HI.out (by rw [HNN.out]; simp [Mem.new]))
  rw [HNN.out] at HLD
  have HLM := lhi (show loadM S = loadOpen S (loadMade S (loadIs S (Mem.new n) S.inodes.length) n) S.opens.length by rw [<- HNN.out]; rfl)
  have HRL := lhi (show List.replicate S.made.length idleP = List.replicate n idleP by rw [HNN.out])
  clear hfs hb3 c0 hmk
  go_upto_region 4 with (fail)
  go_region_held3 (fun w' => w'.cell? ⟨fb, 0, none⟩ = some (.pointer (some ⟨s, 0, none⟩)) /\ w'.cell? ⟨sp, 0, none⟩ = some (.slice A S.inodes.length cap) /\ w'.cell? ⟨sp, 1, none⟩ = some (.slice OA S.opens.length ocap) /\ w'.cell? ⟨sp, 2, none⟩ = some (.slice MA n mcap))
   (with_reducible first | exact HPD.out | exact z4)
   ((go_at_call 41; refine HLD.out.mono ?_; rintro e w4 ⟨rfl, hm4, hk4⟩; have HM4 := lhi hm4; have HK4 := lhi (show Kw _ wc w4 from hk4.undrew); have z4 : w4.cell? ⟨fb, 0, none⟩ = some (.pointer (some ⟨s, 0, none⟩)) /\ w4.cell? ⟨sp, 0, none⟩ = some (.slice A S.inodes.length cap) /\ w4.cell? ⟨sp, 1, none⟩ = some (.slice OA S.opens.length ocap) /\ w4.cell? ⟨sp, 2, none⟩ = some (.slice MA n mcap) := ⟨hk4.k.cellOf (p := ⟨fb, 0, none⟩) (.inr (.inl rfl)) HPD.out.1, hk4.cellB (w := wc.drew) HXC.out not_st_state HPD.out.2.1, hk4.cellB (w := wc.drew) HXC.out not_st_state HPD.out.2.2.1, hk4.cellB (w := wc.drew) HXC.out not_st_state HPD.out.2.2.2⟩; clear hm4 hk4))
  go_wp2_with (fail)
  go_ret2
  obtain ⟨r1, r2⟩ := HFS.out.back HM4.out HK4.out.k (by rw [<- HLM.out, loadM_ts]; simp [Mem.new, HNN.out])
  refine ⟨fb, s, pb, rfl, ?_, HBW.out.trans ?_⟩
  ·rw [HLM.out, HRL.out]
   exact r1.sub fun b q => Nat.lt_of_lt_of_le (HBL.out b q) HBW.out.size
  ·exact (show Below w.heap.size w2 w4 from ⟨r2.k.os.trans HB3.out.os, r2.k.tape.trans HB3.out.tape, r2.k.output.trans HB3.out.output, Nat.le_trans HB3.out.size r2.k.size, fun b hb => (r2.k.block b (Nat.lt_of_lt_of_le hb HBW.out.size)).trans (HB3.out.block b (Nat.lt_of_lt_of_le hb HBW.out.size))⟩)
end
section
open Go.RowKit
set_option maxHeartbeats 1000000
def newS (n : Nat) : St := ⟨[⟨1, true, [], ⟨#[]⟩⟩], [], List.replicate n 0⟩
theorem inv_newS {n : Nat} (h1 : 1 <= n) (h8 : n <= 8) : Inv (newS n) := by
 have one : ∀ {x}, x ∈ (newS n).inodes -> x = ⟨1, true, [], ⟨#[]⟩⟩ := fun hx => List.mem_singleton.1 hx
 refine ⟨?_, ?_, ?_, ⟨_, rfl, rfl, rfl⟩, List.pairwise_singleton _ _, ?_, ?_, ?_, ?_, ?_, ?_, ?_, ?_, ?_, ?_, ?_, ?_, List.Pairwise.nil⟩
 ·show 1 <= (List.replicate n (0 : Int)).length
  rw [List.length_replicate]; exact h1
 ·show (List.replicate n (0 : Int)).length <= 8
  rw [List.length_replicate]; exact h8
 ·intro m hm
  obtain ⟨_, rfl⟩ := List.mem_replicate.1 hm
  decide
 ·intro x hx hn; rw [one hx] at hn; exact absurd rfl hn
 ·intro x hx _; rw [one hx]; rfl
 ·intro x hx hn; rw [one hx] at hn; cases hn
 ·intro x hx; rw [one hx]; decide
 ·intro x hx e he; rw [one hx] at he; cases he
 ·intro x hx e he; rw [one hx] at he; cases he
 ·intro x hx; rw [one hx]; exact List.Pairwise.nil
 ·intro x hx q; rw [one hx]; exact Nat.zero_le _
 ·intro x hx _ hn; rw [one hx] at hn; exact absurd rfl hn
 ·intro x hx _; rw [one hx]; exact .root
 ·intro x hx hn; rw [one hx] at hn; cases hn
 ·intro o ho; cases ho
theorem newS_mem {w' : World} {n g gm : Nat} (hg : Blk w' g 72 #[.int .i64 1, .bool true, .slice none 0 0, .string ⟨#[]⟩]) (hm : Blk w' gm 3 (zerosA n)) :
  StM w' (.slice (some ⟨g, 0, none⟩) 1 1) (.slice none 0 0) (.slice (some ⟨gm, 0, none⟩) n n) (fun _ => .slice none 0 0) (newS n) := by
 refine ⟨?_, fun i hi => ?_, RowAt.nil_ _ _ _, ?_⟩
 ·refine RowAt.blk hg (Nat.le_refl _) fun i j hi hj => ?_
  obtain rfl : i = 0 := by have : (newS n).inodes.length = 1 := rfl; omega
  have : j = 0 ∨ j = 1 ∨ j = 2 ∨ j = 3 := by omega
  rcases this with rfl | rfl | rfl | rfl <;> rfl
 ·obtain rfl : i = 0 := by have : (newS n).inodes.length = 1 := rfl; omega
  exact RowAt.nil_ _ _ _
 ·have hl : (newS n).made.length = n := List.length_replicate
  rw [hl]
  refine RowAt.blk hm (Nat.le_refl _) fun i j hi hj => ?_
  obtain rfl : j = 0 := by omega
  have : (newS n).mad i = 0 := by
   unfold St.mad newS
   rw [List.getD_eq_getElem?_getD, List.getElem?_replicate]
   split <;> rfl
  simp [zerosA, madC, this, hi]
set_option maxRecDepth 1000000 in
theorem fsNew_ok {L : Nat -> Prop} {w : World} (hb : Bd L w) {n : Nat} (h1 : 1 <= n) (h8 : n <= 8) :
  Calls Tryz.prog 5 #[.int .i64 n] w fun e w' => ∃ fb s pb, e = .returned (.tuple #[.pointer (some ⟨fb, 0, none⟩), .int .i64 0]) /\ FsAt L w' fb s pb (loadM (newS n)) (List.replicate n idleP) /\ Below w.heap.size w w' := by
 have HB := lhi hb
 have HN := lhi (mNew_calls n h1 h8 w)
 clear hb
 go_enter Tryz.func5, Tryz.ntmps5
 go_upto_region 2 with (go_at_call 14; refine HN.out.mono ?_; rintro e w1 ⟨g, gm, rfl, hb1, hg1, hg2, hg3, hg4⟩; have HB1 := lhi hb1; have HG3 := lhi hg3; have HG4 := lhi hg4; clear hb1 hg3 hg4)
 have HS := lhi (newS_mem HG3.out HG4.out)
 have HBA := lhi (HB1.out.alloc HB1.out.size (.cells #[.slice (some ⟨g, 0, none⟩) 1 1, .slice none 0 0, .slice (some ⟨gm, 0, none⟩) n n] 32))
 have HLD := lhi (Load_ok (L := L) (w := w1.alloc (.cells #[.slice (some ⟨g, 0, none⟩) 1 1, .slice none 0 0, .slice (some ⟨gm, 0, none⟩) n n] 32)) (fun b q => Nat.lt_of_lt_of_le (HB.out b q) HBA.out.size) (HS.out.keep ((Below.refl _ _).alloc (Nat.le_refl _) _)) (inv_newS h1 h8))
 have HRL := lhi (show (newS n).made.length = n from List.length_replicate)
 rw [HRL.out] at HLD
 go_wp2_with (go_at_call 15; refine HLD.out.mono ?_; rintro e w2 ⟨fb, s, pb, rfl, hfs, hb2⟩)
 go_ret2
 exact ⟨fb, s, pb, rfl, hfs, HBA.out.trans (hb2.mono HBA.out.size)⟩
end
section
open Go.RowKit
set_option maxHeartbeats 1000000
theorem itsM_dk {M : Mem} {D : DkT} (h : Dk M D) {num : Int} (hn : 1 <= num /\ num <= 257) : itsM M num = (List.range 8).flatMap fun q => D num (q : Nat) := by
 unfold itsM itsTo
 have : ∀ l : List Nat, (∀ q ∈ l, q < 8) -> (l.flatMap fun q => M.bkt num (q : Nat)) = l.flatMap fun q => D num (q : Nat) := by
  intro l
  induction l with
  | nil => exact fun _ => rfl
  | cons a l ih =>
   intro hl
   rw [List.flatMap_cons, List.flatMap_cons, ih fun q hq => hl q (List.mem_cons_of_mem _ hq), h.bkt hn ⟨by omega, by have := hl a (List.mem_cons_self); omega⟩]
 exact this _ fun q hq => List.mem_range.1 hq
def nmA : ByteArray := ⟨#[97]⟩
def pathA : ByteArray := ⟨#[47, 97]⟩
def M0A : Mem := (loadM (newS 2)).clear 0
def M1A : Mem := createM (M0A.see 0 (wd 1 (nbucket nmA : Nat))) 0 rootItem nmA 0 0
def SA : St := ⟨[⟨1, true, [(nmA, 2)], ⟨#[]⟩⟩, ⟨2, false, [], ⟨#[]⟩⟩], [], [1, 0]⟩
def DA : DkT := fun n b => if n = 1 /\ b = (nbucket nmA : Nat) then [⟨nmA, 2, false⟩] else []
theorem parse_A : parseF pathA = .ok [nmA] := by kernel_rfl
theorem inv2 : Inv (newS 2) := inv_newS (by omega) (by omega)
theorem dk_new2 : Dk (loadM (newS 2)) (fun _ _ => []) := by
 refine (dk_load inv2 (fun i hi b hb => ?_)).congr fun num b _ _ => ?_
 ·have : i = 0 := by
   have : i < 1 := hi
   omega
  subst this
  exact ⟨by simp [bkItems, St.ino, newS], fun x hx => by simp [bkItems, St.ino, newS] at hx⟩
 ·show dB (newS 2) 0 (fun _ _ => []) 8 num b = []
  unfold dB
  rw [if_neg (fun q => q.2.2 (by simp [bkItems, St.ino, newS]))]
theorem ok_M0A : M0A.ok 9000 := (loadM_ok (S := newS 2) (by simp [newS])).clear 0
theorem dk_M0A : Dk M0A (fun _ _ => []) := dk_new2.clear 0
theorem bz_M0A : Bz M0A := (bz_load inv2 rfl (fun i hi => by
 have : i < 1 := hi
 obtain rfl : i = 0 := by omega
 rfl)).clear 0
theorem loadMade_nm (S : St) (M : Mem) : ∀ k, (loadMade S M k).nm = M.nm
 | 0 => rfl
 | k + 1 => loadMade_nm S M k
theorem loadOpen_nm (S : St) (M : Mem) : ∀ k, (loadOpen S M k).nm = M.nm
 | 0 => rfl
 | k + 1 => loadOpen_nm S M k
theorem loadM_nm (S : St) : (loadM S).nm.length = S.made.length := by
 unfold loadM
 rw [loadOpen_nm, loadMade_nm, loadIs_nm]
 simp [Mem.new]
theorem clear_nm (M : Mem) (c : Int) : (M.clear c).nm = M.nm := rfl
theorem nm_M0A : M0A.nm.length = 2 := by
 unfold M0A
 rw [clear_nm, loadM_nm]
 simp [newS]
theorem ts_M0A : M0A.ts.length = 2 := by
 show ((loadM (newS 2)).ts.set _ []).length = 2
 rw [List.length_set, loadM_ts]; simp [newS]
theorem words_M0A : (∀ c : Nat, c < 2 -> rd M0A.ws (mdw (c : Nat)) = 0) /\ ∀ c k : Nat, c < 8 -> k < 4 -> rd M0A.ws (fdw (c : Nat) (k : Nat)) = 0 := by
 obtain ⟨h1, h2⟩ := load_words inv2 rfl
 refine ⟨fun c hc => ?_, h2⟩
 rw [show M0A.ws = (loadM (newS 2)).ws from rfl, h1 c hc]
 have : c = 0 ∨ c = 1 := by omega
 rcases this with rfl | rfl <;> rfl
theorem dk_M1A : Dk M1A DA := by
 have h := dk_create (M := M0A.see 0 (wd 1 (nbucket nmA : Nat))) (c := 0) (n := 0) (kind := 0) (it := rootItem) (nm := nmA) (dk_M0A.see _ _) (ok_M0A.see _ _) (by omega) ⟨by omega, by rw [see_nm, nm_M0A]; omega⟩ (by omega) ⟨by omega, by omega⟩ (by decide) (by simp)
 exact h.congr fun num b _ _ => rfl
theorem ok_M1A : M1A.ok 9007 := ok_create (ok_M0A.see _ _)
theorem bz_M1A : Bz M1A := bz_create (bz_M0A.see _ _) ⟨by omega, by omega⟩ ⟨by omega, by omega⟩ (by decide)
theorem its_A : itsM M1A 1 = [⟨nmA, 2, false⟩] := by
 rw [itsM_dk dk_M1A ⟨by omega, by omega⟩]
 kernel_rfl
theorem gather_A : gDir M1A 1 1 ⟨[], []⟩ = ⟨[2], [1]⟩ := by
 unfold gDir
 rw [its_A]
 rfl
theorem deep_A : Deep M1A 1 1 := ⟨⟨by omega, by omega⟩, fun i hi hd => by
 rw [its_A] at hi
 rw [List.mem_singleton.1 hi] at hd
 cases hd⟩
theorem words_M1A : madeTo M1A 2 = [1, 0] /\ ∀ c k : Nat, c < 8 -> k < 4 -> rd M1A.ws (fdw (c : Nat) (k : Nat)) = 0 := by
 have hr : ∀ j, 9509 <= j -> rd M1A.ws j = if j = mdw 0 then 0 + 1 else rd M0A.ws j := fun j hj => by
  have h := rd_create (M := M0A.see 0 (wd 1 (nbucket nmA : Nat))) (c := 0) (n := 0) (kind := 0) (it := rootItem) (nm := nmA) (ok_M0A.see _ _) ⟨by omega, by omega⟩ ⟨by omega, by omega⟩ (by decide) hj
  rw [see_ws] at h
  exact h
 refine ⟨?_, fun c k hc hk => ?_⟩
 ·show [rd M1A.ws (mdw (0 : Nat)), rd M1A.ws (mdw (1 : Nat))] = _
  rw [hr _ (by decide), hr _ (by decide), if_pos (show mdw ((0 : Nat) : Int) = mdw 0 from rfl), if_neg (by decide), words_M0A.1 1 (by omega)]
  rfl
 ·rw [hr _ (by unfold fdw; omega), if_neg (by unfold fdw mdw; omega), words_M0A.2 c k hc hk]
theorem ops_A : opsTo M1A 2 = [] := by
 have : ∀ c, c < 8 -> opsC M1A c 4 = [] := fun c hc => by
  unfold opsC
  rw [List.filterMap_eq_nil_iff]
  intro k hk
  rw [if_pos (words_M1A.2 c k hc (List.mem_range.1 hk))]
 unfold opsTo
 rw [List.flatMap_eq_nil_iff]
 intro q hq
 exact this q (by have := List.mem_range.1 hq; omega)
end
section
set_option maxHeartbeats 1000000
def insBy {A : Type} (lt : A -> A -> Bool) (p : A) : List A -> List A
 | [] => [p]
 | e :: l => if lt p e = true then p :: e :: l else e :: insBy lt p l
section
variable {A : Type} {lt : A -> A -> Bool} {p : A}
theorem perm_insBy : ∀ l : List A, (insBy lt p l).Perm (p :: l)
 | [] => .rfl
 | e :: l => by
  unfold insBy
  split
  ·exact .rfl
  ·exact ((perm_insBy l).cons e).trans (List.Perm.swap ..)
theorem mem_insBy {l : List A} {y : A} : y ∈ insBy lt p l ↔ y = p ∨ y ∈ l := by
 rw [(perm_insBy l).mem_iff, List.mem_cons]
theorem pair_insBy {R : A -> A -> Prop} (ht : ∀ a b c, R a b -> R b c -> R a c) : ∀ {l : List A}, l.Pairwise R -> (∀ e ∈ l, lt p e = true -> R p e) -> (∀ e ∈ l, lt p e = false -> R e p) -> (insBy lt p l).Pairwise R
 | [], _, _, _ => List.pairwise_singleton ..
 | e :: l, h, h1, h2 => by
  obtain ⟨ha, hb⟩ := List.pairwise_cons.1 h
  unfold insBy
  by_cases q : lt p e = true
  ·rw [if_pos q]
   refine List.pairwise_cons.2 ⟨fun y hy => ?_, h⟩
   have hpe := h1 e (List.mem_cons_self ..) q
   rcases List.mem_cons.1 hy with rfl | hy
   ·exact hpe
   ·exact ht _ _ _ hpe (ha y hy)
  ·rw [if_neg q]
   refine List.pairwise_cons.2 ⟨fun y hy => ?_, pair_insBy ht hb (fun e he => h1 e (List.mem_cons_of_mem _ he)) fun e he => h2 e (List.mem_cons_of_mem _ he)⟩
   rcases mem_insBy.1 hy with rfl | hy
   ·exact h2 e (List.mem_cons_self ..) (by simpa using q)
   ·exact ha y hy
theorem insBy_head {a : A} {l : List A} (h : lt p a = false) : insBy lt p (a :: l) = a :: insBy lt p l := by
 show (if lt p a = true then _ else _) = _
 rw [if_neg (by simp [h])]
end
theorem sum_turn {h h' : Ino -> Nat} {d : Int} : ∀ {l : List Ino}, l.Pairwise (fun x y => x.num < y.num) -> ∀ {x0 : Ino}, x0 ∈ l -> x0.num = d -> (∀ x ∈ l, x.num ≠ d -> h' x = h x) -> (l.map h').sum + h x0 = (l.map h).sum + h' x0
 | [], _, _, hx, _, _ => by cases hx
 | x :: l, hp, x0, hx, hd, hh => by
  obtain ⟨ha, hb⟩ := List.pairwise_cons.1 hp
  simp only [List.map_cons, List.sum_cons]
  rcases List.mem_cons.1 hx with rfl | hx
  ·have : l.map h' = l.map h := List.map_congr_left fun y hy => hh y (List.mem_cons_of_mem _ hy) (by have := ha y hy; omega)
   rw [this]; omega
  ·have h1 := hh x (List.mem_cons_self ..) (by have := ha x0 hx; omega)
   have ih := sum_turn hb hx hd fun y hy => hh y (List.mem_cons_of_mem _ hy)
   rw [h1]; omega
theorem count_links (S : St) (y : Int) : (links S).count y = (S.inodes.map fun x => (linksOf x).count y).sum := by
 unfold links
 rw [List.count_flatMap]; rfl
end
section
set_option maxHeartbeats 1000000
def mapIno (S : St) (d : Int) (f : Ino -> Ino) : St := { S with inodes := S.inodes.map fun x => if x.num = d then f x else x }
def setD (S : St) (d : Int) (b : ByteArray) : St := mapIno S d fun x => { x with data := b }
def setE (S : St) (d : Int) (L : List (ByteArray × Int)) : St := mapIno S d fun x => { x with ents := L }
theorem mem_mapIno {S : St} {d : Int} {f : Ino -> Ino} {y : Ino} : y ∈ (mapIno S d f).inodes ↔ ∃ x ∈ S.inodes, (if x.num = d then f x else x) = y := by
 unfold mapIno
 exact List.mem_map
theorem rise_map {S : St} {d : Int} {f : Ino -> Ino} (hf : ∀ x, (f x).num = x.num) (h : S.inodes.Pairwise (fun x y => x.num < y.num)) : (mapIno S d f).inodes.Pairwise (fun x y => x.num < y.num) := by
 unfold mapIno
 rw [List.pairwise_map]
 refine h.imp fun {x y} hxy => ?_
 have e : ∀ x : Ino, (if x.num = d then f x else x).num = x.num := fun x => by
  split
  ·exact hf x
  ·rfl
 rw [e, e]; exact hxy
theorem root_map {S : St} {d : Int} {f : Ino -> Ino} (hf : ∀ x, (f x).num = x.num /\ (f x).dir = x.dir) (h : ∃ x, S.inodes[0]? = some x /\ x.num = 1 /\ x.dir = true) : ∃ x, (mapIno S d f).inodes[0]? = some x /\ x.num = 1 /\ x.dir = true := by
 obtain ⟨x, h0, h1, h2⟩ := h
 refine ⟨if x.num = d then f x else x, ?_, ?_, ?_⟩
 ·unfold mapIno
  rw [List.getElem?_map, h0]; rfl
 ·split
  ·rw [(hf x).1]; exact h1
  ·exact h1
 ·split
  ·rw [(hf x).2]; exact h2
  ·exact h2
theorem edge_setD {S : St} {d a y : Int} {b : ByteArray} : Edge (setD S d b) a y ↔ Edge S a y := by
 unfold Edge
 constructor
 ·rintro ⟨x, hx, h1, h2, h3⟩
  obtain ⟨z, hz, rfl⟩ := mem_mapIno.1 hx
  refine ⟨z, hz, ?_⟩
  revert h1 h2 h3
  split <;> exact fun h1 h2 h3 => ⟨h1, h2, h3⟩
 ·rintro ⟨x, hx, h1, h2, h3⟩
  refine ⟨_, mem_mapIno.2 ⟨x, hx, rfl⟩, ?_⟩
  split <;> exact ⟨h1, h2, h3⟩
theorem reach_of {S S' : St} (h : ∀ a y, Edge S a y -> Edge S' a y) {x : Int} (hr : Reach S x) : Reach S' x := by
 induction hr with
 | root => exact .root
 | step _ he ih => exact .step ih (h _ _ he)
theorem links_setD (S : St) (d : Int) (b : ByteArray) : links (setD S d b) = links S := by
 unfold links setD mapIno
 rw [List.flatMap_map]
 congr 1
 funext x
 unfold linksOf
 split <;> rfl
theorem Inv.data {S : St} (h : Inv S) {d : Int} {b : ByteArray} (hb : b.size <= 256) (hf : ∃ y ∈ S.inodes, y.num = d /\ y.dir = false) : Inv (setD S d b) := by
 have hE : ∀ {y : Ino}, y ∈ (setD S d b).inodes -> ∃ x ∈ S.inodes, y.num = x.num /\ y.dir = x.dir /\ y.ents = x.ents /\ (y.data = x.data ∨ (x.num = d /\ y.data = b)) := by
  intro y hy
  obtain ⟨x, hx, rfl⟩ := mem_mapIno.1 hy
  refine ⟨x, hx, ?_⟩
  by_cases e : x.num = d
  ·rw [if_pos e]; exact ⟨rfl, rfl, rfl, .inr ⟨e, rfl⟩⟩
  ·rw [if_neg e]; exact ⟨rfl, rfl, rfl, .inl rfl⟩
 have hI : ∀ {x : Ino}, x ∈ S.inodes -> ∃ y ∈ (setD S d b).inodes, y.num = x.num /\ y.dir = x.dir := by
  intro x hx
  refine ⟨_, mem_mapIno.2 ⟨x, hx, rfl⟩, ?_⟩
  split <;> exact ⟨rfl, rfl⟩
 obtain ⟨z, hz, hzd, hzf⟩ := hf
 refine ⟨h.m1, h.m8, h.mb, root_map (fun _ => ⟨rfl, rfl⟩) h.root, rise_map (fun _ => rfl) h.rise, ?_, ?_, ?_, ?_, ?_, ?_, ?_, ?_, ?_, ?_, ?_, ?_, h.osort⟩
 ·intro y hy; obtain ⟨x, hx, e1, e2, e3, e4⟩ := hE hy; rw [e1]; exact h.given x hx
 ·intro y hy hd
  obtain ⟨x, hx, e1, e2, e3, e4⟩ := hE hy
  rcases e4 with e4 | ⟨e4, _⟩
  ·rw [e4]; exact h.isDir x hx (e2 ▸ hd)
  ·have : x = z := h.ino_inj hx hz (by omega)
   subst this
   rw [e2, hzf] at hd; cases hd
 ·intro y hy hd; obtain ⟨x, hx, e1, e2, e3, e4⟩ := hE hy; rw [e3]; exact h.isFile x hx (e2 ▸ hd)
 ·intro y hy
  obtain ⟨x, hx, e1, e2, e3, e4⟩ := hE hy
  rcases e4 with e4 | ⟨_, e4⟩
  ·rw [e4]; exact h.dat x hx
  ·rw [e4]; exact hb
 ·intro y hy; obtain ⟨x, hx, e1, e2, e3, e4⟩ := hE hy; rw [e3]; exact h.nam x hx
 ·intro y hy e he
  obtain ⟨x, hx, e1, e2, e3, e4⟩ := hE hy
  rw [e3] at he
  obtain ⟨g1, q, hq, g2⟩ := h.goal x hx e he
  obtain ⟨q2, hq2, e5, -⟩ := hI hq
  exact ⟨g1, q2, hq2, e5.trans g2⟩
 ·intro y hy; obtain ⟨x, hx, e1, e2, e3, e4⟩ := hE hy; rw [e3]; exact h.up x hx
 ·intro y hy; obtain ⟨x, hx, e1, e2, e3, e4⟩ := hE hy; rw [e3]; exact h.slots x hx
 ·intro y hy hd; obtain ⟨x, hx, e1, e2, e3, e4⟩ := hE hy; rw [e1, links_setD]; exact h.one x hx (e2 ▸ hd)
 ·intro y hy hd; obtain ⟨x, hx, e1, e2, e3, e4⟩ := hE hy; rw [e1]; exact reach_of (fun a y q => edge_setD.2 q) (h.reach x hx (e2 ▸ hd))
 ·intro y hy hd; obtain ⟨x, hx, e1, e2, e3, e4⟩ := hE hy; rw [e1, links_setD]; exact h.file x hx (e2 ▸ hd)
 ·intro o ho
  obtain ⟨h1, h2, h3, h4, q, hq, h5, h6⟩ := h.ok o ho
  obtain ⟨q2, hq2, e5, e6⟩ := hI hq
  exact ⟨h1, h2, h3, h4, q2, hq2, e5.trans h5, e6.trans h6⟩
end
section
set_option maxHeartbeats 1000000
section
variable {S : St} {d : Int} {L : List (ByteArray × Int)}
theorem edge_setE {x0 : Ino} (hx : x0 ∈ S.inodes) (hd : x0.num = d) (hdir : x0.dir = true) {a y : Int} : Edge (setE S d L) a y ↔ (a ≠ d /\ Edge S a y) ∨ (a = d /\ ∃ e ∈ L, e.2 = y) := by
 unfold Edge
 constructor
 ·rintro ⟨x, hx1, h1, h2, e, he, h3⟩
  obtain ⟨z, hz, rfl⟩ := mem_mapIno.1 hx1
  by_cases q : z.num = d
  ·rw [if_pos q] at h1 h2 he
   exact .inr ⟨h1.symm.trans q, e, he, h3⟩
  ·rw [if_neg q] at h1 h2 he
   exact .inl ⟨fun e2 => q (h1.trans e2), z, hz, h1, h2, e, he, h3⟩
 ·rintro (⟨q, x, hx1, h1, h2, h3⟩ | ⟨rfl, e, he, h3⟩)
  ·exact ⟨_, mem_mapIno.2 ⟨x, hx1, rfl⟩, by rw [if_neg (by omega)]; exact h1, by rw [if_neg (by omega)]; exact h2, by rw [if_neg (by omega)]; exact h3⟩
  ·exact ⟨_, mem_mapIno.2 ⟨x0, hx, rfl⟩, by rw [if_pos hd]; exact hd, by rw [if_pos hd]; exact hdir, by rw [if_pos hd]; exact ⟨e, he, h3⟩⟩
theorem count_setE (h : Inv S) {x0 : Ino} (hx : x0 ∈ S.inodes) (hd : x0.num = d) (hdir : x0.dir = true) (y : Int) : (links (setE S d L)).count y + (x0.ents.map (·.2)).count y = (links S).count y + (L.map (·.2)).count y := by
 rw [count_links, count_links]
 have e : ((setE S d L).inodes.map fun x => (linksOf x).count y) = S.inodes.map fun x => (linksOf (if x.num = d then { x with ents := L } else x)).count y := by
  unfold setE mapIno
  rw [List.map_map]; rfl
 rw [e]
 have h1 := sum_turn (h := fun x => (linksOf x).count y) (h' := fun x => (linksOf (if x.num = d then { x with ents := L } else x)).count y) h.rise hx hd (fun x _ q => by simp only [if_neg q])
 have e1 : linksOf x0 = x0.ents.map (·.2) := by unfold linksOf; rw [if_pos hdir]
 have e2 : linksOf (if x0.num = d then { x0 with ents := L } else x0) = L.map (·.2) := by
  rw [if_pos hd]; unfold linksOf; rw [if_pos (show ({ x0 with ents := L } : Ino).dir = true from hdir)]
 rw [e1, e2] at h1
 exact h1
theorem of_setE {y : Ino} (hy : y ∈ (setE S d L).inodes) : ∃ x ∈ S.inodes, y.num = x.num /\ y.dir = x.dir /\ y.data = x.data /\ ((x.num ≠ d /\ y.ents = x.ents) ∨ (x.num = d /\ y.ents = L)) := by
 obtain ⟨x, hx, rfl⟩ := mem_mapIno.1 hy
 refine ⟨x, hx, ?_⟩
 by_cases e : x.num = d
 ·rw [if_pos e]; exact ⟨rfl, rfl, rfl, .inr ⟨e, rfl⟩⟩
 ·rw [if_neg e]; exact ⟨rfl, rfl, rfl, .inl ⟨e, rfl⟩⟩
theorem to_setE {x : Ino} (hx : x ∈ S.inodes) : ∃ y ∈ (setE S d L).inodes, y.num = x.num /\ y.dir = x.dir := by
 refine ⟨_, mem_mapIno.2 ⟨x, hx, rfl⟩, ?_⟩
 split <;> exact ⟨rfl, rfl⟩
end
end
section
set_option maxHeartbeats 1000000
def ltE (a b : ByteArray × Int) : Bool := nlt a.1 b.1
def insE (p : ByteArray × Int) (L : List (ByteArray × Int)) : List (ByteArray × Int) := insBy ltE p L
def dropE (nm : ByteArray) (L : List (ByteArray × Int)) : List (ByteArray × Int) := L.filter fun e => !decide (e.1 = nm)
theorem insE_up {p : ByteArray × Int} {L : List (ByteArray × Int)} (h : L.Pairwise (fun a b => nlt a.1 b.1 = true)) (hp : ∀ e ∈ L, e.1 ≠ p.1) : (insE p L).Pairwise (fun a b => nlt a.1 b.1 = true) :=
 pair_insBy (lt := ltE) (p := p) (R := fun a b : ByteArray × Int => nlt a.1 b.1 = true) (fun _ _ _ => nlt_trans) h (fun _ _ q => q) fun e he q => by
  rcases nlt_tri p.1 e.1 with q2 | q2 | q2
  ·rw [show nlt p.1 e.1 = false from q] at q2; cases q2
  ·exact absurd q2.symm (hp e he)
  ·exact q2
theorem insE_slots {p : ByteArray × Int} {L : List (ByteArray × Int)} (h : ∀ q, (L.filter fun e => nbucket e.1 == q).length <= 4) (hp : (L.filter fun e => nbucket e.1 == nbucket p.1).length < 4) (q : Nat) : ((insE p L).filter fun e => nbucket e.1 == q).length <= 4 := by
 unfold insE
 rw [((perm_insBy L).filter _).length_eq, List.filter_cons]
 by_cases e : nbucket p.1 = q
 ·subst e
  rw [if_pos (by simp)]
  simp only [List.length_cons]
  omega
 ·rw [if_neg (by simpa using e)]
  exact h q
theorem mem_insE {p e : ByteArray × Int} {L : List (ByteArray × Int)} : e ∈ insE p L ↔ e = p ∨ e ∈ L := mem_insBy
theorem count_insE (p : ByteArray × Int) (L : List (ByteArray × Int)) (y : Int) : ((insE p L).map (·.2)).count y = (L.map (·.2)).count y + if p.2 = y then 1 else 0 := by
 unfold insE
 rw [((perm_insBy L).map _).count_eq, List.map_cons, List.count_cons]
 congr 1
 by_cases e : p.2 = y
 ·rw [if_pos e, if_pos (by simpa using e)]
 ·rw [if_neg e, if_neg (by simpa using e)]
section
variable {S : St} {d : Int}
end
end
section
set_option maxHeartbeats 1000000
structure InvB (S : St) (n : Int) : Prop where
 m1 : 1 <= S.made.length
 m8 : S.made.length <= 8
 mb : ∀ m ∈ S.made, 0 <= m /\ m <= 32
 root : ∃ x, S.inodes[0]? = some x /\ x.num = 1 /\ x.dir = true
 rise : S.inodes.Pairwise (fun x y => x.num < y.num)
 given : ∀ x ∈ S.inodes, x.num ≠ 1 -> Given S.made x.num
 isDir : ∀ x ∈ S.inodes, x.dir = true -> x.data.size = 0
 isFile : ∀ x ∈ S.inodes, x.dir = false -> x.ents = []
 dat : ∀ x ∈ S.inodes, x.data.size <= 256
 nam : ∀ x ∈ S.inodes, ∀ e ∈ x.ents, ncheck e.1 = 0
 goal : ∀ x ∈ S.inodes, ∀ e ∈ x.ents, e.2 ≠ 1 /\ ∃ y ∈ S.inodes, y.num = e.2
 up : ∀ x ∈ S.inodes, x.ents.Pairwise (fun a b => nlt a.1 b.1 = true)
 slots : ∀ x ∈ S.inodes, ∀ q, (x.ents.filter fun e => nbucket e.1 == q).length <= 4
 one : ∀ x ∈ S.inodes, x.dir = true -> x.num ≠ 1 -> x.num ≠ n -> (links S).count x.num = 1
 reach : ∀ x ∈ S.inodes, x.dir = true -> x.num ≠ n -> Reach S x.num
 file : ∀ x ∈ S.inodes, x.dir = false -> x.num ≠ n -> x.num ∈ links S ∨ ∃ o ∈ S.opens, o.2.2 = x.num
 ok : ∀ o ∈ S.opens, 0 <= o.1 /\ o.1 < S.made.length /\ 0 <= o.2.1 /\ o.2.1 < 4 /\ ∃ y ∈ S.inodes, y.num = o.2.2 /\ y.dir = false
 osort : S.opens.Pairwise (fun a b => a.1 < b.1 ∨ a.1 = b.1 /\ a.2.1 < b.2.1)
 n1 : n ≠ 1
 none : ∀ x ∈ S.inodes, x.num = n -> x.ents = []
 nd : ∀ x ∈ S.inodes, x.num = n -> x.dir = true -> n ∉ links S /\ ∀ o ∈ S.opens, o.2.2 ≠ n
end
section
set_option maxHeartbeats 1000000
end
section
set_option maxHeartbeats 1000000
theorem name_inj {L : List (ByteArray × Int)} (h : L.Pairwise (fun a b => nlt a.1 b.1 = true)) {a b : ByteArray × Int} (ha : a ∈ L) (hb : b ∈ L) (e : a.1 = b.1) : a = b := by
 obtain ⟨i, hi, rfl⟩ := List.getElem_of_mem ha
 obtain ⟨j, hj, rfl⟩ := List.getElem_of_mem hb
 rcases Nat.lt_trichotomy i j with q | q | q
 ·have := List.pairwise_iff_getElem.1 h i j hi hj q
  rw [e, nlt_irrefl] at this; cases this
 ·subst q; rfl
 ·have := List.pairwise_iff_getElem.1 h j i hj hi q
  rw [e, nlt_irrefl] at this; cases this
theorem mem_dropE {nm : ByteArray} {L : List (ByteArray × Int)} {e : ByteArray × Int} : e ∈ dropE nm L ↔ e ∈ L /\ e.1 ≠ nm := by
 unfold dropE
 rw [List.mem_filter]; simp
theorem count_dropE {L : List (ByteArray × Int)} (h : L.Pairwise (fun a b => nlt a.1 b.1 = true)) {p : ByteArray × Int} (hp : p ∈ L) (y : Int) : ((dropE p.1 L).map (·.2)).count y + (if p.2 = y then 1 else 0) = (L.map (·.2)).count y := by
 induction L with
 | nil => cases hp
 | cons a l ih =>
  obtain ⟨h1, h2⟩ := List.pairwise_cons.1 h
  unfold dropE
  rw [List.filter_cons]
  rcases List.mem_cons.1 hp with rfl | hp2
  ·rw [if_neg (by simp), List.map_cons, List.count_cons]
   have : (l.filter fun e => !decide (e.1 = p.1)) = l := List.filter_eq_self.2 fun e he => by
    have := h1 e he
    have : e.1 ≠ p.1 := fun q => by rw [q, nlt_irrefl] at this; cases this
    simpa using this
   rw [this]
   congr 1
   by_cases q : p.2 = y
   ·rw [if_pos q, if_pos (by simpa using q)]
   ·rw [if_neg q, if_neg (by simpa using q)]
  ·have hne : a.1 ≠ p.1 := fun q => by
    have := h1 p hp2
    rw [q, nlt_irrefl] at this; cases this
   rw [if_pos (by simpa using hne), List.map_cons, List.map_cons, List.count_cons, List.count_cons]
   have := ih h2 hp2
   unfold dropE at this
   omega
end
section
set_option maxHeartbeats 1000000
section
variable {S : St} {d : Int}
theorem edge_drop (h : Inv S) {x0 : Ino} (hx : x0 ∈ S.inodes) (hd : x0.num = d) (hdir : x0.dir = true) {p : ByteArray × Int} (hp : p ∈ x0.ents) {a y : Int} (he : Edge S a y) (hy : y ≠ p.2) : Edge (setE S d (dropE p.1 x0.ents)) a y := by
 rw [edge_setE hx hd hdir]
 by_cases q : a = d
 ·obtain ⟨x, hx1, h1, h2, e, he, h3⟩ := he
  have : x = x0 := h.ino_inj hx1 hx (by omega)
  subst this
  refine .inr ⟨q, e, mem_dropE.2 ⟨he, fun q2 => ?_⟩, h3⟩
  have := name_inj (h.up _ hx) he hp q2
  subst this
  exact hy h3.symm
 ·exact .inl ⟨q, he⟩
theorem Inv.drop (h : Inv S) {x0 : Ino} (hx : x0 ∈ S.inodes) (hd : x0.num = d) (hdir : x0.dir = true) {p : ByteArray × Int} (hp : p ∈ x0.ents) {y0 : Ino} (hy : y0 ∈ S.inodes) (hy1 : y0.num = p.2) (hy2 : y0.ents = []) : InvB (setE S d (dropE p.1 x0.ents)) p.2 := by
 have hg := h.goal _ hx p hp
 have hc : ∀ y, (links (setE S d (dropE p.1 x0.ents))).count y + (if p.2 = y then 1 else 0) = (links S).count y := by
  intro y
  have h1 := count_setE (L := dropE p.1 x0.ents) h hx hd hdir y
  have h2 := count_dropE (h.up _ hx) hp y
  omega
 have hne : y0.num ≠ d := fun e => by
  have : y0 = x0 := h.ino_inj hy hx (by omega)
  subst this
  rw [hy2] at hp; cases hp
 have hr : ∀ z, Reach S z -> z ≠ p.2 -> Reach (setE S d (dropE p.1 x0.ents)) z := by
  intro z hz
  induction hz with
  | root => exact fun _ => .root
  | step _ he ih =>
   intro hz2
   refine .step (ih fun e => ?_) (edge_drop h hx hd hdir hp he hz2)
   obtain ⟨x, hx1, h1, h2, q, hq, h3⟩ := he
   have : x = y0 := h.ino_inj hx1 hy (by omega)
   subst this
   rw [hy2] at hq; cases hq
 have hL : ∀ x ∈ S.inodes, x.num ≠ p.2 -> (links (setE S d (dropE p.1 x0.ents))).count x.num = (links S).count x.num := fun x _ q => by
  have := hc x.num
  rw [if_neg (fun e => q e.symm)] at this
  omega
 have hT : ∀ {y : Ino}, y ∈ (setE S d (dropE p.1 x0.ents)).inodes -> y.num = p.2 -> ∃ x ∈ S.inodes, x = y0 /\ y.dir = x.dir /\ y.ents = [] := by
  intro y hy3 e
  obtain ⟨x, hx1, e1, e2, e3, e4⟩ := of_setE hy3
  have : x = y0 := h.ino_inj hx1 hy (by omega)
  subst this
  refine ⟨x, hx1, rfl, e2, ?_⟩
  rcases e4 with ⟨_, e4⟩ | ⟨e4, _⟩
  ·rw [e4, hy2]
  ·exact absurd e4 hne
 refine ⟨h.m1, h.m8, h.mb, root_map (fun _ => ⟨rfl, rfl⟩) h.root, rise_map (fun _ => rfl) h.rise, ?_, ?_, ?_, ?_, ?_, ?_, ?_, ?_, ?_, ?_, ?_, ?_, h.osort, hg.1, ?_, ?_⟩
 ·intro y hy; obtain ⟨x, hx, e1, e2, e3, e4⟩ := of_setE hy; rw [e1]; exact h.given x hx
 ·intro y hy hd; obtain ⟨x, hx, e1, e2, e3, e4⟩ := of_setE hy; rw [e3]; exact h.isDir x hx (e2 ▸ hd)
 ·intro y hy hf
  obtain ⟨x, hx1, e1, e2, e3, e4⟩ := of_setE hy
  rcases e4 with ⟨-, e4⟩ | ⟨e4, -⟩
  ·rw [e4]; exact h.isFile x hx1 (e2 ▸ hf)
  ·have : x = x0 := h.ino_inj hx1 hx (by omega)
   subst this
   rw [e2, hdir] at hf; cases hf
 ·intro y hy; obtain ⟨x, hx, e1, e2, e3, e4⟩ := of_setE hy; rw [e3]; exact h.dat x hx
 ·intro y hy e he
  obtain ⟨x, hx1, e1, e2, e3, e4⟩ := of_setE hy
  rcases e4 with ⟨-, e4⟩ | ⟨-, e4⟩
  ·rw [e4] at he; exact h.nam x hx1 e he
  ·rw [e4] at he; exact h.nam x0 hx e (mem_dropE.1 he).1
 ·intro y hy e he
  obtain ⟨x, hx1, e1, e2, e3, e4⟩ := of_setE hy
  have hk : e.2 ≠ 1 /\ ∃ y ∈ S.inodes, y.num = e.2 := by
   rcases e4 with ⟨-, e4⟩ | ⟨-, e4⟩
   ·rw [e4] at he; exact h.goal x hx1 e he
   ·rw [e4] at he; exact h.goal x0 hx e (mem_dropE.1 he).1
  obtain ⟨k1, q, hq, k2⟩ := hk
  obtain ⟨q2, hq2, e5, -⟩ := to_setE (d := d) (L := dropE p.1 x0.ents) hq
  exact ⟨k1, q2, hq2, e5.trans k2⟩
 ·intro y hy
  obtain ⟨x, hx1, e1, e2, e3, e4⟩ := of_setE hy
  rcases e4 with ⟨-, e4⟩ | ⟨-, e4⟩
  ·rw [e4]; exact h.up x hx1
  ·rw [e4]; exact (h.up x0 hx).filter _
 ·intro y hy q
  obtain ⟨x, hx1, e1, e2, e3, e4⟩ := of_setE hy
  rcases e4 with ⟨-, e4⟩ | ⟨-, e4⟩
  ·rw [e4]; exact h.slots x hx1 q
  ·rw [e4]; exact Nat.le_trans ((List.filter_sublist (l := x0.ents)).filter _).length_le (h.slots x0 hx q)
 ·intro y hy hd h1 h2; obtain ⟨x, hx, e1, e2, e3, e4⟩ := of_setE hy; rw [e1, hL x hx (e1 ▸ h2)]; exact h.one x hx (e2 ▸ hd) (e1 ▸ h1)
 ·intro y hy hd h1; obtain ⟨x, hx, e1, e2, e3, e4⟩ := of_setE hy; rw [e1]; exact hr _ (h.reach x hx (e2 ▸ hd)) (e1 ▸ h1)
 ·intro y hy hd h1
  obtain ⟨x, hx, e1, e2, e3, e4⟩ := of_setE hy
  rw [e1]
  rcases h.file x hx (e2 ▸ hd) with q | q
  ·exact .inl (List.count_pos_iff.1 (by rw [hL x hx (e1 ▸ h1)]; exact List.count_pos_iff.2 q))
  ·exact .inr q
 ·intro o ho
  obtain ⟨h1, h2, h3, h4, q, hq, h5, h6⟩ := h.ok o ho
  obtain ⟨q2, hq2, e5, e6⟩ := to_setE (d := d) (L := dropE p.1 x0.ents) hq
  exact ⟨h1, h2, h3, h4, q2, hq2, e5.trans h5, e6.trans h6⟩
 ·intro y hy e; obtain ⟨x, _, _, _, e2⟩ := hT hy e; exact e2
 ·intro y hy3 e hdy
  obtain ⟨x, hx1, rfl, e2, _⟩ := hT hy3 e
  rw [e2] at hdy
  refine ⟨fun q => ?_, fun o ho q => ?_⟩
  ·have h1 := List.count_pos_iff.2 q
   have h2 := h.one x hx1 hdy (by rw [hy1]; exact hg.1)
   have h3 := hc p.2
   rw [if_pos rfl] at h3
   rw [hy1] at h2
   omega
  ·obtain ⟨-, -, -, -, z, hz, h5, h6⟩ := h.ok o ho
   have : z = x := h.ino_inj hz hx1 (by omega)
   subst this
   rw [h6] at hdy; cases hdy
end
end
section
set_option maxHeartbeats 1000000
def ltN (a b : Ino) : Bool := decide (a.num < b.num)
def makeS (S : St) (c : Nat) (d : Int) (L : List (ByteArray × Int)) (x : Ino) : St := { inodes := insBy ltN x (setE S d L).inodes, opens := S.opens, made := S.made.set c (S.mad c + 1) }
theorem given_more {M : List Int} {c : Nat} {x : Int} (hc : c < M.length) (h : Given M x) : Given (M.set c (M.getD c 0 + 1)) x := by
 obtain ⟨h1, h2, h3⟩ := h
 refine ⟨h1, by rw [List.length_set]; exact h2, ?_⟩
 rw [List.getD_eq_getElem?_getD, List.getElem?_set]
 by_cases q : c = ((x - 2) % 8).toNat
 ·rw [if_pos q, if_pos (by omega)]
  show _ < M.getD c 0 + 1
  rw [<- q] at h3
  omega
 ·rw [if_neg q, <- List.getD_eq_getElem?_getD]
  exact h3
section
variable {S : St} {d : Int}
theorem Inv.fresh (h : Inv S) {c : Nat} (hc : c < S.made.length) : ∀ x ∈ S.inodes, x.num ≠ 2 + (c : Int) + 8 * S.mad c := by
 intro x hx e
 have h8 := h.m8
 have h0 := (h.mb _ (getD_mem (d := 0) hc)).1
 have h0 : 0 <= S.mad c := h0
 obtain ⟨h1, h2, h3⟩ := h.given x hx (by omega)
 have e1 : ((x.num - 2) % 8).toNat = c := by omega
 rw [e1] at h3
 have h3 : (x.num - 2) / 8 < S.mad c := h3
 omega
theorem Inv.make (h : Inv S) {x0 : Ino} (hx : x0 ∈ S.inodes) (hd : x0.num = d) (hdir : x0.dir = true) {c : Nat} (hc : c < S.made.length) (h32 : S.mad c < 32) {nm : ByteArray} {num : Int} (hnum : num = 2 + (c : Int) + 8 * S.mad c) (hn : ncheck nm = 0) (hp : ∀ e ∈ x0.ents, e.1 ≠ nm)
  (hs : (x0.ents.filter fun e => nbucket e.1 == nbucket nm).length < 4) (dr : Bool) : Inv (makeS S c d (insE (nm, num) x0.ents) ⟨num, dr, [], nm0⟩) := by
 generalize hS' : makeS S c d (insE (nm, num) x0.ents) ⟨num, dr, [], nm0⟩ = S'
 have hfr := h.fresh hc
 rw [<- hnum] at hfr
 have hmc := h.mb _ (getD_mem (d := 0) hc)
 have hmc : 0 <= S.mad c /\ S.mad c <= 32 := hmc
 have hI : S'.inodes = insBy ltN ⟨num, dr, [], nm0⟩ (setE S d (insE (nm, num) x0.ents)).inodes := by rw [<- hS']; rfl
 have hO : S'.opens = S.opens := by rw [<- hS']; rfl
 have hM : S'.made = S.made.set c (S.mad c + 1) := by rw [<- hS']; rfl
 have hmem : ∀ {y : Ino}, y ∈ S'.inodes ↔ y = ⟨num, dr, [], nm0⟩ ∨ y ∈ (setE S d (insE (nm, num) x0.ents)).inodes := by intro y; rw [hI]; exact mem_insBy
 have hE1 : ∀ a y, Edge S a y -> Edge S' a y := by
  intro a y he
  have : Edge (setE S d (insE (nm, num) x0.ents)) a y := by
   rw [edge_setE hx hd hdir]
   by_cases q : a = d
   ·obtain ⟨x, hx1, h1, h2, e, he, h3⟩ := he
    have : x = x0 := h.ino_inj hx1 hx (by omega)
    subst this
    exact .inr ⟨q, e, mem_insE.2 (.inr he), h3⟩
   ·exact .inl ⟨q, he⟩
  obtain ⟨x, hx1, h1⟩ := this
  exact ⟨x, hmem.2 (.inr hx1), h1⟩
 have hE2 : Edge S' d num := by
  have : Edge (setE S d (insE (nm, num) x0.ents)) d num := (edge_setE hx hd hdir).2 (.inr ⟨rfl, _, mem_insE.2 (.inl rfl), rfl⟩)
  obtain ⟨x, hx1, h1⟩ := this
  exact ⟨x, hmem.2 (.inr hx1), h1⟩
 have hc2 : ∀ y, (links S').count y = (links S).count y + if num = y then 1 else 0 := by
  intro y
  have h1 := count_setE (L := insE (nm, num) x0.ents) h hx hd hdir y
  rw [count_insE] at h1
  have h2 : (links S').count y = (links (setE S d (insE (nm, num) x0.ents))).count y := by
   unfold links
   rw [hI, ((perm_insBy _).flatMap_right linksOf).count_eq, List.flatMap_cons, List.count_append]
   have : (linksOf (⟨num, dr, [], nm0⟩ : Ino)).count y = 0 := by unfold linksOf; cases dr <;> rfl
   rw [this, Nat.zero_add]
  rw [h2]
  simp only at h1
  omega
 have hz : (links S).count num = 0 := by
  refine List.count_eq_zero.2 fun q => ?_
  obtain ⟨a, x, hx1, -, -, e, he, h3⟩ := mem_links.1 q
  obtain ⟨-, y, hy, h4⟩ := h.goal x hx1 e he
  exact hfr y hy (h4.trans h3)
 have hr0 : Reach S' num := .step (reach_of hE1 (hd ▸ h.reach x0 hx hdir)) hE2
 have hc0 : (c : Int) < S.made.length := by omega
 have hnew : Given S'.made num := by
  rw [hM]
  have e1 : ((num - 2) % 8).toNat = c := by have := h.m8; omega
  refine ⟨by omega, by rw [List.length_set]; have := h.m8; omega, ?_⟩
  rw [e1, List.getD_eq_getElem?_getD, List.getElem?_set, if_pos rfl, if_pos hc]
  show _ < S.mad c + 1
  have := h.m8
  omega
 have hroot : ∃ x, S'.inodes[0]? = some x /\ x.num = 1 /\ x.dir = true := by
  obtain ⟨r, g0, g1, g2⟩ := root_map (S := S) (d := d) (f := fun x => { x with ents := insE (nm, num) x0.ents }) (fun _ => ⟨rfl, rfl⟩) h.root
  refine ⟨r, ?_, g1, g2⟩
  rw [hI]
  show (insBy ltN _ (mapIno S d fun x => { x with ents := insE (nm, num) x0.ents }).inodes)[0]? = _
  cases hl : (mapIno S d fun x => { x with ents := insE (nm, num) x0.ents }).inodes with
  | nil => rw [hl] at g0; cases g0
  | cons z l =>
   rw [hl] at g0
   obtain rfl : z = r := by simpa using g0
   rw [insBy_head (by unfold ltN; simp; omega)]; rfl
 have hrise : S'.inodes.Pairwise (fun x y => x.num < y.num) := by
  rw [hI]
  refine pair_insBy (lt := ltN) (R := fun x y : Ino => x.num < y.num) (fun _ _ _ => Int.lt_trans) (rise_map (fun _ => rfl) h.rise) (fun e _ q => by unfold ltN at q; simpa using q) fun e he q => ?_
  obtain ⟨x, hx1, e1, -⟩ := of_setE he
  have := hfr x hx1
  have q2 : ¬ (num < e.num) := of_decide_eq_false q
  show e.num < num
  omega
 have hp2 : ∀ e ∈ x0.ents, e.1 ≠ ((nm, num) : ByteArray × Int).1 := hp
 have hne1 : num ≠ 1 := by omega
 refine ⟨by rw [hM, List.length_set]; exact h.m1, by rw [hM, List.length_set]; exact h.m8, ?_, hroot, hrise, ?_, ?_, ?_, ?_, ?_, ?_, ?_, ?_, ?_, ?_, ?_, ?_, by rw [hO]; exact h.osort⟩
 ·intro m hm
  rw [hM] at hm
  rcases List.mem_or_eq_of_mem_set hm with q | q
  ·exact h.mb m q
  ·omega
 ·intro y hy hy1
  rcases hmem.1 hy with rfl | hy
  ·exact hnew
  ·obtain ⟨x, hx1, e1, -⟩ := of_setE hy
   rw [e1, hM]
   exact given_more hc (h.given x hx1 (e1 ▸ hy1))
 ·intro y hy hdy
  rcases hmem.1 hy with rfl | hy
  ·rfl
  ·obtain ⟨x, hx1, e1, e2, e3, e4⟩ := of_setE hy
   rw [e3]; exact h.isDir x hx1 (e2 ▸ hdy)
 ·intro y hy hdy
  rcases hmem.1 hy with rfl | hy
  ·rfl
  ·obtain ⟨x, hx1, e1, e2, e3, e4⟩ := of_setE hy
   rcases e4 with ⟨-, e4⟩ | ⟨e4, -⟩
   ·rw [e4]; exact h.isFile x hx1 (e2 ▸ hdy)
   ·have : x = x0 := h.ino_inj hx1 hx (by omega)
    subst this
    rw [e2, hdir] at hdy; cases hdy
 ·intro y hy
  rcases hmem.1 hy with rfl | hy
  ·exact Nat.zero_le _
  ·obtain ⟨x, hx1, e1, e2, e3, e4⟩ := of_setE hy
   rw [e3]; exact h.dat x hx1
 ·intro y hy e he
  rcases hmem.1 hy with rfl | hy
  ·cases he
  ·obtain ⟨x, hx1, e1, e2, e3, e4⟩ := of_setE hy
   rcases e4 with ⟨-, e4⟩ | ⟨-, e4⟩
   ·rw [e4] at he; exact h.nam x hx1 e he
   ·rw [e4] at he
    rcases mem_insE.1 he with rfl | he
    ·exact hn
    ·exact h.nam x0 hx e he
 ·intro y hy e he
  have hold : (e.2 ≠ 1 /\ ∃ y ∈ S.inodes, y.num = e.2) -> e.2 ≠ 1 /\ ∃ y ∈ S'.inodes, y.num = e.2 := by
   rintro ⟨k1, q, hq, k2⟩
   obtain ⟨q2, hq2, e5, -⟩ := to_setE (d := d) (L := insE (nm, num) x0.ents) hq
   exact ⟨k1, q2, hmem.2 (.inr hq2), e5.trans k2⟩
  rcases hmem.1 hy with rfl | hy
  ·cases he
  ·obtain ⟨x, hx1, e1, e2, e3, e4⟩ := of_setE hy
   rcases e4 with ⟨-, e4⟩ | ⟨-, e4⟩
   ·rw [e4] at he; exact hold (h.goal x hx1 e he)
   ·rw [e4] at he
    rcases mem_insE.1 he with rfl | he
    ·exact ⟨hne1, _, hmem.2 (.inl rfl), rfl⟩
    ·exact hold (h.goal x0 hx e he)
 ·intro y hy
  rcases hmem.1 hy with rfl | hy
  ·exact .nil
  ·obtain ⟨x, hx1, e1, e2, e3, e4⟩ := of_setE hy
   rcases e4 with ⟨-, e4⟩ | ⟨-, e4⟩
   ·rw [e4]; exact h.up x hx1
   ·rw [e4]; exact insE_up (h.up x0 hx) hp2
 ·intro y hy q
  rcases hmem.1 hy with rfl | hy
  ·exact Nat.zero_le _
  ·obtain ⟨x, hx1, e1, e2, e3, e4⟩ := of_setE hy
   rcases e4 with ⟨-, e4⟩ | ⟨-, e4⟩
   ·rw [e4]; exact h.slots x hx1 q
   ·rw [e4]; exact insE_slots (h.slots x0 hx) hs q
 ·intro y hy hdy hy1
  rw [hc2]
  rcases hmem.1 hy with rfl | hy
  ·rw [if_pos rfl]
   show (links S).count num + 1 = 1
   omega
  ·obtain ⟨x, hx1, e1, e2, e3, e4⟩ := of_setE hy
   rw [e1, h.one x hx1 (e2 ▸ hdy) (e1 ▸ hy1), if_neg (fun q => hfr x hx1 q.symm)]
 ·intro y hy hdy
  rcases hmem.1 hy with rfl | hy
  ·exact hr0
  ·obtain ⟨x, hx1, e1, e2, e3, e4⟩ := of_setE hy
   rw [e1]; exact reach_of hE1 (h.reach x hx1 (e2 ▸ hdy))
 ·intro y hy hdy
  rcases hmem.1 hy with rfl | hy
  ·exact .inl (mem_links.2 ⟨d, hE2⟩)
  ·obtain ⟨x, hx1, e1, e2, e3, e4⟩ := of_setE hy
   rw [e1, hO]
   rcases h.file x hx1 (e2 ▸ hdy) with q | q
   ·obtain ⟨a, ha⟩ := mem_links.1 q
    exact .inl (mem_links.2 ⟨a, hE1 _ _ ha⟩)
   ·exact .inr q
 ·intro o ho
  rw [hO] at ho
  obtain ⟨h1, h2, h3, h4, q, hq, h5, h6⟩ := h.ok o ho
  obtain ⟨q2, hq2, e5, e6⟩ := to_setE (d := d) (L := insE (nm, num) x0.ents) hq
  exact ⟨h1, by rw [hM, List.length_set]; exact h2, h3, h4, q2, hmem.2 (.inr hq2), e5.trans h5, e6.trans h6⟩
end
end
section
open Go.RowKit
set_option maxHeartbeats 1000000
theorem inv_SA : Inv SA := by
 have h := inv2.make (x0 := ⟨1, true, [], ⟨#[]⟩⟩) (d := 1) (by simp [newS]) rfl rfl (c := 0) (by simp [newS]) (by simp [newS, St.mad]) (nm := nmA) (num := 2) (by simp [newS, St.mad]) (by kernel_rfl) (fun e he => by cases he) (by simp) false
 have e : makeS (newS 2) 0 1 (insE (nmA, 2) []) ⟨2, false, [], nm0⟩ = SA := by
  rfl
 rw [<- e]
 exact h
theorem filter_two {f : Nat -> Option Ino} {x y : Ino} (h0 : f 0 = some x) (h1 : f 1 = some y) (h2 : ∀ j, 2 <= j -> f j = none) : ∀ m, (List.range (m + 2)).filterMap f = [x, y]
 | 0 => by simp [List.range_succ, h0, h1]
 | m + 1 => by
  rw [show m + 1 + 2 = (m + 2) + 1 from rfl, List.range_succ, List.filterMap_append, filter_two h0 h1 h2 m]
  simp [h2 (m + 2) (by omega)]
theorem state_A {S : St} (h : IsState M1A ⟨[2], [1]⟩ (fun _ => ⟨#[]⟩) 2 S) : S = SA := by
 obtain ⟨h1, h2, A, h3, h4⟩ := h
 rw [ops_A] at h2 h4
 rw [words_M1A.1] at h1
 have hf : ∀ i : Int, (filesO [2] [] i).isSome = true ↔ i = 2 := fun i => by
  unfold filesO
  by_cases e : i = 2 <;> simp [e]
 have a2 : A 2 = some ⟨2, false, [], ⟨#[]⟩⟩ := (h4 2).1 ((hf 2).2 rfl)
 have a1 : A 1 = some ⟨1, true, [(nmA, 2)], ⟨#[]⟩⟩ := by
  obtain ⟨q1, q2⟩ := (h4 1).2 (fun q => by have := (hf 1).1 q; omega)
  obtain ⟨p, hp⟩ := Option.isSome_iff_exists.1 (show (A 1).isSome = true by rw [q1]; rfl)
  obtain ⟨r1, r2, r3, r4, -⟩ := q2 p hp
  rw [hp]
  obtain ⟨pn, pd, pe, pdat⟩ := p
  simp only at r1 r2 r3 r4
  subst r1 r2 r3
  rw [its_A] at r4
  have r5 : pe = [(nmA, 2)] := List.perm_singleton.1 r4
  rw [r5]
 have aN : ∀ j : Nat, 2 <= j -> A ((j : Int) + 1) = none := fun j hj => by
  obtain ⟨q1, -⟩ := (h4 ((j : Int) + 1)).2 (fun q => by have := (hf _).1 q; omega)
  cases hA : A ((j : Int) + 1) with
  | none => rfl
  | some p =>
   rw [hA] at q1
   simp at q1
   omega
 have hi : S.inodes = SA.inodes := by
  rw [h3]
  exact filter_two (f := fun (j : Nat) => A ((j : Int) + 1)) (by simpa using a1) (by simpa using a2) aN 255
 obtain ⟨S1, S2, S3⟩ := S
 simp only at h1 h2 hi
 subst h1 h2 hi
 rfl
theorem find_A : findS SA (parseF pathA) = (2, 0) := by
 rw [parse_A]
 kernel_rfl
end
end Go.Proofs.YtkebjgebkneijaaGreatDoor
