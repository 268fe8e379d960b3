/- Texts of one's own that a claim's last text rests on: MpX Mq1 Ml14 Ml15 Ml16. -/
import Derived.Test.YtkebjgebkneijaaGreatDoorMG21
import Derived.Test.YtkebjgebkneijaaGreatDoorMG20
import Derived.Test.YtkebjgebkneijaaGreatDoorMG10
import Derived.Test.YtkebjgebkneijaaGreatDoorMG12
import Derived.Test.YtkebjgebkneijaaGreatDoorMG17
set_option linter.unusedVariables false
set_option linter.unusedSimpArgs false
namespace Go.Proofs.YtkebjgebkneijaaGreatDoor
section
open Go.RowKit
set_option maxHeartbeats 2000000
theorem pagesOf_zero (w : World) : Calls Tryz.prog 93 #[.int .i64 0] w fun e w' => e = .returned (.int .i64 0) /\ Below w.heap.size w w' := by
 go_enter Tryz.func93, Tryz.ntmps93
 go_wp2_with (fail)
 go_ret
 exact ⟨by go_num, Below.refl _ _⟩
set_option maxRecDepth 1000000 in
theorem pages_none (w : World) (s : Nat) (num : Int) (v : Int) (d : ByteArray) (hd : Bool) : Calls Tryz.prog 92 #[.agg #[.pointer (some ⟨s, 0, none⟩), .int .i64 (-1)], .int .i64 num, .int .i64 0, .int .i64 0, .agg #[.int .i64 v, .string d, .bool hd]] w fun e w' => e = .returned (.string ⟨#[]⟩) /\ Below w.heap.size w w' := by
 have HB := lhi ((((Below.refl w.heap.size w).alloc (Nat.le_refl _) (.cells #[.pointer (some ⟨s, 0, none⟩), .int .i64 (-1)] 95)).alloc (by simp) (.cells #[.int .i64 v, .string d, .bool hd] 169)).alloc (by simp; omega) (.cells #[.int .i64 0, .int .i64 0, .string ⟨#[]⟩] 217))
 go_enter Tryz.func92, Tryz.ntmps92
 go_wp2_with (fail)
 go_loopw [13, 11] (fun i o wr => i = .int .i64 0 /\ o = .string ⟨#[]⟩ /\ Below w.heap.size w wr) (fun _ _ _ => 0)
 case atStart => exact ⟨rfl, rfl, HB.out⟩
 case round =>
  obtain ⟨rfl, rfl, hb⟩ := hrel
  go_wp2_with (fail)
  go_ret
  exact ⟨rfl, hb⟩
set_option maxRecDepth 1000000 in
theorem data_none {L : Nat -> Prop} {w : World} {s : Nat} {M : Mem} {m : Nat} (h : MemAt L w s M) (hok : M.ok m) (hm : m <= 900000000) {num : Int} (hn : 1 <= num /\ num <= 257) (hk : M.isBase num) (hz : rd M.ws (wd num 16) <= 1000000000000) (h0 : (M.bas num).2.1 = ⟨#[]⟩) :
  Calls Tryz.prog 48 #[.agg #[.pointer (some ⟨s, 0, none⟩), .int .i64 (-1)], .int .i64 num] w fun e w' => e = .returned (.string ⟨#[]⟩) /\ MemAt L w' s M /\ Kw L w w' := by
 obtain ⟨w1, hw1⟩ : ∃ w1, w1 = w.alloc (.cells #[.pointer (some ⟨s, 0, none⟩), .int .i64 (-1)] 95) := ⟨_, rfl⟩
 have HB1 := lhi (show Below w.heap.size w w1 by rw [hw1]; exact (Below.refl _ _).alloc (Nat.le_refl _) _)
 have HX1 := lhi (show Blk w1 w.heap.size 95 _ by rw [hw1]; exact Blk.new w 95 #[.pointer (some ⟨s, 0, none⟩), .int .i64 (-1)])
 have HL := lhi h.bd
 have HC := lhi (call_wide (h.below HB1.out) fun K hK => (base_calls hK hok (by omega) (.inl rfl) hn hk hz).mono (R' := fun e w' => e = .returned (baseV (M.bas num)) /\ MemAt K w' s M /\ Kp K w1 w') (by rintro e w' ⟨h1, h2, h3⟩; rw [Mem.see_neg] at h2; exact ⟨h1, h2, h3⟩))
 obtain ⟨bv, hbv⟩ : ∃ x, M.bas num = x := ⟨_, rfl⟩
 rw [hbv] at HC h0
 obtain ⟨v, d, hd⟩ := bv
 have h0 : d = ⟨#[]⟩ := h0
 subst h0
 have HC := lhi (show Calls Tryz.prog 91 #[.agg #[.pointer (some ⟨s, 0, none⟩), .int .i64 (-1)], .int .i64 num] w1 fun e w' => e = .returned (.agg #[.int .i64 v, .string ⟨#[]⟩, .bool hd]) /\ MemAt L w' s M /\ Kw L w1 w' from HC.out)
 clear h hok hk hz hbv
 go_enter Tryz.func48, Tryz.ntmps48
 go_upto_region 2 with (rw [<- hw1]; go_at_call 91; refine HC.out.mono ?_; rintro e w2 ⟨rfl, hm2, hk2⟩)
 have HM2 := lhi hm2
 have HK2 := lhi ((Kw.below HL.out HB1.out).trans hk2)
 have HX2 := lhi (hk2.blk HX1.out (by decide))
 obtain ⟨vb, hvb⟩ : ∃ x, x = w.heap.size := ⟨_, rfl⟩
 rw [<- hvb] at HX2 ⊢
 clear hvb hm2 hk2 HX1
 obtain ⟨wy, hwy⟩ : ∃ wy, wy = w2.alloc (.cells #[.int .i64 v, .string ⟨#[]⟩, .bool hd] 169) := ⟨_, rfl⟩
 have HB2 := lhi (show Below w2.heap.size w2 wy by rw [hwy]; exact (Below.refl _ _).alloc (Nat.le_refl _) _)
 have HBX := lhi (show Blk wy w2.heap.size 169 _ by rw [hwy]; exact Blk.new w2 169 #[.int .i64 v, .string ⟨#[]⟩, .bool hd])
 rw [<- hwy]
 obtain ⟨bb, hbb⟩ : ∃ x, x = w2.heap.size := ⟨_, rfl⟩
 rw [<- hbb] at HBX ⊢
 clear hbb hwy
 have HXY := lhi (Blk.of_heap (HB2.out.block _ HX2.out.lt) HX2.out)
 have HV0 := lhi (fun (x : WIn (Bel wy)) => show x.v.cell? ⟨vb, 0, none⟩ = some (.pointer (some ⟨s, 0, none⟩)) from x.cell (HXY.out.cell 0))
 have HV1 := lhi (fun (x : WIn (Bel wy)) => show x.v.cell? ⟨vb, 1, none⟩ = some (.int .i64 (-1)) from x.cell (HXY.out.cell 1))
 have HC0 := lhi (fun (x : WIn (Bel wy)) => show x.v.cell? ⟨bb, 0, none⟩ = some (.int .i64 v) from x.cell (HBX.out.cell 0))
 have HC1 := lhi (fun (x : WIn (Bel wy)) => show x.v.cell? ⟨bb, 1, none⟩ = some (.string ⟨#[]⟩) from x.cell (HBX.out.cell 1))
 have HC2 := lhi (fun (x : WIn (Bel wy)) => show x.v.cell? ⟨bb, 2, none⟩ = some (.bool hd) from x.cell (HBX.out.cell 2))
 have v0 := HV0.out
 have v1 := HV1.out
 have c0 := HC0.out
 have c1 := HC1.out
 have c2 := HC2.out
 refine wp_region_in (C := Bel wy) (by kernel_rfl) (by kernel_rfl) (Bel.drew wy) ?_
 repeat (go_big_quiet_step (first | (go_at_call 93; exact Calls.bel _ (pagesOf_zero _)) | (go_at_call 92; exact Calls.bel _ (pages_none _ _ _ _ _ _))))
 refine wpQuiet_nil ?_
 rintro wx ⟨x5, h5⟩
 have hbx := x5.h
 rw [<- h5] at hbx
 clear h5 x5 v0 v1 c0 c1 c2
 go_wp2_with (fail)
 go_ret
 have hbz : Below w2.heap.size w2 wx := HB2.out.trans (show Below w2.heap.size wy wx from Below.mono (show Below wy.heap.size wy wx from hbx) HB2.out.size)
 exact ⟨rfl, HM2.out.below hbz, HK2.out.trans (Kw.below HM2.out.bd hbz)⟩
def StateR (L : Nat -> Prop) (w : World) (fb s pb : Nat) (M : Mem) (ps : List PV) (g : Gt) (D : Int -> ByteArray) (e : Ending) (w' : World) : Prop :=
 (∃ iv ov mv ev S, e = .returned (.tuple #[.agg #[iv, ov, mv], .int .i64 0]) /\ StV w' 0 iv ov mv ev S /\ IsState M g D ps.length S) /\ FsAt L w' fb s pb M ps /\ Kw L w w'
def StateR2 (L : Nat -> Prop) (w : World) (fb s pb : Nat) (M : Mem) (ps : List PV) (g : Gt) (D : Int -> ByteArray) (e : Ending) (w' : World) : Prop :=
 (∃ iv ov mv ev S, e = .returned (.tuple #[.agg #[iv, ov, mv], .int .i64 0]) /\ StV w' 0 iv ov mv ev S /\ IsState M g D ps.length S /\ ∃ K : Nat -> Prop, (∀ b, L b -> K b) /\ (∀ b, 0 < S.inodes.length -> iv.ownBlock = some b -> K b) /\ (∀ b, 0 < S.made.length -> mv.ownBlock = some b -> K b) /\ FsAt K w' fb s pb M ps) /\ FsAt L w' fb s pb M ps /\ Kw L w w'
theorem row_ne {w : World} {t t' : TypeId} {k n base : Nat} {v : Value} {C : Nat -> Nat -> Value} {b : Nat} {cs : Array Value} (h : RowT w base t k v n C) (hn : 0 < n) (hb : Blk w b t' cs) (ht : t ≠ t') : v.ownBlock ≠ some b := by
 obtain ⟨A, cap, rfl, -, h3⟩ := h
 obtain ⟨g, off, cs', rfl, -, h5, -⟩ := h3 hn
 intro e
 have e : g = b := Option.some.inj e
 exact Blk.ne_ (e ▸ h5) hb ht rfl
set_option maxRecDepth 1000000 in
theorem State_ok2 {L : Nat -> Prop} {w : World} {fb s pb : Nat} {M : Mem} {ps : List PV} {m : Nat} (h : FsAt L w fb s pb M ps) (hidle : ∀ c (hc : c < ps.length), ps[c].at_ = .nilIface) (hok : M.ok m) (hm : m <= 900000000) (hfit : M.fit) {f : Nat} {g : Gt} (hg : gDir M f 1 ⟨[], []⟩ = g) (hgn : g.n <= 1000000) (hdeep : Deep M f 1) (D : Int -> ByteArray)
  (hfd : ∀ c k : Nat, c < ps.length -> k < 4 -> 0 <= rd M.ws (fdw (c : Nat) (k : Nat)) /\ rd M.ws (fdw (c : Nat) (k : Nat)) <= 257) (hfs : ∀ i ∈ g.fs, 0 <= i /\ i <= 257) (hD : DataC M s (fun i => (filesO g.fs (opsTo M ps.length) i).isSome = true) D) :
  Calls Tryz.prog 7 #[.pointer (some ⟨fb, 0, none⟩)] w (StateR2 L w fb s pb M ps g D) := by
 have h8 := h.tsl
 have hL : Bd L w := fun b hb => h.m.bd b (.inl hb)
 have HA := lhi (show FsAt (ins L w.heap.size) (w.alloc (.cells #[.slice none 0 0, .slice none 0 0, .slice none 0 0] 32)) fb s pb M ps from h.allocIns _)
 have HR := lhi (Blk.new w 32 #[.slice none 0 0, .slice none 0 0, .slice none 0 0])
 have HID := lhi hidle
 have HBS := lhi (fun c (hc : c < ps.length) => busy_no HA.out hc (hidle c hc))
 have HST := lhi (state_calls hok hm hfit hg hgn hdeep D (n := ps.length) (by rw [h.tl]) (by omega) hfd hfs HA.out.m hD)
 have HL := lhi hL
 obtain ⟨n, hn⟩ : ∃ n, ps.length = n := ⟨_, rfl⟩
 have HN := lhi hn
 clear hidle hok hfit hg hdeep hfd hfs hD
 obtain ⟨w1, hw1⟩ : ∃ w1, w1 = w.alloc (.cells #[.slice none 0 0, .slice none 0 0, .slice none 0 0] 32) := ⟨_, rfl⟩
 have HB := lhi (show Below w.heap.size w w1 by rw [hw1]; exact (Below.refl _ _).alloc (Nat.le_refl _) _)
 rw [<- hw1] at HA HR HBS HST
 go_enter Tryz.func7, Tryz.ntmps7
 go_upto_region 1 with (fail)
 rw [<- hw1]
 obtain ⟨rb, hrb⟩ : ∃ x, x = w.heap.size := ⟨_, rfl⟩
 rw [<- hrb] at HR HA HST ⊢
 have HRB := lhi hrb
 clear hw1 hrb
 have c0 : w1.cell? ⟨fb, 0, none⟩ = some (.pointer (some ⟨s, 0, none⟩)) := HA.out.f.cell 0
 have c1 : w1.cell? ⟨fb, 1, none⟩ = some (.slice (some ⟨pb, 0, none⟩) ps.length ps.length) := HA.out.f.cell 1
 go_wp2_with (fail)
 go_loopw [13] (fun i wr => ∃ c : Nat, i = .int .i64 c /\ c <= ps.length /\ wr = w1) (fun i _ => ps.length - (intOf i).toNat)
 case atStart => exact ⟨0, rfl, by omega, rfl⟩
 case round =>
  obtain ⟨c, rfl, hc, rfl⟩ := hrel
  by_cases hp : c < ps.length
  ·have hp1 : (c : Int) < ps.length := by omega
   have HBC := lhi (HBS.out c hp)
   go_wp2_with (go_at_call 16; refine HBC.out.mono ?_; rintro e w' ⟨rfl, rfl⟩)
   go_roundw
   case rel => exact ⟨c + 1, by go_num, by omega, by trivial⟩
   case measure =>
    simp only [intOf]
    omega
  ·have e : c = ps.length := by omega
   subst e
   have o0 : wr.cell? ⟨rb, 0, none⟩ = some (.slice none 0 0) := HR.out.cell 0
   go_wp2_with (go_at_call 17; refine HST.out.mono ?_; rintro e w2 ⟨⟨iv, ov, mv, ev, S, rfl, hst, his, hkk⟩, hm2, hk2⟩; have HKK := lhi hkk; clear hkk; have HS2 := lhi hst; have HI2 := lhi his; have HM2 := lhi hm2; have HK2 := lhi hk2; obtain ⟨iA, icap, rfl, -⟩ := hst.ino; obtain ⟨oA, ocap, rfl, -⟩ := hst.opn; obtain ⟨mA, mcap, rfl, -⟩ := hst.mad; clear hst his hm2 hk2; have HR2 := lhi (Blk.of_heap (HK2.out.k.k.block rb (.inl (by rw [HRB.out]; exact ins.new _ _))) HR.out); have r0 : w2.cell? ⟨rb, 0, none⟩ = some (.slice none 0 0) := HR2.out.cell 0; have r1 : w2.cell? ⟨rb, 1, none⟩ = some (.slice none 0 0) := HR2.out.cell 1; have r2 : w2.cell? ⟨rb, 2, none⟩ = some (.slice none 0 0) := HR2.out.cell 2; have f0 : w2.frozen? ⟨rb, 0, none⟩ = false := HR2.out.frozen _; have f1 : w2.frozen? ⟨rb, 1, none⟩ = false := HR2.out.frozen _; have f2 : w2.frozen? ⟨rb, 2, none⟩ = false := HR2.out.frozen _)
   have B0 := HR2.out
   have B1 := B0.set_ 0 (.slice iA S.inodes.length icap)
   have B2 := B1.set_ 1 (.slice oA S.opens.length ocap)
   have hrK : (fun b => ins L rb b ∨ b = fb ∨ b = pb) rb := .inl (by rw [HRB.out]; exact ins.new _ _)
   have hst1 := HS2.out.far B0 (by decide) (by decide) (by decide) (by decide) 0 (.slice iA S.inodes.length icap)
   have hst2 := hst1.far B1 (by decide) (by decide) (by decide) (by decide) 1 (.slice oA S.opens.length ocap)
   have hst3 := hst2.far B2 (by decide) (by decide) (by decide) (by decide) 2 (.slice mA S.made.length mcap)
   have hmm := (((HM2.out.set B0 hrK 0 (.slice iA S.inodes.length icap)).set B1 hrK 1 (.slice oA S.opens.length ocap)).set B2 hrK 2 (.slice mA S.made.length mcap))
   have hF0 : Blk w2 fb 55 _ := Blk.of_heap (HK2.out.k.k.block fb (.inr (.inl rfl))) HA.out.f
   have hP0 : Blk w2 pb 93 _ := Blk.of_heap (HK2.out.k.k.block pb (.inr (.inr rfl))) HA.out.p.1
   have nF : fb ≠ rb := Blk.ne_ hF0 B0 (by decide)
   have nP : pb ≠ rb := Blk.ne_ hP0 B0 (by decide)
   have hF3 := ((hF0.far (p := ⟨rb, 0, none⟩) nF (.slice iA S.inodes.length icap)).far (p := ⟨rb, 1, none⟩) nF (.slice oA S.opens.length ocap)).far (p := ⟨rb, 2, none⟩) nF (.slice mA S.made.length mcap)
   have hP3 := ((hP0.far (p := ⟨rb, 0, none⟩) nP (.slice iA S.inodes.length icap)).far (p := ⟨rb, 1, none⟩) nP (.slice oA S.opens.length ocap)).far (p := ⟨rb, 2, none⟩) nP (.slice mA S.made.length mcap)
   have hk0 : Kw L w w2 := (Kw.below HL.out HB.out).trans (HK2.out.sub fun b hb => .inl (ins.old hb))
   have hk3 := ((hk0.setNew HL.out (q := rb) (by rw [HRB.out]; exact Nat.le_refl _) 0 (.slice iA S.inodes.length icap)).setNew HL.out (q := rb) (by rw [HRB.out]; exact Nat.le_refl _) 1 (.slice oA S.opens.length ocap)).setNew HL.out (q := rb) (by rw [HRB.out]; exact Nat.le_refl _) 2 (.slice mA S.made.length mcap)
   have hK : ∃ K : Nat -> Prop, (∀ b, L b -> K b) /\ (∀ b, 0 < S.inodes.length -> (Value.slice iA S.inodes.length icap).ownBlock = some b -> K b) /\ (∀ b, 0 < S.made.length -> (Value.slice mA S.made.length mcap).ownBlock = some b -> K b) /\ FsAt K (((w2.setCell ⟨rb, 0, none⟩ (.slice iA S.inodes.length icap)).setCell ⟨rb, 1, none⟩ (.slice oA S.opens.length ocap)).setCell ⟨rb, 2, none⟩ (.slice mA S.made.length mcap)) fb s pb M ps := by
    obtain ⟨K2, q1, q2, q3⟩ := HKK.out
    refine ⟨fun b => L b ∨ (0 < S.inodes.length /\ (Value.slice iA S.inodes.length icap).ownBlock = some b) ∨ (0 < S.made.length /\ (Value.slice mA S.made.length mcap).ownBlock = some b), fun b hb => .inl hb, fun b h1 h2 => .inr (.inl ⟨h1, h2⟩), fun b h1 h2 => .inr (.inr ⟨h1, h2⟩), ?_⟩
    refine ⟨(((q3.set B0 (q1 _ hrK) 0 _).set B1 (q1 _ hrK) 1 _).set B2 (q1 _ hrK) 2 _).sub fun b hb => ?_, by simpa using hF3, ⟨hP3, HA.out.p.2⟩, ?_, ?_, FsR.tl h⟩
    ·rcases hb with (hb | hb | hb) | hb
     ·exact q1 _ (.inl (ins.old hb))
     ·exact q2 _ (.inl hb.2)
     ·exact q2 _ (.inr (.inr hb.2))
     ·exact q1 _ (.inr hb)
    ·rintro (hb | hb | hb)
     ·exact FsR.nf h hb
     ·exact row_ne hst3.ino hb.1 hF3 (by decide) hb.2
     ·exact row_ne hst3.mad hb.1 hF3 (by decide) hb.2
    ·rintro (hb | hb | hb)
     ·exact FsR.np h hb
     ·exact row_ne hst3.ino hb.1 hP3 (by decide) hb.2
     ·exact row_ne hst3.mad hb.1 hP3 (by decide) hb.2
   refine bodyPost_ret (v := .tuple #[.agg #[.slice iA S.inodes.length icap, .slice oA S.opens.length ocap, .slice mA S.made.length mcap], .int .i64 0]) ?_ rfl ⟨⟨_, _, _, _, S, rfl, hst3, HI2.out, hK⟩, ⟨hmm.sub fun b hb => ?_, by simpa using hF3, ⟨hP3, HA.out.p.2⟩, FsR.nf h, FsR.np h, FsR.tl h⟩, hk3⟩
   ·simp [results, Tryz.results7, go_sem, r0, r1, r2]
   ·rcases hb with hb | hb
    ·exact .inl (ins.old hb)
    ·exact .inr hb
theorem State_ok {L : Nat -> Prop} {w : World} {fb s pb : Nat} {M : Mem} {ps : List PV} {m : Nat} (h : FsAt L w fb s pb M ps) (hidle : ∀ c (hc : c < ps.length), ps[c].at_ = .nilIface) (hok : M.ok m) (hm : m <= 900000000) (hfit : M.fit) {f : Nat} {g : Gt} (hg : gDir M f 1 ⟨[], []⟩ = g) (hgn : g.n <= 1000000) (hdeep : Deep M f 1) (D : Int -> ByteArray)
  (hfd : ∀ c k : Nat, c < ps.length -> k < 4 -> 0 <= rd M.ws (fdw (c : Nat) (k : Nat)) /\ rd M.ws (fdw (c : Nat) (k : Nat)) <= 257) (hfs : ∀ i ∈ g.fs, 0 <= i /\ i <= 257) (hD : DataC M s (fun i => (filesO g.fs (opsTo M ps.length) i).isSome = true) D) :
  Calls Tryz.prog 7 #[.pointer (some ⟨fb, 0, none⟩)] w (StateR L w fb s pb M ps g D) := by
 refine (State_ok2 h hidle hok hm hfit hg hgn hdeep D hfd hfs hD).mono ?_
 rintro e w' ⟨⟨iv, ov, mv, ev, S, h1, h2, h3, -⟩, h4, h5⟩
 exact ⟨⟨iv, ov, mv, ev, S, h1, h2, h3⟩, h4, h5⟩
end
section
open Go.RowKit
set_option maxHeartbeats 2000000
theorem Kp.setNew {L : Nat -> Prop} {w W : World} (h : Kp L w W) (hL : Bd L w) {q : Nat} (hq : w.heap.size <= q) (i : Nat) (v : Value) : Kp L w (W.setCell ⟨q, i, none⟩ v) :=
 ⟨h.k.setCell (p := ⟨q, i, none⟩) (fun hb => by have := hL q hb; omega) v, h.i.setNew hq i v⟩
set_option maxRecDepth 1000000 in
theorem alone_ok {L : Nat -> Prop} {w : World} {fb s pb : Nat} {M M' : Mem} {m : Nat} {ps : List PV} {k : Nat} (h : FsAt L w fb s pb M ps) (hok : (M.clear k).ok m) (hok' : M'.ok m) (hm : m <= 1000000000) (hk : k < ps.length) {cv : CallV} (hc : cv.core = k) (hkind : 0 <= cv.kind /\ cv.kind <= 16) (hat : ps[k].at_ = .nilIface) {r : ResV} (hr : r.na = none /\ r.nl = 0 /\ r.nc = 0)
  (hl' : M'.ts.length = (M.clear k).ts.length) (hle : (tr (M.clear k).ts k).length <= (tr M'.ts k).length) (hwd : ∀ y ∈ tr M'.ts k, 0 <= y.1 /\ y.1 <= 1000000) (hstep : ∀ w1, StepC w1 fb s (M.clear k) M' k cv 112 (.agg #[]) r) :
  Calls Tryz.prog 8 #[.pointer (some ⟨fb, 0, none⟩), .agg cv.cs] w fun e w' => e = .returned (.tuple #[.agg r.cs, .bool true]) /\ (∃ tc, FsAt L w' fb s pb M' (ps.set k ⟨cv, .nilIface, true, r, tc⟩)) /\ Kp L w w' := by
 have h8 := h.tsl
 have hL : Bd L w := fun b hb => h.m.bd b (.inl hb)
 obtain ⟨kind, core, fd, off, num, path, path2, data⟩ := cv
 have hc : core = k := hc
 have hkind : 0 <= kind /\ kind <= 16 := hkind
 subst hc
 obtain ⟨rcode, rfd, rnum, rdir, rdata, rna, rnl, rnc⟩ := r
 obtain ⟨rfl, rfl, rfl⟩ : rna = none /\ rnl = 0 /\ rnc = 0 := hr
 obtain ⟨w2, hw2⟩ : ∃ x, x = (w.alloc (.cells #[.int .i64 kind, .int .i64 k, .int .i64 fd, .int .i64 off, .int .i64 num, .string path, .string path2, .string data] 42)).alloc (.cells #[.int .i64 0, .int .i64 0, .int .i64 0, .bool false, .string ⟨#[]⟩, .slice none 0 0] 37) := ⟨_, rfl⟩
 have HW := lhi (show Below w.heap.size w w2 by rw [hw2]; exact ((Below.refl _ _).alloc (Nat.le_refl _) _).alloc (by simp) _)
 have HA := lhi (show FsAt (ins (ins L w.heap.size) (w.heap.size + 1)) w2 fb s pb M ps by
  rw [hw2]
  have := (h.allocIns (.cells #[.int .i64 kind, .int .i64 k, .int .i64 fd, .int .i64 off, .int .i64 num, .string path, .string path2, .string data] 42)).allocIns (.cells #[.int .i64 0, .int .i64 0, .int .i64 0, .bool false, .string ⟨#[]⟩, .slice none 0 0] 37)
  simpa using this)
 have HC := lhi (show Blk w2 w.heap.size 42 #[.int .i64 kind, .int .i64 k, .int .i64 fd, .int .i64 off, .int .i64 num, .string path, .string path2, .string data] by rw [hw2]; exact (Blk.new _ _ _).alloc _)
 have HR := lhi (show Blk w2 (w.heap.size + 1) 37 #[.int .i64 0, .int .i64 0, .int .i64 0, .bool false, .string ⟨#[]⟩, .slice none 0 0] by rw [hw2]; exact Blk.newAt _ _ _ (by simp))
 have HBG := lhi (begin_ok HA.out hk (c := ⟨kind, k, fd, off, num, path, path2, data⟩) rfl hkind hat)
 have HLE := lhi hle
 have HOK := lhi hok
 have HOK' := lhi hok'
 have HWD := lhi hwd
 have HSC := lhi hstep
 have HLT := lhi hl'
 have HL := lhi hL
 have HAT := lhi hat
 have HNF := lhi (FsR.nf h)
 clear hle hok hok' hwd hstep hl' hL hat h
 simp only [CallV.cs, ResV.cs] at HBG ⊢
 go_enter Tryz.func8, Tryz.ntmps8
 go_upto_region 1 with (fail)
 rw [<- hw2]
 obtain ⟨p0, hp0⟩ : ∃ x, x = w.heap.size := ⟨_, rfl⟩
 rw [<- hp0] at HA HC HR HBG ⊢
 have HP0 := lhi hp0
 clear hw2 hp0
 have b0 : w2.cell? ⟨p0, 0, none⟩ = some (.int .i64 kind) := HC.out.cell 0
 have b1 : w2.cell? ⟨p0, 1, none⟩ = some (.int .i64 k) := HC.out.cell 1
 have b2 : w2.cell? ⟨p0, 2, none⟩ = some (.int .i64 fd) := HC.out.cell 2
 have b3 : w2.cell? ⟨p0, 3, none⟩ = some (.int .i64 off) := HC.out.cell 3
 have b4 : w2.cell? ⟨p0, 4, none⟩ = some (.int .i64 num) := HC.out.cell 4
 have b5 : w2.cell? ⟨p0, 5, none⟩ = some (.string path) := HC.out.cell 5
 have b6 : w2.cell? ⟨p0, 6, none⟩ = some (.string path2) := HC.out.cell 6
 have b7 : w2.cell? ⟨p0, 7, none⟩ = some (.string data) := HC.out.cell 7
 go_wp2_with (first
  | (go_at_call 18; refine HBG.out.mono ?_; rintro e w3 ⟨rfl, hf3, hk3⟩; have HF3 := lhi hf3; have HK3 := lhi hk3; clear hf3 hk3 HBG)
  | (go_at_call 6; refine (num_calls _ _).mono ?_; rintro e w' ⟨rfl, rfl⟩))
 clear b0 b1 b2 b3 b4 b5 b6 b7
 go_loopw [7] (fun i wr => i = .int .i64 0 /\ wr = w3) (fun _ _ => 0)
 case atStart => exact ⟨rfl, rfl⟩
 case round =>
  obtain ⟨rfl, rfl⟩ := hrel
  have HC3 := lhi (Blk.of_heap (HK3.out.k.block p0 (by rw [HP0.out]; exact ins.old (ins.new _ _))) HC.out)
  have b1 : wr.cell? ⟨p0, 1, none⟩ = some (.int .i64 k) := HC3.out.cell 1
  have hkl : k < (ps.set k ⟨⟨kind, k, fd, off, num, path, path2, data⟩, begunV, false, noRes, 0⟩).length := by simpa using hk
  have HST := lhi (fstep_ok HF3.out HOK.out HOK'.out hm hkl (c := ⟨kind, k, fd, off, num, path, path2, data⟩) (by simp) (ty := 112) (x := .agg #[]) (by simp [begunV]) (r := ⟨rcode, rfd, rnum, rdir, rdata, none, 0, 0⟩) HLT.out HLE.out HWD.out (HSC.out wr))
  go_upto_region 11 with (first
   | (go_at_call 19; refine HST.out.mono ?_; rintro e w4 ⟨rfl, tc, hf4, hk4⟩; have HF4 := lhi (show FsAt _ w4 fb s pb M' (ps.set k ⟨⟨kind, k, fd, off, num, path, path2, data⟩, .nilIface, true, ⟨rcode, rfd, rnum, rdir, rdata, none, 0, 0⟩, tc⟩) by rw [List.set_set] at hf4; exact hf4); have HK4 := lhi hk4; clear hf4 hk4 HST)
   | (go_at_call 6; refine (num_calls _ _).mono ?_; rintro e w' ⟨rfl, rfl⟩))
  clear b1
  have hkl2 : k < (ps.set k ⟨⟨kind, k, fd, off, num, path, path2, data⟩, .nilIface, true, ⟨rcode, rfd, rnum, rdir, rdata, none, 0, 0⟩, tc⟩).length := by simpa using hk
  have HRS := lhi (result_ok HF4.out hkl2 (by simp) (r := ⟨rcode, rfd, rnum, rdir, rdata, none, 0, 0⟩) (by simp) ⟨rfl, rfl, rfl⟩)
  simp only [ResV.cs] at HRS
  have hL2 : ∀ q, q = p0 ∨ q = p0 + 1 -> (ins (ins L p0) (p0 + 1)) q := fun q hq => by
   rcases hq with rfl | rfl
   ·exact ins.old (ins.new _ _)
   ·exact ins.new _ _
  have HC4 := lhi (Blk.of_heap (HK4.out.k.block p0 (hL2 _ (.inl rfl))) HC3.out)
  have HR4 := lhi (Blk.of_heap (HK4.out.k.block (p0 + 1) (hL2 _ (.inr rfl))) (Blk.of_heap (HK3.out.k.block (p0 + 1) (hL2 _ (.inr rfl))) (show Blk w2 (p0 + 1) _ _ from HR.out)))
  have b1 : w4.cell? ⟨p0, 1, none⟩ = some (.int .i64 k) := HC4.out.cell 1
  go_wp2_with (go_at_call 20; refine HRS.out.mono ?_; rintro e w5 ⟨rfl, hb5⟩; have HB5 := lhi hb5; have HR5 := lhi (Blk.of_heap (hb5.block _ HR4.out.lt) HR4.out); clear hb5 HRS; have r0 : w5.cell? ⟨p0 + 1, 0, none⟩ = some (.int .i64 0) := HR5.out.cell 0; have f0 := HR5.out.frozen 0; have r1 : w5.cell? ⟨p0 + 1, 1, none⟩ = some (.int .i64 0) := HR5.out.cell 1; have f1 := HR5.out.frozen 1; have r2 : w5.cell? ⟨p0 + 1, 2, none⟩ = some (.int .i64 0) := HR5.out.cell 2; have f2 := HR5.out.frozen 2; have r3 : w5.cell? ⟨p0 + 1, 3, none⟩ = some (.bool false) := HR5.out.cell 3; have f3 := HR5.out.frozen 3; have r4 : w5.cell? ⟨p0 + 1, 4, none⟩ = some (.string ⟨#[]⟩) := HR5.out.cell 4; have f4 := HR5.out.frozen 4; have r5 : w5.cell? ⟨p0 + 1, 5, none⟩ = some (.slice none 0 0) := HR5.out.cell 5; have f5 := HR5.out.frozen 5)
  have B0 := HR5.out
  have B1 := B0.set_ 0 (.int .i64 rcode)
  have B2 := B1.set_ 1 (.int .i64 rfd)
  have B3 := B2.set_ 2 (.int .i64 rnum)
  have B4 := B3.set_ 3 (.bool rdir)
  have B5 := B4.set_ 4 (.string rdata)
  have hf5 := HF4.out.below HB5.out
  have hf6 := (((((hf5.own1 B0 (hL2 _ (.inr rfl)) 0 (.int .i64 rcode)).own1 B1 (hL2 _ (.inr rfl)) 1 (.int .i64 rfd)).own1 B2 (hL2 _ (.inr rfl)) 2 (.int .i64 rnum)).own1 B3 (hL2 _ (.inr rfl)) 3 (.bool rdir)).own1 B4 (hL2 _ (.inr rfl)) 4 (.string rdata)).own1 B5 (hL2 _ (.inr rfl)) 5 (.slice none 0 0)
  have hk0 : Kp L w w2 := Kp.below HL.out HW.out
  have hs : ∀ b, L b -> (ins (ins L p0) (p0 + 1)) b := fun b hb => ins.old (ins.old hb)
  have hk4 : Kp L w w4 := hk0.trans ((HK3.out.trans HK4.out).sub hs)
  have hk5 : Kp L w w5 := hk4.trans (Kp.below (hk4.bd HL.out) HB5.out)
  have hq : w.heap.size <= p0 + 1 := by have := HP0.out; omega
  have hk6 := (((((hk5.setNew HL.out hq 0 (.int .i64 rcode)).setNew HL.out hq 1 (.int .i64 rfd)).setNew HL.out hq 2 (.int .i64 rnum)).setNew HL.out hq 3 (.bool rdir)).setNew HL.out hq 4 (.string rdata)).setNew HL.out hq 5 (.slice none 0 0)
  refine bodyPost_ret (v := .tuple #[.agg #[.int .i64 rcode, .int .i64 rfd, .int .i64 rnum, .bool rdir, .string rdata, .slice none 0 0], .bool true]) ?_ rfl ⟨rfl, ⟨tc, hf6.sub hs⟩, hk6⟩
  simp [results, Tryz.results8, go_sem, r0, r1, r2, r3, r4, r5]
end
section
open Go.RowKit
set_option maxHeartbeats 2000000
theorem bl_no {s t : ByteArray} (h : nlt s t = true) : nlt t s = false := by
 cases h2 : nlt t s with
 | false => rfl
 | true => have := nlt_trans h h2; rw [nlt_irrefl] at this; cases this
theorem Inv.slot_le {S : St} (h : Inv S) {i j : Nat} (hi : i < S.inodes.length) (hj : j < S.ne i) : cnt S i (j + 1) (nbucket (S.enm i j)) <= 4 := by
 have hm := Inv.ino_mem hi
 have h4 := h.slots _ hm (nbucket (S.enm i j))
 have hk : j < (S.ino i).ents.length := hj
 refine Nat.le_trans ?_ h4
 have h7 : (S.ino i).ents.take (j + 1) = (List.range (j + 1)).map fun j => (S.ino i).ents.getD j (ByteArray.empty, 0) := by
  refine List.ext_getElem? fun q => ?_
  rw [List.getElem?_map, List.getElem?_take]
  by_cases e : q < j + 1
  ·rw [if_pos e, List.getElem?_range e, List.getElem?_eq_getElem (by omega)]
   simp only [Option.map_some]
   rw [getD_get (by omega : q < _)]
  ·rw [if_neg e, List.getElem?_eq_none (by simpa using e)]; rfl
 have h6 : (((S.ino i).ents.take (j + 1)).filter fun e => nbucket e.1 == nbucket (S.enm i j)).length <= ((S.ino i).ents.filter fun e => nbucket e.1 == nbucket (S.enm i j)).length := ((List.take_sublist _ _).filter _).length_le
 rw [h7, List.filter_map, List.length_map] at h6
 exact h6
set_option maxRecDepth 1000000 in
theorem mayEntries_yes {w : World} {sp : Nat} {iv ov mv : Value} {ev : Nat -> Value} {S : St} (hS : StM w iv ov mv ev S) (hI : Inv S) (h0 : w.cell? ⟨sp, 0, none⟩ = some iv) {k : Nat} (hk : k < S.inodes.length) :
  Calls Tryz.prog 67 #[.pointer (some ⟨sp, 0, none⟩), ev k] w fun e w' => e = .returned (.bool true) /\ Below w.heap.size w w' := by
 have hsm := hI.small
 have HS := lhi hS
 have HI := lhi hI
 have HENT := lhi (hS.ent k hk)
 have hne := hsm.en k
 have HORD := lhi hI.ord
 have hp0 := World.block_lt_of_cell? _ _ h0
 obtain ⟨EA, ecap, hev, -, -⟩ := hS.ent k hk
 rw [hev] at HENT ⊢
 obtain ⟨ne, hnee⟩ : ∃ ne, S.ne k = ne := ⟨_, rfl⟩
 have HNE := lhi hnee
 rw [hnee] at HENT hne ⊢
 clear hS hI hsm hev hnee
 go_enter Tryz.func67, Tryz.ntmps67
 go_wp2_with (fail)
 have HB0 := lhi ((Below.refl w.heap.size w).alloc (Nat.le_refl _) (Obj.cells #[.int .i64 0, .int .i64 0, .int .i64 0, .int .i64 0, .int .i64 0, .int .i64 0, .int .i64 0, .int .i64 0] 147))
 have HS0 := lhi (show Blk (w.alloc (Obj.cells #[.int .i64 0, .int .i64 0, .int .i64 0, .int .i64 0, .int .i64 0, .int .i64 0, .int .i64 0, .int .i64 0] 147)) w.heap.size 147 (cntA (cnt S k 0)) from Blk.new w 147 (cntA fun _ => 0))
 generalize w.alloc (Obj.cells #[.int .i64 0, .int .i64 0, .int .i64 0, .int .i64 0, .int .i64 0, .int .i64 0, .int .i64 0, .int .i64 0] 147) = wl at *
 obtain ⟨sl, hsl⟩ : ∃ sl, w.heap.size = sl := ⟨_, rfl⟩
 have HSL := lhi hsl
 rw [hsl]
 rw [hsl] at HS0
 clear hsl
 go_loopw [11] (fun i wr => ∃ j : Nat, i = .int .i64 j /\ j <= ne /\ Below w.heap.size w wr /\ Blk wr sl 147 (cntA (cnt S k j))) (fun i _ => ne - (intOf i).toNat)
 case atStart => exact ⟨0, rfl, by omega, HB0.out, HS0.out⟩
 case round =>
  obtain ⟨j, rfl, hj, hB, hbs⟩ := hrel
  have HB := lhi hB
  have HBS := lhi hbs
  by_cases hp : j < ne
  ·obtain ⟨-, -, eg, eoff, rfl, hcell⟩ := (HENT.out.keep hB).at_ hp
   have q0 : wr.cell? ⟨eg, eoff + j * 2, none⟩ = some (.string (S.enm k j)) := hcell 0 (by omega)
   have q1 : wr.cell? ⟨eg, eoff + j * 2 + 1, none⟩ = some (.int .i64 (S.enu k j)) := hcell 1 (by omega)
   have hp2 : (j : Int) < ne := by omega
   obtain ⟨g, hg, hgo, -, hne1⟩ := HI.out.enu_in hk (by rw [HNE.out]; exact hp)
   have HNM := lhi (show ncheck (S.enm k j) = 0 from HI.out.nam _ (Inv.ino_mem hk) _ (getD_mem (by have := HNE.out; unfold St.ne at this; omega)))
   have HSLOT := lhi (HI.out.slot_le hk (by rw [HNE.out]; exact hp))
   have HCS := lhi (cnt_succ S k j)
   have HUP := lhi (show ∀ p, j = p + 1 -> nlt (S.enm k p) (S.enm k j) = true from fun p e => by
    have hl : j < (S.ino k).ents.length := by have := HNE.out; unfold St.ne at this; omega
    have := List.pairwise_iff_getElem.1 (HI.out.up _ (Inv.ino_mem hk)) p j (by omega) hl (by omega)
    unfold St.enm
    rw [getD_get hl, getD_get (by omega : p < _)]
    exact this)
   have HFI := lhi (fun (W : World) (hW : Below w.heap.size w W) => find_in (sp := sp) (HS.out.keep hW) HORD.out.n (S.enu k j) HORD.out.rise ((hW.cell hp0).trans h0))
   rw [hgo] at HFI
   have HCO := lhi hcell
   have hnb := nbucket_lt (S.enm k j)
   clear hcell hgo hB hbs hg
   obtain ⟨nm, hnm⟩ : ∃ x, S.enm k j = x := ⟨_, rfl⟩
   obtain ⟨nu, hnu⟩ : ∃ x, S.enu k j = x := ⟨_, rfl⟩
   rw [hnm] at q0 HNM HSLOT HUP hnb HCS
   rw [hnu] at q1 HFI hne1
   have HE := lhi (Blk.new wr 141 #[.string nm, .int .i64 nu])
   have HBA := lhi (HB.out.alloc HB.out.size (Obj.cells #[.string nm, .int .i64 nu] 141))
   have HBSA := lhi (HBS.out.alloc (Obj.cells #[.string nm, .int .i64 nu] 141))
   have HM := lhi (may_calls nm)
   rw [HNM.out] at HM
   have HM := lhi (show ∀ W : World, Calls Tryz.prog 74 #[.string nm] W fun e w' => e = .returned (.bool true) /\ Below W.heap.size W w' from HM.out)
   have hne2 : (nu == 1) = false := by simpa using hne1
   have HPREV := lhi (show ∀ p, j = p + 1 -> (wr.alloc (Obj.cells #[.string nm, .int .i64 nu] 141)).cell? ⟨eg, eoff + p * 2, none⟩ = some (.string (S.enm k p)) from fun p e => by
    obtain ⟨-, -, g', off', e', hc⟩ := (HENT.out.keep HBA.out).at_ (i := p) (by omega)
    injection e' with e'
    injection e' with e1 e2
    subst e1 e2
    exact hc 0 (by omega))
   clear hne1 HCO
   go_upto_region 5 with (fail)
   obtain ⟨wy, hwy⟩ : ∃ wy, wy = wr.alloc (Obj.cells #[.string nm, .int .i64 nu] 141) := ⟨_, rfl⟩
   rw [<- hwy] at HE HBA HPREV HBSA ⊢
   obtain ⟨eb, heb⟩ : ∃ eb, wr.heap.size = eb := ⟨_, rfl⟩
   rw [heb] at HE ⊢
   clear q0 q1 hwy heb
   go_cut [46] (fun s wx => s = .bool false /\ Below wy.heap.size wy wx)
   case first =>
    have e0 : ∀ x : WIn (Bel wy), x.v.cell? ⟨eb, 0, none⟩ = some (.string nm) := fun x => x.cell (HE.out.cell 0)
    have e1 : ∀ x : WIn (Bel wy), x.v.cell? ⟨eb, 1, none⟩ = some (.int .i64 nu) := fun x => x.cell (HE.out.cell 1)
    have HFX := lhi (fun x : WIn (Bel wy) => HFI.out x.v (HBA.out.trans (x.h.mono HBA.out.size)))
    have hg0 : ¬ ((g : Int) < 0) := by omega
    by_cases hj0 : 0 < j
    ·obtain ⟨p, hjp⟩ : ∃ p, j = p + 1 := ⟨j - 1, by omega⟩
     have p0 : ∀ x : WIn (Bel wy), x.v.cell? ⟨eg, eoff + p * 2, none⟩ = some (.string (S.enm k p)) := fun x => x.cell (HPREV.out p hjp)
     have hlt := HUP.out p hjp
     obtain ⟨pm, hpm⟩ : ∃ x, S.enm k p = x := ⟨_, rfl⟩
     rw [hpm] at p0 hlt
     clear hpm
     have hj1 : decide ((0 : Int) < (j : Int)) = true := decide_eq_true (by omega)
     have ej : IntKind.i64.wrap ((j : Int) - 1) = (p : Int) := by rw [IntWalk.i64_in _ (by omega)]; omega
     have hpl : (p : Int) < ne := by omega
     clear hjp
     have ej2 : IntKind.i64.wrap (p : Int) = (p : Int) := IntWalk.i64_in _ (by omega)
     have l1 : Op.bytesLess pm.toList nm.toList = true := hlt
     have l2 : Op.bytesLess nm.toList pm.toList = false := bl_no hlt
     have l3 : (pm.toList == nm.toList) = false := by
      cases h : pm.toList == nm.toList with
      | false => rfl
      | true =>
       have h : pm.toList = nm.toList := by simpa using h
       rw [h, bl_irrefl] at l1; cases l1
     refine wp_region_in (C := Bel wy) (by kernel_rfl) (by kernel_rfl) (Bel.drew wy) ?_
     repeat (go_big_quiet_step (first | (go_at_call 74; exact Calls.bel _ (HM.out _)) | (go_at_call 63; exact Calls.bel _ (HFX.out _))))
     refine wpQuiet_nil ?_
     rintro _ ⟨⟨wx, hbx⟩, rfl⟩
     have HBX := lhi hbx
     clear hbx e0 e1 p0
     go_wp2_with (fail)
     go_meet
     case rel => exact ⟨rfl, HBX.out⟩
    ·have hj1 : decide ((0 : Int) < (j : Int)) = false := decide_eq_false (by omega)
     refine wp_region_in (C := Bel wy) (by kernel_rfl) (by kernel_rfl) (Bel.drew wy) ?_
     repeat (go_big_quiet_step (first | (go_at_call 74; exact Calls.bel _ (HM.out _)) | (go_at_call 63; exact Calls.bel _ (HFX.out _))))
     refine wpQuiet_nil ?_
     rintro _ ⟨⟨wx, hbx⟩, rfl⟩
     have HBX := lhi hbx
     clear hbx e0 e1
     go_wp2_with (fail)
     go_meet
     case rel => exact ⟨rfl, HBX.out⟩
   case rest =>
    obtain ⟨rfl, hcut⟩ := hcut
    have HBC := lhi (HBA.out.trans (hcut.mono HBA.out.size))
    have HSC := lhi (Blk.of_heap (hcut.block _ HBSA.out.lt) HBSA.out)
    have e0 : wc.cell? ⟨eb, 0, none⟩ = some (.string nm) := (hcut.cell HE.out.lt).trans (HE.out.cell 0)
    have HBK := lhi (bucket_calls nm wc)
    clear hcut HBA HBSA HE HPREV HFI HM
    generalize nbucket nm = q at *
    go_upto_region 8 with (go_at_call 75; refine HBK.out.mono ?_; rintro e w' ⟨rfl, hB6⟩)
    have HB6 := lhi (HBC.out.trans (hB6.mono HBC.out.size))
    have HS6 := lhi (Blk.of_heap (hB6.block _ HSC.out.lt) HSC.out)
    clear hB6 HSC HBK e0
    have hcl := HSLOT.out
    have hcs := HCS.out q
    rw [if_pos rfl] at hcs
    have hq8 : (q : Int) < 8 := by omega
    have s1 : w'.cell? ⟨sl, q, none⟩ = some (.int .i64 (cnt S k j q : Nat)) := (HS6.out.cell q).trans (cntA_at _ hnb)
    have f1 : w'.frozen? ⟨sl, q, none⟩ = false := HS6.out.frozen q
    have HSS := lhi (show Blk (w'.setCell ⟨sl, q, none⟩ (.int .i64 ((cnt S k j q : Nat) + 1))) sl 147 (cntA (cnt S k (j + 1))) by
     have := HS6.out.set_ q (.int .i64 ((cnt S k j q : Nat) + 1))
     rwa [cntA_set (cnt S k j) (cnt S k (j + 1)) hnb (by rw [HCS.out, if_pos rfl]; omega) (fun i _ hi => by rw [HCS.out, if_neg (Ne.symm hi)]; rfl)] at this)
    have HBB := lhi (HB6.out.setCell (p := ⟨sl, q, none⟩) (by have := HSL.out; show w.heap.size <= sl; omega) (.int .i64 ((cnt S k j q : Nat) + 1)))
    have h5 : cnt S k j q + 1 <= 4 := by omega
    clear HS6 HCS HSLOT hcs hcl
    generalize cnt S k j q = cq at *
    have h6 : ¬ ((4 : Int) < (cq : Int) + 1) := by omega
    go_wp2_with (fail)
    go_roundw
    case rel => exact ⟨j + 1, by go_num, by omega, HBB.out, HSS.out⟩
    case measure =>
     simp only [intOf]
     omega
  ·have e : j = ne := by omega
   subst e
   clear hB hbs
   go_wp2_with (fail)
   go_ret
   exact ⟨rfl, HB.out⟩
end
section
open Go.RowKit
set_option maxHeartbeats 2000000
set_option maxRecDepth 1000000 in
theorem mayInodes_yes {w : World} {sp : Nat} {iv ov mv : Value} {ev : Nat -> Value} {S : St} (hS : StM w iv ov mv ev S) (hI : Inv S) (h0 : w.cell? ⟨sp, 0, none⟩ = some iv) (h2 : w.cell? ⟨sp, 2, none⟩ = some mv) :
  Calls Tryz.prog 26 #[.pointer (some ⟨sp, 0, none⟩)] w fun e w' => e = .returned (.bool true) /\ Below w.heap.size w w' := by
 have hsm := hI.small
 have hn := hsm.ni
 have hpos := hI.pos
 have HS := lhi hS
 have HI := lhi hI
 have HR := lhi hS.ino
 have hp0 := World.block_lt_of_cell? _ _ h0
 have hp2 := World.block_lt_of_cell? _ _ h2
 obtain ⟨n1, d1⟩ := hI.num0
 obtain ⟨A, cap, rfl, -, -⟩ := hS.ino
 obtain ⟨n, hnn⟩ : ∃ n, S.inodes.length = n := ⟨_, rfl⟩
 have HNN := lhi hnn
 have HL0 := lhi h0
 rw [hnn] at hn hpos HR h0
 obtain ⟨-, -, g0, off0, rfl, hcell0⟩ := HR.out.at_ hpos
 have r0 : w.cell? ⟨g0, off0, none⟩ = some (.int .i64 1) := by have := hcell0 0 (by omega); simp only [Nat.zero_mul, Nat.add_zero] at this; rw [this]; simp [inoC, n1]
 have r1 : w.cell? ⟨g0, off0 + 1, none⟩ = some (.bool true) := by have := hcell0 1 (by omega); simp only [Nat.zero_mul, Nat.zero_add] at this; rw [this]; simp [inoC, d1]
 have hz : ((n : Int) == 0) = false := by simp; omega
 have hz1 : (0 : Int) < (n : Int) := by omega
 have H0 := lhi h0
 have H2 := lhi h2
 clear hS hI hcell0 hsm hnn
 go_enter Tryz.func26, Tryz.ntmps26
 go_wp2_with (fail)
 clear r0 r1 h0 h2
 go_loopw [3] (fun i wr => ∃ k : Nat, i = .int .i64 k /\ 1 <= k /\ k <= n /\ Below w.heap.size w wr) (fun i _ => n - (intOf i).toNat)
 case atStart => exact ⟨1, rfl, by omega, by omega, Below.refl _ _⟩
 case round =>
  obtain ⟨k, rfl, hk1, hk, hB⟩ := hrel
  have HB := lhi hB
  have c0 : wr.cell? ⟨sp, 0, none⟩ = some (.slice (some ⟨g0, off0, none⟩) n cap) := (hB.cell hp0).trans H0.out
  by_cases hp : k < n
  ·obtain ⟨p, rfl⟩ : ∃ p, k = p + 1 := ⟨k - 1, by omega⟩
   obtain ⟨-, -, g, off, e, hcell⟩ := (HR.out.keep hB).at_ hp
   injection e with e
   injection e with e1 e2
   subst e1 e2
   obtain ⟨-, -, g', off', e, hcell'⟩ := (HR.out.keep hB).at_ (i := p) (by omega)
   injection e with e
   injection e with e1 e2
   subst e1 e2
   have q0 : wr.cell? ⟨g0, off0 + (p + 1) * 4, none⟩ = some (.int .i64 (S.num (p + 1))) := hcell 0 (by omega)
   have q1 : wr.cell? ⟨g0, off0 + p * 4, none⟩ = some (.int .i64 (S.num p)) := hcell' 0 (by omega)
   have hlt : S.num p < S.num (p + 1) := HI.out.num_lt (by rw [HNN.out]; exact hp) (by omega)
   have hpn : p + 1 < S.inodes.length := by rw [HNN.out]; exact hp
   have hbd := HI.out.num_bound (Inv.ino_mem hpn)
   have hbd : 1 <= S.num (p + 1) /\ S.num (p + 1) <= 257 := hbd
   have hpl : 1 <= S.num p := (HI.out.num_bound (Inv.ino_mem (by omega : p < S.inodes.length))).1
   have HMN := lhi (fun x : WIn (Bel wr) => mayNum_yes (sp := sp) (HS.out.keep (hB.trans (x.h.mono hB.size))) HI.out ((x.h.cell (by have := hB.size; show sp < _; have : sp < w.heap.size := hp2; omega)).trans ((hB.cell hp2).trans H2.out)) (HI.out.given _ (Inv.ino_mem hpn) (show S.num (p + 1) ≠ 1 by omega)) (show S.num (p + 1) <= 1000000 by omega))
   have HMN := lhi (show ∀ x : WIn (Bel wr), Calls Tryz.prog 66 #[.pointer (some ⟨sp, 0, none⟩), .int .i64 (S.num (p + 1))] x.v fun e w' => e = .returned (.bool true) /\ Below x.v.heap.size x.v w' from HMN.out)
   have x0 : ∀ x : WIn (Bel wr), x.v.cell? ⟨sp, 0, none⟩ = some (.slice (some ⟨g0, off0, none⟩) n cap) := fun x => x.cell c0
   have y0 : ∀ x : WIn (Bel wr), x.v.cell? ⟨g0, off0 + (p + 1) * 4, none⟩ = some (.int .i64 (S.num (p + 1))) := fun x => x.cell q0
   have y1 : ∀ x : WIn (Bel wr), x.v.cell? ⟨g0, off0 + p * 4, none⟩ = some (.int .i64 (S.num p)) := fun x => x.cell q1
   clear hcell hcell' hbd hpl
   obtain ⟨a, ha⟩ : ∃ a, S.num (p + 1) = a := ⟨_, rfl⟩
   obtain ⟨b, hb⟩ : ∃ b, S.num p = b := ⟨_, rfl⟩
   rw [ha] at hlt HMN y0
   rw [hb] at hlt y1
   have hle : ¬ (a <= b) := by omega
   have hpi : ((p : Int) + 1) < n := by omega
   have hpj : (p : Int) < n := by omega
   have ej : IntKind.i64.wrap ((p : Int) + 1 - 1) = (p : Int) := by rw [IntWalk.i64_in _ (by omega)]; omega
   have ej2 : IntKind.i64.wrap (p : Int) = (p : Int) := IntWalk.i64_in _ (by omega)
   clear q0 q1 ha hb hB hlt
   go_upto_region 6 with (fail)
   refine wp_region_in (C := Bel wr) (by kernel_rfl) (by kernel_rfl) (Bel.drew wr) ?_
   repeat (go_big_quiet_step ((go_at_call 66; exact Calls.bel _ (HMN.out _))))
   refine wpQuiet_nil ?_
   rintro wx ⟨x5, h5⟩
   have hbx := x5.h
   rw [<- h5] at hbx
   clear h5 x5
   have HBX := lhi (HB.out.trans ((show Below wr.heap.size wr wx from hbx).mono HB.out.size))
   clear hbx x0 y0 y1
   go_wp2_with (fail)
   go_roundw
   case rel => exact ⟨p + 1 + 1, by go_num, by omega, by omega, HBX.out⟩
   case measure =>
    simp only [intOf]
    omega
  ·have e : k = n := by omega
   subst e
   clear hB
   go_wp2_with (fail)
   clear c0
   obtain ⟨w1, rfl⟩ : ∃ w1 : World, w1 = wr := ⟨_, rfl⟩
   go_loopw [77] (fun i wr => ∃ j : Nat, i = .int .i64 j /\ j <= k /\ Below w.heap.size w wr) (fun i _ => k - (intOf i).toNat)
   case atStart => exact ⟨0, rfl, by omega, HB.out⟩
   case round =>
    obtain ⟨j, rfl, hj, hB⟩ := hrel
    have HB2 := lhi hB
    by_cases hp : j < k
    ·obtain ⟨-, -, g, off, e, hcell⟩ := (HR.out.keep hB).at_ hp
     injection e with e
     injection e with e1 e2
     subst e1 e2
     have q0 : wr.cell? ⟨g0, off0 + j * 4, none⟩ = some (.int .i64 (S.num j)) := hcell 0 (by omega)
     have q1 : wr.cell? ⟨g0, off0 + j * 4 + 1, none⟩ = some (.bool (S.dir j)) := hcell 1 (by omega)
     have q2 : wr.cell? ⟨g0, off0 + j * 4 + 2, none⟩ = some (ev j) := hcell 2 (by omega)
     have q3 : wr.cell? ⟨g0, off0 + j * 4 + 3, none⟩ = some (.string (S.dat j)) := hcell 3 (by omega)
     have hp1 : (j : Int) < k := by omega
     have hjn : j < S.inodes.length := by rw [HNN.out]; exact hp
     have hm := Inv.ino_mem hjn
     obtain ⟨EA, ecap, hev, -, -⟩ := HS.out.ent j hjn
     have HME := lhi (fun (W : World) (hW : Below w.heap.size w W) => mayEntries_yes (sp := sp) (HS.out.keep hW) HI.out ((hW.cell hp0).trans HL0.out) hjn)
     rw [hev] at q2 HME
     have hds := HI.out.dat _ hm
     have hds : (S.dat j).size <= 256 := hds
     have hdir := HI.out.isDir _ hm
     have hfile := HI.out.isFile _ hm
     have HBA := lhi (hB.alloc hB.size (.cells #[.int .i64 (S.num j), .bool (S.dir j), .slice EA (S.ne j) ecap, .string (S.dat j)] 72))
     have HX := lhi (Blk.new wr 72 #[.int .i64 (S.num j), .bool (S.dir j), .slice EA (S.ne j) ecap, .string (S.dat j)])
     clear hcell hB hev
     cases hd : S.dir j with
     | true =>
      have hz0 : (S.dat j).size = 0 := hdir hd
      have hz3 : (S.dat j).toList = [] := by
       rw [ByteArray.toList_eq]
       exact List.length_eq_zero_iff.1 (by rw [Array.length_toList]; exact hz0)
      have hz5 : (!(S.dat j).toList.isEmpty) = false := by simp [hz3]
      rw [hd] at q1 HBA HX
      clear hd hdir hfile hz0 hz3
      go_wp2_with (go_at_call 67; refine (HME.out _ HBA.out).mono ?_; rintro e w1 ⟨rfl, hb1⟩; have z1 : w1.cell? ⟨wr.heap.size, 1, none⟩ = some (.bool true) := (hb1.cell (p := ⟨wr.heap.size, 1, none⟩) HX.out.lt).trans (HX.out.cell 1))
      go_roundw
      case rel => exact ⟨j + 1, by go_num, by omega, HBA.out.trans (hb1.mono HBA.out.size)⟩
      case measure =>
       simp only [intOf]
       omega
     | false =>
      have hz0 : S.ne j = 0 := by have := hfile hd; show (S.ino j).ents.length = 0; rw [this]; rfl
      rw [hd] at q1 HBA HX
      rw [hz0] at q2 HBA
      have hz4 : ¬ (256 : Int) < ((S.dat j).size : Int) := by omega
      clear hd hdir hfile hz0
      go_wp2_with (fail)
      go_roundw
      case rel => exact ⟨j + 1, by go_num, by omega, HBA.out⟩
      case measure =>
       simp only [intOf]
       omega
    ·have e : j = k := by omega
     subst e
     clear hB
     go_wp2_with (fail)
     go_ret
     exact ⟨rfl, HB2.out⟩
end
section
open Go.RowKit
set_option maxHeartbeats 2000000
set_option maxRecDepth 1000000 in
theorem mayOpen_yes {w : World} {sp : Nat} {iv ov mv : Value} {ev : Nat -> Value} {S : St} (hS : StM w iv ov mv ev S) (hI : Inv S) (h0 : w.cell? ⟨sp, 0, none⟩ = some iv) (h1 : w.cell? ⟨sp, 1, none⟩ = some ov) (h2 : w.cell? ⟨sp, 2, none⟩ = some mv) :
  Calls Tryz.prog 27 #[.pointer (some ⟨sp, 0, none⟩)] w fun e w' => e = .returned (.bool true) /\ Below w.heap.size w w' := by
 have hsm := hI.small
 have hn := hsm.no
 have HS := lhi hS
 have HI := lhi hI
 have HR := lhi hS.ino
 have HO := lhi hS.opn
 have HORD := lhi hI.ord
 have hp0 := World.block_lt_of_cell? _ _ h0
 have h8 := hI.m8
 obtain ⟨A, cap, rfl, -, -⟩ := hS.ino
 obtain ⟨OA, ocap, rfl, -, -⟩ := hS.opn
 obtain ⟨MA, mcap, rfl, -, -⟩ := hS.mad
 obtain ⟨n, hnn⟩ : ∃ n, S.opens.length = n := ⟨_, rfl⟩
 have HNN := lhi hnn
 rw [hnn] at hn HO h1
 have H0 := lhi h0
 have H1 := lhi h1
 have H2 := lhi h2
 clear hS hI hsm hnn
 go_enter Tryz.func27, Tryz.ntmps27
 go_wp2_with (fail)
 clear h0 h1 h2
 go_loopw [11] (fun i wr => ∃ k : Nat, i = .int .i64 k /\ k <= n /\ Below w.heap.size w wr) (fun i _ => n - (intOf i).toNat)
 case atStart => exact ⟨0, rfl, by omega, Below.refl _ _⟩
 case round =>
  obtain ⟨k, rfl, hk, hB⟩ := hrel
  have HB := lhi hB
  by_cases hp : k < n
  ·obtain ⟨-, -, g, off, rfl, hcell⟩ := (HO.out.keep hB).at_ hp
   have q0 : wr.cell? ⟨g, off + k * 3, none⟩ = some (.int .i64 (S.oc k)) := hcell 0 (by omega)
   have q1 : wr.cell? ⟨g, off + k * 3 + 1, none⟩ = some (.int .i64 (S.of k)) := hcell 1 (by omega)
   have q2 : wr.cell? ⟨g, off + k * 3 + 2, none⟩ = some (.int .i64 (S.on k)) := hcell 2 (by omega)
   have hp1 : (k : Int) < n := by omega
   have hkl : k < S.opens.length := by rw [HNN.out]; exact hp
   have hmem : S.opens.getD k (0, 0, 0) ∈ S.opens := getD_mem hkl
   obtain ⟨o1, o2, o3, o4, y, hy, o5, o6⟩ := HI.out.ok _ hmem
   have o1 : 0 <= S.oc k := o1
   have o2 : S.oc k < S.made.length := o2
   have o3 : 0 <= S.of k := o3
   have o4 : S.of k < 4 := o4
   obtain ⟨ng, hng, hng2, hpl⟩ := placeF_of HORD.out.rise hy
   have o5 : y.num = S.on k := o5
   rw [o5] at hpl
   have hdir : S.dir ng = false := by
    unfold St.dir St.ino
    rw [List.getD_eq_getElem?_getD, hng2]; exact o6
   have HPREV := lhi (show ∀ p, k = p + 1 -> wr.cell? ⟨g, off + p * 3, none⟩ = some (.int .i64 (S.oc p)) /\ wr.cell? ⟨g, off + p * 3 + 1, none⟩ = some (.int .i64 (S.of p)) /\ (S.oc p < S.oc k ∨ S.oc p = S.oc k /\ S.of p < S.of k) /\ 0 <= S.oc p from fun p e => by
    obtain ⟨-, -, g', off', e', hc⟩ := (HO.out.keep hB).at_ (i := p) (by omega)
    injection e' with e'
    injection e' with e1 e2
    subst e1 e2
    have hs := List.pairwise_iff_getElem.1 HI.out.osort p k (by omega) hkl (by omega)
    refine ⟨hc 0 (by omega), hc 1 (by omega), ?_, ?_⟩
    ·unfold St.oc St.of
     rw [getD_get hkl, getD_get (by omega : p < _)]
     exact hs
    ·exact (HI.out.ok _ (getD_mem (d := (0, 0, 0)) (by omega : p < S.opens.length))).1)
   have HFI := lhi (fun (W : World) (hW : Below w.heap.size w W) => find_in (sp := sp) (HS.out.keep hW) HORD.out.n (S.on k) HORD.out.rise ((hW.cell hp0).trans H0.out))
   rw [hpl] at HFI
   have HD := lhi (fun (W : World) (hW : Below w.heap.size w W) => (HR.out.keep hW).at_ hng)
   rw [show S.inodes.length = S.inodes.length from rfl] at HD
   clear hcell hmem hy o5 o6 hng2 hpl
   obtain ⟨oc, hoc⟩ : ∃ x, S.oc k = x := ⟨_, rfl⟩
   obtain ⟨of, hof⟩ : ∃ x, S.of k = x := ⟨_, rfl⟩
   obtain ⟨on, hon⟩ : ∃ x, S.on k = x := ⟨_, rfl⟩
   rw [hoc] at q0 o1 o2 HPREV
   rw [hof] at q1 o3 o4 HPREV
   rw [hon] at q2 HFI
   clear hoc hof hon
   have HE := lhi (Blk.new wr 109 #[.int .i64 oc, .int .i64 of, .int .i64 on])
   have HBA := lhi (HB.out.alloc HB.out.size (Obj.cells #[.int .i64 oc, .int .i64 of, .int .i64 on] 109))
   have HBW := lhi ((Below.refl wr.heap.size wr).alloc (Nat.le_refl _) (Obj.cells #[.int .i64 oc, .int .i64 of, .int .i64 on] 109))
   have c1 : ¬ (oc < 0) := by omega
   have c2 : ¬ ((S.made.length : Int) <= oc) := by omega
   have c3 : ¬ (of < 0) := by omega
   have c4 : ¬ ((4 : Int) <= of) := by omega
   have hdl : (S.inodes.length : Int) <= 1000 := by have := HORD.out.n; omega
   have hng1 : (ng : Int) < S.inodes.length := by omega
   clear o1 o2 o3 o4 hB
   go_upto_region 4 with (fail)
   clear q0 q1 q2
   obtain ⟨wy, hwy⟩ : ∃ wy, wy = wr.alloc (Obj.cells #[.int .i64 oc, .int .i64 of, .int .i64 on] 109) := ⟨_, rfl⟩
   rw [<- hwy] at HE HBA HBW ⊢
   obtain ⟨eb, heb⟩ : ∃ eb, wr.heap.size = eb := ⟨_, rfl⟩
   rw [heb] at HE ⊢
   clear hwy
   have e0 : ∀ x : WIn (Bel wy), x.v.cell? ⟨eb, 0, none⟩ = some (.int .i64 oc) := fun x => x.cell (HE.out.cell 0)
   have e1 : ∀ x : WIn (Bel wy), x.v.cell? ⟨eb, 1, none⟩ = some (.int .i64 of) := fun x => x.cell (HE.out.cell 1)
   have e2 : ∀ x : WIn (Bel wy), x.v.cell? ⟨sp, 2, none⟩ = some (.slice MA S.made.length mcap) := fun x => x.cell ((HBA.out.cell (World.block_lt_of_cell? _ _ H2.out)).trans H2.out)
   refine wp_region_in (C := Bel wy) (by kernel_rfl) (by kernel_rfl) (Bel.drew wy) ?_
   repeat (go_big_quiet_step (fail))
   refine wpQuiet_nil ?_
   rintro wx ⟨x5, h5⟩
   have hbx := x5.h
   rw [<- h5] at hbx
   clear h5 x5
   have HBX := lhi (show Below wy.heap.size wy wx from hbx)
   clear hbx e0 e1 e2
   have HEX := lhi (Blk.of_heap (HBX.out.block _ HE.out.lt) HE.out)
   have HBC := lhi (HBA.out.trans (HBX.out.mono HBA.out.size))
   have HBY := lhi (HBW.out.trans (HBX.out.mono HBW.out.size))
   clear HE HBA HBX HBW
   go_upto_region 6 with (fail)
   go_cut [82] (fun s wz => s = .bool false /\ Below wx.heap.size wx wz)
   case first =>
    have e0 : ∀ x : WIn (Bel wx), x.v.cell? ⟨eb, 0, none⟩ = some (.int .i64 oc) := fun x => x.cell (HEX.out.cell 0)
    have e1 : ∀ x : WIn (Bel wx), x.v.cell? ⟨eb, 1, none⟩ = some (.int .i64 of) := fun x => x.cell (HEX.out.cell 1)
    have e2 : ∀ x : WIn (Bel wx), x.v.cell? ⟨sp, 1, none⟩ = some (.slice (some ⟨g, off, none⟩) n ocap) := fun x => x.cell ((HBC.out.cell (World.block_lt_of_cell? _ _ H1.out)).trans H1.out)
    by_cases hk0 : 0 < k
    ·obtain ⟨p, hkp⟩ : ∃ p, k = p + 1 := ⟨k - 1, by omega⟩
     obtain ⟨z0, z1, z2, z3⟩ := HPREV.out p hkp
     have y0 : ∀ x : WIn (Bel wx), x.v.cell? ⟨g, off + p * 3, none⟩ = some (.int .i64 (S.oc p)) := fun x => x.cell ((HBY.out.cell (World.block_lt_of_cell? _ _ z0)).trans z0)
     have y1 : ∀ x : WIn (Bel wx), x.v.cell? ⟨g, off + p * 3 + 1, none⟩ = some (.int .i64 (S.of p)) := fun x => x.cell ((HBY.out.cell (World.block_lt_of_cell? _ _ z1)).trans z1)
     obtain ⟨pc, hpc⟩ : ∃ x, S.oc p = x := ⟨_, rfl⟩
     obtain ⟨pf, hpf⟩ : ∃ x, S.of p = x := ⟨_, rfl⟩
     rw [hpc] at y0 z2 z3
     rw [hpf] at y1 z2
     clear z0 z1 hpc hpf
     have hj1 : decide ((0 : Int) < (k : Int)) = true := decide_eq_true (by omega)
     have ej : IntKind.i64.wrap ((k : Int) - 1) = (p : Int) := by rw [IntWalk.i64_in _ (by omega)]; omega
     have ej2 : IntKind.i64.wrap (p : Int) = (p : Int) := IntWalk.i64_in _ (by omega)
     have hpj : (p : Int) < n := by omega
     clear hkp
     have c5 : ¬ (oc < pc) := by omega
     by_cases he : pc = oc
     ·have he1 : (pc == oc) = true := by simp [he]
      have c6 : ¬ (of <= pf) := by omega
      clear z2
      refine wp_region_in (C := Bel wx) (by kernel_rfl) (by kernel_rfl) (Bel.drew wx) ?_
      repeat (go_big_quiet_step (fail))
      refine wpQuiet_nil ?_
      rintro _ ⟨⟨wz, hbz⟩, rfl⟩
      have HBZ := lhi hbz
      clear hbz e0 e1 e2 y0 y1
      go_wp2_with (fail)
      go_meet
      case rel => exact ⟨rfl, HBZ.out⟩
     ·have he1 : (pc == oc) = false := by simp [he]
      clear z2 he
      refine wp_region_in (C := Bel wx) (by kernel_rfl) (by kernel_rfl) (Bel.drew wx) ?_
      repeat (go_big_quiet_step (fail))
      refine wpQuiet_nil ?_
      rintro _ ⟨⟨wz, hbz⟩, rfl⟩
      have HBZ := lhi hbz
      clear hbz e0 e1 e2 y0 y1
      go_wp2_with (fail)
      go_meet
      case rel => exact ⟨rfl, HBZ.out⟩
    ·have hj1 : decide ((0 : Int) < (k : Int)) = false := decide_eq_false (by omega)
     refine wp_region_in (C := Bel wx) (by kernel_rfl) (by kernel_rfl) (Bel.drew wx) ?_
     repeat (go_big_quiet_step (fail))
     refine wpQuiet_nil ?_
     rintro _ ⟨⟨wz, hbz⟩, rfl⟩
     have HBZ := lhi hbz
     clear hbz e0 e1 e2
     go_wp2_with (fail)
     go_meet
     case rel => exact ⟨rfl, HBZ.out⟩
   case rest =>
    obtain ⟨rfl, hcut⟩ := hcut
    have HEC := lhi (Blk.of_heap (hcut.block _ HEX.out.lt) HEX.out)
    have HBD := lhi (HBC.out.trans (hcut.mono HBC.out.size))
    clear hcut HEX HPREV HBY
    have e2 : wc.cell? ⟨eb, 2, none⟩ = some (.int .i64 on) := HEC.out.cell 2
    have c0 : wc.cell? ⟨sp, 0, none⟩ = some (.slice A S.inodes.length cap) := (HBD.out.cell hp0).trans H0.out
    obtain ⟨-, -, ig, ioff, rfl, icell⟩ := HD.out _ HBD.out
    have i1 : wc.cell? ⟨ig, ioff + ng * 4 + 1, none⟩ = some (.bool false) := by have := icell 1 (by omega); rw [this]; simp [inoC, hdir]
    have HF := lhi (HFI.out _ HBD.out)
    clear icell HD HFI
    have hng0 : ¬ ((ng : Int) < 0) := by omega
    go_wp2_with (go_at_call 63; refine HF.out.mono ?_; rintro e w1 ⟨rfl, hb1⟩; have c1 := (hb1.cell (World.block_lt_of_cell? _ _ c0)).trans c0; have i2 := (hb1.cell (World.block_lt_of_cell? _ _ i1)).trans i1)
    go_roundw
    case rel => exact ⟨k + 1, by go_num, by omega, HBD.out.trans (hb1.mono HBD.out.size)⟩
    case measure =>
     simp only [intOf]
     omega
  ·have e : k = n := by omega
   subst e
   clear hB
   go_wp2_with (fail)
   go_ret
   exact ⟨rfl, HB.out⟩
end
end Go.Proofs.YtkebjgebkneijaaGreatDoor
