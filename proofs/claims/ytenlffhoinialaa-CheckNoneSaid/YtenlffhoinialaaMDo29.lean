/- The document's do. (Printed by gen_do29.py.) -/
import Derived.Test.YtenlffhoinialaaMDo28
import Derived.Test.YtenlffhoinialaaMDo25
import Derived.Test.YtenlffhoinialaaMDo24
import Derived.Test.YtenlffhoinialaaMDo20
import Derived.Test.YtenlffhoinialaaMDo8
namespace Go.Proofs.Ytenlffhoinialaa
open Go.RowKit
set_option maxHeartbeats 16000000
attribute [local go_sem ↓] Go.wp_at_zero Go.wp_at_succ
/-- What do answers: a state that is whole, a result. -/
def DoR (w w' : World) (e : Ending) : Prop := ∃ (iv ov mv : Value) (ev : Nat → Value) (S' : St) (code fd num : Int) (dr : Bool) (dat : ByteArray) (nA : Option Addr) (nl nc : Nat) (bv : Bool),
  e = .returned (.tuple #[.agg #[iv, ov, mv], .agg #[.int .i64 code, .int .i64 fd, .int .i64 num, .bool dr, .string dat, .slice nA nl nc], .bool bv]) ∧ Inv S' ∧ StV w' w.heap.size iv ov mv ev S' ∧ Below w.heap.size w w'
/-- do's boxes. -/
structure FrD (w : World) (sb cb zb rb : Nat) (iv ov mv : Value) (ev : Nat → Value) (S : St) (c : CallD) : Prop where
  stm : StM w iv ov mv ev S
  sB : Blk w sb 26 #[iv, ov, mv]
  cB : Blk w cb 51 #[.int .i64 c.kind, .int .i64 c.core, .int .i64 c.fd, .int .i64 c.off, .int .i64 c.num, .string c.path, .string c.path2, .string c.data]
  zB : Blk w zb 26 #[.slice none 0 0, .slice none 0 0, .slice none 0 0]
  rB : Blk w rb 47 #[.int .i64 0, .int .i64 0, .int .i64 0, .bool false, .string ⟨#[]⟩, .slice none 0 0]
  ne : sb ≠ zb
theorem FrD.below {w w' : World} {sb cb zb rb : Nat} {iv ov mv : Value} {ev : Nat → Value} {S : St} {c : CallD} (h : FrD w sb cb zb rb iv ov mv ev S c) (hb : Below w.heap.size w w') : FrD w' sb cb zb rb iv ov mv ev S c := ⟨h.stm.keep hb, h.sB.below hb, h.cB.below hb, h.zB.below hb, h.rB.below hb, h.ne⟩
def set3 (w : World) (zb : Nat) (a b c : Value) : World := ((w.setCell ⟨zb, 0, none⟩ a).setCell ⟨zb, 1, none⟩ b).setCell ⟨zb, 2, none⟩ c
theorem below3 {b zb : Nat} {w w' : World} (h : Below b w w') (hr : b ≤ zb) (x0 x1 x2 : Value) : Below b w (set3 w' zb x0 x1 x2) :=
  ((h.setCell (p := ⟨zb, 0, none⟩) hr x0).setCell (p := ⟨zb, 1, none⟩) hr x1).setCell (p := ⟨zb, 2, none⟩) hr x2
theorem setCell_sz (w : World) (p : Addr) (v : Value) : (w.setCell p v).heap.size = w.heap.size := World.size_setCell _ _ _
theorem set3_sz (w : World) (b : Nat) (x y z : Value) : (set3 w b x y z).heap.size = w.heap.size := by unfold set3; rw [setCell_sz, setCell_sz, setCell_sz]
theorem setR_sz (w : World) (b : Nat) (x y z u v t : Value) : (setR w b x y z u v t).heap.size = w.heap.size := by unfold setR; rw [setCell_sz, setCell_sz, setCell_sz, setCell_sz, setCell_sz, setCell_sz]
theorem alloc_sz (w : World) (o : Obj) : (w.alloc o).heap.size = w.heap.size + 1 := by simp
theorem blk_drew {w : World} {g : Nat} {t : TypeId} {cs : Array Value} (h : Blk w g t cs) : Blk w.drew g t cs := h
theorem blk_set3 {w : World} {zb : Nat} {u : TypeId} {a b c : Value} (h : Blk w zb u #[a, b, c]) (x0 x1 x2 : Value) : Blk (set3 w zb x0 x1 x2) zb u #[x0, x1, x2] := ((h.set_ 0 x0).set_ 1 x1).set_ 2 x2
theorem blk_far3 {w : World} {zb g : Nat} {u : TypeId} {cs : Array Value} (h : Blk w g u cs) (hne : g ≠ zb) (x0 x1 x2 : Value) : Blk (set3 w zb x0 x1 x2) g u cs := ((h.far (p := ⟨zb, 0, none⟩) hne x0).far (p := ⟨zb, 1, none⟩) hne x1).far (p := ⟨zb, 2, none⟩) hne x2
theorem blk_far6 {w : World} {rb g : Nat} {u : TypeId} {cs : Array Value} (h : Blk w g u cs) (hne : g ≠ rb) (x0 x1 x2 x3 x4 x5 : Value) : Blk (setR w rb x0 x1 x2 x3 x4 x5) g u cs :=
  (((((h.far (p := ⟨rb, 0, none⟩) hne x0).far (p := ⟨rb, 1, none⟩) hne x1).far (p := ⟨rb, 2, none⟩) hne x2).far (p := ⟨rb, 3, none⟩) hne x3).far (p := ⟨rb, 4, none⟩) hne x4).far (p := ⟨rb, 5, none⟩) hne x5
theorem StV.set3 {w : World} {base zb : Nat} {iv ov mv : Value} {ev : Nat → Value} {S : St} (h : StV w base iv ov mv ev S) {a b c : Value} (hz : Blk w zb 26 #[a, b, c]) (x0 x1 x2 : Value) : StV (Go.Proofs.Ytenlffhoinialaa.set3 w zb x0 x1 x2) base iv ov mv ev S := by
  have r1 := hz.set_ 0 x0
  have r2 := r1.set_ 1 x1
  exact ((h.far hz (by decide) (by decide) (by decide) (by decide) 0 x0).far r1 (by decide) (by decide) (by decide) (by decide) 1 x1).far r2 (by decide) (by decide) (by decide) (by decide) 2 x2
theorem StV.set6 {w : World} {base rb : Nat} {iv ov mv : Value} {ev : Nat → Value} {S : St} (h : StV w base iv ov mv ev S) {cs : Array Value} (hr : Blk w rb 47 cs) (x0 x1 x2 x3 x4 x5 : Value) : StV (setR w rb x0 x1 x2 x3 x4 x5) base iv ov mv ev S := by
  have r1 := hr.set_ 0 x0
  have r2 := r1.set_ 1 x1
  have r3 := r2.set_ 2 x2
  have r4 := r3.set_ 3 x3
  have r5 := r4.set_ 4 x4
  exact (((((h.far hr (by decide) (by decide) (by decide) (by decide) 0 x0).far r1 (by decide) (by decide) (by decide) (by decide) 1 x1).far r2 (by decide) (by decide) (by decide) (by decide) 2 x2).far r3 (by decide) (by decide) (by decide) (by decide) 3 x3).far r4 (by decide) (by decide) (by decide) (by decide) 4 x4).far r5 (by decide) (by decide) (by decide) (by decide) 5 x5
/-- Behind the switch: what it answers lies in its box. -/
def MidD (base ob xb : Nat) (w1 wx : World) (s : Value) : Prop := ∃ (code fd num : Int) (dr : Bool) (dat : ByteArray) (nA : Option Addr) (nl nc : Nat) (bv : Bool),
  s = .bool bv ∧ Blk wx xb 47 #[.int .i64 code, .int .i64 fd, .int .i64 num, .bool dr, .string dat, .slice nA nl nc] ∧ (code = 0 → ∃ iv ov mv ev S', Inv S' ∧ StT wx base ob iv ov mv ev S') ∧ Below base w1 wx
theorem mid_of {base ob xb : Nat} {w1 w4 w5 : World} (hB : Below base w1 w4) (hX : Blk w4 xb 47 #[.int .i64 0, .int .i64 0, .int .i64 0, .bool false, .string ⟨#[]⟩, .slice none 0 0]) (hxb : base ≤ xb) (hk : Bk base w4 w5) {code fd num : Int} {dr : Bool} {dat : ByteArray} {nA : Option Addr} {nl nc : Nat}
    (h : code = 0 → ∃ iv ov mv ev S', Inv S' ∧ StT w5 base ob iv ov mv ev S') (bv : Bool) : MidD base ob xb w1 (setR w5 xb (.int .i64 code) (.int .i64 fd) (.int .i64 num) (.bool dr) (.string dat) (.slice nA nl nc)) (.bool bv) := by
  have hX5 := hk.kp.block hX (by decide) (by decide) (by decide)
  refine ⟨code, fd, num, dr, dat, nA, nl, nc, bv, rfl, blk_set6 hX5 _ _ _ _ _ _, fun h0 => ?_, below6 (hB.trans hk.bel) hxb _ _ _ _ _ _⟩
  obtain ⟨iv, ov, mv, ev, S', hI, hT⟩ := h h0
  exact ⟨iv, ov, mv, ev, S', hI, hT.set6 hX5 _ _ _ _ _ _⟩
theorem mid_two {base ob xb : Nat} {w1 w4 w5 : World} (hB : Below base w1 w4) (hX : Blk w4 xb 47 #[.int .i64 0, .int .i64 0, .int .i64 0, .bool false, .string ⟨#[]⟩, .slice none 0 0]) (hxb : base ≤ xb) (hk : Bk base w4 w5) (hb : base ≤ w5.heap.size) {code fd num : Int} {dr : Bool} {dat : ByteArray} {nA : Option Addr} {nl nc : Nat}
    (h : code = 0 → ∃ iv ov mv ev S', Inv S' ∧ StT w5 base ob iv ov mv ev S') (bv : Bool) (cs : Array Value) :
    MidD base ob xb w1 (setR (w5.alloc (.cells cs 47)) xb (.int .i64 code) (.int .i64 fd) (.int .i64 num) (.bool dr) (.string dat) (.slice nA nl nc)) (.bool bv) := by
  refine mid_of hB hX hxb (hk.trans ((below_alloc w5 _).bk hb)) (fun h0 => ?_) bv
  obtain ⟨iv, ov, mv, ev, S', hI, hT⟩ := h h0
  exact ⟨iv, ov, mv, ev, S', hI, hT.below (below_alloc w5 _)⟩
theorem gen_world {P : Program} {code : Code} {Q : Exit → Act → World → Prop} {a : Act} {W : World} (R : World → Prop) (h : R W) (k : ∀ w, R w → code.wp P Q a w) : code.wp P Q a W := k W h
theorem FrD.lay {w : World} {A OA MA : Option Addr} {n cap no ocap nm_ mcap : Nat} {ev : Nat → Value} {S : St} (h : StM w (.slice A n cap) (.slice OA no ocap) (.slice MA nm_ mcap) ev S) (c : CallD) :
    FrD ((((w.alloc (.cells #[.slice A n cap, .slice OA no ocap, .slice MA nm_ mcap] 26)).alloc (.cells #[.int .i64 c.kind, .int .i64 c.core, .int .i64 c.fd, .int .i64 c.off, .int .i64 c.num, .string c.path, .string c.path2, .string c.data] 51)).alloc (.cells #[.slice none 0 0, .slice none 0 0, .slice none 0 0] 26)).alloc (.cells #[.int .i64 0, .int .i64 0, .int .i64 0, .bool false, .string ⟨#[]⟩, .slice none 0 0] 47)) w.heap.size (w.heap.size + 1) (w.heap.size + 1 + 1) (w.heap.size + 1 + 1 + 1) (.slice A n cap) (.slice OA no ocap) (.slice MA nm_ mcap) ev S c ∧ Below w.heap.size w ((((w.alloc (.cells #[.slice A n cap, .slice OA no ocap, .slice MA nm_ mcap] 26)).alloc (.cells #[.int .i64 c.kind, .int .i64 c.core, .int .i64 c.fd, .int .i64 c.off, .int .i64 c.num, .string c.path, .string c.path2, .string c.data] 51)).alloc (.cells #[.slice none 0 0, .slice none 0 0, .slice none 0 0] 26)).alloc (.cells #[.int .i64 0, .int .i64 0, .int .i64 0, .bool false, .string ⟨#[]⟩, .slice none 0 0] 47)) := by
  have hB : Below w.heap.size w ((((w.alloc (.cells #[.slice A n cap, .slice OA no ocap, .slice MA nm_ mcap] 26)).alloc (.cells #[.int .i64 c.kind, .int .i64 c.core, .int .i64 c.fd, .int .i64 c.off, .int .i64 c.num, .string c.path, .string c.path2, .string c.data] 51)).alloc (.cells #[.slice none 0 0, .slice none 0 0, .slice none 0 0] 26)).alloc (.cells #[.int .i64 0, .int .i64 0, .int .i64 0, .bool false, .string ⟨#[]⟩, .slice none 0 0] 47)) := ((((Below.refl _ _).alloc (Nat.le_refl _) _).alloc (by simp) _).alloc (by simp; omega) _).alloc (by simp; omega) _
  exact ⟨⟨h.keep hB, (((Blk.new w _ _).alloc _).alloc _).alloc _, ((Blk.newAt _ _ _ (by simp)).alloc _).alloc _, (Blk.newAt _ _ _ (by simp)).alloc _, Blk.newAt _ _ _ (by simp), by omega⟩, hB⟩
set_option maxRecDepth 1000000 in
theorem do_calls {w : World} {iv ov mv : Value} {ev : Nat → Value} {S : St} (hS : StM w iv ov mv ev S) (hI : Inv S) (c : CallD) :
    Calls Try.prog 65 #[.agg #[iv, ov, mv], .agg #[.int .i64 c.kind, .int .i64 c.core, .int .i64 c.fd, .int .i64 c.off, .int .i64 c.num, .string c.path, .string c.path2, .string c.data], .int .i64 (-1)] w fun e w' => DoR w w' e := by
  obtain ⟨A, cap, rfl⟩ := hS.ino.form
  obtain ⟨OA, ocap, rfl⟩ := hS.opn.form
  obtain ⟨MA, mcap, rfl⟩ := hS.mad.form
  have HI := Lib.hid hI
  have HL := FrD.lay hS c
  have HF0 := Lib.hid HL.1
  have HB0 := Lib.hid HL.2
  obtain ⟨n, hnn⟩ : ∃ n, S.inodes.length = n := ⟨_, rfl⟩
  obtain ⟨no, hno⟩ : ∃ n, S.opens.length = n := ⟨_, rfl⟩
  obtain ⟨nm_, hnm⟩ : ∃ n, S.made.length = n := ⟨_, rfl⟩
  have HNN := Lib.hid hnn
  have HNO := Lib.hid hno
  have HNM := Lib.hid hnm
  rw [hnn, hno, hnm] at HF0 HB0
  rw [hnn, hno, hnm]
  have hnm8 : nm_ ≤ 8 := by rw [← hnm]; exact hI.m8
  clear hS hI hnn hno hnm HL
  obtain ⟨b0, hb0⟩ : ∃ x, x = w.heap.size := ⟨_, rfl⟩
  have HBA := Lib.hid hb0
  go_enter Try.func65, Try.ntmps65
  go_upto_region 1 with (fail)
  obtain ⟨sb, hsb⟩ : ∃ x, x = w.heap.size := ⟨_, rfl⟩
  have hs0 : w.heap.size ≤ sb := by omega
  rw [← hsb] at HF0
  rw [← hsb]
  obtain ⟨cb, hcb⟩ : ∃ x, x = sb + 1 := ⟨_, rfl⟩
  rw [← hcb] at HF0
  rw [← hcb]
  obtain ⟨zb, hzb⟩ : ∃ x, x = cb + 1 := ⟨_, rfl⟩
  rw [← hzb] at HF0
  rw [← hzb]
  obtain ⟨rb, hrb⟩ : ∃ x, x = zb + 1 := ⟨_, rfl⟩
  rw [← hrb] at HF0
  rw [← hrb]
  have hzr : zb ≠ rb := by omega
  have hrz : rb ≠ zb := by omega
  have hz0 : w.heap.size ≤ zb := by omega
  have hr0 : w.heap.size ≤ rb := by omega
  clear hcb hzb hrb hsb
  generalize (((w.alloc (.cells #[.slice A n cap, .slice OA no ocap, .slice MA nm_ mcap] 26)).alloc (.cells #[.int .i64 c.kind, .int .i64 c.core, .int .i64 c.fd, .int .i64 c.off, .int .i64 c.num, .string c.path, .string c.path2, .string c.data] 51)).alloc (.cells #[.slice none 0 0, .slice none 0 0, .slice none 0 0] 26)).alloc (.cells #[.int .i64 0, .int .i64 0, .int .i64 0, .bool false, .string ⟨#[]⟩, .slice none 0 0] 47) = w0 at *
  have hw0 : w.heap.size ≤ w0.heap.size := HB0.out.size
  have p0 : w0.cell? ⟨sb, 0, none⟩ = some (.slice A n cap) := HF0.out.sB.cell 0
  have p1 : w0.cell? ⟨sb, 1, none⟩ = some (.slice OA no ocap) := HF0.out.sB.cell 1
  have p2 : w0.cell? ⟨sb, 2, none⟩ = some (.slice MA nm_ mcap) := HF0.out.sB.cell 2
  have k0 : w0.cell? ⟨cb, 0, none⟩ = some (.int .i64 c.kind) := HF0.out.cB.cell 0
  have k1 : w0.cell? ⟨cb, 1, none⟩ = some (.int .i64 c.core) := HF0.out.cB.cell 1
  go_cut [39] (fun s wx => ∃ bd, s = .bool bd ∧ Below w0.heap.size w0 wx ∧ (bd = false → (0 ≤ c.core ∧ c.core < nm_) ∧ 0 ≤ c.kind ∧ c.kind ≤ 16))
  case first =>
    by_cases h1 : c.core < 0
    · go_wp2_with (go_at_call 19; refine (May_calls (HF0.out.stm) HI.out).mono ?_; rintro e wm ⟨⟨bm, rfl⟩, hBm⟩; have HBm := Lib.hid hBm; have HFm := Lib.hid (HF0.out.below hBm); have m2 : wm.cell? ⟨sb, 2, none⟩ = some (.slice MA nm_ mcap) := HFm.out.sB.cell 2; have k0 : wm.cell? ⟨cb, 0, none⟩ = some (.int .i64 c.kind) := HFm.out.cB.cell 0; have k1 : wm.cell? ⟨cb, 1, none⟩ = some (.int .i64 c.core) := HFm.out.cB.cell 1; clear hBm; rcases bool_tf bm with rfl | rfl)
      all_goals (go_meet; case rel => exact ⟨_, rfl, HBm.out, by simp⟩)
    · by_cases h2 : (nm_ : Int) ≤ c.core
      · go_wp2_with (go_at_call 19; refine (May_calls (HF0.out.stm) HI.out).mono ?_; rintro e wm ⟨⟨bm, rfl⟩, hBm⟩; have HBm := Lib.hid hBm; have HFm := Lib.hid (HF0.out.below hBm); have m2 : wm.cell? ⟨sb, 2, none⟩ = some (.slice MA nm_ mcap) := HFm.out.sB.cell 2; have k0 : wm.cell? ⟨cb, 0, none⟩ = some (.int .i64 c.kind) := HFm.out.cB.cell 0; have k1 : wm.cell? ⟨cb, 1, none⟩ = some (.int .i64 c.core) := HFm.out.cB.cell 1; clear hBm; rcases bool_tf bm with rfl | rfl)
        all_goals (go_meet; case rel => exact ⟨_, rfl, HBm.out, by simp⟩)
      · by_cases h3 : c.kind < 0
        · go_wp2_with (go_at_call 19; refine (May_calls (HF0.out.stm) HI.out).mono ?_; rintro e wm ⟨⟨bm, rfl⟩, hBm⟩; have HBm := Lib.hid hBm; have HFm := Lib.hid (HF0.out.below hBm); have m2 : wm.cell? ⟨sb, 2, none⟩ = some (.slice MA nm_ mcap) := HFm.out.sB.cell 2; have k0 : wm.cell? ⟨cb, 0, none⟩ = some (.int .i64 c.kind) := HFm.out.cB.cell 0; have k1 : wm.cell? ⟨cb, 1, none⟩ = some (.int .i64 c.core) := HFm.out.cB.cell 1; clear hBm; rcases bool_tf bm with rfl | rfl)
          all_goals (go_meet; case rel => exact ⟨_, rfl, HBm.out, by simp⟩)
        · by_cases h4 : 16 < c.kind
          · go_wp2_with (go_at_call 19; refine (May_calls (HF0.out.stm) HI.out).mono ?_; rintro e wm ⟨⟨bm, rfl⟩, hBm⟩; have HBm := Lib.hid hBm; have HFm := Lib.hid (HF0.out.below hBm); have m2 : wm.cell? ⟨sb, 2, none⟩ = some (.slice MA nm_ mcap) := HFm.out.sB.cell 2; have k0 : wm.cell? ⟨cb, 0, none⟩ = some (.int .i64 c.kind) := HFm.out.cB.cell 0; have k1 : wm.cell? ⟨cb, 1, none⟩ = some (.int .i64 c.core) := HFm.out.cB.cell 1; clear hBm; rcases bool_tf bm with rfl | rfl)
            all_goals (go_meet; case rel => exact ⟨_, rfl, HBm.out, by simp⟩)
          · go_wp2_with (go_at_call 19; refine (May_calls (HF0.out.stm) HI.out).mono ?_; rintro e wm ⟨⟨bm, rfl⟩, hBm⟩; have HBm := Lib.hid hBm; have HFm := Lib.hid (HF0.out.below hBm); have m2 : wm.cell? ⟨sb, 2, none⟩ = some (.slice MA nm_ mcap) := HFm.out.sB.cell 2; have k0 : wm.cell? ⟨cb, 0, none⟩ = some (.int .i64 c.kind) := HFm.out.cB.cell 0; have k1 : wm.cell? ⟨cb, 1, none⟩ = some (.int .i64 c.core) := HFm.out.cB.cell 1; clear hBm; rcases bool_tf bm with rfl | rfl)
            all_goals (go_meet; case rel => exact ⟨_, rfl, HBm.out, fun _ => ⟨by omega, by omega⟩⟩)
  case rest =>
    obtain ⟨bd, rfl, hbc, hbd⟩ := hcut
    have HF1 := Lib.hid (HF0.out.below hbc)
    have HB1 := Lib.hid (HB0.out.trans (hbc.mono hw0))
    obtain ⟨w1, hw1⟩ : ∃ x : World, x = wc := ⟨_, rfl⟩
    subst hw1
    have hw1 : w.heap.size ≤ w1.heap.size := HB1.out.size
    have HBD := Lib.hid hbd
    clear hbd hbc p0 p1 p2 k0 k1 HF0 HB0 hw0
    have HCP := Lib.hid (Copy_calls HF1.out.stm HI.out.small)
    have p0 : w1.cell? ⟨sb, 0, none⟩ = some (.slice A n cap) := HF1.out.sB.cell 0
    have p1 : w1.cell? ⟨sb, 1, none⟩ = some (.slice OA no ocap) := HF1.out.sB.cell 1
    have p2 : w1.cell? ⟨sb, 2, none⟩ = some (.slice MA nm_ mcap) := HF1.out.sB.cell 2
    have k0 : w1.cell? ⟨cb, 0, none⟩ = some (.int .i64 c.kind) := HF1.out.cB.cell 0
    have k1 : w1.cell? ⟨cb, 1, none⟩ = some (.int .i64 c.core) := HF1.out.cB.cell 1
    rcases bool_tf bd with rfl | rfl
    · go_wp2_with (first | (go_at_call 64; refine HCP.out.mono ?_; rintro e w2 ⟨iv1, ov1, mv1, ev1, rfl, hV, hB⟩; obtain ⟨A1, cap1, rfl⟩ := hV.ino.at'.form; obtain ⟨OA1, ocap1, rfl⟩ := hV.opn.at'.form; obtain ⟨MA1, mcap1, rfl⟩ := hV.mad.at'.form; have HV2 := Lib.hid hV; have HF2 := Lib.hid (HF1.out.below hB); have HB2 := Lib.hid (HB1.out.trans (hB.mono hw1)); have HBc := Lib.hid hB; clear hV hB; have hw2 : w.heap.size ≤ w2.heap.size := HB2.out.size) | (go_at_call 94; refine (fail2 _ _).mono ?_; rintro e w3 ⟨rfl, hB3⟩; have HV3 := Lib.hid (HV2.out.below hB3); have HF3 := Lib.hid (HF2.out.below hB3); have HB3 := Lib.hid (HB2.out.trans (hB3.mono hw2)); have z0 : w3.cell? ⟨zb, 0, none⟩ = some (.slice none 0 0) := HF3.out.zB.cell 0; have z1 : w3.cell? ⟨zb, 1, none⟩ = some (.slice none 0 0) := HF3.out.zB.cell 1; have z2 : w3.cell? ⟨zb, 2, none⟩ = some (.slice none 0 0) := HF3.out.zB.cell 2; have lz0 := HF3.out.zB.frozen 0; have lz1 := HF3.out.zB.frozen 1; have lz2 := HF3.out.zB.frozen 2; have r0 : w3.cell? ⟨rb, 0, none⟩ = some (.int .i64 0) := HF3.out.rB.cell 0; have r1 : w3.cell? ⟨rb, 1, none⟩ = some (.int .i64 0) := HF3.out.rB.cell 1; have r2 : w3.cell? ⟨rb, 2, none⟩ = some (.int .i64 0) := HF3.out.rB.cell 2; have r3 : w3.cell? ⟨rb, 3, none⟩ = some (.bool false) := HF3.out.rB.cell 3; have r4 : w3.cell? ⟨rb, 4, none⟩ = some (.string ⟨#[]⟩) := HF3.out.rB.cell 4; have r5 : w3.cell? ⟨rb, 5, none⟩ = some (.slice none 0 0) := HF3.out.rB.cell 5; have l0 := HF3.out.rB.frozen 0; have l1 := HF3.out.rB.frozen 1; have l2 := HF3.out.rB.frozen 2; have l3 := HF3.out.rB.frozen 3; have l4 := HF3.out.rB.frozen 4; have l5 := HF3.out.rB.frozen 5; clear hB3))
      refine bodyPost_ret (v := .tuple #[.agg #[.slice A1 S.inodes.length cap1, .slice OA1 S.opens.length ocap1, .slice MA1 S.made.length mcap1], .agg #[.int .i64 9, .int .i64 0, .int .i64 0, .bool false, .string ⟨#[]⟩, .slice none 0 0], .bool true]) ?_ rfl ⟨_, _, _, ev1, S, _, _, _, _, _, _, _, _, _, rfl, HI.out, ((HV3.out.set3 HF3.out.zB _ _ _).set6 (blk_far3 HF3.out.rB hrz _ _ _) _ _ _ _ _ _).base_le hw1, below6 (below3 HB3.out hz0 _ _ _) hr0 _ _ _ _ _ _⟩
      simp [results, Try.results65, go_sem, z0, z1, z2, r0, r1, r2, r3, r4, r5]
    · obtain ⟨hco, hk0, hk16⟩ := HBD.out rfl
      obtain ⟨base, hba⟩ : ∃ x, x = w1.heap.size := ⟨_, rfl⟩
      have HBS := Lib.hid hba
      clear hba
      have hco2 : 0 ≤ c.core ∧ c.core < S.made.length := by rw [HNM.out]; exact hco
      go_upto_region 5 with (go_at_call 64; refine HCP.out.mono ?_; rintro e w2 ⟨iv1, ov1, mv1, ev1, rfl, hV, hB⟩; obtain ⟨A1, cap1, rfl⟩ := hV.ino.at'.form; obtain ⟨OA1, ocap1, rfl⟩ := hV.opn.at'.form; obtain ⟨MA1, mcap1, rfl⟩ := hV.mad.at'.form; have HV2 := Lib.hid hV; have HF2 := Lib.hid (HF1.out.below hB); have HB2 := Lib.hid (HB1.out.trans (hB.mono hw1)); have HBc := Lib.hid hB; clear hV hB)
      obtain ⟨ob, hob⟩ : ∃ x, x = w2.heap.size := ⟨_, rfl⟩
      rw [← hob]
      obtain ⟨xb, hxb0⟩ : ∃ x, x = ob + 1 := ⟨_, rfl⟩
      rw [← hxb0]
      have hobb : base ≤ ob := by rw [hob, HBS.out]; exact HBc.out.size
      have hxb : base ≤ xb := by omega
      refine gen_world (fun wx => StT wx base ob (.slice A1 S.inodes.length cap1) (.slice OA1 S.opens.length ocap1) (.slice MA1 S.made.length mcap1) ev1 S ∧ Blk wx xb 47 #[.int .i64 0, .int .i64 0, .int .i64 0, .bool false, .string ⟨#[]⟩, .slice none 0 0] ∧ Below base w1 wx) (?_) (fun w4 hw4 => ?_)
      · have o1 := Blk.newAt w2 26 #[.slice A1 S.inodes.length cap1, .slice OA1 S.opens.length ocap1, .slice MA1 S.made.length mcap1] hob
        have sz : xb = (w2.alloc (.cells #[.slice A1 S.inodes.length cap1, .slice OA1 S.opens.length ocap1, .slice MA1 S.made.length mcap1] 26)).heap.size := by rw [alloc_sz]; omega
        have x2 := Blk.newAt _ 47 #[.int .i64 0, .int .i64 0, .int .i64 0, .bool false, .string ⟨#[]⟩, .slice none 0 0] sz
        have v2 := ((HV2.out.below (below_alloc w2 _)).below (below_alloc (w2.alloc (.cells #[.slice A1 S.inodes.length cap1, .slice OA1 S.opens.length ocap1, .slice MA1 S.made.length mcap1] 26)) (.cells #[.int .i64 0, .int .i64 0, .int .i64 0, .bool false, .string ⟨#[]⟩, .slice none 0 0] 47))).base_le (Nat.le_of_eq HBS.out)
        have b1 : Below base w1 w2 := by rw [HBS.out]; exact HBc.out
        have b2 := (b1.alloc (by omega) (.cells #[.slice A1 S.inodes.length cap1, .slice OA1 S.opens.length ocap1, .slice MA1 S.made.length mcap1] 26)).alloc (by rw [← sz]; exact hxb) (.cells #[.int .i64 0, .int .i64 0, .int .i64 0, .bool false, .string ⟨#[]⟩, .slice none 0 0] 47)
        exact ⟨⟨o1.alloc _, hobb, v2⟩, x2, b2⟩
      have HT4 := Lib.hid hw4.1
      have HX4 := Lib.hid hw4.2.1
      have HB4 := Lib.hid hw4.2.2
      have hbw4 : base ≤ w4.heap.size := by rw [HBS.out]; have := HB4.out.size; exact this
      have hxb1 : xb ≠ ob := by omega
      clear hw4 hob hxb0 p0 p1 p2 k0 k1 HF2 HB2 HBc HV2 HBD
      have HF4 := Lib.hid (HF1.out.below (by rw [← HBS.out]; exact HB4.out))
      have j0 : w4.cell? ⟨ob, 0, none⟩ = some (.slice A1 S.inodes.length cap1) := HT4.out.c0
      have j1 : w4.cell? ⟨ob, 1, none⟩ = some (.slice OA1 S.opens.length ocap1) := HT4.out.c1
      have j2 : w4.cell? ⟨ob, 2, none⟩ = some (.slice MA1 S.made.length mcap1) := HT4.out.c2
      have r0 : w4.cell? ⟨xb, 0, none⟩ = some (.int .i64 0) := HX4.out.cell 0
      have r1 : w4.cell? ⟨xb, 1, none⟩ = some (.int .i64 0) := HX4.out.cell 1
      have r2 : w4.cell? ⟨xb, 2, none⟩ = some (.int .i64 0) := HX4.out.cell 2
      have r3 : w4.cell? ⟨xb, 3, none⟩ = some (.bool false) := HX4.out.cell 3
      have r4 : w4.cell? ⟨xb, 4, none⟩ = some (.string ⟨#[]⟩) := HX4.out.cell 4
      have r5 : w4.cell? ⟨xb, 5, none⟩ = some (.slice none 0 0) := HX4.out.cell 5
      have l0 := HX4.out.frozen 0
      have l1 := HX4.out.frozen 1
      have l2 := HX4.out.frozen 2
      have l3 := HX4.out.frozen 3
      have l4 := HX4.out.frozen 4
      have l5 := HX4.out.frozen 5
      have k0 : w4.cell? ⟨cb, 0, none⟩ = some (.int .i64 c.kind) := HF4.out.cB.cell 0
      have k1 : w4.cell? ⟨cb, 1, none⟩ = some (.int .i64 c.core) := HF4.out.cB.cell 1
      have k2 : w4.cell? ⟨cb, 2, none⟩ = some (.int .i64 c.fd) := HF4.out.cB.cell 2
      have k3 : w4.cell? ⟨cb, 3, none⟩ = some (.int .i64 c.off) := HF4.out.cB.cell 3
      have k4 : w4.cell? ⟨cb, 4, none⟩ = some (.int .i64 c.num) := HF4.out.cB.cell 4
      have k5 : w4.cell? ⟨cb, 5, none⟩ = some (.string c.path) := HF4.out.cB.cell 5
      have k6 : w4.cell? ⟨cb, 6, none⟩ = some (.string c.path2) := HF4.out.cB.cell 6
      have k7 : w4.cell? ⟨cb, 7, none⟩ = some (.string c.data) := HF4.out.cB.cell 7
      have HCO := Lib.hid hco2
      clear hco hco2
      go_upto_block 0 with (fail)
      go_cut [11] (fun s wx => MidD base ob xb w1 wx s)
      case first =>
        have hkk : c.kind = 0 ∨ c.kind = 1 ∨ c.kind = 2 ∨ c.kind = 3 ∨ c.kind = 4 ∨ c.kind = 5 ∨ c.kind = 6 ∨ c.kind = 7 ∨ c.kind = 8 ∨ c.kind = 9 ∨ c.kind = 10 ∨ c.kind = 11 ∨ c.kind = 12 ∨ c.kind = 13 ∨ c.kind = 14 ∨ c.kind = 15 ∨ c.kind = 16 := by omega
        clear hk0 hk16
        rcases hkk with hk | hk | hk | hk | hk | hk | hk | hk | hk | hk | hk | hk | hk | hk | hk | hk | hk
        · have HKK := Lib.hid hk
          clear hk
          have e0 : (c.kind == 0) = true := by rw [HKK.out]; rfl
          have e1 : (c.kind == 1) = false := by rw [HKK.out]; rfl
          have e2 : (c.kind == 2) = false := by rw [HKK.out]; rfl
          have e3 : (c.kind == 3) = false := by rw [HKK.out]; rfl
          have e4 : (c.kind == 4) = false := by rw [HKK.out]; rfl
          have e5 : (c.kind == 5) = false := by rw [HKK.out]; rfl
          have e6 : (c.kind == 6) = false := by rw [HKK.out]; rfl
          have e7 : (c.kind == 7) = false := by rw [HKK.out]; rfl
          have e8 : (c.kind == 8) = false := by rw [HKK.out]; rfl
          have e9 : (c.kind == 9) = false := by rw [HKK.out]; rfl
          have e10 : (c.kind == 10) = false := by rw [HKK.out]; rfl
          have e11 : (c.kind == 11) = false := by rw [HKK.out]; rfl
          have e12 : (c.kind == 12) = false := by rw [HKK.out]; rfl
          have e13 : (c.kind == 13) = false := by rw [HKK.out]; rfl
          have e14 : (c.kind == 14) = false := by rw [HKK.out]; rfl
          have e15 : (c.kind == 15) = false := by rw [HKK.out]; rfl
          go_wp2_with (go_at_call 95; refine (make1_calls HT4.out hbw4 HI.out c HCO.out).mono ?_; rintro e w5 ⟨hM, hB5⟩; obtain ⟨code, fd, num, dr, dat, nA, nl, nc, rfl, hst⟩ := hM; have HMID := Lib.hid (mid_of (fd := fd) (num := num) (dr := dr) (dat := dat) (nA := nA) (nl := nl) (nc := nc) HB4.out HX4.out hxb hB5 hst true); have HX5 := Lib.hid (hB5.kp.block HX4.out (by decide) (by decide) (by decide)); have r0 : w5.cell? ⟨xb, 0, none⟩ = some (.int .i64 0) := HX5.out.cell 0; have r1 : w5.cell? ⟨xb, 1, none⟩ = some (.int .i64 0) := HX5.out.cell 1; have r2 : w5.cell? ⟨xb, 2, none⟩ = some (.int .i64 0) := HX5.out.cell 2; have r3 : w5.cell? ⟨xb, 3, none⟩ = some (.bool false) := HX5.out.cell 3; have r4 : w5.cell? ⟨xb, 4, none⟩ = some (.string ⟨#[]⟩) := HX5.out.cell 4; have r5 : w5.cell? ⟨xb, 5, none⟩ = some (.slice none 0 0) := HX5.out.cell 5; have l0 := HX5.out.frozen 0; have l1 := HX5.out.frozen 1; have l2 := HX5.out.frozen 2; have l3 := HX5.out.frozen 3; have l4 := HX5.out.frozen 4; have l5 := HX5.out.frozen 5; clear hst hB5)
          go_meet
          case rel => exact HMID.out
        · have HKK := Lib.hid hk
          clear hk
          have e0 : (c.kind == 0) = false := by rw [HKK.out]; rfl
          have e1 : (c.kind == 1) = true := by rw [HKK.out]; rfl
          have e2 : (c.kind == 2) = false := by rw [HKK.out]; rfl
          have e3 : (c.kind == 3) = false := by rw [HKK.out]; rfl
          have e4 : (c.kind == 4) = false := by rw [HKK.out]; rfl
          have e5 : (c.kind == 5) = false := by rw [HKK.out]; rfl
          have e6 : (c.kind == 6) = false := by rw [HKK.out]; rfl
          have e7 : (c.kind == 7) = false := by rw [HKK.out]; rfl
          have e8 : (c.kind == 8) = false := by rw [HKK.out]; rfl
          have e9 : (c.kind == 9) = false := by rw [HKK.out]; rfl
          have e10 : (c.kind == 10) = false := by rw [HKK.out]; rfl
          have e11 : (c.kind == 11) = false := by rw [HKK.out]; rfl
          have e12 : (c.kind == 12) = false := by rw [HKK.out]; rfl
          have e13 : (c.kind == 13) = false := by rw [HKK.out]; rfl
          have e14 : (c.kind == 14) = false := by rw [HKK.out]; rfl
          have e15 : (c.kind == 15) = false := by rw [HKK.out]; rfl
          go_wp2_with (go_at_call 95; refine (make1_calls HT4.out hbw4 HI.out c HCO.out).mono ?_; rintro e w5 ⟨hM, hB5⟩; obtain ⟨code, fd, num, dr, dat, nA, nl, nc, rfl, hst⟩ := hM; have HMID := Lib.hid (mid_of (fd := fd) (num := num) (dr := dr) (dat := dat) (nA := nA) (nl := nl) (nc := nc) HB4.out HX4.out hxb hB5 hst true); have HX5 := Lib.hid (hB5.kp.block HX4.out (by decide) (by decide) (by decide)); have r0 : w5.cell? ⟨xb, 0, none⟩ = some (.int .i64 0) := HX5.out.cell 0; have r1 : w5.cell? ⟨xb, 1, none⟩ = some (.int .i64 0) := HX5.out.cell 1; have r2 : w5.cell? ⟨xb, 2, none⟩ = some (.int .i64 0) := HX5.out.cell 2; have r3 : w5.cell? ⟨xb, 3, none⟩ = some (.bool false) := HX5.out.cell 3; have r4 : w5.cell? ⟨xb, 4, none⟩ = some (.string ⟨#[]⟩) := HX5.out.cell 4; have r5 : w5.cell? ⟨xb, 5, none⟩ = some (.slice none 0 0) := HX5.out.cell 5; have l0 := HX5.out.frozen 0; have l1 := HX5.out.frozen 1; have l2 := HX5.out.frozen 2; have l3 := HX5.out.frozen 3; have l4 := HX5.out.frozen 4; have l5 := HX5.out.frozen 5; clear hst hB5)
          go_meet
          case rel => exact HMID.out
        · have HKK := Lib.hid hk
          clear hk
          have e0 : (c.kind == 0) = false := by rw [HKK.out]; rfl
          have e1 : (c.kind == 1) = false := by rw [HKK.out]; rfl
          have e2 : (c.kind == 2) = true := by rw [HKK.out]; rfl
          have e3 : (c.kind == 3) = false := by rw [HKK.out]; rfl
          have e4 : (c.kind == 4) = false := by rw [HKK.out]; rfl
          have e5 : (c.kind == 5) = false := by rw [HKK.out]; rfl
          have e6 : (c.kind == 6) = false := by rw [HKK.out]; rfl
          have e7 : (c.kind == 7) = false := by rw [HKK.out]; rfl
          have e8 : (c.kind == 8) = false := by rw [HKK.out]; rfl
          have e9 : (c.kind == 9) = false := by rw [HKK.out]; rfl
          have e10 : (c.kind == 10) = false := by rw [HKK.out]; rfl
          have e11 : (c.kind == 11) = false := by rw [HKK.out]; rfl
          have e12 : (c.kind == 12) = false := by rw [HKK.out]; rfl
          have e13 : (c.kind == 13) = false := by rw [HKK.out]; rfl
          have e14 : (c.kind == 14) = false := by rw [HKK.out]; rfl
          have e15 : (c.kind == 15) = false := by rw [HKK.out]; rfl
          go_wp2_with (go_at_call 96; refine (opened_calls HT4.out hbw4 HI.out c HCO.out).mono ?_; rintro e w5 ⟨hM, hB5⟩; obtain ⟨code, fd, num, dr, dat, nA, nl, nc, bv, rfl, hst⟩ := hM; have hbw5 : base ≤ w5.heap.size := Nat.le_trans hbw4 hB5.bel.size; have HMID := Lib.hid (mid_two (fd := fd) (num := num) (dr := dr) (dat := dat) (nA := nA) (nl := nl) (nc := nc) HB4.out HX4.out hxb hB5 hbw5 hst bv #[.int .i64 code, .int .i64 fd, .int .i64 num, .bool dr, .string dat, .slice nA nl nc]); have HX5 := Lib.hid (hB5.kp.block HX4.out (by decide) (by decide) (by decide)); have r0 : w5.cell? ⟨xb, 0, none⟩ = some (.int .i64 0) := HX5.out.cell 0; have r1 : w5.cell? ⟨xb, 1, none⟩ = some (.int .i64 0) := HX5.out.cell 1; have r2 : w5.cell? ⟨xb, 2, none⟩ = some (.int .i64 0) := HX5.out.cell 2; have r3 : w5.cell? ⟨xb, 3, none⟩ = some (.bool false) := HX5.out.cell 3; have r4 : w5.cell? ⟨xb, 4, none⟩ = some (.string ⟨#[]⟩) := HX5.out.cell 4; have r5 : w5.cell? ⟨xb, 5, none⟩ = some (.slice none 0 0) := HX5.out.cell 5; have l0 := HX5.out.frozen 0; have l1 := HX5.out.frozen 1; have l2 := HX5.out.frozen 2; have l3 := HX5.out.frozen 3; have l4 := HX5.out.frozen 4; have l5 := HX5.out.frozen 5; have hx5 : xb ≠ w5.heap.size := Nat.ne_of_lt HX5.out.lt; have HXA := Lib.hid (HX5.out.alloc (.cells #[.int .i64 code, .int .i64 fd, .int .i64 num, .bool dr, .string dat, .slice nA nl nc] 47)); have ra0 : (w5.alloc (.cells #[.int .i64 code, .int .i64 fd, .int .i64 num, .bool dr, .string dat, .slice nA nl nc] 47)).cell? ⟨xb, 0, none⟩ = some (.int .i64 0) := HXA.out.cell 0; have ra1 : (w5.alloc (.cells #[.int .i64 code, .int .i64 fd, .int .i64 num, .bool dr, .string dat, .slice nA nl nc] 47)).cell? ⟨xb, 1, none⟩ = some (.int .i64 0) := HXA.out.cell 1; have ra2 : (w5.alloc (.cells #[.int .i64 code, .int .i64 fd, .int .i64 num, .bool dr, .string dat, .slice nA nl nc] 47)).cell? ⟨xb, 2, none⟩ = some (.int .i64 0) := HXA.out.cell 2; have ra3 : (w5.alloc (.cells #[.int .i64 code, .int .i64 fd, .int .i64 num, .bool dr, .string dat, .slice nA nl nc] 47)).cell? ⟨xb, 3, none⟩ = some (.bool false) := HXA.out.cell 3; have ra4 : (w5.alloc (.cells #[.int .i64 code, .int .i64 fd, .int .i64 num, .bool dr, .string dat, .slice nA nl nc] 47)).cell? ⟨xb, 4, none⟩ = some (.string ⟨#[]⟩) := HXA.out.cell 4; have ra5 : (w5.alloc (.cells #[.int .i64 code, .int .i64 fd, .int .i64 num, .bool dr, .string dat, .slice nA nl nc] 47)).cell? ⟨xb, 5, none⟩ = some (.slice none 0 0) := HXA.out.cell 5; have la0 := HXA.out.frozen 0; have la1 := HXA.out.frozen 1; have la2 := HXA.out.frozen 2; have la3 := HXA.out.frozen 3; have la4 := HXA.out.frozen 4; have la5 := HXA.out.frozen 5; clear hst hB5)
          go_meet
          case rel => exact HMID.out
        · have HKK := Lib.hid hk
          clear hk
          have e0 : (c.kind == 0) = false := by rw [HKK.out]; rfl
          have e1 : (c.kind == 1) = false := by rw [HKK.out]; rfl
          have e2 : (c.kind == 2) = false := by rw [HKK.out]; rfl
          have e3 : (c.kind == 3) = true := by rw [HKK.out]; rfl
          have e4 : (c.kind == 4) = false := by rw [HKK.out]; rfl
          have e5 : (c.kind == 5) = false := by rw [HKK.out]; rfl
          have e6 : (c.kind == 6) = false := by rw [HKK.out]; rfl
          have e7 : (c.kind == 7) = false := by rw [HKK.out]; rfl
          have e8 : (c.kind == 8) = false := by rw [HKK.out]; rfl
          have e9 : (c.kind == 9) = false := by rw [HKK.out]; rfl
          have e10 : (c.kind == 10) = false := by rw [HKK.out]; rfl
          have e11 : (c.kind == 11) = false := by rw [HKK.out]; rfl
          have e12 : (c.kind == 12) = false := by rw [HKK.out]; rfl
          have e13 : (c.kind == 13) = false := by rw [HKK.out]; rfl
          have e14 : (c.kind == 14) = false := by rw [HKK.out]; rfl
          have e15 : (c.kind == 15) = false := by rw [HKK.out]; rfl
          go_wp2_with (go_at_call 97; refine (byFd_calls HT4.out hbw4 HI.out c).mono ?_; rintro e w5 ⟨hM, hB5⟩; obtain ⟨code, fd, num, dr, dat, nA, nl, nc, rfl, hst⟩ := hM; have HMID := Lib.hid (mid_of (fd := fd) (num := num) (dr := dr) (dat := dat) (nA := nA) (nl := nl) (nc := nc) HB4.out HX4.out hxb hB5 hst true); have HX5 := Lib.hid (hB5.kp.block HX4.out (by decide) (by decide) (by decide)); have r0 : w5.cell? ⟨xb, 0, none⟩ = some (.int .i64 0) := HX5.out.cell 0; have r1 : w5.cell? ⟨xb, 1, none⟩ = some (.int .i64 0) := HX5.out.cell 1; have r2 : w5.cell? ⟨xb, 2, none⟩ = some (.int .i64 0) := HX5.out.cell 2; have r3 : w5.cell? ⟨xb, 3, none⟩ = some (.bool false) := HX5.out.cell 3; have r4 : w5.cell? ⟨xb, 4, none⟩ = some (.string ⟨#[]⟩) := HX5.out.cell 4; have r5 : w5.cell? ⟨xb, 5, none⟩ = some (.slice none 0 0) := HX5.out.cell 5; have l0 := HX5.out.frozen 0; have l1 := HX5.out.frozen 1; have l2 := HX5.out.frozen 2; have l3 := HX5.out.frozen 3; have l4 := HX5.out.frozen 4; have l5 := HX5.out.frozen 5; clear hst hB5)
          go_meet
          case rel => exact HMID.out
        · have HKK := Lib.hid hk
          clear hk
          have e0 : (c.kind == 0) = false := by rw [HKK.out]; rfl
          have e1 : (c.kind == 1) = false := by rw [HKK.out]; rfl
          have e2 : (c.kind == 2) = false := by rw [HKK.out]; rfl
          have e3 : (c.kind == 3) = false := by rw [HKK.out]; rfl
          have e4 : (c.kind == 4) = true := by rw [HKK.out]; rfl
          have e5 : (c.kind == 5) = false := by rw [HKK.out]; rfl
          have e6 : (c.kind == 6) = false := by rw [HKK.out]; rfl
          have e7 : (c.kind == 7) = false := by rw [HKK.out]; rfl
          have e8 : (c.kind == 8) = false := by rw [HKK.out]; rfl
          have e9 : (c.kind == 9) = false := by rw [HKK.out]; rfl
          have e10 : (c.kind == 10) = false := by rw [HKK.out]; rfl
          have e11 : (c.kind == 11) = false := by rw [HKK.out]; rfl
          have e12 : (c.kind == 12) = false := by rw [HKK.out]; rfl
          have e13 : (c.kind == 13) = false := by rw [HKK.out]; rfl
          have e14 : (c.kind == 14) = false := by rw [HKK.out]; rfl
          have e15 : (c.kind == 15) = false := by rw [HKK.out]; rfl
          go_wp2_with (go_at_call 97; refine (byFd_calls HT4.out hbw4 HI.out c).mono ?_; rintro e w5 ⟨hM, hB5⟩; obtain ⟨code, fd, num, dr, dat, nA, nl, nc, rfl, hst⟩ := hM; have HMID := Lib.hid (mid_of (fd := fd) (num := num) (dr := dr) (dat := dat) (nA := nA) (nl := nl) (nc := nc) HB4.out HX4.out hxb hB5 hst true); have HX5 := Lib.hid (hB5.kp.block HX4.out (by decide) (by decide) (by decide)); have r0 : w5.cell? ⟨xb, 0, none⟩ = some (.int .i64 0) := HX5.out.cell 0; have r1 : w5.cell? ⟨xb, 1, none⟩ = some (.int .i64 0) := HX5.out.cell 1; have r2 : w5.cell? ⟨xb, 2, none⟩ = some (.int .i64 0) := HX5.out.cell 2; have r3 : w5.cell? ⟨xb, 3, none⟩ = some (.bool false) := HX5.out.cell 3; have r4 : w5.cell? ⟨xb, 4, none⟩ = some (.string ⟨#[]⟩) := HX5.out.cell 4; have r5 : w5.cell? ⟨xb, 5, none⟩ = some (.slice none 0 0) := HX5.out.cell 5; have l0 := HX5.out.frozen 0; have l1 := HX5.out.frozen 1; have l2 := HX5.out.frozen 2; have l3 := HX5.out.frozen 3; have l4 := HX5.out.frozen 4; have l5 := HX5.out.frozen 5; clear hst hB5)
          go_meet
          case rel => exact HMID.out
        · have HKK := Lib.hid hk
          clear hk
          have e0 : (c.kind == 0) = false := by rw [HKK.out]; rfl
          have e1 : (c.kind == 1) = false := by rw [HKK.out]; rfl
          have e2 : (c.kind == 2) = false := by rw [HKK.out]; rfl
          have e3 : (c.kind == 3) = false := by rw [HKK.out]; rfl
          have e4 : (c.kind == 4) = false := by rw [HKK.out]; rfl
          have e5 : (c.kind == 5) = true := by rw [HKK.out]; rfl
          have e6 : (c.kind == 6) = false := by rw [HKK.out]; rfl
          have e7 : (c.kind == 7) = false := by rw [HKK.out]; rfl
          have e8 : (c.kind == 8) = false := by rw [HKK.out]; rfl
          have e9 : (c.kind == 9) = false := by rw [HKK.out]; rfl
          have e10 : (c.kind == 10) = false := by rw [HKK.out]; rfl
          have e11 : (c.kind == 11) = false := by rw [HKK.out]; rfl
          have e12 : (c.kind == 12) = false := by rw [HKK.out]; rfl
          have e13 : (c.kind == 13) = false := by rw [HKK.out]; rfl
          have e14 : (c.kind == 14) = false := by rw [HKK.out]; rfl
          have e15 : (c.kind == 15) = false := by rw [HKK.out]; rfl
          go_wp2_with (go_at_call 97; refine (byFd_calls HT4.out hbw4 HI.out c).mono ?_; rintro e w5 ⟨hM, hB5⟩; obtain ⟨code, fd, num, dr, dat, nA, nl, nc, rfl, hst⟩ := hM; have HMID := Lib.hid (mid_of (fd := fd) (num := num) (dr := dr) (dat := dat) (nA := nA) (nl := nl) (nc := nc) HB4.out HX4.out hxb hB5 hst true); have HX5 := Lib.hid (hB5.kp.block HX4.out (by decide) (by decide) (by decide)); have r0 : w5.cell? ⟨xb, 0, none⟩ = some (.int .i64 0) := HX5.out.cell 0; have r1 : w5.cell? ⟨xb, 1, none⟩ = some (.int .i64 0) := HX5.out.cell 1; have r2 : w5.cell? ⟨xb, 2, none⟩ = some (.int .i64 0) := HX5.out.cell 2; have r3 : w5.cell? ⟨xb, 3, none⟩ = some (.bool false) := HX5.out.cell 3; have r4 : w5.cell? ⟨xb, 4, none⟩ = some (.string ⟨#[]⟩) := HX5.out.cell 4; have r5 : w5.cell? ⟨xb, 5, none⟩ = some (.slice none 0 0) := HX5.out.cell 5; have l0 := HX5.out.frozen 0; have l1 := HX5.out.frozen 1; have l2 := HX5.out.frozen 2; have l3 := HX5.out.frozen 3; have l4 := HX5.out.frozen 4; have l5 := HX5.out.frozen 5; clear hst hB5)
          go_meet
          case rel => exact HMID.out
        · have HKK := Lib.hid hk
          clear hk
          have e0 : (c.kind == 0) = false := by rw [HKK.out]; rfl
          have e1 : (c.kind == 1) = false := by rw [HKK.out]; rfl
          have e2 : (c.kind == 2) = false := by rw [HKK.out]; rfl
          have e3 : (c.kind == 3) = false := by rw [HKK.out]; rfl
          have e4 : (c.kind == 4) = false := by rw [HKK.out]; rfl
          have e5 : (c.kind == 5) = false := by rw [HKK.out]; rfl
          have e6 : (c.kind == 6) = true := by rw [HKK.out]; rfl
          have e7 : (c.kind == 7) = false := by rw [HKK.out]; rfl
          have e8 : (c.kind == 8) = false := by rw [HKK.out]; rfl
          have e9 : (c.kind == 9) = false := by rw [HKK.out]; rfl
          have e10 : (c.kind == 10) = false := by rw [HKK.out]; rfl
          have e11 : (c.kind == 11) = false := by rw [HKK.out]; rfl
          have e12 : (c.kind == 12) = false := by rw [HKK.out]; rfl
          have e13 : (c.kind == 13) = false := by rw [HKK.out]; rfl
          have e14 : (c.kind == 14) = false := by rw [HKK.out]; rfl
          have e15 : (c.kind == 15) = false := by rw [HKK.out]; rfl
          go_wp2_with (go_at_call 97; refine (byFd_calls HT4.out hbw4 HI.out c).mono ?_; rintro e w5 ⟨hM, hB5⟩; obtain ⟨code, fd, num, dr, dat, nA, nl, nc, rfl, hst⟩ := hM; have HMID := Lib.hid (mid_of (fd := fd) (num := num) (dr := dr) (dat := dat) (nA := nA) (nl := nl) (nc := nc) HB4.out HX4.out hxb hB5 hst true); have HX5 := Lib.hid (hB5.kp.block HX4.out (by decide) (by decide) (by decide)); have r0 : w5.cell? ⟨xb, 0, none⟩ = some (.int .i64 0) := HX5.out.cell 0; have r1 : w5.cell? ⟨xb, 1, none⟩ = some (.int .i64 0) := HX5.out.cell 1; have r2 : w5.cell? ⟨xb, 2, none⟩ = some (.int .i64 0) := HX5.out.cell 2; have r3 : w5.cell? ⟨xb, 3, none⟩ = some (.bool false) := HX5.out.cell 3; have r4 : w5.cell? ⟨xb, 4, none⟩ = some (.string ⟨#[]⟩) := HX5.out.cell 4; have r5 : w5.cell? ⟨xb, 5, none⟩ = some (.slice none 0 0) := HX5.out.cell 5; have l0 := HX5.out.frozen 0; have l1 := HX5.out.frozen 1; have l2 := HX5.out.frozen 2; have l3 := HX5.out.frozen 3; have l4 := HX5.out.frozen 4; have l5 := HX5.out.frozen 5; clear hst hB5)
          go_meet
          case rel => exact HMID.out
        · have HKK := Lib.hid hk
          clear hk
          have e0 : (c.kind == 0) = false := by rw [HKK.out]; rfl
          have e1 : (c.kind == 1) = false := by rw [HKK.out]; rfl
          have e2 : (c.kind == 2) = false := by rw [HKK.out]; rfl
          have e3 : (c.kind == 3) = false := by rw [HKK.out]; rfl
          have e4 : (c.kind == 4) = false := by rw [HKK.out]; rfl
          have e5 : (c.kind == 5) = false := by rw [HKK.out]; rfl
          have e6 : (c.kind == 6) = false := by rw [HKK.out]; rfl
          have e7 : (c.kind == 7) = true := by rw [HKK.out]; rfl
          have e8 : (c.kind == 8) = false := by rw [HKK.out]; rfl
          have e9 : (c.kind == 9) = false := by rw [HKK.out]; rfl
          have e10 : (c.kind == 10) = false := by rw [HKK.out]; rfl
          have e11 : (c.kind == 11) = false := by rw [HKK.out]; rfl
          have e12 : (c.kind == 12) = false := by rw [HKK.out]; rfl
          have e13 : (c.kind == 13) = false := by rw [HKK.out]; rfl
          have e14 : (c.kind == 14) = false := by rw [HKK.out]; rfl
          have e15 : (c.kind == 15) = false := by rw [HKK.out]; rfl
          go_wp2_with (go_at_call 97; refine (byFd_calls HT4.out hbw4 HI.out c).mono ?_; rintro e w5 ⟨hM, hB5⟩; obtain ⟨code, fd, num, dr, dat, nA, nl, nc, rfl, hst⟩ := hM; have HMID := Lib.hid (mid_of (fd := fd) (num := num) (dr := dr) (dat := dat) (nA := nA) (nl := nl) (nc := nc) HB4.out HX4.out hxb hB5 hst true); have HX5 := Lib.hid (hB5.kp.block HX4.out (by decide) (by decide) (by decide)); have r0 : w5.cell? ⟨xb, 0, none⟩ = some (.int .i64 0) := HX5.out.cell 0; have r1 : w5.cell? ⟨xb, 1, none⟩ = some (.int .i64 0) := HX5.out.cell 1; have r2 : w5.cell? ⟨xb, 2, none⟩ = some (.int .i64 0) := HX5.out.cell 2; have r3 : w5.cell? ⟨xb, 3, none⟩ = some (.bool false) := HX5.out.cell 3; have r4 : w5.cell? ⟨xb, 4, none⟩ = some (.string ⟨#[]⟩) := HX5.out.cell 4; have r5 : w5.cell? ⟨xb, 5, none⟩ = some (.slice none 0 0) := HX5.out.cell 5; have l0 := HX5.out.frozen 0; have l1 := HX5.out.frozen 1; have l2 := HX5.out.frozen 2; have l3 := HX5.out.frozen 3; have l4 := HX5.out.frozen 4; have l5 := HX5.out.frozen 5; clear hst hB5)
          go_meet
          case rel => exact HMID.out
        · have HKK := Lib.hid hk
          clear hk
          have e0 : (c.kind == 0) = false := by rw [HKK.out]; rfl
          have e1 : (c.kind == 1) = false := by rw [HKK.out]; rfl
          have e2 : (c.kind == 2) = false := by rw [HKK.out]; rfl
          have e3 : (c.kind == 3) = false := by rw [HKK.out]; rfl
          have e4 : (c.kind == 4) = false := by rw [HKK.out]; rfl
          have e5 : (c.kind == 5) = false := by rw [HKK.out]; rfl
          have e6 : (c.kind == 6) = false := by rw [HKK.out]; rfl
          have e7 : (c.kind == 7) = false := by rw [HKK.out]; rfl
          have e8 : (c.kind == 8) = true := by rw [HKK.out]; rfl
          have e9 : (c.kind == 9) = false := by rw [HKK.out]; rfl
          have e10 : (c.kind == 10) = false := by rw [HKK.out]; rfl
          have e11 : (c.kind == 11) = false := by rw [HKK.out]; rfl
          have e12 : (c.kind == 12) = false := by rw [HKK.out]; rfl
          have e13 : (c.kind == 13) = false := by rw [HKK.out]; rfl
          have e14 : (c.kind == 14) = false := by rw [HKK.out]; rfl
          have e15 : (c.kind == 15) = false := by rw [HKK.out]; rfl
          go_wp2_with (go_at_call 98; refine (names_calls HT4.out hbw4 HI.out c).mono ?_; rintro e w5 ⟨hM, hB5⟩; obtain ⟨code, fd, num, dr, dat, nA, nl, nc, rfl, hst⟩ := hM; have HMID := Lib.hid (mid_of (fd := fd) (num := num) (dr := dr) (dat := dat) (nA := nA) (nl := nl) (nc := nc) HB4.out HX4.out hxb hB5 hst true); have HX5 := Lib.hid (hB5.kp.block HX4.out (by decide) (by decide) (by decide)); have r0 : w5.cell? ⟨xb, 0, none⟩ = some (.int .i64 0) := HX5.out.cell 0; have r1 : w5.cell? ⟨xb, 1, none⟩ = some (.int .i64 0) := HX5.out.cell 1; have r2 : w5.cell? ⟨xb, 2, none⟩ = some (.int .i64 0) := HX5.out.cell 2; have r3 : w5.cell? ⟨xb, 3, none⟩ = some (.bool false) := HX5.out.cell 3; have r4 : w5.cell? ⟨xb, 4, none⟩ = some (.string ⟨#[]⟩) := HX5.out.cell 4; have r5 : w5.cell? ⟨xb, 5, none⟩ = some (.slice none 0 0) := HX5.out.cell 5; have l0 := HX5.out.frozen 0; have l1 := HX5.out.frozen 1; have l2 := HX5.out.frozen 2; have l3 := HX5.out.frozen 3; have l4 := HX5.out.frozen 4; have l5 := HX5.out.frozen 5; clear hst hB5)
          go_meet
          case rel => exact HMID.out
        · have HKK := Lib.hid hk
          clear hk
          have e0 : (c.kind == 0) = false := by rw [HKK.out]; rfl
          have e1 : (c.kind == 1) = false := by rw [HKK.out]; rfl
          have e2 : (c.kind == 2) = false := by rw [HKK.out]; rfl
          have e3 : (c.kind == 3) = false := by rw [HKK.out]; rfl
          have e4 : (c.kind == 4) = false := by rw [HKK.out]; rfl
          have e5 : (c.kind == 5) = false := by rw [HKK.out]; rfl
          have e6 : (c.kind == 6) = false := by rw [HKK.out]; rfl
          have e7 : (c.kind == 7) = false := by rw [HKK.out]; rfl
          have e8 : (c.kind == 8) = false := by rw [HKK.out]; rfl
          have e9 : (c.kind == 9) = true := by rw [HKK.out]; rfl
          have e10 : (c.kind == 10) = false := by rw [HKK.out]; rfl
          have e11 : (c.kind == 11) = false := by rw [HKK.out]; rfl
          have e12 : (c.kind == 12) = false := by rw [HKK.out]; rfl
          have e13 : (c.kind == 13) = false := by rw [HKK.out]; rfl
          have e14 : (c.kind == 14) = false := by rw [HKK.out]; rfl
          have e15 : (c.kind == 15) = false := by rw [HKK.out]; rfl
          go_wp2_with (go_at_call 98; refine (names_calls HT4.out hbw4 HI.out c).mono ?_; rintro e w5 ⟨hM, hB5⟩; obtain ⟨code, fd, num, dr, dat, nA, nl, nc, rfl, hst⟩ := hM; have HMID := Lib.hid (mid_of (fd := fd) (num := num) (dr := dr) (dat := dat) (nA := nA) (nl := nl) (nc := nc) HB4.out HX4.out hxb hB5 hst true); have HX5 := Lib.hid (hB5.kp.block HX4.out (by decide) (by decide) (by decide)); have r0 : w5.cell? ⟨xb, 0, none⟩ = some (.int .i64 0) := HX5.out.cell 0; have r1 : w5.cell? ⟨xb, 1, none⟩ = some (.int .i64 0) := HX5.out.cell 1; have r2 : w5.cell? ⟨xb, 2, none⟩ = some (.int .i64 0) := HX5.out.cell 2; have r3 : w5.cell? ⟨xb, 3, none⟩ = some (.bool false) := HX5.out.cell 3; have r4 : w5.cell? ⟨xb, 4, none⟩ = some (.string ⟨#[]⟩) := HX5.out.cell 4; have r5 : w5.cell? ⟨xb, 5, none⟩ = some (.slice none 0 0) := HX5.out.cell 5; have l0 := HX5.out.frozen 0; have l1 := HX5.out.frozen 1; have l2 := HX5.out.frozen 2; have l3 := HX5.out.frozen 3; have l4 := HX5.out.frozen 4; have l5 := HX5.out.frozen 5; clear hst hB5)
          go_meet
          case rel => exact HMID.out
        · have HKK := Lib.hid hk
          clear hk
          have e0 : (c.kind == 0) = false := by rw [HKK.out]; rfl
          have e1 : (c.kind == 1) = false := by rw [HKK.out]; rfl
          have e2 : (c.kind == 2) = false := by rw [HKK.out]; rfl
          have e3 : (c.kind == 3) = false := by rw [HKK.out]; rfl
          have e4 : (c.kind == 4) = false := by rw [HKK.out]; rfl
          have e5 : (c.kind == 5) = false := by rw [HKK.out]; rfl
          have e6 : (c.kind == 6) = false := by rw [HKK.out]; rfl
          have e7 : (c.kind == 7) = false := by rw [HKK.out]; rfl
          have e8 : (c.kind == 8) = false := by rw [HKK.out]; rfl
          have e9 : (c.kind == 9) = false := by rw [HKK.out]; rfl
          have e10 : (c.kind == 10) = true := by rw [HKK.out]; rfl
          have e11 : (c.kind == 11) = false := by rw [HKK.out]; rfl
          have e12 : (c.kind == 12) = false := by rw [HKK.out]; rfl
          have e13 : (c.kind == 13) = false := by rw [HKK.out]; rfl
          have e14 : (c.kind == 14) = false := by rw [HKK.out]; rfl
          have e15 : (c.kind == 15) = false := by rw [HKK.out]; rfl
          go_wp2_with (go_at_call 98; refine (names_calls HT4.out hbw4 HI.out c).mono ?_; rintro e w5 ⟨hM, hB5⟩; obtain ⟨code, fd, num, dr, dat, nA, nl, nc, rfl, hst⟩ := hM; have HMID := Lib.hid (mid_of (fd := fd) (num := num) (dr := dr) (dat := dat) (nA := nA) (nl := nl) (nc := nc) HB4.out HX4.out hxb hB5 hst true); have HX5 := Lib.hid (hB5.kp.block HX4.out (by decide) (by decide) (by decide)); have r0 : w5.cell? ⟨xb, 0, none⟩ = some (.int .i64 0) := HX5.out.cell 0; have r1 : w5.cell? ⟨xb, 1, none⟩ = some (.int .i64 0) := HX5.out.cell 1; have r2 : w5.cell? ⟨xb, 2, none⟩ = some (.int .i64 0) := HX5.out.cell 2; have r3 : w5.cell? ⟨xb, 3, none⟩ = some (.bool false) := HX5.out.cell 3; have r4 : w5.cell? ⟨xb, 4, none⟩ = some (.string ⟨#[]⟩) := HX5.out.cell 4; have r5 : w5.cell? ⟨xb, 5, none⟩ = some (.slice none 0 0) := HX5.out.cell 5; have l0 := HX5.out.frozen 0; have l1 := HX5.out.frozen 1; have l2 := HX5.out.frozen 2; have l3 := HX5.out.frozen 3; have l4 := HX5.out.frozen 4; have l5 := HX5.out.frozen 5; clear hst hB5)
          go_meet
          case rel => exact HMID.out
        · have HKK := Lib.hid hk
          clear hk
          have e0 : (c.kind == 0) = false := by rw [HKK.out]; rfl
          have e1 : (c.kind == 1) = false := by rw [HKK.out]; rfl
          have e2 : (c.kind == 2) = false := by rw [HKK.out]; rfl
          have e3 : (c.kind == 3) = false := by rw [HKK.out]; rfl
          have e4 : (c.kind == 4) = false := by rw [HKK.out]; rfl
          have e5 : (c.kind == 5) = false := by rw [HKK.out]; rfl
          have e6 : (c.kind == 6) = false := by rw [HKK.out]; rfl
          have e7 : (c.kind == 7) = false := by rw [HKK.out]; rfl
          have e8 : (c.kind == 8) = false := by rw [HKK.out]; rfl
          have e9 : (c.kind == 9) = false := by rw [HKK.out]; rfl
          have e10 : (c.kind == 10) = false := by rw [HKK.out]; rfl
          have e11 : (c.kind == 11) = true := by rw [HKK.out]; rfl
          have e12 : (c.kind == 12) = false := by rw [HKK.out]; rfl
          have e13 : (c.kind == 13) = false := by rw [HKK.out]; rfl
          have e14 : (c.kind == 14) = false := by rw [HKK.out]; rfl
          have e15 : (c.kind == 15) = false := by rw [HKK.out]; rfl
          go_wp2_with (go_at_call 98; refine (names_calls HT4.out hbw4 HI.out c).mono ?_; rintro e w5 ⟨hM, hB5⟩; obtain ⟨code, fd, num, dr, dat, nA, nl, nc, rfl, hst⟩ := hM; have HMID := Lib.hid (mid_of (fd := fd) (num := num) (dr := dr) (dat := dat) (nA := nA) (nl := nl) (nc := nc) HB4.out HX4.out hxb hB5 hst true); have HX5 := Lib.hid (hB5.kp.block HX4.out (by decide) (by decide) (by decide)); have r0 : w5.cell? ⟨xb, 0, none⟩ = some (.int .i64 0) := HX5.out.cell 0; have r1 : w5.cell? ⟨xb, 1, none⟩ = some (.int .i64 0) := HX5.out.cell 1; have r2 : w5.cell? ⟨xb, 2, none⟩ = some (.int .i64 0) := HX5.out.cell 2; have r3 : w5.cell? ⟨xb, 3, none⟩ = some (.bool false) := HX5.out.cell 3; have r4 : w5.cell? ⟨xb, 4, none⟩ = some (.string ⟨#[]⟩) := HX5.out.cell 4; have r5 : w5.cell? ⟨xb, 5, none⟩ = some (.slice none 0 0) := HX5.out.cell 5; have l0 := HX5.out.frozen 0; have l1 := HX5.out.frozen 1; have l2 := HX5.out.frozen 2; have l3 := HX5.out.frozen 3; have l4 := HX5.out.frozen 4; have l5 := HX5.out.frozen 5; clear hst hB5)
          go_meet
          case rel => exact HMID.out
        · have HKK := Lib.hid hk
          clear hk
          have e0 : (c.kind == 0) = false := by rw [HKK.out]; rfl
          have e1 : (c.kind == 1) = false := by rw [HKK.out]; rfl
          have e2 : (c.kind == 2) = false := by rw [HKK.out]; rfl
          have e3 : (c.kind == 3) = false := by rw [HKK.out]; rfl
          have e4 : (c.kind == 4) = false := by rw [HKK.out]; rfl
          have e5 : (c.kind == 5) = false := by rw [HKK.out]; rfl
          have e6 : (c.kind == 6) = false := by rw [HKK.out]; rfl
          have e7 : (c.kind == 7) = false := by rw [HKK.out]; rfl
          have e8 : (c.kind == 8) = false := by rw [HKK.out]; rfl
          have e9 : (c.kind == 9) = false := by rw [HKK.out]; rfl
          have e10 : (c.kind == 10) = false := by rw [HKK.out]; rfl
          have e11 : (c.kind == 11) = false := by rw [HKK.out]; rfl
          have e12 : (c.kind == 12) = true := by rw [HKK.out]; rfl
          have e13 : (c.kind == 13) = false := by rw [HKK.out]; rfl
          have e14 : (c.kind == 14) = false := by rw [HKK.out]; rfl
          have e15 : (c.kind == 15) = false := by rw [HKK.out]; rfl
          go_wp2_with (go_at_call 99; refine (looks_calls HT4.out.stm HI.out c).mono ?_; rintro e w5 ⟨⟨code, fd, num, dr, dat, nA, nl, nc, rfl⟩, hB⟩; have hB5 := hB.bk hbw4; have HMID := Lib.hid (mid_of (fd := fd) (num := num) (dr := dr) (dat := dat) (nA := nA) (nl := nl) (nc := nc) HB4.out HX4.out hxb hB5 (code := code) (fun _ => ⟨_, _, _, _, _, HI.out, HT4.out.below hB⟩) true); have HX5 := Lib.hid (hB5.kp.block HX4.out (by decide) (by decide) (by decide)); have r0 : w5.cell? ⟨xb, 0, none⟩ = some (.int .i64 0) := HX5.out.cell 0; have r1 : w5.cell? ⟨xb, 1, none⟩ = some (.int .i64 0) := HX5.out.cell 1; have r2 : w5.cell? ⟨xb, 2, none⟩ = some (.int .i64 0) := HX5.out.cell 2; have r3 : w5.cell? ⟨xb, 3, none⟩ = some (.bool false) := HX5.out.cell 3; have r4 : w5.cell? ⟨xb, 4, none⟩ = some (.string ⟨#[]⟩) := HX5.out.cell 4; have r5 : w5.cell? ⟨xb, 5, none⟩ = some (.slice none 0 0) := HX5.out.cell 5; have l0 := HX5.out.frozen 0; have l1 := HX5.out.frozen 1; have l2 := HX5.out.frozen 2; have l3 := HX5.out.frozen 3; have l4 := HX5.out.frozen 4; have l5 := HX5.out.frozen 5; clear hB hB5)
          go_meet
          case rel => exact HMID.out
        · have HKK := Lib.hid hk
          clear hk
          have e0 : (c.kind == 0) = false := by rw [HKK.out]; rfl
          have e1 : (c.kind == 1) = false := by rw [HKK.out]; rfl
          have e2 : (c.kind == 2) = false := by rw [HKK.out]; rfl
          have e3 : (c.kind == 3) = false := by rw [HKK.out]; rfl
          have e4 : (c.kind == 4) = false := by rw [HKK.out]; rfl
          have e5 : (c.kind == 5) = false := by rw [HKK.out]; rfl
          have e6 : (c.kind == 6) = false := by rw [HKK.out]; rfl
          have e7 : (c.kind == 7) = false := by rw [HKK.out]; rfl
          have e8 : (c.kind == 8) = false := by rw [HKK.out]; rfl
          have e9 : (c.kind == 9) = false := by rw [HKK.out]; rfl
          have e10 : (c.kind == 10) = false := by rw [HKK.out]; rfl
          have e11 : (c.kind == 11) = false := by rw [HKK.out]; rfl
          have e12 : (c.kind == 12) = false := by rw [HKK.out]; rfl
          have e13 : (c.kind == 13) = true := by rw [HKK.out]; rfl
          have e14 : (c.kind == 14) = false := by rw [HKK.out]; rfl
          have e15 : (c.kind == 15) = false := by rw [HKK.out]; rfl
          go_wp2_with (go_at_call 99; refine (looks_calls HT4.out.stm HI.out c).mono ?_; rintro e w5 ⟨⟨code, fd, num, dr, dat, nA, nl, nc, rfl⟩, hB⟩; have hB5 := hB.bk hbw4; have HMID := Lib.hid (mid_of (fd := fd) (num := num) (dr := dr) (dat := dat) (nA := nA) (nl := nl) (nc := nc) HB4.out HX4.out hxb hB5 (code := code) (fun _ => ⟨_, _, _, _, _, HI.out, HT4.out.below hB⟩) true); have HX5 := Lib.hid (hB5.kp.block HX4.out (by decide) (by decide) (by decide)); have r0 : w5.cell? ⟨xb, 0, none⟩ = some (.int .i64 0) := HX5.out.cell 0; have r1 : w5.cell? ⟨xb, 1, none⟩ = some (.int .i64 0) := HX5.out.cell 1; have r2 : w5.cell? ⟨xb, 2, none⟩ = some (.int .i64 0) := HX5.out.cell 2; have r3 : w5.cell? ⟨xb, 3, none⟩ = some (.bool false) := HX5.out.cell 3; have r4 : w5.cell? ⟨xb, 4, none⟩ = some (.string ⟨#[]⟩) := HX5.out.cell 4; have r5 : w5.cell? ⟨xb, 5, none⟩ = some (.slice none 0 0) := HX5.out.cell 5; have l0 := HX5.out.frozen 0; have l1 := HX5.out.frozen 1; have l2 := HX5.out.frozen 2; have l3 := HX5.out.frozen 3; have l4 := HX5.out.frozen 4; have l5 := HX5.out.frozen 5; clear hB hB5)
          go_meet
          case rel => exact HMID.out
        · have HKK := Lib.hid hk
          clear hk
          have e0 : (c.kind == 0) = false := by rw [HKK.out]; rfl
          have e1 : (c.kind == 1) = false := by rw [HKK.out]; rfl
          have e2 : (c.kind == 2) = false := by rw [HKK.out]; rfl
          have e3 : (c.kind == 3) = false := by rw [HKK.out]; rfl
          have e4 : (c.kind == 4) = false := by rw [HKK.out]; rfl
          have e5 : (c.kind == 5) = false := by rw [HKK.out]; rfl
          have e6 : (c.kind == 6) = false := by rw [HKK.out]; rfl
          have e7 : (c.kind == 7) = false := by rw [HKK.out]; rfl
          have e8 : (c.kind == 8) = false := by rw [HKK.out]; rfl
          have e9 : (c.kind == 9) = false := by rw [HKK.out]; rfl
          have e10 : (c.kind == 10) = false := by rw [HKK.out]; rfl
          have e11 : (c.kind == 11) = false := by rw [HKK.out]; rfl
          have e12 : (c.kind == 12) = false := by rw [HKK.out]; rfl
          have e13 : (c.kind == 13) = false := by rw [HKK.out]; rfl
          have e14 : (c.kind == 14) = true := by rw [HKK.out]; rfl
          have e15 : (c.kind == 15) = false := by rw [HKK.out]; rfl
          go_wp2_with (go_at_call 99; refine (looks_calls HT4.out.stm HI.out c).mono ?_; rintro e w5 ⟨⟨code, fd, num, dr, dat, nA, nl, nc, rfl⟩, hB⟩; have hB5 := hB.bk hbw4; have HMID := Lib.hid (mid_of (fd := fd) (num := num) (dr := dr) (dat := dat) (nA := nA) (nl := nl) (nc := nc) HB4.out HX4.out hxb hB5 (code := code) (fun _ => ⟨_, _, _, _, _, HI.out, HT4.out.below hB⟩) true); have HX5 := Lib.hid (hB5.kp.block HX4.out (by decide) (by decide) (by decide)); have r0 : w5.cell? ⟨xb, 0, none⟩ = some (.int .i64 0) := HX5.out.cell 0; have r1 : w5.cell? ⟨xb, 1, none⟩ = some (.int .i64 0) := HX5.out.cell 1; have r2 : w5.cell? ⟨xb, 2, none⟩ = some (.int .i64 0) := HX5.out.cell 2; have r3 : w5.cell? ⟨xb, 3, none⟩ = some (.bool false) := HX5.out.cell 3; have r4 : w5.cell? ⟨xb, 4, none⟩ = some (.string ⟨#[]⟩) := HX5.out.cell 4; have r5 : w5.cell? ⟨xb, 5, none⟩ = some (.slice none 0 0) := HX5.out.cell 5; have l0 := HX5.out.frozen 0; have l1 := HX5.out.frozen 1; have l2 := HX5.out.frozen 2; have l3 := HX5.out.frozen 3; have l4 := HX5.out.frozen 4; have l5 := HX5.out.frozen 5; clear hB hB5)
          go_meet
          case rel => exact HMID.out
        · have HKK := Lib.hid hk
          clear hk
          have e0 : (c.kind == 0) = false := by rw [HKK.out]; rfl
          have e1 : (c.kind == 1) = false := by rw [HKK.out]; rfl
          have e2 : (c.kind == 2) = false := by rw [HKK.out]; rfl
          have e3 : (c.kind == 3) = false := by rw [HKK.out]; rfl
          have e4 : (c.kind == 4) = false := by rw [HKK.out]; rfl
          have e5 : (c.kind == 5) = false := by rw [HKK.out]; rfl
          have e6 : (c.kind == 6) = false := by rw [HKK.out]; rfl
          have e7 : (c.kind == 7) = false := by rw [HKK.out]; rfl
          have e8 : (c.kind == 8) = false := by rw [HKK.out]; rfl
          have e9 : (c.kind == 9) = false := by rw [HKK.out]; rfl
          have e10 : (c.kind == 10) = false := by rw [HKK.out]; rfl
          have e11 : (c.kind == 11) = false := by rw [HKK.out]; rfl
          have e12 : (c.kind == 12) = false := by rw [HKK.out]; rfl
          have e13 : (c.kind == 13) = false := by rw [HKK.out]; rfl
          have e14 : (c.kind == 14) = false := by rw [HKK.out]; rfl
          have e15 : (c.kind == 15) = true := by rw [HKK.out]; rfl
          go_wp2_with (go_at_call 97; refine (byFd_calls HT4.out hbw4 HI.out c).mono ?_; rintro e w5 ⟨hM, hB5⟩; obtain ⟨code, fd, num, dr, dat, nA, nl, nc, rfl, hst⟩ := hM; have HMID := Lib.hid (mid_of (fd := fd) (num := num) (dr := dr) (dat := dat) (nA := nA) (nl := nl) (nc := nc) HB4.out HX4.out hxb hB5 hst true); have HX5 := Lib.hid (hB5.kp.block HX4.out (by decide) (by decide) (by decide)); have r0 : w5.cell? ⟨xb, 0, none⟩ = some (.int .i64 0) := HX5.out.cell 0; have r1 : w5.cell? ⟨xb, 1, none⟩ = some (.int .i64 0) := HX5.out.cell 1; have r2 : w5.cell? ⟨xb, 2, none⟩ = some (.int .i64 0) := HX5.out.cell 2; have r3 : w5.cell? ⟨xb, 3, none⟩ = some (.bool false) := HX5.out.cell 3; have r4 : w5.cell? ⟨xb, 4, none⟩ = some (.string ⟨#[]⟩) := HX5.out.cell 4; have r5 : w5.cell? ⟨xb, 5, none⟩ = some (.slice none 0 0) := HX5.out.cell 5; have l0 := HX5.out.frozen 0; have l1 := HX5.out.frozen 1; have l2 := HX5.out.frozen 2; have l3 := HX5.out.frozen 3; have l4 := HX5.out.frozen 4; have l5 := HX5.out.frozen 5; clear hst hB5)
          go_meet
          case rel => exact HMID.out
        · have HKK := Lib.hid hk
          clear hk
          have e0 : (c.kind == 0) = false := by rw [HKK.out]; rfl
          have e1 : (c.kind == 1) = false := by rw [HKK.out]; rfl
          have e2 : (c.kind == 2) = false := by rw [HKK.out]; rfl
          have e3 : (c.kind == 3) = false := by rw [HKK.out]; rfl
          have e4 : (c.kind == 4) = false := by rw [HKK.out]; rfl
          have e5 : (c.kind == 5) = false := by rw [HKK.out]; rfl
          have e6 : (c.kind == 6) = false := by rw [HKK.out]; rfl
          have e7 : (c.kind == 7) = false := by rw [HKK.out]; rfl
          have e8 : (c.kind == 8) = false := by rw [HKK.out]; rfl
          have e9 : (c.kind == 9) = false := by rw [HKK.out]; rfl
          have e10 : (c.kind == 10) = false := by rw [HKK.out]; rfl
          have e11 : (c.kind == 11) = false := by rw [HKK.out]; rfl
          have e12 : (c.kind == 12) = false := by rw [HKK.out]; rfl
          have e13 : (c.kind == 13) = false := by rw [HKK.out]; rfl
          have e14 : (c.kind == 14) = false := by rw [HKK.out]; rfl
          have e15 : (c.kind == 15) = false := by rw [HKK.out]; rfl
          have HMID := Lib.hid (show MidD base ob xb w1 w4 (.bool true) from ⟨_, _, _, _, _, _, _, _, _, rfl, HX4.out, fun _ => ⟨_, _, _, _, _, HI.out, HT4.out⟩, HB4.out⟩)
          go_wp2_with (fail)
          go_meet
          case rel => exact HMID.out
      case rest =>
        obtain ⟨code, fd, num, dr, dat, nA, nl, nc, bv, rfl, hX, hS5, hbc⟩ := hcut
        have HX5 := Lib.hid hX
        have HS5 := Lib.hid hS5
        have HB5 := Lib.hid hbc
        obtain ⟨w5, hw5⟩ : ∃ x : World, x = wc := ⟨_, rfl⟩
        subst hw5
        have HF5 := Lib.hid (HF1.out.below (by rw [← HBS.out]; exact hbc))
        have HBW := Lib.hid (HB1.out.trans (hbc.mono (by rw [HBS.out]; exact hw1)))
        have hw5 : w.heap.size ≤ w5.heap.size := HBW.out.size
        clear hX hS5 hbc HT4 HX4 HB4 hbw4 HF4 j0 j1 j2 r0 r1 r2 r3 r4 r5 l0 l1 l2 l3 l4 l5 k0 k1 k2 k3 k4 k5 k6 k7
        have p0 : w5.cell? ⟨sb, 0, none⟩ = some (.slice A n cap) := HF5.out.sB.cell 0
        have p1 : w5.cell? ⟨sb, 1, none⟩ = some (.slice OA no ocap) := HF5.out.sB.cell 1
        have p2 : w5.cell? ⟨sb, 2, none⟩ = some (.slice MA nm_ mcap) := HF5.out.sB.cell 2
        have x0 : w5.cell? ⟨xb, 0, none⟩ = some (.int .i64 code) := HX5.out.cell 0
        have x1 : w5.cell? ⟨xb, 1, none⟩ = some (.int .i64 fd) := HX5.out.cell 1
        have x2 : w5.cell? ⟨xb, 2, none⟩ = some (.int .i64 num) := HX5.out.cell 2
        have x3 : w5.cell? ⟨xb, 3, none⟩ = some (.bool dr) := HX5.out.cell 3
        have x4 : w5.cell? ⟨xb, 4, none⟩ = some (.string dat) := HX5.out.cell 4
        have x5 : w5.cell? ⟨xb, 5, none⟩ = some (.slice nA nl nc) := HX5.out.cell 5
        have hxz : xb ≠ zb := Blk.ne_ HX5.out HF5.out.zB (by decide)
        have hrlt : rb < base := by rw [HBS.out]; exact HF1.out.rB.lt
        have hxr : xb ≠ rb := by omega
        have hsr : sb ≠ rb := Blk.ne_ HF5.out.sB HF5.out.rB (by decide)
        have hor : ob ≠ rb := by omega
        have hne : xb ≠ sb := Blk.ne_ HX5.out HF5.out.sB (by decide)
        by_cases hgood : code = 0 ∧ bv = true
        · obtain ⟨rfl, rfl⟩ := hgood
          obtain ⟨iv, ov, mv, ev', S', hI', hT'⟩ := HS5.out rfl
          obtain ⟨A2, cap2, rfl⟩ := hT'.row.ino.at'.form
          obtain ⟨OA2, ocap2, rfl⟩ := hT'.row.opn.at'.form
          obtain ⟨MA2, mcap2, rfl⟩ := hT'.row.mad.at'.form
          have HI' := Lib.hid hI'
          have HT' := Lib.hid hT'
          have hozb : ob ≠ zb := by
            have h1 : zb < base := by rw [HBS.out]; exact HF1.out.zB.lt
            have h2 := hT'.ob_le
            omega
          clear hI' hT'
          go_upto_region 31 with (fail)
          refine wp_region_held_drew (S := fun w' => Blk w' ob 26 #[.slice A2 S'.inodes.length cap2, .slice OA2 S'.opens.length ocap2, .slice MA2 S'.made.length mcap2] ∧ Blk w' xb 47 #[.int .i64 0, .int .i64 fd, .int .i64 num, .bool dr, .string dat, .slice nA nl nc]) (by kernel_rfl) (⟨HT'.out.sat.below (below_drew1 w5), HX5.out.below (below_drew1 w5)⟩) (fun hHeld => ?_)
          refine wpAnyH_take (i := 0) (oi := ⟨some 97, _, _, _, _, _⟩) (v := .agg #[.slice A2 S'.inodes.length cap2, .slice OA2 S'.opens.length ocap2, .slice MA2 S'.made.length mcap2]) rfl (by kernel_rfl) (by kernel_rfl) (by kernel_rfl) (fun _ _ _ h => h) (Or.inl ⟨by kernel_rfl, fun w hSw => by have a0 := hSw.1.cell 0; have a1 := hSw.1.cell 1; have a2 := hSw.1.cell 2; go_simp⟩) (by assumption) ?_
          simp only [Act.put, lTA, lC0, lCS]
          refine wpAnyH_take (i := 1) (oi := ⟨some 98, _, _, _, _, _⟩) (v := .agg #[.int .i64 0, .int .i64 fd, .int .i64 num, .bool dr, .string dat, .slice nA nl nc]) rfl (by kernel_rfl) (by kernel_rfl) (by kernel_rfl) (fun _ _ _ h => h) (Or.inl ⟨by kernel_rfl, fun w hSw => by have a0 := hSw.2.cell 0; have a1 := hSw.2.cell 1; have a2 := hSw.2.cell 2; have a3 := hSw.2.cell 3; have a4 := hSw.2.cell 4; have a5 := hSw.2.cell 5; go_simp⟩) (by assumption) ?_
          simp only [Act.put, lTA, lC0, lCS]
          have HFd := Lib.hid (HF5.out.below (below_drew1 w5))
          have z0 : w5.cell? ⟨zb, 0, none⟩ = some (.slice none 0 0) := HF5.out.zB.cell 0
          have z1 : w5.cell? ⟨zb, 1, none⟩ = some (.slice none 0 0) := HF5.out.zB.cell 1
          have z2 : w5.cell? ⟨zb, 2, none⟩ = some (.slice none 0 0) := HF5.out.zB.cell 2
          have lz0 := HF5.out.zB.frozen 0
          have lz1 := HF5.out.zB.frozen 1
          have lz2 := HF5.out.zB.frozen 2
          have r0 : w5.cell? ⟨rb, 0, none⟩ = some (.int .i64 0) := HF5.out.rB.cell 0
          have r1 : w5.cell? ⟨rb, 1, none⟩ = some (.int .i64 0) := HF5.out.rB.cell 1
          have r2 : w5.cell? ⟨rb, 2, none⟩ = some (.int .i64 0) := HF5.out.rB.cell 2
          have r3 : w5.cell? ⟨rb, 3, none⟩ = some (.bool false) := HF5.out.rB.cell 3
          have r4 : w5.cell? ⟨rb, 4, none⟩ = some (.string ⟨#[]⟩) := HF5.out.rB.cell 4
          have r5 : w5.cell? ⟨rb, 5, none⟩ = some (.slice none 0 0) := HF5.out.rB.cell 5
          have l0 := HF5.out.rB.frozen 0
          have l1 := HF5.out.rB.frozen 1
          have l2 := HF5.out.rB.frozen 2
          have l3 := HF5.out.rB.frozen 3
          have l4 := HF5.out.rB.frozen 4
          have l5 := HF5.out.rB.frozen 5
          have h1 : Blk (set3 w5 zb (.slice A2 S'.inodes.length cap2) (.slice OA2 S'.opens.length ocap2) (.slice MA2 S'.made.length mcap2)).drew ob 26 #[.slice A2 S'.inodes.length cap2, .slice OA2 S'.opens.length ocap2, .slice MA2 S'.made.length mcap2] ∧ Blk (set3 w5 zb (.slice A2 S'.inodes.length cap2) (.slice OA2 S'.opens.length ocap2) (.slice MA2 S'.made.length mcap2)).drew xb 47 #[.int .i64 0, .int .i64 fd, .int .i64 num, .bool dr, .string dat, .slice nA nl nc] := ⟨blk_drew (blk_far3 HT'.out.sat hozb _ _ _), blk_drew (blk_far3 HX5.out hxz _ _ _)⟩
          have h2 : Blk (setR (set3 w5 zb (.slice A2 S'.inodes.length cap2) (.slice OA2 S'.opens.length ocap2) (.slice MA2 S'.made.length mcap2)) rb (.int .i64 0) (.int .i64 fd) (.int .i64 num) (.bool dr) (.string dat) (.slice nA nl nc)).drew ob 26 #[.slice A2 S'.inodes.length cap2, .slice OA2 S'.opens.length ocap2, .slice MA2 S'.made.length mcap2] ∧ Blk (setR (set3 w5 zb (.slice A2 S'.inodes.length cap2) (.slice OA2 S'.opens.length ocap2) (.slice MA2 S'.made.length mcap2)) rb (.int .i64 0) (.int .i64 fd) (.int .i64 num) (.bool dr) (.string dat) (.slice nA nl nc)).drew xb 47 #[.int .i64 0, .int .i64 fd, .int .i64 num, .bool dr, .string dat, .slice nA nl nc] := ⟨blk_drew (blk_far6 (blk_far3 HT'.out.sat hozb _ _ _) hor _ _ _ _ _ _), blk_drew (blk_far6 (blk_far3 HX5.out hxz _ _ _) hxr _ _ _ _ _ _)⟩
          refine wpAnyH_ready (rs := [2]) (by kernel_rfl) (by simp) ?_
          refine AllReadyH.cons rfl (fun K hK => ?_) AllReadyH.nil
          go_simp
          show K _ (set3 w5 zb (.slice A2 S'.inodes.length cap2) (.slice OA2 S'.opens.length ocap2) (.slice MA2 S'.made.length mcap2)).drew
          refine hK.out _ _ (h1) (fun hHeld => ?_)
          clear hK K
          have HR6 := Lib.hid (blk_far3 HF5.out.rB hrz (.slice A2 S'.inodes.length cap2) (.slice OA2 S'.opens.length ocap2) (.slice MA2 S'.made.length mcap2))
          have rw0 : (set3 w5 zb (.slice A2 S'.inodes.length cap2) (.slice OA2 S'.opens.length ocap2) (.slice MA2 S'.made.length mcap2)).cell? ⟨rb, 0, none⟩ = some (.int .i64 0) := HR6.out.cell 0
          have rw1 : (set3 w5 zb (.slice A2 S'.inodes.length cap2) (.slice OA2 S'.opens.length ocap2) (.slice MA2 S'.made.length mcap2)).cell? ⟨rb, 1, none⟩ = some (.int .i64 0) := HR6.out.cell 1
          have rw2 : (set3 w5 zb (.slice A2 S'.inodes.length cap2) (.slice OA2 S'.opens.length ocap2) (.slice MA2 S'.made.length mcap2)).cell? ⟨rb, 2, none⟩ = some (.int .i64 0) := HR6.out.cell 2
          have rw3 : (set3 w5 zb (.slice A2 S'.inodes.length cap2) (.slice OA2 S'.opens.length ocap2) (.slice MA2 S'.made.length mcap2)).cell? ⟨rb, 3, none⟩ = some (.bool false) := HR6.out.cell 3
          have rw4 : (set3 w5 zb (.slice A2 S'.inodes.length cap2) (.slice OA2 S'.opens.length ocap2) (.slice MA2 S'.made.length mcap2)).cell? ⟨rb, 4, none⟩ = some (.string ⟨#[]⟩) := HR6.out.cell 4
          have rw5 : (set3 w5 zb (.slice A2 S'.inodes.length cap2) (.slice OA2 S'.opens.length ocap2) (.slice MA2 S'.made.length mcap2)).cell? ⟨rb, 5, none⟩ = some (.slice none 0 0) := HR6.out.cell 5
          have lw0 := HR6.out.frozen 0
          have lw1 := HR6.out.frozen 1
          have lw2 := HR6.out.frozen 2
          have lw3 := HR6.out.frozen 3
          have lw4 := HR6.out.frozen 4
          have lw5 := HR6.out.frozen 5
          refine wpAnyH_ready (rs := [3]) (by kernel_rfl) (by simp) ?_
          refine AllReadyH.cons rfl (fun K hK => ?_) AllReadyH.nil
          go_simp
          show K _ (setR (set3 w5 zb (.slice A2 S'.inodes.length cap2) (.slice OA2 S'.opens.length ocap2) (.slice MA2 S'.made.length mcap2)) rb (.int .i64 0) (.int .i64 fd) (.int .i64 num) (.bool dr) (.string dat) (.slice nA nl nc)).drew
          refine hK.out _ _ (h2) (fun hHeld => ?_)
          clear hK K
          refine wpAnyH_ready (rs := [4]) (by kernel_rfl) (by simp) ?_
          refine AllReadyH.cons rfl (fun K hK => ?_) AllReadyH.nil
          go_simp
          show K _ (setR (set3 w5 zb (.slice A2 S'.inodes.length cap2) (.slice OA2 S'.opens.length ocap2) (.slice MA2 S'.made.length mcap2)) rb (.int .i64 0) (.int .i64 fd) (.int .i64 num) (.bool dr) (.string dat) (.slice nA nl nc)).drew
          refine hK.out _ _ (h2) (fun hHeld => ?_)
          clear hK K
          refine wpAnyH_done (by kernel_rfl) ?_ _
          have HZB := Lib.hid (show Blk (setR (set3 w5 zb (.slice A2 S'.inodes.length cap2) (.slice OA2 S'.opens.length ocap2) (.slice MA2 S'.made.length mcap2)) rb (.int .i64 0) (.int .i64 fd) (.int .i64 num) (.bool dr) (.string dat) (.slice nA nl nc)).drew zb 26 #[.slice A2 S'.inodes.length cap2, .slice OA2 S'.opens.length ocap2, .slice MA2 S'.made.length mcap2] from blk_drew (blk_far6 (blk_set3 HF5.out.zB _ _ _) hzr _ _ _ _ _ _))
          have HRB := Lib.hid (show Blk (setR (set3 w5 zb (.slice A2 S'.inodes.length cap2) (.slice OA2 S'.opens.length ocap2) (.slice MA2 S'.made.length mcap2)) rb (.int .i64 0) (.int .i64 fd) (.int .i64 num) (.bool dr) (.string dat) (.slice nA nl nc)).drew rb 47 #[.int .i64 0, .int .i64 fd, .int .i64 num, .bool dr, .string dat, .slice nA nl nc] from blk_drew (blk_set6 (blk_far3 HF5.out.rB hrz _ _ _) _ _ _ _ _ _))
          have HVV := Lib.hid (show StV (setR (set3 w5 zb (.slice A2 S'.inodes.length cap2) (.slice OA2 S'.opens.length ocap2) (.slice MA2 S'.made.length mcap2)) rb (.int .i64 0) (.int .i64 fd) (.int .i64 num) (.bool dr) (.string dat) (.slice nA nl nc)).drew w.heap.size (.slice A2 S'.inodes.length cap2) (.slice OA2 S'.opens.length ocap2) (.slice MA2 S'.made.length mcap2) ev' S' from (((HT'.out.row.set3 HF5.out.zB _ _ _).set6 (blk_far3 HF5.out.rB hrz _ _ _) _ _ _ _ _ _).below (below_drew1 _)).base_le (by rw [HBS.out]; exact hw1))
          have HBB := Lib.hid (show Below w.heap.size w (setR (set3 w5 zb (.slice A2 S'.inodes.length cap2) (.slice OA2 S'.opens.length ocap2) (.slice MA2 S'.made.length mcap2)) rb (.int .i64 0) (.int .i64 fd) (.int .i64 num) (.bool dr) (.string dat) (.slice nA nl nc)).drew from (below6 (below3 HBW.out hz0 _ _ _) hr0 _ _ _ _ _ _).trans ((below_drew1 _).mono (by rw [setR_sz, set3_sz]; exact hw5)))
          clear rw0 rw1 rw2 rw3 rw4 rw5 lw0 lw1 lw2 lw3 lw4 lw5 h1 h2 hHeld z0 z1 z2 lz0 lz1 lz2 r0 r1 r2 r3 r4 r5 l0 l1 l2 l3 l4 l5
          generalize (setR (set3 w5 zb (.slice A2 S'.inodes.length cap2) (.slice OA2 S'.opens.length ocap2) (.slice MA2 S'.made.length mcap2)) rb (.int .i64 0) (.int .i64 fd) (.int .i64 num) (.bool dr) (.string dat) (.slice nA nl nc)).drew = wz at *
          have z0 : wz.cell? ⟨zb, 0, none⟩ = some (.slice A2 S'.inodes.length cap2) := HZB.out.cell 0
          have z1 : wz.cell? ⟨zb, 1, none⟩ = some (.slice OA2 S'.opens.length ocap2) := HZB.out.cell 1
          have z2 : wz.cell? ⟨zb, 2, none⟩ = some (.slice MA2 S'.made.length mcap2) := HZB.out.cell 2
          have r0 : wz.cell? ⟨rb, 0, none⟩ = some (.int .i64 0) := HRB.out.cell 0
          have r1 : wz.cell? ⟨rb, 1, none⟩ = some (.int .i64 fd) := HRB.out.cell 1
          have r2 : wz.cell? ⟨rb, 2, none⟩ = some (.int .i64 num) := HRB.out.cell 2
          have r3 : wz.cell? ⟨rb, 3, none⟩ = some (.bool dr) := HRB.out.cell 3
          have r4 : wz.cell? ⟨rb, 4, none⟩ = some (.string dat) := HRB.out.cell 4
          have r5 : wz.cell? ⟨rb, 5, none⟩ = some (.slice nA nl nc) := HRB.out.cell 5
          go_wp2_with (fail)
          refine bodyPost_ret (v := .tuple #[.agg #[.slice A2 S'.inodes.length cap2, .slice OA2 S'.opens.length ocap2, .slice MA2 S'.made.length mcap2], .agg #[.int .i64 0, .int .i64 fd, .int .i64 num, .bool dr, .string dat, .slice nA nl nc], .bool true]) ?_ rfl ⟨_, _, _, ev', S', _, _, _, _, _, _, _, _, _, rfl, HI'.out, HVV.out, HBB.out⟩
          simp [results, Try.results65, go_sem, z0, z1, z2, r0, r1, r2, r3, r4, r5]
        · have hb0 : (code != 0 || !bv) = true := by
            rcases bool_tf bv with rfl | rfl
            · have : code ≠ 0 := fun e => hgood ⟨e, rfl⟩
              simp [this]
            · simp
          have HCP := Lib.hid (Copy_calls (HF5.out.below (below_drew1 w5)).stm HI.out.small)
          by_cases hc0 : code = 0
          · have hbv : bv = false := by
              rcases bool_tf bv with rfl | rfl
              · exact absurd ⟨hc0, rfl⟩ hgood
              · rfl
            subst hc0 hbv
            clear hgood hb0
            go_upto_region 30 with (fail)
            refine wp_region_held_drew (S := fun w' => Blk w' sb 26 #[.slice A n cap, .slice OA no ocap, .slice MA nm_ mcap] ∧ Blk w' xb 47 #[.int .i64 0, .int .i64 fd, .int .i64 num, .bool dr, .string dat, .slice nA nl nc]) (by kernel_rfl) (⟨HF5.out.sB.below (below_drew1 w5), HX5.out.below (below_drew1 w5)⟩) (fun hHeld => ?_)
            refine wpAnyH_take (i := 0) (oi := ⟨some 93, _, _, _, _, _⟩) (v := .agg #[.slice A n cap, .slice OA no ocap, .slice MA nm_ mcap]) rfl (by kernel_rfl) (by kernel_rfl) (by kernel_rfl) (fun _ _ _ h => h) (Or.inl ⟨by kernel_rfl, fun w hSw => by have a0 := hSw.1.cell 0; have a1 := hSw.1.cell 1; have a2 := hSw.1.cell 2; go_simp⟩) (by assumption) ?_
            simp only [Act.put, lTA, lC0, lCS]
            refine wpAnyH_take (i := 2) (oi := ⟨some 95, _, _, _, _, _⟩) (v := .agg #[.int .i64 0, .int .i64 fd, .int .i64 num, .bool dr, .string dat, .slice nA nl nc]) rfl (by kernel_rfl) (by kernel_rfl) (by kernel_rfl) (fun _ _ _ h => h) (Or.inl ⟨by kernel_rfl, fun w hSw => by have a0 := hSw.2.cell 0; have a1 := hSw.2.cell 1; have a2 := hSw.2.cell 2; have a3 := hSw.2.cell 3; have a4 := hSw.2.cell 4; have a5 := hSw.2.cell 5; go_simp⟩) (by assumption) ?_
            simp only [Act.put, lTA, lC0, lCS]
            refine wpAnyH_take (i := 3) (oi := ⟨some 96, _, _, _, _, _⟩) (v := .bool false) rfl (by kernel_rfl) (by kernel_rfl) (by kernel_rfl) (fun _ _ _ h => h) (Or.inl ⟨by kernel_rfl, fun w hSw => by go_simp⟩) (by assumption) ?_
            simp only [Act.put, lTA, lC0, lCS]
            refine wpAnyH_ready (rs := [1]) (by kernel_rfl) (by simp) ?_
            refine AllReadyH.cons rfl (fun K hK => ?_) AllReadyH.nil
            go_simp
            refine HCP.out.mono ?_
            rintro e w6 ⟨iv2, ov2, mv2, ev2, rfl, hV, hB⟩
            obtain ⟨A2, cap2, rfl⟩ := hV.ino.at'.form
            obtain ⟨OA2, ocap2, rfl⟩ := hV.opn.at'.form
            obtain ⟨MA2, mcap2, rfl⟩ := hV.mad.at'.form
            have HV6 := Lib.hid hV
            have HB6 := Lib.hid ((below_drew1 w5).trans (show Below w5.heap.size w5.drew w6 from hB))
            have HF6 := Lib.hid (HF5.out.below HB6.out)
            have HX6 := Lib.hid (HX5.out.below HB6.out)
            clear hV hB
            show K _ w6
            refine hK.out _ _ (⟨HF6.out.sB, HX6.out⟩) (fun hHeld => ?_)
            clear hK K
            have z0 : w6.cell? ⟨zb, 0, none⟩ = some (.slice none 0 0) := HF6.out.zB.cell 0
            have z1 : w6.cell? ⟨zb, 1, none⟩ = some (.slice none 0 0) := HF6.out.zB.cell 1
            have z2 : w6.cell? ⟨zb, 2, none⟩ = some (.slice none 0 0) := HF6.out.zB.cell 2
            have lz0 := HF6.out.zB.frozen 0
            have lz1 := HF6.out.zB.frozen 1
            have lz2 := HF6.out.zB.frozen 2
            have r0 : w6.cell? ⟨rb, 0, none⟩ = some (.int .i64 0) := HF6.out.rB.cell 0
            have r1 : w6.cell? ⟨rb, 1, none⟩ = some (.int .i64 0) := HF6.out.rB.cell 1
            have r2 : w6.cell? ⟨rb, 2, none⟩ = some (.int .i64 0) := HF6.out.rB.cell 2
            have r3 : w6.cell? ⟨rb, 3, none⟩ = some (.bool false) := HF6.out.rB.cell 3
            have r4 : w6.cell? ⟨rb, 4, none⟩ = some (.string ⟨#[]⟩) := HF6.out.rB.cell 4
            have r5 : w6.cell? ⟨rb, 5, none⟩ = some (.slice none 0 0) := HF6.out.rB.cell 5
            have l0 := HF6.out.rB.frozen 0
            have l1 := HF6.out.rB.frozen 1
            have l2 := HF6.out.rB.frozen 2
            have l3 := HF6.out.rB.frozen 3
            have l4 := HF6.out.rB.frozen 4
            have l5 := HF6.out.rB.frozen 5
            have h1 : Blk (set3 w6 zb (.slice A2 S.inodes.length cap2) (.slice OA2 S.opens.length ocap2) (.slice MA2 S.made.length mcap2)) sb 26 #[.slice A n cap, .slice OA no ocap, .slice MA nm_ mcap] ∧ Blk (set3 w6 zb (.slice A2 S.inodes.length cap2) (.slice OA2 S.opens.length ocap2) (.slice MA2 S.made.length mcap2)) xb 47 #[.int .i64 0, .int .i64 fd, .int .i64 num, .bool dr, .string dat, .slice nA nl nc] := ⟨blk_far3 HF6.out.sB HF6.out.ne _ _ _, blk_far3 HX6.out hxz _ _ _⟩
            have h2 : Blk (setR (set3 w6 zb (.slice A2 S.inodes.length cap2) (.slice OA2 S.opens.length ocap2) (.slice MA2 S.made.length mcap2)) rb (.int .i64 0) (.int .i64 fd) (.int .i64 num) (.bool dr) (.string dat) (.slice nA nl nc)) sb 26 #[.slice A n cap, .slice OA no ocap, .slice MA nm_ mcap] ∧ Blk (setR (set3 w6 zb (.slice A2 S.inodes.length cap2) (.slice OA2 S.opens.length ocap2) (.slice MA2 S.made.length mcap2)) rb (.int .i64 0) (.int .i64 fd) (.int .i64 num) (.bool dr) (.string dat) (.slice nA nl nc)) xb 47 #[.int .i64 0, .int .i64 fd, .int .i64 num, .bool dr, .string dat, .slice nA nl nc] := ⟨blk_far6 (blk_far3 HF6.out.sB HF6.out.ne _ _ _) hsr _ _ _ _ _ _, blk_far6 (blk_far3 HX6.out hxz _ _ _) hxr _ _ _ _ _ _⟩
            refine wpAnyH_ready (rs := [4]) (by kernel_rfl) (by simp) ?_
            refine AllReadyH.cons rfl (fun K hK => ?_) AllReadyH.nil
            go_simp
            show K _ (set3 w6 zb (.slice A2 S.inodes.length cap2) (.slice OA2 S.opens.length ocap2) (.slice MA2 S.made.length mcap2))
            refine hK.out _ _ (h1) (fun hHeld => ?_)
            clear hK K
            have HR6 := Lib.hid (blk_far3 HF6.out.rB hrz (.slice A2 S.inodes.length cap2) (.slice OA2 S.opens.length ocap2) (.slice MA2 S.made.length mcap2))
            have rw0 : (set3 w6 zb (.slice A2 S.inodes.length cap2) (.slice OA2 S.opens.length ocap2) (.slice MA2 S.made.length mcap2)).cell? ⟨rb, 0, none⟩ = some (.int .i64 0) := HR6.out.cell 0
            have rw1 : (set3 w6 zb (.slice A2 S.inodes.length cap2) (.slice OA2 S.opens.length ocap2) (.slice MA2 S.made.length mcap2)).cell? ⟨rb, 1, none⟩ = some (.int .i64 0) := HR6.out.cell 1
            have rw2 : (set3 w6 zb (.slice A2 S.inodes.length cap2) (.slice OA2 S.opens.length ocap2) (.slice MA2 S.made.length mcap2)).cell? ⟨rb, 2, none⟩ = some (.int .i64 0) := HR6.out.cell 2
            have rw3 : (set3 w6 zb (.slice A2 S.inodes.length cap2) (.slice OA2 S.opens.length ocap2) (.slice MA2 S.made.length mcap2)).cell? ⟨rb, 3, none⟩ = some (.bool false) := HR6.out.cell 3
            have rw4 : (set3 w6 zb (.slice A2 S.inodes.length cap2) (.slice OA2 S.opens.length ocap2) (.slice MA2 S.made.length mcap2)).cell? ⟨rb, 4, none⟩ = some (.string ⟨#[]⟩) := HR6.out.cell 4
            have rw5 : (set3 w6 zb (.slice A2 S.inodes.length cap2) (.slice OA2 S.opens.length ocap2) (.slice MA2 S.made.length mcap2)).cell? ⟨rb, 5, none⟩ = some (.slice none 0 0) := HR6.out.cell 5
            have lw0 := HR6.out.frozen 0
            have lw1 := HR6.out.frozen 1
            have lw2 := HR6.out.frozen 2
            have lw3 := HR6.out.frozen 3
            have lw4 := HR6.out.frozen 4
            have lw5 := HR6.out.frozen 5
            refine wpAnyH_ready (rs := [5]) (by kernel_rfl) (by simp) ?_
            refine AllReadyH.cons rfl (fun K hK => ?_) AllReadyH.nil
            go_simp
            show K _ (setR (set3 w6 zb (.slice A2 S.inodes.length cap2) (.slice OA2 S.opens.length ocap2) (.slice MA2 S.made.length mcap2)) rb (.int .i64 0) (.int .i64 fd) (.int .i64 num) (.bool dr) (.string dat) (.slice nA nl nc))
            refine hK.out _ _ (h2) (fun hHeld => ?_)
            clear hK K
            refine wpAnyH_ready (rs := [6]) (by kernel_rfl) (by simp) ?_
            refine AllReadyH.cons rfl (fun K hK => ?_) AllReadyH.nil
            go_simp
            show K _ (setR (set3 w6 zb (.slice A2 S.inodes.length cap2) (.slice OA2 S.opens.length ocap2) (.slice MA2 S.made.length mcap2)) rb (.int .i64 0) (.int .i64 fd) (.int .i64 num) (.bool dr) (.string dat) (.slice nA nl nc))
            refine hK.out _ _ (h2) (fun hHeld => ?_)
            clear hK K
            refine wpAnyH_done (by kernel_rfl) ?_ _
            have HZB := Lib.hid (show Blk (setR (set3 w6 zb (.slice A2 S.inodes.length cap2) (.slice OA2 S.opens.length ocap2) (.slice MA2 S.made.length mcap2)) rb (.int .i64 0) (.int .i64 fd) (.int .i64 num) (.bool dr) (.string dat) (.slice nA nl nc)) zb 26 #[.slice A2 S.inodes.length cap2, .slice OA2 S.opens.length ocap2, .slice MA2 S.made.length mcap2] from blk_far6 (blk_set3 HF6.out.zB _ _ _) hzr _ _ _ _ _ _)
            have HRB := Lib.hid (show Blk (setR (set3 w6 zb (.slice A2 S.inodes.length cap2) (.slice OA2 S.opens.length ocap2) (.slice MA2 S.made.length mcap2)) rb (.int .i64 0) (.int .i64 fd) (.int .i64 num) (.bool dr) (.string dat) (.slice nA nl nc)) rb 47 #[.int .i64 0, .int .i64 fd, .int .i64 num, .bool dr, .string dat, .slice nA nl nc] from blk_set6 (blk_far3 HF6.out.rB hrz _ _ _) _ _ _ _ _ _)
            have HVV := Lib.hid (show StV (setR (set3 w6 zb (.slice A2 S.inodes.length cap2) (.slice OA2 S.opens.length ocap2) (.slice MA2 S.made.length mcap2)) rb (.int .i64 0) (.int .i64 fd) (.int .i64 num) (.bool dr) (.string dat) (.slice nA nl nc)) w.heap.size (.slice A2 S.inodes.length cap2) (.slice OA2 S.opens.length ocap2) (.slice MA2 S.made.length mcap2) ev2 S from ((HV6.out.set3 HF6.out.zB _ _ _).set6 (blk_far3 HF6.out.rB hrz _ _ _) _ _ _ _ _ _).base_le hw5)
            have HBB := Lib.hid (show Below w.heap.size w (setR (set3 w6 zb (.slice A2 S.inodes.length cap2) (.slice OA2 S.opens.length ocap2) (.slice MA2 S.made.length mcap2)) rb (.int .i64 0) (.int .i64 fd) (.int .i64 num) (.bool dr) (.string dat) (.slice nA nl nc)) from below6 (below3 (HBW.out.trans (HB6.out.mono hw5)) hz0 _ _ _) hr0 _ _ _ _ _ _)
            clear rw0 rw1 rw2 rw3 rw4 rw5 lw0 lw1 lw2 lw3 lw4 lw5 h1 h2 hHeld z0 z1 z2 lz0 lz1 lz2 r0 r1 r2 r3 r4 r5 l0 l1 l2 l3 l4 l5
            generalize (setR (set3 w6 zb (.slice A2 S.inodes.length cap2) (.slice OA2 S.opens.length ocap2) (.slice MA2 S.made.length mcap2)) rb (.int .i64 0) (.int .i64 fd) (.int .i64 num) (.bool dr) (.string dat) (.slice nA nl nc)) = wz at *
            have z0 : wz.cell? ⟨zb, 0, none⟩ = some (.slice A2 S.inodes.length cap2) := HZB.out.cell 0
            have z1 : wz.cell? ⟨zb, 1, none⟩ = some (.slice OA2 S.opens.length ocap2) := HZB.out.cell 1
            have z2 : wz.cell? ⟨zb, 2, none⟩ = some (.slice MA2 S.made.length mcap2) := HZB.out.cell 2
            have r0 : wz.cell? ⟨rb, 0, none⟩ = some (.int .i64 0) := HRB.out.cell 0
            have r1 : wz.cell? ⟨rb, 1, none⟩ = some (.int .i64 fd) := HRB.out.cell 1
            have r2 : wz.cell? ⟨rb, 2, none⟩ = some (.int .i64 num) := HRB.out.cell 2
            have r3 : wz.cell? ⟨rb, 3, none⟩ = some (.bool dr) := HRB.out.cell 3
            have r4 : wz.cell? ⟨rb, 4, none⟩ = some (.string dat) := HRB.out.cell 4
            have r5 : wz.cell? ⟨rb, 5, none⟩ = some (.slice nA nl nc) := HRB.out.cell 5
            go_wp2_with (fail)
            refine bodyPost_ret (v := .tuple #[.agg #[.slice A2 S.inodes.length cap2, .slice OA2 S.opens.length ocap2, .slice MA2 S.made.length mcap2], .agg #[.int .i64 0, .int .i64 fd, .int .i64 num, .bool dr, .string dat, .slice nA nl nc], .bool false]) ?_ rfl ⟨_, _, _, ev2, S, _, _, _, _, _, _, _, _, _, rfl, HI.out, HVV.out, HBB.out⟩
            simp [results, Try.results65, go_sem, z0, z1, z2, r0, r1, r2, r3, r4, r5]
          · have hc1 : (code != 0) = true := by simpa using hc0
            clear hgood hb0
            go_upto_region 30 with (fail)
            refine wp_region_held_drew (S := fun w' => Blk w' sb 26 #[.slice A n cap, .slice OA no ocap, .slice MA nm_ mcap] ∧ Blk w' xb 47 #[.int .i64 code, .int .i64 fd, .int .i64 num, .bool dr, .string dat, .slice nA nl nc]) (by kernel_rfl) (⟨HF5.out.sB.below (below_drew1 w5), HX5.out.below (below_drew1 w5)⟩) (fun hHeld => ?_)
            refine wpAnyH_take (i := 0) (oi := ⟨some 93, _, _, _, _, _⟩) (v := .agg #[.slice A n cap, .slice OA no ocap, .slice MA nm_ mcap]) rfl (by kernel_rfl) (by kernel_rfl) (by kernel_rfl) (fun _ _ _ h => h) (Or.inl ⟨by kernel_rfl, fun w hSw => by have a0 := hSw.1.cell 0; have a1 := hSw.1.cell 1; have a2 := hSw.1.cell 2; go_simp⟩) (by assumption) ?_
            simp only [Act.put, lTA, lC0, lCS]
            refine wpAnyH_take (i := 2) (oi := ⟨some 95, _, _, _, _, _⟩) (v := .agg #[.int .i64 code, .int .i64 fd, .int .i64 num, .bool dr, .string dat, .slice nA nl nc]) rfl (by kernel_rfl) (by kernel_rfl) (by kernel_rfl) (fun _ _ _ h => h) (Or.inl ⟨by kernel_rfl, fun w hSw => by have a0 := hSw.2.cell 0; have a1 := hSw.2.cell 1; have a2 := hSw.2.cell 2; have a3 := hSw.2.cell 3; have a4 := hSw.2.cell 4; have a5 := hSw.2.cell 5; go_simp⟩) (by assumption) ?_
            simp only [Act.put, lTA, lC0, lCS]
            refine wpAnyH_take (i := 3) (oi := ⟨some 96, _, _, _, _, _⟩) (v := .bool bv) rfl (by kernel_rfl) (by kernel_rfl) (by kernel_rfl) (fun _ _ _ h => h) (Or.inl ⟨by kernel_rfl, fun w hSw => by go_simp⟩) (by assumption) ?_
            simp only [Act.put, lTA, lC0, lCS]
            refine wpAnyH_ready (rs := [1]) (by kernel_rfl) (by simp) ?_
            refine AllReadyH.cons rfl (fun K hK => ?_) AllReadyH.nil
            go_simp
            refine HCP.out.mono ?_
            rintro e w6 ⟨iv2, ov2, mv2, ev2, rfl, hV, hB⟩
            obtain ⟨A2, cap2, rfl⟩ := hV.ino.at'.form
            obtain ⟨OA2, ocap2, rfl⟩ := hV.opn.at'.form
            obtain ⟨MA2, mcap2, rfl⟩ := hV.mad.at'.form
            have HV6 := Lib.hid hV
            have HB6 := Lib.hid ((below_drew1 w5).trans (show Below w5.heap.size w5.drew w6 from hB))
            have HF6 := Lib.hid (HF5.out.below HB6.out)
            have HX6 := Lib.hid (HX5.out.below HB6.out)
            clear hV hB
            show K _ w6
            refine hK.out _ _ (⟨HF6.out.sB, HX6.out⟩) (fun hHeld => ?_)
            clear hK K
            have z0 : w6.cell? ⟨zb, 0, none⟩ = some (.slice none 0 0) := HF6.out.zB.cell 0
            have z1 : w6.cell? ⟨zb, 1, none⟩ = some (.slice none 0 0) := HF6.out.zB.cell 1
            have z2 : w6.cell? ⟨zb, 2, none⟩ = some (.slice none 0 0) := HF6.out.zB.cell 2
            have lz0 := HF6.out.zB.frozen 0
            have lz1 := HF6.out.zB.frozen 1
            have lz2 := HF6.out.zB.frozen 2
            have r0 : w6.cell? ⟨rb, 0, none⟩ = some (.int .i64 0) := HF6.out.rB.cell 0
            have r1 : w6.cell? ⟨rb, 1, none⟩ = some (.int .i64 0) := HF6.out.rB.cell 1
            have r2 : w6.cell? ⟨rb, 2, none⟩ = some (.int .i64 0) := HF6.out.rB.cell 2
            have r3 : w6.cell? ⟨rb, 3, none⟩ = some (.bool false) := HF6.out.rB.cell 3
            have r4 : w6.cell? ⟨rb, 4, none⟩ = some (.string ⟨#[]⟩) := HF6.out.rB.cell 4
            have r5 : w6.cell? ⟨rb, 5, none⟩ = some (.slice none 0 0) := HF6.out.rB.cell 5
            have l0 := HF6.out.rB.frozen 0
            have l1 := HF6.out.rB.frozen 1
            have l2 := HF6.out.rB.frozen 2
            have l3 := HF6.out.rB.frozen 3
            have l4 := HF6.out.rB.frozen 4
            have l5 := HF6.out.rB.frozen 5
            have h1 : Blk (set3 w6 zb (.slice A2 S.inodes.length cap2) (.slice OA2 S.opens.length ocap2) (.slice MA2 S.made.length mcap2)) sb 26 #[.slice A n cap, .slice OA no ocap, .slice MA nm_ mcap] ∧ Blk (set3 w6 zb (.slice A2 S.inodes.length cap2) (.slice OA2 S.opens.length ocap2) (.slice MA2 S.made.length mcap2)) xb 47 #[.int .i64 code, .int .i64 fd, .int .i64 num, .bool dr, .string dat, .slice nA nl nc] := ⟨blk_far3 HF6.out.sB HF6.out.ne _ _ _, blk_far3 HX6.out hxz _ _ _⟩
            have h2 : Blk (setR (set3 w6 zb (.slice A2 S.inodes.length cap2) (.slice OA2 S.opens.length ocap2) (.slice MA2 S.made.length mcap2)) rb (.int .i64 code) (.int .i64 fd) (.int .i64 num) (.bool dr) (.string dat) (.slice nA nl nc)) sb 26 #[.slice A n cap, .slice OA no ocap, .slice MA nm_ mcap] ∧ Blk (setR (set3 w6 zb (.slice A2 S.inodes.length cap2) (.slice OA2 S.opens.length ocap2) (.slice MA2 S.made.length mcap2)) rb (.int .i64 code) (.int .i64 fd) (.int .i64 num) (.bool dr) (.string dat) (.slice nA nl nc)) xb 47 #[.int .i64 code, .int .i64 fd, .int .i64 num, .bool dr, .string dat, .slice nA nl nc] := ⟨blk_far6 (blk_far3 HF6.out.sB HF6.out.ne _ _ _) hsr _ _ _ _ _ _, blk_far6 (blk_far3 HX6.out hxz _ _ _) hxr _ _ _ _ _ _⟩
            refine wpAnyH_ready (rs := [4]) (by kernel_rfl) (by simp) ?_
            refine AllReadyH.cons rfl (fun K hK => ?_) AllReadyH.nil
            go_simp
            show K _ (set3 w6 zb (.slice A2 S.inodes.length cap2) (.slice OA2 S.opens.length ocap2) (.slice MA2 S.made.length mcap2))
            refine hK.out _ _ (h1) (fun hHeld => ?_)
            clear hK K
            have HR6 := Lib.hid (blk_far3 HF6.out.rB hrz (.slice A2 S.inodes.length cap2) (.slice OA2 S.opens.length ocap2) (.slice MA2 S.made.length mcap2))
            have rw0 : (set3 w6 zb (.slice A2 S.inodes.length cap2) (.slice OA2 S.opens.length ocap2) (.slice MA2 S.made.length mcap2)).cell? ⟨rb, 0, none⟩ = some (.int .i64 0) := HR6.out.cell 0
            have rw1 : (set3 w6 zb (.slice A2 S.inodes.length cap2) (.slice OA2 S.opens.length ocap2) (.slice MA2 S.made.length mcap2)).cell? ⟨rb, 1, none⟩ = some (.int .i64 0) := HR6.out.cell 1
            have rw2 : (set3 w6 zb (.slice A2 S.inodes.length cap2) (.slice OA2 S.opens.length ocap2) (.slice MA2 S.made.length mcap2)).cell? ⟨rb, 2, none⟩ = some (.int .i64 0) := HR6.out.cell 2
            have rw3 : (set3 w6 zb (.slice A2 S.inodes.length cap2) (.slice OA2 S.opens.length ocap2) (.slice MA2 S.made.length mcap2)).cell? ⟨rb, 3, none⟩ = some (.bool false) := HR6.out.cell 3
            have rw4 : (set3 w6 zb (.slice A2 S.inodes.length cap2) (.slice OA2 S.opens.length ocap2) (.slice MA2 S.made.length mcap2)).cell? ⟨rb, 4, none⟩ = some (.string ⟨#[]⟩) := HR6.out.cell 4
            have rw5 : (set3 w6 zb (.slice A2 S.inodes.length cap2) (.slice OA2 S.opens.length ocap2) (.slice MA2 S.made.length mcap2)).cell? ⟨rb, 5, none⟩ = some (.slice none 0 0) := HR6.out.cell 5
            have lw0 := HR6.out.frozen 0
            have lw1 := HR6.out.frozen 1
            have lw2 := HR6.out.frozen 2
            have lw3 := HR6.out.frozen 3
            have lw4 := HR6.out.frozen 4
            have lw5 := HR6.out.frozen 5
            refine wpAnyH_ready (rs := [5]) (by kernel_rfl) (by simp) ?_
            refine AllReadyH.cons rfl (fun K hK => ?_) AllReadyH.nil
            go_simp
            show K _ (setR (set3 w6 zb (.slice A2 S.inodes.length cap2) (.slice OA2 S.opens.length ocap2) (.slice MA2 S.made.length mcap2)) rb (.int .i64 code) (.int .i64 fd) (.int .i64 num) (.bool dr) (.string dat) (.slice nA nl nc))
            refine hK.out _ _ (h2) (fun hHeld => ?_)
            clear hK K
            refine wpAnyH_ready (rs := [6]) (by kernel_rfl) (by simp) ?_
            refine AllReadyH.cons rfl (fun K hK => ?_) AllReadyH.nil
            go_simp
            show K _ (setR (set3 w6 zb (.slice A2 S.inodes.length cap2) (.slice OA2 S.opens.length ocap2) (.slice MA2 S.made.length mcap2)) rb (.int .i64 code) (.int .i64 fd) (.int .i64 num) (.bool dr) (.string dat) (.slice nA nl nc))
            refine hK.out _ _ (h2) (fun hHeld => ?_)
            clear hK K
            refine wpAnyH_done (by kernel_rfl) ?_ _
            have HZB := Lib.hid (show Blk (setR (set3 w6 zb (.slice A2 S.inodes.length cap2) (.slice OA2 S.opens.length ocap2) (.slice MA2 S.made.length mcap2)) rb (.int .i64 code) (.int .i64 fd) (.int .i64 num) (.bool dr) (.string dat) (.slice nA nl nc)) zb 26 #[.slice A2 S.inodes.length cap2, .slice OA2 S.opens.length ocap2, .slice MA2 S.made.length mcap2] from blk_far6 (blk_set3 HF6.out.zB _ _ _) hzr _ _ _ _ _ _)
            have HRB := Lib.hid (show Blk (setR (set3 w6 zb (.slice A2 S.inodes.length cap2) (.slice OA2 S.opens.length ocap2) (.slice MA2 S.made.length mcap2)) rb (.int .i64 code) (.int .i64 fd) (.int .i64 num) (.bool dr) (.string dat) (.slice nA nl nc)) rb 47 #[.int .i64 code, .int .i64 fd, .int .i64 num, .bool dr, .string dat, .slice nA nl nc] from blk_set6 (blk_far3 HF6.out.rB hrz _ _ _) _ _ _ _ _ _)
            have HVV := Lib.hid (show StV (setR (set3 w6 zb (.slice A2 S.inodes.length cap2) (.slice OA2 S.opens.length ocap2) (.slice MA2 S.made.length mcap2)) rb (.int .i64 code) (.int .i64 fd) (.int .i64 num) (.bool dr) (.string dat) (.slice nA nl nc)) w.heap.size (.slice A2 S.inodes.length cap2) (.slice OA2 S.opens.length ocap2) (.slice MA2 S.made.length mcap2) ev2 S from ((HV6.out.set3 HF6.out.zB _ _ _).set6 (blk_far3 HF6.out.rB hrz _ _ _) _ _ _ _ _ _).base_le hw5)
            have HBB := Lib.hid (show Below w.heap.size w (setR (set3 w6 zb (.slice A2 S.inodes.length cap2) (.slice OA2 S.opens.length ocap2) (.slice MA2 S.made.length mcap2)) rb (.int .i64 code) (.int .i64 fd) (.int .i64 num) (.bool dr) (.string dat) (.slice nA nl nc)) from below6 (below3 (HBW.out.trans (HB6.out.mono hw5)) hz0 _ _ _) hr0 _ _ _ _ _ _)
            clear rw0 rw1 rw2 rw3 rw4 rw5 lw0 lw1 lw2 lw3 lw4 lw5 h1 h2 hHeld z0 z1 z2 lz0 lz1 lz2 r0 r1 r2 r3 r4 r5 l0 l1 l2 l3 l4 l5
            generalize (setR (set3 w6 zb (.slice A2 S.inodes.length cap2) (.slice OA2 S.opens.length ocap2) (.slice MA2 S.made.length mcap2)) rb (.int .i64 code) (.int .i64 fd) (.int .i64 num) (.bool dr) (.string dat) (.slice nA nl nc)) = wz at *
            have z0 : wz.cell? ⟨zb, 0, none⟩ = some (.slice A2 S.inodes.length cap2) := HZB.out.cell 0
            have z1 : wz.cell? ⟨zb, 1, none⟩ = some (.slice OA2 S.opens.length ocap2) := HZB.out.cell 1
            have z2 : wz.cell? ⟨zb, 2, none⟩ = some (.slice MA2 S.made.length mcap2) := HZB.out.cell 2
            have r0 : wz.cell? ⟨rb, 0, none⟩ = some (.int .i64 code) := HRB.out.cell 0
            have r1 : wz.cell? ⟨rb, 1, none⟩ = some (.int .i64 fd) := HRB.out.cell 1
            have r2 : wz.cell? ⟨rb, 2, none⟩ = some (.int .i64 num) := HRB.out.cell 2
            have r3 : wz.cell? ⟨rb, 3, none⟩ = some (.bool dr) := HRB.out.cell 3
            have r4 : wz.cell? ⟨rb, 4, none⟩ = some (.string dat) := HRB.out.cell 4
            have r5 : wz.cell? ⟨rb, 5, none⟩ = some (.slice nA nl nc) := HRB.out.cell 5
            go_wp2_with (fail)
            refine bodyPost_ret (v := .tuple #[.agg #[.slice A2 S.inodes.length cap2, .slice OA2 S.opens.length ocap2, .slice MA2 S.made.length mcap2], .agg #[.int .i64 code, .int .i64 fd, .int .i64 num, .bool dr, .string dat, .slice nA nl nc], .bool bv]) ?_ rfl ⟨_, _, _, ev2, S, _, _, _, _, _, _, _, _, _, rfl, HI.out, HVV.out, HBB.out⟩
            simp [results, Try.results65, go_sem, z0, z1, z2, r0, r1, r2, r3, r4, r5]
end Go.Proofs.Ytenlffhoinialaa
