
/- law7: RadixActs. -/
import Derived.Test.YtacjpchcaknacaaRadGen
import Derived.Test.YtacjpchcaknacaaActs
import Derived.Deep.DeepCutAuto
namespace Go.Proofs.Ytacjpchcaknacaa
open Go.RowKit
set_option maxHeartbeats 2000000

def noVs : Obj := .cells (vsArr fun _ => 0) 3
theorem RadS.laid {L : Nat → Prop} {w : World} {x a m : Nat} {f : Int} {g : Int → Int} (h : RadS L w x a f m g) (o : Obj) : RadS (ins L w.heap.size) (w.alloc o) x a f m g := by
  obtain ⟨hx, hg, ws, hr, hP⟩ := h
  exact ⟨⟨ins.old hx.1, hx.2.alloc _⟩, hg, ws, hr, hP.allocIns _⟩
theorem RadS.sub {L L' : Nat → Prop} {w : World} {x a m : Nat} {f : Int} {g : Int → Int} (h : RadS L w x a f m g) (hs : ∀ b, L' b → L b) (hx' : L' x) : RadS L' w x a f m g := by
  obtain ⟨hx, hg, ws, hr, hP⟩ := h
  exact ⟨⟨hx', hx.2⟩, hg, ws, hr, hP.sub hs⟩
theorem RadS.mono {L : Nat → Prop} {w : World} {x a m m' : Nat} {f : Int} {g : Int → Int} (h : RadS L w x a f m g) (hm : m ≤ m') : RadS L w x a f m' g := by
  obtain ⟨hx, hg, ws, hr, hP⟩ := h
  exact ⟨hx, hg, ws, hr, hP.mono hm⟩
/-- The radix and the list hold the same numbers. -/
structure ActsAt (L : Nat → Prop) (w1 wr : World) (x a gv m : Nat) : Prop where
  lg : L gv
  keeps : Below w1.heap.size w1 wr
  rest : ∃ g, Blk wr gv 3 (vsArr g) ∧ RadS L wr x a 20 m g

theorem ActsAt.step {L : Nat → Prop} {w wr w4 : World} {x a gv m m' m2 : Nat} {g : Int → Int} {o : Obj} (lg : L gv) (hL : ∀ b, b < w.heap.size → L b) (hbel : Below w.heap.size w wr) (hb : Blk wr gv 3 (vsArr g)) (hR : RadS L wr x a 20 m g)
    (hK : Keeps (ins L wr.heap.size) (wr.alloc o) w4) (hR4 : RadS (ins L wr.heap.size) w4 x a 20 m' g) (hm : m' ≤ m2) : ActsAt L w w4 x a gv m2 := by
  have hbd : Bd L wr := by
    obtain ⟨_, _, _, _, hP⟩ := hR
    exact hP.bd
  have hKL : Keeps L wr w4 := ((Keeps.refl L wr).alloc hbd o).trans hK.out
  exact ⟨lg, hbel.trans (hKL.below hL), g, hKL.blk hb lg, (hR4.sub (fun _ => ins.old) hR.1.1).mono hm⟩


theorem RadS.setCell {L : Nat → Prop} {w : World} {x a m : Nat} {f : Int} {g : Int → Int} (h : RadS L w x a f m g) {gv : Nat} {cs : Array Value} (hb : Blk w gv 3 cs) (hg : L gv) (i : Nat) (u : Value) : RadS L (w.setCell ⟨gv, i, none⟩ u) x a f m g := by
  obtain ⟨hx, hg', ws, hr, hP⟩ := h
  exact ⟨⟨hx.1, hx.2.far (p := ⟨gv, i, none⟩) (hx.2.ne_ hb (by decide)) _⟩, hg', ws, hr, hP.setCell (p := ⟨gv, i, none⟩) hg _⟩
theorem ActsAt.step2 {L : Nat → Prop} {w wr w4 : World} {x a gv m m' m2 : Nat} {g g' : Int → Int} {o : Obj} (lg : L gv) (hL : ∀ b, b < w.heap.size → L b) (hgv : w.heap.size ≤ gv) (hbel : Below w.heap.size w wr) (hR : RadS L wr x a 20 m g)
    (hK : Keeps (ins L wr.heap.size) (wr.alloc o) w4) {gs : Int → Int} (hb4 : Blk w4 gv 3 (vsArr gs)) {i : Nat} {u : Value} (hset : (vsArr gs).setIfInBounds i u = vsArr g') (hR4 : RadS (ins L wr.heap.size) w4 x a 20 m' g') (hm : m' ≤ m2) : ActsAt L w (w4.setCell ⟨gv, i, none⟩ u) x a gv m2 := by
  have hbd : Bd L wr := by
    obtain ⟨_, _, _, _, hP⟩ := hR
    exact hP.bd
  have hKL : Keeps L wr w4 := ((Keeps.refl L wr).alloc hbd o).trans hK.out
  have hb5 := hb4.set_ i u
  rw [hset] at hb5
  exact ⟨lg, (hbel.trans (hKL.below hL)).setCell (p := ⟨gv, i, none⟩) hgv _, g', hb5, ((hR4.setCell hb4 (ins.old lg) i u).sub (fun _ => ins.old) hR.1.1).mono hm⟩
open Classical in
theorem codeOf_bad {b f : Prop} (h : b) : codeOf b f = 701 := if_pos h
open Classical in
theorem codeOf_far {b f : Prop} (h : ¬ b) (h2 : f) : codeOf b f = 700 := by unfold codeOf; rw [if_neg h, if_pos h2]
open Classical in
theorem codeOf_ok {b f : Prop} (h : ¬ b) (h2 : ¬ f) : codeOf b f = 0 := by unfold codeOf; rw [if_neg h, if_neg h2]

theorem ActsAt.keepsL {L : Nat → Prop} {w wr w4 : World} {x a m : Nat} {g : Int → Int} {o : Obj} (hR : RadS L wr x a 20 m g) (hK : Keeps (ins L wr.heap.size) (wr.alloc o) w4) (hL : ∀ b, b < w.heap.size → L b) : Below w.heap.size wr w4 := by
  have hbd : Bd L wr := by
    obtain ⟨_, _, _, _, hP⟩ := hR
    exact hP.bd
  exact (((Keeps.refl L wr).alloc hbd o).trans hK.out).below hL

theorem pages_gen {L : Nat → Prop} {w : World} {x a m gv : Nat} {f : Int} {g : Int → Int} (h : RadS L w x a f m g) (hm : m ≤ 1099511600000) (hgv : L gv) (hb : Blk w gv 3 (vsArr g)) (c : Int) (bb : Bool) (hbb : bb = decide (c < 0 ∨ 2 < c)) :
    Calls Try.prog 40 #[.pointer (some ⟨x, 0, none⟩), .int .i64 c, .slice (some ⟨gv, 0, none⟩) 16 16, .bool bb] w fun e w' => e = .returned (.bool true) ∧ RadS L w' x a f (m + 64) g ∧ Keeps L w w' := by
  obtain ⟨hx, hg, ws, hr, hP⟩ := h
  rcases Bool.eq_false_or_eq_true bb with rfl | rfl
  · have hc : c < 0 ∨ 2 < c := by simpa using hbb.symm
    refine (pages_bad hx hP c (by omega) gv).mono ?_
    rintro e w' ⟨rfl, hP', hK'⟩
    exact ⟨rfl, ⟨hx.keep hK', hg, ws, hr, hP'.mono (by omega)⟩, hK'⟩
  · have hc : ¬ (c < 0 ∨ 2 < c) := by simpa using hbb.symm
    refine (pages_ok hx hP (by omega) hr hgv hb c (by omega) (fun _ _ _ => Cl.true_ _ _ _)).mono ?_
    rintro e w' ⟨rfl, hP', hK'⟩
    exact ⟨rfl, ⟨hx.keep hK', hg, ws, hr, hP'⟩, hK'⟩
/-- A cut of the list under way. -/
structure CutAt (L : Nat → Prop) (w wx : World) (x a gv m : Nat) (g : Int → Int) (G p : Int) : Prop where
  keeps : Below w.heap.size w wx
  blk : Blk wx gv 3 (vsArr (cutf g G p))
  rad : RadS L wx x a 20 m (cutf g G 16)
theorem cutf_self (g : Int → Int) (G : Int) : cutf g G G = g := by
  funext q
  unfold cutf
  rw [if_neg (by omega)]
theorem cutf_upd (g : Int → Int) {G p : Int} (h : G ≤ p) : upd (cutf g G p) p 0 = cutf g G (p + 1) := by
  funext q
  unfold cutf upd
  simp only []
  by_cases e : q = p
  · subst e; rw [if_pos rfl, if_pos (by omega)]
  · rw [if_neg e]
    by_cases h1 : G ≤ q ∧ q < p
    · rw [if_pos h1, if_pos (by omega)]
    · rw [if_neg h1, if_neg (by omega)]
theorem CutAt.next {L : Nat → Prop} {w wx : World} {x a gv m : Nat} {g : Int → Int} {G p : Int} (h : CutAt L w wx x a gv m g G p) (lg : L gv) (hgv : w.heap.size ≤ gv) (h0 : 0 ≤ G) (h1 : G ≤ p) (h2 : p < 16) : CutAt L w (wx.setCell ⟨gv, p.toNat, none⟩ (.int .i64 0)) x a gv m g G (p + 1) := by
  refine ⟨h.keeps.setCell (p := ⟨gv, p.toNat, none⟩) hgv _, ?_, h.rad.setCell h.blk lg _ _⟩
  have := h.blk.set_ p.toNat (.int .i64 0)
  rw [vsArr_set _ ⟨by omega, h2⟩, cutf_upd g h1] at this
  exact this

set_option maxRecDepth 100000 in
theorem racts_walk (w : World) {A : Option Addr} {len cap : Nat} {F : Nat → Nat → Int} (hx : Acts w A len cap 4 F) :
    Calls Try.prog 9 #[.slice A len cap] w fun e w' => e = .returned (.bool true) ∧ Below w.heap.size w w' := by
  have hle := hx.len_le
  have HX := Lib.hid hx
  clear hx
  obtain ⟨i0, hi, hz0, hz1, hz2⟩ := info_parts info_int7
  have hmk : ∀ W : World, (Instr.makeSlice 22 (.int .i64 16) (.int .i64 16)).run Try.prog W = .ok (.slice (some ⟨W.heap.size, 0, none⟩) 16 16) (W.alloc noVs) := by
    have h := run_make_rowN (P := Try.prog) 22 3 i0 _ Try.underlying22 hi hz0 .i64 .i64 16 16 (Nat.le_refl _) (by rw [hz2]; omega) (by omega)
    simp only [hz1, Nat.mul_one, Value.cells, madeCells_one] at h
    exact h
  have HMK := Lib.hid hmk
  clear hmk hi hz0 hz1 hz2
  go_enter Try.func9, Try.ntmps9
  go_wp2_with (go_at_call 18; refine (num_calls _ _).mono ?_; rintro e w' ⟨rfl, rfl⟩)
  refine (new_to (ws := List.replicate 300 0) (ts := List.replicate 3 []) (Bd.below w) (by omega) (by omega) rfl rfl).mono ?_
  rintro e w2 ⟨a, rfl, hA, hK⟩
  go_wp2_with (go_at_call 18; refine (num_calls _ _).mono ?_; rintro e w' ⟨rfl, rfl⟩)
  have hP1 : ArP (fun b => b < w.heap.size) w2 a (List.replicate 300 0) 3 0 (fun _ => True) := ArP.new 3 trivial hA
  refine (rad_new_ok hP1 20 256 (by omega) (by omega) (by simp) (fun i _ _ => rd_rep _ _)).mono ?_
  rintro e w3 ⟨x, rfl, hx, nx, _, hP2, hK2⟩
  have hmk := HMK.out w3
  go_wp2_with (go_at_call 18; refine (num_calls _ _).mono ?_; rintro e w' ⟨rfl, rfl⟩)
  clear hmk
  have hs3 : w.heap.size ≤ w3.heap.size := Nat.le_trans hK.size hK2.size
  have HS : ActsAt (ins (ins (fun b => b < w.heap.size) x) w3.heap.size) w (w3.alloc noVs) x a w3.heap.size 0 :=
    ⟨ins.new _ _, ((hK.trans hK2).below fun _ h => h).alloc hs3 _, _, Blk.new w3 _ _, ⟨ins.old hx.1, hx.2.alloc _⟩, fun _ _ _ => Int.le_refl _, _, Rx.zero (by omega) (by simp) (fun i => rd_rep _ _), hP2.allocIns _⟩
  have LL := Lib.hid (show ∀ b, b < w.heap.size → ins (ins (fun b => b < w.heap.size) x) w3.heap.size b from fun b h => ins.old (ins.old h))
  have HGV := Lib.hid hs3
  clear hA hK hP1 hx nx hP2 hK2 hs3
  generalize ins (ins (fun b => b < w.heap.size) x) w3.heap.size = L at *
  generalize w3.heap.size = gv at *
  go_loopw [8] (fun i wr => ∃ k : Nat, i = .int .i64 k ∧ k ≤ len ∧ k ≤ 200 ∧ ActsAt L w wr x a gv (64 * k)) (fun i _ => len - (intOf i).toNat)
  case atStart => exact ⟨0, rfl, by omega, by omega, HS⟩
  case round =>
    clear HS
    obtain ⟨k, rfl, hk, hk1, lg, hbel, g, hb, hR⟩ := hrel
    have HBK := Lib.hid hb
    clear hb
    by_cases hboth : k < len ∧ k < 200
    · obtain ⟨hlt, hlt2⟩ := hboth
      obtain ⟨gg, off, rfl, hcell⟩ := HX.out.at_ hlt hbel
      have q0 : wr.cell? ⟨gg, off + k * 4, none⟩ = some (.int .i64 (F k 0)) := (hcell 0 (by omega)).1
      have q1 : wr.cell? ⟨gg, off + k * 4 + 1, none⟩ = some (.int .i64 (F k 1)) := (hcell 1 (by omega)).1
      have q2 : wr.cell? ⟨gg, off + k * 4 + 2, none⟩ = some (.int .i64 (F k 2)) := (hcell 2 (by omega)).1
      have q3 : wr.cell? ⟨gg, off + k * 4 + 3, none⟩ = some (.int .i64 (F k 3)) := (hcell 3 (by omega)).1
      clear hcell
      generalize F k 0 = K at *
      generalize F k 1 = C at *
      generalize F k 2 = G at *
      generalize F k 3 = V at *
      have hlt3 : (k : Int) < 200 := by omega
      have hBl := Blk.new wr 70 #[.int .i64 K, .int .i64 C, .int .i64 G, .int .i64 V]
      obtain ⟨bb, hbb⟩ : ∃ bb : Bool, bb = decide (C < 0 ∨ 2 < C) := ⟨_, rfl⟩
      obtain ⟨ff, hff⟩ : ∃ ff : Bool, ff = decide (G < 0 ∨ 16 ≤ G) := ⟨_, rfl⟩
      have HBB := Lib.hid hbb
      have HFF := Lib.hid hff
      clear hbb hff
      have HR := Lib.hid (hR.laid (Obj.cells #[.int .i64 K, .int .i64 C, .int .i64 G, .int .i64 V] 70))
      go_upto_region 10 with (fail)
      go_cut [10] (fun s wx => s = .bool bb ∧ wx = wr.alloc (Obj.cells #[.int .i64 K, .int .i64 C, .int .i64 G, .int .i64 V] 70))
      case first =>
        by_cases hC : C < 0
        · go_wp2_with (fail)
          go_meet
          case rel => exact ⟨congrArg Value.bool (by rw [HBB.out]; simp [hC]), rfl⟩
        · by_cases hC2 : 2 < C
          · go_wp2_with (fail)
            go_meet
            case rel => exact ⟨congrArg Value.bool (by rw [HBB.out]; simp [hC2]), rfl⟩
          · go_wp2_with (fail)
            go_meet
            case rel => exact ⟨congrArg Value.bool (by rw [HBB.out]; simp [hC, hC2]), rfl⟩
      case rest =>
        obtain ⟨rfl, rfl⟩ := hcut
        go_upto_region 11 with (fail)
        go_cut [11] (fun s wx => s = .bool ff ∧ wx = wr.alloc (Obj.cells #[.int .i64 K, .int .i64 C, .int .i64 G, .int .i64 V] 70))
        case first =>
          by_cases hC : G < 0
          · go_wp2_with (fail)
            go_meet
            case rel => exact ⟨congrArg Value.bool (by rw [HFF.out]; simp [hC]), rfl⟩
          · by_cases hC2 : 16 ≤ G
            · go_wp2_with (fail)
              go_meet
              case rel => exact ⟨congrArg Value.bool (by rw [HFF.out]; simp [hC2]), rfl⟩
            · go_wp2_with (fail)
              go_meet
              case rel => exact ⟨congrArg Value.bool (by rw [HFF.out]; simp [hC, hC2]), rfl⟩
        case rest =>
          obtain ⟨rfl, rfl⟩ := hcut
          by_cases hK4 : K < 4
          · have HSET := Lib.hid (set_gen HR.out (by omega) C G V)
            rcases Bool.eq_false_or_eq_true bb with rfl | rfl
            · as_aux_lemma =>
              have hbd : badC C ∨ V < 0 := by
                left
                have h := HBB.out
                unfold badC
                simpa using h.symm
              have HSET := Lib.hid (by have h := HSET.out; rewrite [codeOf_bad hbd, if_neg (fun h => h.1 hbd)] at h; exact h)
              clear hbd
              go_wp2_with (go_at_call 18; refine (num_calls _ _).mono ?_; rintro e w' ⟨rfl, rfl⟩)
              refine HSET.out.mono ?_
              rintro e w4 ⟨rfl, hR4, hK9⟩
              have hB4 := hK9.blk hBl (ins.new _ _)
              have c0 := hB4.cell 0
              have c1 := hB4.cell 1
              have c2 := hB4.cell 2
              have c3 := hB4.cell 3
              have HK9 := Lib.hid hK9
              clear hB4 hK9 q0 q1 q2 q3
              go_wp2_with (go_at_call 18; refine (num_calls _ _).mono ?_; rintro e w' ⟨rfl, rfl⟩)
              go_roundw
              case rel => exact ⟨k + 1, by go_num, by omega, by omega, ActsAt.step lg LL.out hbel HBK.out hR HK9.out hR4 (by omega)⟩
              case measure => simp [intOf]; omega
            · have hnb : ¬ badC C := by have h := HBB.out; unfold badC; simpa using h.symm
              by_cases hV : V < 0
              · as_aux_lemma =>
                have hbd : badC C ∨ V < 0 := .inr hV
                have HSET := Lib.hid (by have h := HSET.out; rewrite [codeOf_bad hbd, if_neg (fun h => h.1 hbd)] at h; exact h)
                clear hbd hnb
                go_wp2_with (go_at_call 18; refine (num_calls _ _).mono ?_; rintro e w' ⟨rfl, rfl⟩)
                refine HSET.out.mono ?_
                rintro e w4 ⟨rfl, hR4, hK9⟩
                have hB4 := hK9.blk hBl (ins.new _ _)
                have c0 := hB4.cell 0
                have c1 := hB4.cell 1
                have c2 := hB4.cell 2
                have c3 := hB4.cell 3
                have HK9 := Lib.hid hK9
                clear hB4 hK9 q0 q1 q2 q3
                go_wp2_with (go_at_call 18; refine (num_calls _ _).mono ?_; rintro e w' ⟨rfl, rfl⟩)
                go_roundw
                case rel => exact ⟨k + 1, by go_num, by omega, by omega, ActsAt.step lg LL.out hbel HBK.out hR HK9.out hR4 (by omega)⟩
                case measure => simp [intOf]; omega
              · have hnbd : ¬ (badC C ∨ V < 0) := fun h => h.elim hnb hV
                have hVd : decide (V < 0) = false := by simpa using hV
                rcases Bool.eq_false_or_eq_true ff with rfl | rfl
                · as_aux_lemma =>
                  have hfar : farP G 16 := by have h := HFF.out; unfold farP; simpa using h.symm
                  have HSET := Lib.hid (by have h := HSET.out; rewrite [codeOf_far hnbd hfar, if_neg (fun h => h.2 hfar)] at h; exact h)
                  clear hfar hnb hnbd
                  go_wp2_with (go_at_call 18; refine (num_calls _ _).mono ?_; rintro e w' ⟨rfl, rfl⟩)
                  refine HSET.out.mono ?_
                  rintro e w4 ⟨rfl, hR4, hK9⟩
                  have hB4 := hK9.blk hBl (ins.new _ _)
                  have c0 := hB4.cell 0
                  have c1 := hB4.cell 1
                  have c2 := hB4.cell 2
                  have c3 := hB4.cell 3
                  have HK9 := Lib.hid hK9
                  clear hB4 hK9 q0 q1 q2 q3
                  go_wp2_with (go_at_call 18; refine (num_calls _ _).mono ?_; rintro e w' ⟨rfl, rfl⟩)
                  go_roundw
                  case rel => exact ⟨k + 1, by go_num, by omega, by omega, ActsAt.step lg LL.out hbel HBK.out hR HK9.out hR4 (by omega)⟩
                  case measure => simp [intOf]; omega
                · as_aux_lemma =>
                  have hnf : ¬ farP G 16 := by have h := HFF.out; unfold farP; simpa using h.symm
                  have HSET := Lib.hid (by have h := HSET.out; rewrite [codeOf_ok hnbd hnf, if_pos ⟨hnbd, hnf⟩] at h; exact h)
                  have hG0 : 0 ≤ G ∧ G < 16 := by unfold farP at hnf; omega
                  obtain ⟨hG1, hG2⟩ := hG0
                  clear hnf hnb hnbd
                  go_wp2_with (go_at_call 18; refine (num_calls _ _).mono ?_; rintro e w' ⟨rfl, rfl⟩)
                  refine HSET.out.mono ?_
                  rintro e w4 ⟨rfl, hR4, hK9⟩
                  have hB4 := hK9.blk hBl (ins.new _ _)
                  have c0 := hB4.cell 0
                  have c1 := hB4.cell 1
                  have c2 := hB4.cell 2
                  have c3 := hB4.cell 3
                  have HK9 := Lib.hid hK9
                  have hbv := HK9.out.blk (HBK.out.alloc _) (ins.old lg)
                  have cg := (hbv.cell G.toNat).trans (vsArr_at g (k := G.toNat) (by omega))
                  have fg := hbv.frozen G.toNat
                  have HBV := Lib.hid hbv
                  clear hbv hB4 hK9 q0 q1 q2 q3
                  go_wp2_with (go_at_call 18; refine (num_calls _ _).mono ?_; rintro e w' ⟨rfl, rfl⟩)
                  go_roundw
                  case rel => exact ⟨k + 1, by go_num, by omega, by omega, ActsAt.step2 lg LL.out HGV.out hbel hR HK9.out HBV.out (vsArr_set g ⟨hG1, hG2⟩) hR4 (by omega)⟩
                  case measure => simp [intOf]; omega
          · by_cases hK7 : K < 7
            · have HSET := Lib.hid (get_gen HR.out (by omega) C G)
              rcases Bool.eq_false_or_eq_true bb with rfl | rfl
              · as_aux_lemma =>
                have hbd : badC C := by have h := HBB.out; unfold badC; simpa using h.symm
                have HSET := Lib.hid (by have h := HSET.out; rewrite [codeOf_bad hbd, if_neg (fun h => h.1 hbd)] at h; exact h)
                clear hbd
                go_wp2_with (go_at_call 18; refine (num_calls _ _).mono ?_; rintro e w' ⟨rfl, rfl⟩)
                refine HSET.out.mono ?_
                rintro e w4 ⟨rfl, hR4, hK9⟩
                have hB4 := hK9.blk hBl (ins.new _ _)
                have c0 := hB4.cell 0
                have c1 := hB4.cell 1
                have c2 := hB4.cell 2
                have c3 := hB4.cell 3
                have HK9 := Lib.hid hK9
                clear hB4 hK9 q0 q1 q2 q3
                go_wp2_with (go_at_call 18; refine (num_calls _ _).mono ?_; rintro e w' ⟨rfl, rfl⟩)
                go_roundw
                case rel => exact ⟨k + 1, by go_num, by omega, by omega, ActsAt.step lg LL.out hbel HBK.out hR HK9.out hR4 (by omega)⟩
                case measure => simp [intOf]; omega
              · have hnb : ¬ badC C := by have h := HBB.out; unfold badC; simpa using h.symm
                rcases Bool.eq_false_or_eq_true ff with rfl | rfl
                · as_aux_lemma =>
                  have hfar : farP G 16 := by have h := HFF.out; unfold farP; simpa using h.symm
                  have HSET := Lib.hid (by have h := HSET.out; rewrite [codeOf_far hnb hfar, if_neg (fun h => h.2 hfar)] at h; exact h)
                  clear hfar hnb
                  go_wp2_with (go_at_call 18; refine (num_calls _ _).mono ?_; rintro e w' ⟨rfl, rfl⟩)
                  refine HSET.out.mono ?_
                  rintro e w4 ⟨rfl, hR4, hK9⟩
                  have hB4 := hK9.blk hBl (ins.new _ _)
                  have c0 := hB4.cell 0
                  have c1 := hB4.cell 1
                  have c2 := hB4.cell 2
                  have c3 := hB4.cell 3
                  have HK9 := Lib.hid hK9
                  clear hB4 hK9 q0 q1 q2 q3
                  go_wp2_with (go_at_call 18; refine (num_calls _ _).mono ?_; rintro e w' ⟨rfl, rfl⟩)
                  go_roundw
                  case rel => exact ⟨k + 1, by go_num, by omega, by omega, ActsAt.step lg LL.out hbel HBK.out hR HK9.out hR4 (by omega)⟩
                  case measure => simp [intOf]; omega
                · as_aux_lemma =>
                  have hnf : ¬ farP G 16 := by have h := HFF.out; unfold farP; simpa using h.symm
                  have HSET := Lib.hid (by have h := HSET.out; rewrite [codeOf_ok hnb hnf, if_pos ⟨hnb, hnf⟩] at h; exact h)
                  have hG0 : 0 ≤ G ∧ G < 16 := by unfold farP at hnf; omega
                  obtain ⟨hG1, hG2⟩ := hG0
                  clear hnf hnb
                  go_wp2_with (go_at_call 18; refine (num_calls _ _).mono ?_; rintro e w' ⟨rfl, rfl⟩)
                  refine HSET.out.mono ?_
                  rintro e w4 ⟨rfl, hR4, hK9⟩
                  have hB4 := hK9.blk hBl (ins.new _ _)
                  have c0 := hB4.cell 0
                  have c1 := hB4.cell 1
                  have c2 := hB4.cell 2
                  have c3 := hB4.cell 3
                  have HK9 := Lib.hid hK9
                  have hbv := HK9.out.blk (HBK.out.alloc _) (ins.old lg)
                  have cg := (hbv.cell G.toNat).trans (vsArr_at g (k := G.toNat) (by omega))
                  rw [show ((G.toNat : Nat) : Int) = G by omega] at cg
                  generalize g G = gG at *
                  clear hbv hB4 hK9 q0 q1 q2 q3
                  go_wp2_with (go_at_call 18; refine (num_calls _ _).mono ?_; rintro e w' ⟨rfl, rfl⟩)
                  go_roundw
                  case rel => exact ⟨k + 1, by go_num, by omega, by omega, ActsAt.step lg LL.out hbel HBK.out hR HK9.out hR4 (by omega)⟩
                  case measure => simp [intOf]; omega
            · by_cases hK77 : K = 7
              · subst hK77
                have HSET := Lib.hid (cut_gen HR.out (by omega) C G)
                obtain ⟨f2, hf2⟩ : ∃ f2 : Bool, f2 = decide (G < 0 ∨ 16 < G) := ⟨_, rfl⟩
                have HF2 := Lib.hid hf2
                clear hf2 hK4 hK7
                rcases Bool.eq_false_or_eq_true bb with rfl | rfl
                · as_aux_lemma =>
                  have hbd : badC C := by have h := HBB.out; unfold badC; simpa using h.symm
                  have HSET := Lib.hid (by have h := HSET.out; rewrite [codeOf_bad hbd, if_neg (fun h => h.1 hbd)] at h; exact h)
                  clear hbd
                  go_wp2_with (fail)
                  refine HSET.out.mono ?_
                  rintro e w4 ⟨rfl, hR4, hK9⟩
                  have hB4 := hK9.blk hBl (ins.new _ _)
                  have c0 := hB4.cell 0
                  have c1 := hB4.cell 1
                  have c2 := hB4.cell 2
                  have c3 := hB4.cell 3
                  have hbv := hK9.blk (HBK.out.alloc _) (ins.old lg)
                  have hB5 := hbel.trans (ActsAt.keepsL hR hK9 LL.out)
                  have HK9 := Lib.hid hK9
                  have HBV := Lib.hid hbv
                  clear hB4 hK9 hbv q0 q1 q2 q3
                  go_upto_region 30 with (first | (go_at_call 18; refine (num_calls _ _).mono ?_; rintro e w' ⟨rfl, rfl⟩))
                  go_cut [11] (fun s wx => s = .bool f2 ∧ wx = w4)
                  case first =>
                    by_cases hC : G < 0
                    · go_wp2_with (fail)
                      go_meet
                      case rel => exact ⟨congrArg Value.bool (by rw [HF2.out]; simp [hC]), rfl⟩
                    · by_cases hC2 : 16 < G
                      · go_wp2_with (fail)
                        go_meet
                        case rel => exact ⟨congrArg Value.bool (by rw [HF2.out]; simp [hC2]), rfl⟩
                      · go_wp2_with (fail)
                        go_meet
                        case rel => exact ⟨congrArg Value.bool (by rw [HF2.out]; simp [hC, hC2]), rfl⟩
                  case rest =>
                    obtain ⟨rfl, rfl⟩ := hcut
                    go_wp2_with (fail)
                    all_goals (
                      go_loopw [20] (fun s wx => ∃ z : Int, s = .int .i64 z ∧ wx = wc) (fun _ _ => 0)
                      case atStart => exact ⟨_, rfl, rfl⟩
                      case round =>
                        obtain ⟨z, rfl, rfl⟩ := hrel
                        by_cases hz : z < 16
                        all_goals (
                          go_wp2
                          go_roundw
                          case rel => exact ⟨k + 1, by go_num, by omega, by omega, ActsAt.step lg LL.out hbel HBK.out hR HK9.out hR4 (by omega)⟩
                          case measure => simp [intOf]; omega))
                · have hnb : ¬ badC C := by have h := HBB.out; unfold badC; simpa using h.symm
                  rcases Bool.eq_false_or_eq_true f2 with rfl | rfl
                  · as_aux_lemma =>
                    have hfar : farP G 17 := by have h := HF2.out; unfold farP; have h2 : G < 0 ∨ 16 < G := (by simpa using h.symm); omega
                    have HSET := Lib.hid (by have h := HSET.out; rewrite [codeOf_far hnb hfar, if_neg (fun h => h.2 hfar)] at h; exact h)
                    have hgf : G < 0 ∨ (¬ G < 0 ∧ 16 < G) := by unfold farP at hfar; omega
                    clear hfar hnb
                    go_wp2_with (fail)
                    refine HSET.out.mono ?_
                    rintro e w4 ⟨rfl, hR4, hK9⟩
                    have hB4 := hK9.blk hBl (ins.new _ _)
                    have c0 := hB4.cell 0
                    have c1 := hB4.cell 1
                    have c2 := hB4.cell 2
                    have c3 := hB4.cell 3
                    have hbv := hK9.blk (HBK.out.alloc _) (ins.old lg)
                    have hB5 := hbel.trans (ActsAt.keepsL hR hK9 LL.out)
                    have HK9 := Lib.hid hK9
                    have HBV := Lib.hid hbv
                    clear hB4 hK9 hbv q0 q1 q2 q3
                    go_upto_region 30 with (first | (go_at_call 18; refine (num_calls _ _).mono ?_; rintro e w' ⟨rfl, rfl⟩))
                    go_cut [11] (fun s wx => s = .bool true ∧ wx = w4)
                    case first =>
                      rcases hgf with hC | ⟨hC, hC2⟩
                      · go_wp2_with (fail)
                        go_meet
                        case rel => exact ⟨rfl, rfl⟩
                      · go_wp2_with (fail)
                        go_meet
                        case rel => exact ⟨congrArg Value.bool (by simp), rfl⟩
                    case rest =>
                      obtain ⟨rfl, rfl⟩ := hcut
                      go_wp2_with (fail)
                      all_goals (
                        go_loopw [20] (fun s wx => ∃ z : Int, s = .int .i64 z ∧ wx = wc) (fun _ _ => 0)
                        case atStart => exact ⟨_, rfl, rfl⟩
                        case round =>
                          obtain ⟨z, rfl, rfl⟩ := hrel
                          by_cases hz : z < 16
                          all_goals (
                            go_wp2
                            go_roundw
                            case rel => exact ⟨k + 1, by go_num, by omega, by omega, ActsAt.step lg LL.out hbel HBK.out hR HK9.out hR4 (by omega)⟩
                            case measure => simp [intOf]; omega))
                  · as_aux_lemma =>
                    have hnf : ¬ farP G 17 := by have h := HF2.out; unfold farP; have h2 : ¬ (G < 0 ∨ 16 < G) := (by simpa using h.symm); omega
                    have HSET := Lib.hid (by have h := HSET.out; rewrite [codeOf_ok hnb hnf, if_pos ⟨hnb, hnf⟩] at h; exact h)
                    have hG0 : 0 ≤ G ∧ G ≤ 16 := by unfold farP at hnf; omega
                    obtain ⟨hG1, hG2⟩ := hG0
                    clear hnf hnb
                    go_wp2_with (fail)
                    refine HSET.out.mono ?_
                    rintro e w4 ⟨rfl, hR4, hK9⟩
                    have hB4 := hK9.blk hBl (ins.new _ _)
                    have c0 := hB4.cell 0
                    have c1 := hB4.cell 1
                    have c2 := hB4.cell 2
                    have c3 := hB4.cell 3
                    have hbv := hK9.blk (HBK.out.alloc _) (ins.old lg)
                    have hB5 := hbel.trans (ActsAt.keepsL hR hK9 LL.out)
                    have HK9 := Lib.hid hK9
                    have HBV := Lib.hid hbv
                    clear hB4 hK9 hbv q0 q1 q2 q3
                    go_upto_region 30 with (first | (go_at_call 18; refine (num_calls _ _).mono ?_; rintro e w' ⟨rfl, rfl⟩))
                    go_cut [11] (fun s wx => s = .bool false ∧ wx = w4)
                    case first =>
                      have hC1 : ¬ G < 0 := by omega
                      have hC2 : ¬ 16 < G := by omega
                      go_wp2_with (fail)
                      go_meet
                      case rel => exact ⟨congrArg Value.bool (by simp), rfl⟩
                    case rest =>
                      obtain ⟨rfl, rfl⟩ := hcut
                      have hmax : max G 0 = G := Int.max_eq_left hG1
                      go_wp2_with (fail)
                      clear hmax
                      have HC := Lib.hid (show CutAt (ins L wr.heap.size) w wc x a gv (64 * k + 48) g G G from ⟨hB5, by rw [cutf_self]; exact HBV.out, hR4⟩)
                      go_loopw [20] (fun s wx => ∃ z : Int, s = .int .i64 z ∧ G ≤ z ∧ z ≤ 16 ∧ CutAt (ins L wr.heap.size) w wx x a gv (64 * k + 48) g G z) (fun s _ => 16 - (intOf s).toNat)
                      case atStart => exact ⟨G, rfl, by omega, hG2, HC.out⟩
                      case round =>
                        clear HC hR4
                        obtain ⟨z, rfl, hz0, hz1, hCA⟩ := hrel
                        by_cases hz : z < 16
                        · have hz2 : 0 ≤ z := by omega
                          have cg := (hCA.blk.cell z.toNat).trans (vsArr_at _ (k := z.toNat) (by omega))
                          have fg := hCA.blk.frozen z.toNat
                          have HCA := Lib.hid (hCA.next (ins.old lg) HGV.out hG1 hz0 hz)
                          clear hCA
                          go_wp2
                          go_roundw
                          case rel => exact ⟨z + 1, by go_num, by omega, by omega, HCA.out⟩
                          case measure => simp [intOf]; omega
                        · have hz16 : z = 16 := by omega
                          subst hz16
                          have HCA := Lib.hid hCA
                          clear hCA
                          go_wp2
                          go_roundw
                          case rel => exact ⟨k + 1, by go_num, by omega, by omega, lg, HCA.out.keeps, _, HCA.out.blk, (HCA.out.rad.sub (fun _ => ins.old) hR.1.1).mono (by omega)⟩
                          case measure => simp [intOf]; omega
              · as_aux_lemma =>
                have hK8 : ¬ K = 7 := hK77
                have hPG := Lib.hid (pages_gen HR.out (by omega) (ins.old lg) (HBK.out.alloc _) C bb HBB.out)
                go_wp2_with (fail)
                refine hPG.out.mono ?_
                rintro e w4 ⟨rfl, hR4, hK9⟩
                have HK9 := Lib.hid hK9
                clear hK9 q0 q1 q2 q3
                go_wp2
                go_roundw
                case rel => exact ⟨k + 1, by go_num, by omega, by omega, ActsAt.step lg LL.out hbel HBK.out hR HK9.out hR4 (by omega)⟩
                case measure => simp [intOf]; omega
    · as_aux_lemma =>
      have hex : ¬ k < len ∨ (k < len ∧ ¬ ((k : Int) < 200)) := by omega
      have HR := Lib.hid hR
      have hPG := Lib.hid (pages_gen hR (by omega) lg HBK.out 0 false (by decide))
      have HB5 := Lib.hid hbel
      clear hboth hR hbel
      rcases hex with h1 | ⟨h1, h2⟩
      all_goals (
        go_wp2_with (fail)
        refine hPG.out.mono ?_
        rintro e w4 ⟨rfl, hR4, hK9⟩
        go_wp2_with (fail)
        refine (awake7 w4).mono ?_
        rintro e w5 ⟨rfl, hB6⟩
        go_wp2
        go_ret
        exact ⟨rfl, bel_then (HB5.out.trans (hK9.below LL.out)) hB6⟩)
end Go.Proofs.Ytacjpchcaknacaa
