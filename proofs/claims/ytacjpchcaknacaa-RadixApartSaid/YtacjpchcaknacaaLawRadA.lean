
/- law7: RadixApart. -/
import Derived.Test.YtacjpchcaknacaaLawRadR
namespace Go.Proofs.Ytacjpchcaknacaa
open Go.RowKit
set_option maxHeartbeats 1000000

theorem tr_set {ts : List (List Acc)} {c d : Int} (hc : 0 ≤ c ∧ c < ts.length) (hd : 0 ≤ d) : tr (ts.set c.toNat []) d = if d = c then [] else tr ts d := by
  unfold tr
  by_cases e : d = c
  · subst e
    rw [if_pos rfl]
    simp [List.getD, show d.toNat < ts.length by omega]
  · rw [if_neg e]
    have : c.toNat ≠ d.toNat := by omega
    simp [List.getD, this]
/-- The traces of the first k cores are empty. -/
def CP (k : Int) (ts : List (List Acc)) : Prop := ∀ c, 0 ≤ c → c < k → tr ts c = []
theorem CP.step {k : Int} {ts : List (List Acc)} (hk : 0 ≤ k ∧ k < 4) (hl : ts.length = 4) (h : CP k ts) : CP (k + 1) (ts.set k.toNat []) := fun c h0 h1 => by
  rw [tr_set ⟨hk.1, by omega⟩ h0]
  split
  · rfl
  · exact h c h0 (by omega)
/-- What core c may touch. -/
def okAcc (c : Int) (y : Acc) : Prop := (y.1 < 4 ∧ y.2 = false) ∨ (4 ≤ y.1 ∧ y.1 % 4 = c)
def OKP (ts : List (List Acc)) : Prop := ∀ c, 0 ≤ c → c < 4 → ∀ y ∈ tr ts c, okAcc c y
theorem OKP.of {ts : List (List Acc)} (h : CP 4 ts) : OKP ts := fun c h0 h1 y hy => by rw [h c h0 h1] at hy; simp at hy
theorem OKP.cl {c : Int} (hc : 0 ≤ c ∧ c < 4) {S : Acc → Prop} (hs : ∀ y, S y → okAcc c y) : Cl 4 OKP c S := fun ts y hl h hy d h0 h1 z hz => by
  rw [tr_noted y ⟨hc.1, by omega⟩ h0] at hz
  split at hz
  · rename_i e
    subst e
    rcases List.mem_append.1 hz with hz | hz
    · exact h _ h0 h1 z hz
    · obtain rfl : z = y := by simpa using hz
      exact hs _ hy
  · exact h d h0 h1 z hz
theorem okAcc.apart {c d : Int} (hne : c ≠ d) {y z : Acc} (hy : okAcc c y) (hz : okAcc d z) (e : y.1 = z.1) : y.2 = false ∧ z.2 = false := by
  rcases hy with ⟨h1, h2⟩ | ⟨h1, h2⟩ <;> rcases hz with ⟨h3, h4⟩ | ⟨h3, h4⟩
  · exact ⟨h2, h4⟩
  · omega
  · omega
  · omega
theorem rdSet.ok {p c : Int} (h0 : 0 ≤ p ∧ p < 16) (hp : p % 4 = c) (y : Acc) (h : rdSet 0 p y) : okAcc c y := by
  rcases h with rfl | rfl
  · exact .inl ⟨by show (0 : Int) + p / 4 < 4; omega, rfl⟩
  · exact .inr ⟨by show (4 : Int) ≤ 0 + 4 + p; omega, by show ((0 : Int) + 4 + p) % 4 = c; omega⟩
theorem stSet.ok {p c : Int} (h0 : 0 ≤ p ∧ p < 16) (hp : p % 4 = c) (y : Acc) (h : stSet 0 p y) : okAcc c y := by
  rcases h with rfl | rfl
  · exact .inl ⟨by show (0 : Int) + p / 4 < 4; omega, rfl⟩
  · exact .inr ⟨by show (4 : Int) ≤ 0 + 4 + p; omega, by show ((0 : Int) + 4 + p) % 4 = c; omega⟩
theorem RadAt.below {L : Nat → Prop} {w w' : World} {x a : Nat} {f : Int} (h : RadAt L w x a f) (hb : Below w.heap.size w w') : RadAt L w' x a f := ⟨h.1, Blk.of_heap (hb.block x h.2.lt) h.2⟩

theorem below_drewN {B : Nat} {w w' : World} (h : Below B w w') (k : Nat) : Below B w (w'.drewN k) := ⟨h.os, h.tape, h.output, h.size, h.block⟩
/-- All nodes are there. -/
def Roots (ws : List Int) : Prop := ∀ p : Int, 0 ≤ p → p < 16 → rd ws (0 + p / 4) ≠ 0
theorem Roots.wr {ws : List Int} (h : Roots ws) {p v : Int} (h0 : 0 ≤ p ∧ p < 16) (hl : 0 + 20 ≤ (ws.length : Int)) : Roots (Ytacjpchcaknacaa.wr ws (0 + 4 + p) v) := fun q q0 q1 => by
  rw [rd_wr ⟨by omega, by omega⟩ (by omega), if_neg (by omega)]
  exact h q q0 q1

/-- Core 0 has only looked. -/
def RO0 (ts : List (List Acc)) : Prop := ∀ y ∈ tr ts 0, y.2 = false
theorem RO0.cl (f p : Int) : Cl 4 RO0 0 (rdSet f p) := fun ts y hl h hy z hz => by
  rw [tr_noted y ⟨by omega, by omega⟩ (by omega), if_pos rfl] at hz
  rcases List.mem_append.1 hz with hz | hz
  · exact h z hz
  · obtain rfl : z = y := by simpa using hz
    exact hy.ro
theorem RO0.clear (ts : List (List Acc)) (hl : ts.length = 4) : RO0 (ts.set (0 : Int).toNat []) := fun y hy => by
  rw [tr_set ⟨by omega, by omega⟩ (by omega), if_pos rfl] at hy
  simp at hy

set_option maxRecDepth 100000 in
theorem rapart_walk (w : World) {A : Option Addr} {len cap : Nat} {xs : List Int} (hx : Ints w A len cap xs) (cut : Int) (hcw : (Lit.int .i64 cut).wf = true) :
    Calls Try.prog 13 #[.slice A len cap, .int .i64 cut] w fun e w' => e = .returned (.bool true) ∧ Below w.heap.size w w' := by
  have hle := hx.len_le
  have HX := Lib.hid hx
  clear hx
  have hcr := wf_range hcw
  clear hcw
  have hq0 : 0 ≤ cut.tdiv 2 % 16 ∧ cut.tdiv 2 % 16 < 16 := by omega
  have hc16 : 0 ≤ cut % 16 ∧ cut % 16 < 16 := by omega
  go_enter Try.func13, Try.ntmps13
  go_wp2_with (go_at_call 18; refine (num_calls _ _).mono ?_; rintro e w' ⟨rfl, rfl⟩)
  refine (awake7 w).mono ?_
  rintro e w1 ⟨rfl, hB⟩
  go_wp2_with (go_at_call 18; refine (num_calls _ _).mono ?_; rintro e w' ⟨rfl, rfl⟩)
  refine (new_to (ws := List.replicate 256 0) (ts := List.replicate 4 []) (Bd.below w1) (by omega) (by omega) rfl rfl).mono ?_
  rintro e w2 ⟨a, rfl, hA, hK⟩
  go_wp2_with (go_at_call 18; refine (num_calls _ _).mono ?_; rintro e w' ⟨rfl, rfl⟩)
  have hP1 : ArP (fun b => b < w1.heap.size) w2 a (List.replicate 256 0) 4 0 (fun _ => True) := ArP.new 4 trivial hA
  refine (rad_new_ok hP1 0 256 (by omega) (by omega) (by simp) (fun i _ _ => rd_rep _ _)).mono ?_
  rintro e w3 ⟨x, rfl, hx, nx, _, hP2, hK2⟩
  have HB := Lib.hid hB
  have HS0 := Lib.hid (show Below w1.heap.size w1 w3 ∧ RadAt (ins (fun b => b < w1.heap.size) x) w3 x a 0 ∧ Rx (List.replicate 256 0) 0 (fun _ => 0) ∧ ArP (ins (fun b => b < w1.heap.size) x) w3 a (List.replicate 256 0) 4 0 (fun _ => True) from ⟨(hK.trans hK2).below fun _ h => h, hx, Rx.zero (by omega) (by simp) (fun i => rd_rep _ _), hP2⟩)
  have LL := Lib.hid (show ∀ b, b < w1.heap.size → ins (fun b => b < w1.heap.size) x b from fun b h => ins.old h)
  clear hB hA hK hP1 hx nx hP2 hK2
  generalize ins (fun b => b < w1.heap.size) x = L at *
  generalize List.replicate 256 (0 : Int) = ws0 at *
  by_cases hcut : cut % 2 = 1
  case' pos =>
    have hcb : (cut % 2 == 1) = true := by simpa using hcut
    go_wp2_with (go_at_call 18; refine (num_calls _ _).mono ?_; rintro e w' ⟨rfl, rfl⟩)
    refine (rSet_ok HS0.out.2.1 HS0.out.2.2.2 (by omega) HS0.out.2.2.1 1 (cut.tdiv 2 % 16) 3 (by omega) (by omega) (by omega) (Cl.true_ _ _ _)).mono ?_
    rintro e w4 ⟨rfl, ws4, hl4, hr4, hP4, hK4⟩
    have hx4 := HS0.out.2.1.keep hK4
    have HR4 := Lib.hid hr4
    clear hr4
    go_wp2_with (go_at_call 18; refine (num_calls _ _).mono ?_; rintro e w' ⟨rfl, rfl⟩)
    refine (rCut_ok hx4 hP4 (by omega) HR4.out (fun p _ _ => by unfold upd; split <;> simp) 1 (cut.tdiv 2 % 16) (by omega) (by omega) (Cl.true_ _ _ _)).mono ?_
    rintro e w5 ⟨rfl, ws5, hl5, hr5, hP5, hK5⟩
    have HS : Below w1.heap.size w1 w5 ∧ RadAt L w5 x a 0 ∧ ∃ ws g, Rx ws 0 g ∧ ArP L w5 a ws 4 100 (fun _ => True) := ⟨HS0.out.1.trans ((hK4.trans hK5).below LL.out), hx4.keep hK5, ws5, _, hr5, hP5.mono (by omega)⟩
    clear hl4 hP4 hK4 hx4 HR4 hl5 hr5 hP5 hK5 HS0
    go_wp2_with (go_at_call 18; refine (num_calls _ _).mono ?_; rintro e w' ⟨rfl, rfl⟩)
  case' neg =>
    have hcb : (cut % 2 == 1) = false := by simpa using hcut
    have HS : Below w1.heap.size w1 w3 ∧ RadAt L w3 x a 0 ∧ ∃ ws g, Rx ws 0 g ∧ ArP L w3 a ws 4 100 (fun _ => True) := ⟨HS0.out.1, HS0.out.2.1, ws0, _, HS0.out.2.2.1, HS0.out.2.2.2.mono (by omega)⟩
    clear HS0
    go_wp2_with (go_at_call 18; refine (num_calls _ _).mono ?_; rintro e w' ⟨rfl, rfl⟩)
  all_goals (
    clear hcut hcb
    go_loopw [9] (fun i wr => ∃ k : Nat, i = .int .i64 k ∧ k ≤ 16 ∧ Below w1.heap.size w1 wr ∧ RadAt L wr x a 0 ∧ ∃ ws g, Rx ws 0 g ∧ (∀ q : Int, 0 ≤ q → q < k → g q ≠ 0) ∧ ArP L wr a ws 4 (100 + 3 * k) (fun _ => True)) (fun i _ => 16 - (intOf i).toNat)
    case atStart =>
      obtain ⟨h1, h2, ws, g, h3, h4⟩ := HS
      exact ⟨0, rfl, by omega, h1, h2, ws, g, h3, fun q q0 q1 => absurd q1 (by omega), h4⟩
    case round =>
      clear HS
      obtain ⟨k, rfl, hk, hbel, hx, ws, g, hr, hg, hP⟩ := hrel
      have HR := Lib.hid hr
      have HG := Lib.hid hg
      clear hr hg
      by_cases hlt : k < 16
      · have hlt' : (k : Int) < 16 := by omega
        go_wp2_with (go_at_call 18; refine (num_calls _ _).mono ?_; rintro e w' ⟨rfl, rfl⟩)
        refine (rSet_ok hx hP (by omega) HR.out 0 k (k + 1) (by omega) (by omega) (by omega) (Cl.true_ _ _ _)).mono ?_
        rintro e w4 ⟨rfl, ws4, hl4, hr4, hP4, hK4⟩
        have hx4 := hx.keep hK4
        have HR4 := Lib.hid hr4
        clear hr4
        go_wp2_with (go_at_call 18; refine (num_calls _ _).mono ?_; rintro e w' ⟨rfl, rfl⟩)
        go_roundw
        case rel =>
          refine ⟨k + 1, by go_num, by omega, hbel.trans (hK4.below LL.out), hx4, ws4, _, HR4.out, fun q q0 q1 => ?_, hP4.mono (by omega)⟩
          unfold upd
          split
          · omega
          · exact HG.out q q0 (by omega)
        case measure => simp [intOf]; omega
      · have hlt' : ¬ (k : Int) < 16 := by omega
        have hroots : Roots ws := fun p p0 p1 hz => HG.out p p0 (by omega) ((HR.out.2.2 p p0 p1).2 hz)
        have HS : Below w1.heap.size w1 wr ∧ RadAt L wr x a 0 ∧ ArP L wr a ws 4 148 (CP 0) := ⟨hbel, hx, (hP.mono (by omega)).weak fun ts _ _ c h0 h1 => absurd h1 (by omega)⟩
        have HW := Lib.hid (show Rx ws 0 g ∧ Roots ws from ⟨HR.out, hroots⟩)
        clear hroots HR HG hP hx hbel
        go_wp2_with (go_at_call 18; refine (num_calls _ _).mono ?_; rintro e w' ⟨rfl, rfl⟩)
        go_loopw [10] (fun i wr => ∃ k : Nat, i = .int .i64 k ∧ k ≤ 4 ∧ Below w1.heap.size w1 wr ∧ RadAt L wr x a 0 ∧ ArP L wr a ws 4 148 (CP k)) (fun i _ => 4 - (intOf i).toNat)
        case atStart => exact ⟨0, rfl, by omega, HS⟩
        case round =>
          clear HS
          obtain ⟨c, rfl, hc, hbel, hx, hP⟩ := hrel
          by_cases hc4 : c < 4
          · have hc4' : (c : Int) < 4 := by omega
            go_wp2_with (go_at_call 18; refine (num_calls _ _).mono ?_; rintro e w' ⟨rfl, rfl⟩)
            refine (clear_p (P' := CP (c + 1 : Nat)) hP (c := c) (by omega) (fun ts hl h => by have := CP.step ⟨by omega, hc4'⟩ hl h; simpa using this)).mono ?_
            rintro e w4 ⟨rfl, hP4, hK4⟩
            go_wp2_with (go_at_call 18; refine (num_calls _ _).mono ?_; rintro e w' ⟨rfl, rfl⟩)
            go_roundw
            case rel => exact ⟨c + 1, by go_num, by omega, hbel.trans (hK4.below LL.out), hx.keep hK4, hP4⟩
            case measure => simp [intOf]; omega
          · have hc4' : ¬ (c : Int) < 4 := by omega
            have HS : Below w1.heap.size w1 wr ∧ RadAt L wr x a 0 ∧ ∃ ws g, Rx ws 0 g ∧ Roots ws ∧ ArP L wr a ws 4 200 OKP := ⟨hbel, hx, ws, g, HW.out.1, HW.out.2, (hP.mono (by omega)).weak fun ts _ h => OKP.of fun d d0 d1 => h d d0 (by omega)⟩
            clear hP hx hbel HW
            go_wp2_with (go_at_call 18; refine (num_calls _ _).mono ?_; rintro e w' ⟨rfl, rfl⟩)
            go_loopw [11] (fun i wr => ∃ k : Nat, i = .int .i64 k ∧ k ≤ len ∧ k ≤ 60 ∧ Below w1.heap.size w1 wr ∧ RadAt L wr x a 0 ∧ ∃ ws g, Rx ws 0 g ∧ Roots ws ∧ ArP L wr a ws 4 (200 + 3 * k) OKP) (fun i _ => len - (intOf i).toNat)
            case atStart =>
              obtain ⟨h1, h2, ws, g, h3, h4, h5⟩ := HS
              exact ⟨0, rfl, by omega, by omega, h1, h2, ws, g, h3, h4, h5⟩
            case round =>
              clear HS
              obtain ⟨k, rfl, hk, hk1, hbel, hx, ws, g, hr, hro, hP⟩ := hrel
              have HR := Lib.hid hr
              have HRO := Lib.hid hro
              clear hr hro
              by_cases hboth : k < len ∧ k < 60
              · obtain ⟨hlt, hlt2⟩ := hboth
                have hb : Below w.heap.size w wr := bel_then HB.out hbel
                obtain ⟨gg, off, rfl, hcell, hv1, hv2⟩ := HX.out.at_ hlt hb
                clear hb
                generalize nth xs k = p at *
                have hlt3 : (k : Int) < 60 := by omega
                have hq : 0 ≤ p.tdiv 4 % 4 ∧ p.tdiv 4 % 4 < 4 := by omega
                have hcc : 0 ≤ p % 4 ∧ p % 4 < 4 := by omega
                have hv : 0 ≤ p % 1024 := by omega
                generalize hcn : p % 4 = c at *
                generalize hqn : p.tdiv 4 % 4 = q at *
                have hpp : 0 ≤ c + 4 * q ∧ c + 4 * q < 16 := by omega
                have hpc : (c + 4 * q) % 4 = c := by omega
                by_cases hbit : p / 16 % 2 = 1
                · have hb1 : (p / 16 % 2 * 16 == 16) = true := by rw [hbit]; rfl
                  have hset := Lib.hid (rSet_root hx hP (by omega) HR.out c (c + 4 * q) (p % 1024) hcc hpp hv (OKP.cl hcc (stSet.ok hpp hpc)) (HRO.out _ hpp.1 hpp.2))
                  clear hbit hpc hv
                  go_wp2_with (go_at_call 18; refine (num_calls _ _).mono ?_; rintro e w' ⟨rfl, rfl⟩)
                  refine hset.out.mono ?_
                  rintro e w4 ⟨rfl, hr4, hP4, hK4⟩
                  have hx4 := hx.keep hK4
                  have HR4 := Lib.hid hr4
                  clear hr4
                  go_wp2_with (go_at_call 18; refine (num_calls _ _).mono ?_; rintro e w' ⟨rfl, rfl⟩)
                  go_roundw
                  case rel => exact ⟨k + 1, by go_num, by omega, by omega, hbel.trans (hK4.below LL.out), hx4, _, _, HR4.out, HRO.out.wr hpp HR.out.2.1, hP4.mono (by omega)⟩
                  case measure => simp [intOf]; omega
                · have hb0 : p / 16 % 2 = 0 := by omega
                  have hb1 : (p / 16 % 2 * 16 == 16) = false := by rw [hb0]; rfl
                  have hget := Lib.hid (rGet_ok hx hP (by omega) HR.out c (c + 4 * q) hcc hpp (OKP.cl hcc (rdSet.ok hpp hpc)))
                  clear hbit hb0 hpc hv
                  go_wp2_with (go_at_call 18; refine (num_calls _ _).mono ?_; rintro e w' ⟨rfl, rfl⟩)
                  refine hget.out.mono ?_
                  rintro e w4 ⟨rfl, hP4, hK4⟩
                  have hx4 := hx.keep hK4
                  go_wp2_with (go_at_call 18; refine (num_calls _ _).mono ?_; rintro e w' ⟨rfl, rfl⟩)
                  go_roundw
                  case rel => exact ⟨k + 1, by go_num, by omega, by omega, hbel.trans (hK4.below LL.out), hx4, _, _, HR.out, HRO.out, hP4.mono (by omega)⟩
                  case measure => simp [intOf]; omega
              · have hor : k = len ∨ (k < len ∧ ¬ (k : Int) < 60) := by omega
                clear hboth
                have HS : Below w1.heap.size w1 wr ∧ RadAt L wr x a 0 ∧ ArP L wr a ws 4 400 OKP := ⟨hbel, hx, hP.mono (by omega)⟩
                clear hbel hx hP HRO
                rcases hor with rfl | ⟨hlt, hlt3⟩
                all_goals (
                  go_wp2_with (go_at_call 18; refine (num_calls _ _).mono ?_; rintro e w' ⟨rfl, rfl⟩)
                  go_loopw [14] (fun i wr => ∃ c : Nat, i = .int .i64 c ∧ c ≤ 4 ∧ Below w1.heap.size w1 wr ∧ RadAt L wr x a 0 ∧ ArP L wr a ws 4 400 OKP) (fun i _ => 4 - (intOf i).toNat)
                  case atStart => exact ⟨0, rfl, by omega, HS⟩
                  case round =>
                    clear HS
                    obtain ⟨c, rfl, hc, hbel, hx, hP⟩ := hrel
                    by_cases hc4 : c < 4
                    · have hc4' : (c : Int) < 4 := by omega
                      have HS : Below w1.heap.size w1 wr ∧ RadAt L wr x a 0 ∧ ArP L wr a ws 4 400 OKP := ⟨hbel, hx, hP⟩
                      clear hbel hx hP
                      go_wp2_with (go_at_call 18; refine (num_calls _ _).mono ?_; rintro e w' ⟨rfl, rfl⟩)
                      go_loopw [15] (fun i wr => ∃ d : Nat, i = .int .i64 d ∧ d ≤ c ∧ Below w1.heap.size w1 wr ∧ RadAt L wr x a 0 ∧ ArP L wr a ws 4 400 OKP) (fun i _ => c - (intOf i).toNat)
                      case atStart => exact ⟨0, rfl, by omega, HS⟩
                      case round =>
                        clear HS
                        obtain ⟨d, rfl, hd, hbel, hx, hP⟩ := hrel
                        by_cases hdc : d < c
                        · have hdc' : (d : Int) < c := by omega
                          go_wp2_with (go_at_call 18; refine (num_calls _ _).mono ?_; rintro e w' ⟨rfl, rfl⟩)
                          refine (trace_p hP (by omega) (c := c) (by omega) (Q := fun t => ∀ y ∈ t, okAcc c y) (fun ts _ h => h c (by omega) hc4')).mono ?_
                          rintro e w5 ⟨v5, t5, rfl, hq5, hl5, hs5, hB5⟩
                          have hP5 := hP.below hB5
                          have hx5 := hx.below hB5
                          have hbel5 := bel_then hbel hB5
                          have HQ5 := Lib.hid hq5
                          clear hq5 hP hx hbel hB5
                          go_wp2_with (go_at_call 18; refine (num_calls _ _).mono ?_; rintro e w' ⟨rfl, rfl⟩)
                          refine (trace_p hP5 (by omega) (c := d) (by omega) (Q := fun t => ∀ y ∈ t, okAcc d y) (fun ts _ h => h d (by omega) (by omega))).mono ?_
                          rintro e w6 ⟨v6, t6, rfl, hq6, hl6, hs6, hB6⟩
                          have hP6 := hP5.below hB6
                          have hx6 := hx5.below hB6
                          have hbel6 := bel_then hbel5 hB6
                          have HM := Lib.hid (meet_false t5 t6 v5 v6 w6 (hs5.below hB6) hs6 hl5 hl6 (fun y hy z hz e => okAcc.apart (by omega) (HQ5.out y hy) (hq6 z hz) e))
                          clear hq6 hs5 hs6 hP5 hx5 hbel5 hB6 HQ5
                          go_wp2_with (go_at_call 18; refine (num_calls _ _).mono ?_; rintro e w' ⟨rfl, rfl⟩)
                          refine HM.out.mono ?_
                          rintro e w7 ⟨rfl, d7, rfl⟩
                          go_wp2_with (go_at_call 18; refine (num_calls _ _).mono ?_; rintro e w' ⟨rfl, rfl⟩)
                          go_roundw
                          case rel => exact ⟨d + 1, by go_num, by omega, below_drewN hbel6 d7, hx6, hP6.drewN d7⟩
                          case measure => simp [intOf]; omega
                        · have hdc' : ¬ (d : Int) < c := by omega
                          go_wp2_with (go_at_call 18; refine (num_calls _ _).mono ?_; rintro e w' ⟨rfl, rfl⟩)
                          go_roundw
                          case rel => exact ⟨c + 1, by go_num, by omega, hbel, hx, hP⟩
                          case measure => simp [intOf]; omega
                    · have hc4' : ¬ (c : Int) < 4 := by omega
                      go_wp2_with (go_at_call 18; refine (num_calls _ _).mono ?_; rintro e w' ⟨rfl, rfl⟩)
                      refine (clear_p (P' := RO0) hP (c := 0) (by omega) (fun ts hl _ => RO0.clear ts hl)).mono ?_
                      rintro e w5 ⟨rfl, hP5, hK5⟩
                      have hx5 := hx.keep hK5
                      go_wp2_with (go_at_call 18; refine (num_calls _ _).mono ?_; rintro e w' ⟨rfl, rfl⟩)
                      refine (rGet_ok hx5 hP5 (by omega) HR.out 0 (cut % 16) (by omega) hc16 (RO0.cl _ _)).mono ?_
                      rintro e w6 ⟨rfl, hP6, hK6⟩
                      have hx6 := hx5.keep hK6
                      go_wp2_with (go_at_call 18; refine (num_calls _ _).mono ?_; rintro e w' ⟨rfl, rfl⟩)
                      refine (rPages_ok hx6 hP6 (by omega) HR.out 0 (by omega) (fun p _ _ => RO0.cl _ p)).mono ?_
                      rintro e w7 ⟨v7, rfl, _, hP7, hK7⟩
                      have hP7' := hP7.sub (L' := L) fun _ h => .inl h
                      have hbel7 := hbel.trans (((hK5.trans hK6).trans hK7).below LL.out)
                      clear hP7 hK7 hP6 hK6 hP5 hK5 hx hx5 hx6 hP hbel
                      go_wp2_with (go_at_call 18; refine (num_calls _ _).mono ?_; rintro e w' ⟨rfl, rfl⟩)
                      refine (trace_p hP7' (by omega) (c := 0) (by omega) (Q := fun t => ∀ y ∈ t, y.2 = false) (fun ts _ h => h)).mono ?_
                      rintro e w8 ⟨v8, t8, rfl, hq8, hl8, hs8, hB8⟩
                      go_wp2_with (go_at_call 18; refine (num_calls _ _).mono ?_; rintro e w' ⟨rfl, rfl⟩)
                      refine (words_none t8 v8 _ hs8 hl8 hq8).mono ?_
                      rintro e w9 ⟨rfl, d9, rfl⟩
                      clear hq8 hs8
                      go_wp2_with (go_at_call 18; refine (num_calls _ _).mono ?_; rintro e w' ⟨rfl, rfl⟩)
                      go_ret
                      exact ⟨rfl, bel_then HB.out (below_drewN (bel_then hbel7 hB8) d9)⟩))
end Go.Proofs.Ytacjpchcaknacaa
