
/- law12: FdsActs. -/
import Derived.Test.YtpmgfjglkbbhgaaFdsOne
import Derived.Test.YtpmgfjglkbbhgaaLawFds
import Derived.Test.YtpmgfjglkbbhgaaWords
import Derived.Test.YtpmgfjglkbbhgaaTraces
import Derived.Test.YtpmgfjglkbbhgaaActs
namespace Go.Proofs.Ytpmgfjglkbbhgaa
open Go.RowKit
set_option maxHeartbeats 2000000

/-- Each core touches its own words alone. -/
def fdP (n : Nat) (ts : List (List Acc)) : Prop := ∀ d : Int, 0 ≤ d → d < n → ∀ y ∈ tr ts d, fdSet 5 d y
theorem fdP.cl {n : Nat} (c : Int) (hc : 0 ≤ c ∧ c < n) : Cl n (fdP n) c (fdSet 5 c) := by
  intro ts x hl hp hx d d0 d1 y hy
  rw [tr_noted x ⟨hc.1, by omega⟩ d0] at hy
  split at hy
  · rename_i e'
    subst e'
    rcases List.mem_append.1 hy with hy | hy
    · exact hp d d0 d1 y hy
    · rw [List.mem_singleton.1 hy]; exact hx
  · exact hp d d0 d1 y hy
theorem fdP.clear {n : Nat} (c : Int) (ts : List (List Acc)) (hp : fdP n ts) : fdP n (ts.set c.toNat []) := by
  intro d d0 d1 y hy
  unfold tr at hy
  rw [List.getD_eq_getElem?_getD, List.getElem?_set] at hy
  split at hy
  · split at hy <;> simp at hy
  · exact hp d d0 d1 y (by unfold tr; rw [List.getD_eq_getElem?_getD]; exact hy)

theorem info_row : (Try.prog.info? 22).map (fun i => (i.zero, i.size, i.bytes)) = some (some (.slice none 0 0), 1, 24) := by kernel_rfl
/-- The table, its first k rows laid. -/
def tabArr (n k : Nat) (gs : Nat → Nat) : Array Value := ((List.range n).map fun i : Nat => if i < k then Value.slice (some ⟨gs i, 0, none⟩) 4 4 else .slice none 0 0).toArray
theorem tabArr_at {n k i : Nat} (gs : Nat → Nat) (h : i < k) (hk : i < n) : (tabArr n k gs)[i]? = some (.slice (some ⟨gs i, 0, none⟩) 4 4) := by simp [tabArr, h, hk]
theorem tabArr_at0 {n k : Nat} (gs : Nat → Nat) (hk : k < n) : (tabArr n k gs)[k]? = some (.slice none 0 0) := by simp [tabArr, hk]
def tabObj (n : Nat) : Obj := .cells (tabArr n 0 fun _ => 0) 22
theorem make_tab (n : Nat) (hn : n ≤ 100) (W : World) : (Instr.makeSlice 74 (.int .i64 (n : Int)) (.int .i64 (n : Int))).run Try.prog W = .ok (.slice (some ⟨W.heap.size, 0, none⟩) n n) (W.alloc (tabObj n)) := by
  obtain ⟨i0, hi, hz0, hz1, hz2⟩ := info_parts info_row
  have h := run_make_rowN (P := Try.prog) 74 22 i0 _ Try.underlying74 hi hz0 .i64 .i64 n n (Nat.le_refl _) (by rw [hz2]; omega) (by omega) W
  simp only [hz1, Nat.mul_one, Value.cells, madeCells_one] at h
  rw [h]
  unfold tabObj tabArr
  simp [List.map_const']
def zeros4 : Obj := .cells (hasArr (List.replicate 4 0) 0) 3
theorem make_four (W : World) : (Instr.makeSlice 22 (.int .i64 4) (.int .i64 4)).run Try.prog W = .ok (.slice (some ⟨W.heap.size, 0, none⟩) 4 4) (W.alloc zeros4) := by
  obtain ⟨i0, hi, hz0, hz1, hz2⟩ := info_parts info_intW
  have h := run_make_rowN (P := Try.prog) 22 3 i0 _ Try.underlying22 hi hz0 .i64 .i64 4 4 (Nat.le_refl _) (by rw [hz2]; omega) (by omega) W
  simp only [hz1, Nat.mul_one, Value.cells, madeCells_one] at h
  exact h
theorem hasArr_rep (n : Nat) (b : Int) : hasArr (List.replicate n 0) b = hasArr (List.replicate 4 0) 0 := by
  unfold hasArr
  simp only [rd_rep]

/-- The descriptors, and k rows of the table. -/
structure FAt (L : Nat → Prop) (w wr : World) (x a tv n m k : Nat) (gs : Nat → Nat) (ws : List Int) : Prop where
  keeps : Below w.heap.size w wr
  fds : FdsAt L wr x a 5
  ltv : L tv
  gtv : w.heap.size ≤ tv
  tab : Blk wr tv 22 (tabArr n k gs)
  lgs : ∀ i, i < k → L (gs i) ∧ w.heap.size ≤ gs i
  rows : ∀ i : Nat, i < k → Blk wr (gs i) 3 (hasArr ws (5 + i * 4))
  inj : ∀ i j, i < k → j < k → gs i = gs j → i = j
  len : ws.length = 5 + n * 4
  ar : ArP L wr a ws n m (fdP n)

theorem tabArr_set {n k g : Nat} {gs : Nat → Nat} : (tabArr n k gs).setIfInBounds k (.slice (some ⟨g, 0, none⟩) 4 4) = tabArr n (k + 1) (fun i => if i = k then g else gs i) := by
  apply Array.ext
  · simp [tabArr]
  · intro i h1 h2
    have hi : i < n := by simpa [tabArr] using h1
    rw [Array.getElem_setIfInBounds]
    · simp only [tabArr, List.getElem_toArray, List.getElem_map, List.getElem_range]
      by_cases e : k = i
      · subst e; rw [if_pos rfl, if_pos (by omega), if_pos rfl]
      · rw [if_neg e]
        by_cases h : i < k
        · rw [if_pos h, if_pos (by omega), if_neg (Ne.symm e)]
        · rw [if_neg h, if_neg (by omega)]
    · simpa [tabArr] using hi

theorem FAt.more {L : Nat → Prop} {w wr : World} {x a tv n m k N : Nat} {gs : Nat → Nat} (h : FAt L w wr x a tv n m k gs (List.replicate N 0)) :
    FAt (ins L wr.heap.size) w ((wr.setCell ⟨tv, k, none⟩ (.slice (some ⟨wr.heap.size, 0, none⟩) 4 4)).alloc zeros4) x a tv n m (k + 1) (fun i => if i = k then wr.heap.size else gs i) (List.replicate N 0) := by
  have hb := h.ar.bd
  have hlt : ∀ i, i < k → gs i < wr.heap.size := fun i hi => hb _ (h.lgs i hi).1
  have hsz := h.keeps.size
  have hs : (wr.setCell ⟨tv, k, none⟩ (.slice (some ⟨wr.heap.size, 0, none⟩) 4 4)).heap.size = wr.heap.size := by simp [World.setCell]
  have har := (h.ar.setCell (p := ⟨tv, k, none⟩) h.ltv (.slice (some ⟨wr.heap.size, 0, none⟩) 4 4)).allocIns zeros4
  rw [hs] at har
  refine ⟨(h.keeps.setCell (p := ⟨tv, k, none⟩) h.gtv _).alloc (by omega) _, ⟨ins.old h.fds.1, (h.fds.2.far (p := ⟨tv, k, none⟩) (h.fds.2.ne_ h.tab (by decide)) _).alloc _⟩, ins.old h.ltv, h.gtv, ?_, ?_, ?_, ?_, h.len, har⟩
  · have := (h.tab.set_ k (.slice (some ⟨wr.heap.size, 0, none⟩) 4 4)).alloc zeros4
    rw [tabArr_set] at this
    exact this
  · intro i hi
    by_cases e : i = k
    · simp only [if_pos e]; exact ⟨ins.new _ _, hsz⟩
    · simp only [if_neg e]; exact ⟨ins.old (h.lgs i (by omega)).1, (h.lgs i (by omega)).2⟩
  · intro i hi
    by_cases e : i = k
    · simp only [if_pos e]
      rw [hasArr_rep]
      exact Blk.newAt _ _ _ hs.symm
    · simp only [if_neg e]
      have hr := h.rows i (by omega)
      exact (hr.far (p := ⟨tv, k, none⟩) (hr.ne_ h.tab (by decide)) _).alloc _
  · intro i j hi hj e
    by_cases e1 : i = k
    · by_cases e2 : j = k
      · omega
      · simp only [if_pos e1, if_neg e2] at e
        have := hlt j (by omega); omega
    · by_cases e2 : j = k
      · simp only [if_neg e1, if_pos e2] at e
        have := hlt i (by omega); omega
      · simp only [if_neg e1, if_neg e2] at e
        exact h.inj i j (by omega) (by omega) e

theorem FAt.keep {L L2 : Nat → Prop} {w wr w4 : World} {x a tv n m m' : Nat} {gs : Nat → Nat} {ws : List Int} (h : FAt L w wr x a tv n m n gs ws) (hk : Keeps L wr w4) (hL : ∀ b, b < w.heap.size → L b) (hA : ArP L2 w4 a ws n m' (fdP n)) (hs : ∀ b, L b → L2 b) :
    FAt L w w4 x a tv n m' n gs ws :=
  ⟨h.keeps.trans (hk.below hL), h.fds.keep hk, h.ltv, h.gtv, hk.blk h.tab h.ltv, h.lgs, fun i hi => hk.blk (h.rows i hi) (h.lgs i hi).1, h.inj, h.len, hA.sub hs⟩

theorem FAt.one {L : Nat → Prop} {w wr w4 : World} {x a tv n m m0 c : Nat} {o : Obj} {gs : Nat → Nat} {ws ws' : List Int} (h : FAt L w wr x a tv n m n gs ws) (hc : c < n) (hL : ∀ b, b < w.heap.size → L b) (he : OneEnd (ins L wr.heap.size) (wr.alloc o).drew w4 a (gs c) 5 n m0 (fdP n) ws c ws') :
    FAt L w w4 x a tv n (m0 + 5) n gs ws' := by
  have hbd := h.ar.bd
  have hkk : Keeps (fun b => L b ∧ b ≠ gs c) wr w4 := ((Keeps.refl _ wr).alloc (fun b hb => hbd b hb.1) o).trans (he.keeps.undrew.sub fun b hb => ⟨ins.old hb.1, hb.2⟩)
  have hgc := h.lgs c hc
  have hrc := h.rows c hc
  refine ⟨h.keeps.trans (hkk.below fun b hb => ⟨hL b hb, by omega⟩), ⟨h.fds.1, hkk.blk h.fds.2 ⟨h.fds.1, h.fds.2.ne_ hrc (by decide)⟩⟩, h.ltv, h.gtv, hkk.blk h.tab ⟨h.ltv, h.tab.ne_ hrc (by decide)⟩, h.lgs, ?_, h.inj, he.len.trans h.len, he.ar.sub fun _ => ins.old⟩
  intro i hi
  by_cases e : i = c
  · subst e; exact he.blk
  · have hb := hkk.blk (h.rows i hi) ⟨(h.lgs i hi).1, fun e2 => e (h.inj i c hi hc e2)⟩
    have : hasArr ws' (5 + (i : Int) * 4) = hasArr ws (5 + (i : Int) * 4) := by
      unfold hasArr
      congr 1
      apply List.map_congr_left
      intro p hp
      have hp4 : p < 4 := by simpa using hp
      rw [he.other _ (by omega) (by omega)]
    rw [this]
    exact hb

set_option maxRecDepth 100000 in
theorem facts_walk (w : World) (cores : Int) (_ : (Lit.int .i64 cores).wf = true) {A : Option Addr} {len cap : Nat} {F : Nat → Nat → Int} (hx : Acts w A len cap 3 F) :
    Calls Try.prog 14 #[.int .i64 cores, .slice A len cap] w fun e w' => e = .returned (.bool true) ∧ Below w.heap.size w w' := by
  have hle := hx.len_le
  have HX := Lib.hid hx
  clear hx
  obtain ⟨n, hn, hn2, hn5⟩ : ∃ n : Nat, 1 + cores % 4 = n ∧ 1 ≤ n ∧ n ≤ 4 := ⟨(1 + cores % 4).toNat, by omega, by omega, by omega⟩
  have HMT := Lib.hid (make_tab n (by omega))
  have HM4 := Lib.hid make_four
  go_enter Try.func14, Try.ntmps14
  go_wp2_with (go_at_call 18; refine (num_calls _ _).mono ?_; rintro e w' ⟨rfl, rfl⟩)
  refine (new_to (ws := List.replicate (5 + n * 4) 0) (ts := List.replicate n []) (Bd.below w) (by omega) (by omega) (by rw [show (5 + (n : Int) * 4).toNat = 5 + n * 4 by omega]) (by rw [Int.toNat_natCast])).mono ?_
  rintro e w2 ⟨a, rfl, hA, hK⟩
  go_wp2_with (go_at_call 18; refine (num_calls _ _).mono ?_; rintro e w' ⟨rfl, rfl⟩)
  have hP1 : ArP (fun b => b < w.heap.size) w2 a (List.replicate (5 + n * 4) 0) n 0 (fdP n) := ArP.new n (by intro d _ _ y hy; rw [tr_rep] at hy; cases hy) hA
  refine (fds_new_ok hP1 5 (by omega) (by simp; omega) (fun i _ _ => rd_rep _ _)).mono ?_
  rintro e w3 ⟨x, rfl, hx, nx, _, hP2, hK2⟩
  have LL := Lib.hid (show ∀ b, b < w.heap.size → ins (fun b => b < w.heap.size) x b from fun b h => ins.old h)
  have HST := Lib.hid (show Below w.heap.size w w3 ∧ FdsAt (ins (fun b => b < w.heap.size) x) w3 x a 5 ∧ ArP (ins (fun b => b < w.heap.size) x) w3 a (List.replicate (5 + n * 4) 0) n 0 (fdP n) from ⟨(hK.trans hK2).below fun _ h => h, hx, hP2⟩)
  clear hA hK hP1 hx nx hP2 hK2
  generalize ins (fun b => b < w.heap.size) x = L0 at *
  go_wp2_with (go_at_call 18; refine (num_calls _ _).mono ?_; rintro e w' ⟨rfl, rfl⟩)
  go_loopw [10] (fun i wr => ∃ c : Nat, i = .int .i64 c ∧ c ≤ n ∧ Below w.heap.size w wr ∧ FdsAt L0 wr x a 5 ∧ ArP L0 wr a (List.replicate (5 + n * 4) 0) n 0 (fdP n)) (fun i _ => n - (intOf i).toNat)
  case atStart => exact ⟨0, rfl, by omega, HST.out⟩
  case round =>
    clear HST
    obtain ⟨c, rfl, hc, hbel, hx, hP⟩ := hrel
    have HX' := Lib.hid hx
    have HBEL := Lib.hid hbel
    clear hx hbel
    by_cases hlt : c < n
    · have hlt' : (c : Int) < (n : Int) := by omega
      go_wp2_with (fail)
      refine (clear_p hP (c := (c : Int)) ⟨by omega, by omega⟩ (fun ts hl hp => fdP.clear _ ts hp)).mono ?_
      rintro e w4 ⟨rfl, hP4, hK4⟩
      go_wp2_with (fail)
      go_roundw
      case rel => exact ⟨c + 1, by go_num, by omega, HBEL.out.trans (hK4.below LL.out), HX'.out.keep hK4, hP4⟩
      case measure => simp [intOf]; omega
    · have hlt' : ¬ (c : Int) < (n : Int) := by omega
      have hmt := HMT.out wr
      go_upto_region 11 with (fail)
      have hsz := HBEL.out.size
      have HST : ∃ L gs, (∀ b, b < w.heap.size → L b) ∧ FAt L w (wr.alloc (tabObj n)) x a wr.heap.size n 0 0 gs (List.replicate (5 + n * 4) 0) := by
        refine ⟨ins L0 wr.heap.size, fun _ => 0, fun b h => ins.old (LL.out b h), HBEL.out.alloc hsz _, ⟨ins.old HX'.out.1, HX'.out.2.alloc _⟩, ins.new _ _, hsz, Blk.new wr _ _, fun i hi => absurd hi (by omega), fun i hi => absurd hi (by omega), fun i _ hi => absurd hi (by omega), by simp, hP.allocIns _⟩
      have HST := Lib.hid HST
      clear hP hlt hmt hsz HBEL HX' LL hlt' hc
      generalize wr.heap.size = tv at *
      generalize wr.alloc (tabObj n) = wt at *
      clear wr
      go_wp2_with (fail)
      go_loopw [12] (fun i wr => ∃ (k : Nat) (L : Nat → Prop) (gs : Nat → Nat), i = .int .i64 k ∧ k ≤ n ∧ (∀ b, b < w.heap.size → L b) ∧ FAt L w wr x a tv n 0 k gs (List.replicate (5 + n * 4) 0)) (fun i _ => n - (intOf i).toNat)
      case atStart =>
        obtain ⟨L, gs, h1, h2⟩ := HST.out
        exact ⟨0, L, gs, rfl, by omega, h1, h2⟩
      case round =>
        clear HST
        obtain ⟨k, L, gs, rfl, hk, hLL, hF⟩ := hrel
        have LL := Lib.hid hLL
        have HF := Lib.hid hF
        clear hLL
        by_cases hlt : k < n
        · have hlt' : (k : Int) < (n : Int) := by omega
          have hm4 := HM4.out wr
          have f1 := hF.tab.frozen k
          have f2 := (hF.tab.cell k).trans (tabArr_at0 gs hlt)
          have htv := hF.ar.bd _ hF.ltv
          clear hF
          go_wp2_with (fail)
          go_roundw
          case rel => exact ⟨k + 1, ins L wr.heap.size, _, by go_num, by omega, fun b h => ins.old (LL.out b h), HF.out.more⟩
          case measure => simp [intOf]; omega
        · have hlt' : ¬ (k : Int) < (n : Int) := by omega
          obtain rfl : k = n := by omega
          clear hF hlt hlt'
          go_wp2_with (fail)
          go_loopw [13] (fun i wr => ∃ (j : Nat) (ws : List Int), i = .int .i64 j ∧ j ≤ len ∧ j ≤ 200 ∧ FAt L w wr x a tv k (20 * j) k gs ws) (fun i _ => len - (intOf i).toNat)
          case atStart => exact ⟨0, _, rfl, by omega, by omega, HF.out⟩
          case round =>
            clear HF
            obtain ⟨j, ws, rfl, hj, hj2, hF⟩ := hrel
            have HF := Lib.hid hF
            clear hF
            by_cases hboth : j < len ∧ j < 200
            · obtain ⟨hlt, hlt2⟩ := hboth
              have hlt3 : (j : Int) < 200 := by omega
              obtain ⟨gg, off, rfl, hcell⟩ := HX.out.at_ hlt HF.out.keeps
              have q0 : wr.cell? ⟨gg, off + j * 3, none⟩ = some (.int .i64 (F j 0)) := (hcell 0 (by omega)).1
              have q1 : wr.cell? ⟨gg, off + j * 3 + 1, none⟩ = some (.int .i64 (F j 1)) := (hcell 1 (by omega)).1
              have q2 : wr.cell? ⟨gg, off + j * 3 + 2, none⟩ = some (.int .i64 (F j 2)) := (hcell 2 (by omega)).1
              clear hcell
              generalize F j 0 = K at *
              generalize F j 1 = C at *
              generalize F j 2 = X at *
              have HBl := Lib.hid (Blk.new wr 76 #[.int .i64 K, .int .i64 C, .int .i64 X])
              by_cases hC : C < 0 ∨ (k : Int) ≤ C
              · have HFX := Lib.hid (show FdsAt L (wr.alloc (Obj.cells #[.int .i64 K, .int .i64 C, .int .i64 X] 76)) x a 5 ∧ ArP L (wr.alloc (Obj.cells #[.int .i64 K, .int .i64 C, .int .i64 X] 76)) a ws k (20 * j) (fdP k) from ⟨⟨HF.out.fds.1, HF.out.fds.2.alloc _⟩, HF.out.ar.alloc _⟩)
                have HE1 := Lib.hid (open_err HFX.out.1 HFX.out.2 C 1 (.inl hC))
                have HE2 := Lib.hid (close_err (k := 1200) C 0 rfl (get_err HFX.out.1 HFX.out.2 C 0 hC))
                have HE3 := Lib.hid (list_err HFX.out.1 HFX.out.2 C hC)
                have hC2 : C < 0 ∨ (¬ C < 0 ∧ (k : Int) ≤ C) := by omega
                clear hC
                rcases hC2 with hC | ⟨hC, hC3⟩
                all_goals (
                  go_wp2_with (fail)
                  refine HE1.out.mono ?_
                  rintro e w' ⟨rfl, rfl⟩
                  go_wp2_with (fail)
                  refine HE2.out.mono ?_
                  rintro e w' ⟨rfl, rfl⟩
                  go_wp2_with (go_at_call 18; refine (num_calls _ _).mono ?_; rintro e w' ⟨rfl, rfl⟩)
                  refine HE3.out.mono ?_
                  rintro e w' ⟨rfl, rfl⟩
                  go_wp2_with (fail)
                  go_roundw
                  case rel => exact ⟨j + 1, ws, by go_num, by omega, by omega, HF.out.keep ((Keeps.refl L wr).alloc HF.out.ar.bd _) LL.out ((HF.out.ar.alloc _).mono (by omega)) fun _ h => h⟩
                  case measure => simp [intOf]; omega)
              · have hC0 : ¬ C < 0 := by omega
                have hCk : ¬ (k : Int) ≤ C := by omega
                have hC00 : 0 ≤ C := by omega
                have hCkk : C < (k : Int) := by omega
                obtain ⟨c, rfl⟩ : ∃ c : Nat, C = c := ⟨C.toNat, by omega⟩
                clear hC hCk
                have hck : c < k := by omega
                have HFX := Lib.hid (show FdsAt (ins L wr.heap.size) (wr.alloc (Obj.cells #[.int .i64 K, .int .i64 c, .int .i64 X] 76)) x a 5 ∧ ArP (ins L wr.heap.size) (wr.alloc (Obj.cells #[.int .i64 K, .int .i64 c, .int .i64 X] 76)) a ws k (20 * j) (fdP k) from ⟨⟨ins.old HF.out.fds.1, HF.out.fds.2.alloc _⟩, HF.out.ar.allocIns _⟩)
                have HONE := Lib.hid (one_ok (w := (wr.alloc (Obj.cells #[.int .i64 K, .int .i64 c, .int .i64 X] 76)).drew) HFX.out.1 HFX.out.2.drew (by omega) (gv := gs c) (ins.old (HF.out.lgs c hck).1) K c X (Blk.alloc (HF.out.rows c hck) _) ⟨by omega, by omega⟩ (by omega) (by have := HF.out.len; omega) (fdP.cl _ ⟨by omega, by omega⟩))
                have ct := ((HF.out.tab.alloc (Obj.cells #[.int .i64 K, .int .i64 c, .int .i64 X] 76)).cell c).trans (tabArr_at gs hck hck)
                have b0 := HBl.out.cell 0
                have b1 := HBl.out.cell 1
                have b2 := HBl.out.cell 2
                have HCT := Lib.hid ct
                have HLL := Lib.hid (show ∀ b, b < w.heap.size → L b from LL.out)
                have HL := Lib.hid (show (∀ b : Nat, (b = tv ∨ b = wr.heap.size) → ins L wr.heap.size b ∧ b ≠ gs c) from fun b hb => by
                  have h1 := HF.out.ar.bd _ (HF.out.lgs c hck).1
                  rcases hb with rfl | rfl
                  · exact ⟨ins.old HF.out.ltv, HF.out.tab.ne_ (HF.out.rows c hck) (by decide)⟩
                  · exact ⟨ins.new _ _, by omega⟩)
                have FIN := Lib.hid (fun (w5 w6 : World) (ws5 : List Int) (h5 : OneEnd (ins L wr.heap.size) (wr.alloc (Obj.cells #[.int .i64 K, .int .i64 c, .int .i64 X] 76)).drew w5 a (gs c) 5 k (20 * j) (fdP k) ws c ws5) (h6 : ArP (ins L wr.heap.size) w6 a ws5 k (20 * j + 5 + 8) (fdP k)) (h7 : Keeps (ins L wr.heap.size) w5 w6) =>
                  show FAt L w w6 x a tv k (20 * (j + 1)) k gs ws5 from ((HF.out.one hck HLL.out h5).keep h7.out HLL.out ((h6.sub fun _ => ins.old).mono (by omega)) fun _ h => h))
                have LST := Lib.hid (fun (w5 : World) (ws5 : List Int) (h5 : OneEnd (ins L wr.heap.size) (wr.alloc (Obj.cells #[.int .i64 K, .int .i64 c, .int .i64 X] 76)).drew w5 a (gs c) 5 k (20 * j) (fdP k) ws c ws5) =>
                  have h := HF.out.one hck HLL.out h5
                  listed_ok ⟨ins.old h.fds.1, h.fds.2⟩ h5.ar (by omega) (gv := gs c) (ins.old (h.lgs c hck).1) c (h.rows c hck) ⟨by omega, by omega⟩ (by omega) (by have := h.len; omega) (fdP.cl _ ⟨by omega, by omega⟩))
                clear HFX HF HBl
                go_upto_region 24 with (fail)
                go_region_held3 (fun W => W.cell? ⟨tv, c, none⟩ = some (.slice (some ⟨gs c, 0, none⟩) 4 4) ∧ W.cell? ⟨wr.heap.size, 0, none⟩ = some (.int .i64 K) ∧ W.cell? ⟨wr.heap.size, 1, none⟩ = some (.int .i64 c) ∧ W.cell? ⟨wr.heap.size, 2, none⟩ = some (.int .i64 X))
                  (first
                    | exact ⟨ct, b0, b1, b2⟩
                    | exact ⟨hE.keeps.undrew.cellOf (HL.out _ (.inl rfl)) ct, hE.keeps.undrew.cellOf (HL.out _ (.inr rfl)) b0, hE.keeps.undrew.cellOf (HL.out _ (.inr rfl)) b1, hE.keeps.undrew.cellOf (HL.out _ (.inr rfl)) b2⟩
                    | exact ⟨hK6.cellOf (HL.out _ (.inl rfl)).1 (hE.keeps.undrew.cellOf (HL.out _ (.inl rfl)) ct), hK6.cellOf (HL.out _ (.inr rfl)).1 (hE.keeps.undrew.cellOf (HL.out _ (.inr rfl)) b0), hK6.cellOf (HL.out _ (.inr rfl)).1 (hE.keeps.undrew.cellOf (HL.out _ (.inr rfl)) b1), hK6.cellOf (HL.out _ (.inr rfl)).1 (hE.keeps.undrew.cellOf (HL.out _ (.inr rfl)) b2)⟩)
                  ((first
                    | (go_at_call 42; refine HONE.out.mono ?_; rintro e w5 ⟨rfl, ws5, hE⟩)
                    | (go_at_call 43; refine (LST.out _ _ hE).mono ?_; rintro e w6 ⟨rfl, hA6, hK6⟩)))
                go_wp2
                go_roundw
                case rel => exact ⟨j + 1, ws5, by go_num, by omega, by omega, FIN.out _ _ _ hE hA6 hK6⟩
                case measure => simp [intOf]; omega
            · have hex : ¬ j < len ∨ (j < len ∧ ¬ ((j : Int) < 200)) := by omega
              have HS := Lib.hid (show ArP L wr a ws k 4000 (fdP k) ∧ Below w.heap.size w wr from ⟨HF.out.ar.mono (by omega), HF.out.keeps⟩)
              clear HF hboth
              rcases hex with hjl | ⟨hjl, hj300⟩
              all_goals (
                go_wp2
                go_loopw [18] (fun i wr => ∃ c : Nat, i = .int .i64 c ∧ c ≤ k ∧ ArP L wr a ws k 4000 (fdP k) ∧ Below w.heap.size w wr) (fun i _ => k - (intOf i).toNat)
                case atStart => exact ⟨0, rfl, by omega, HS.out⟩
                case round =>
                  clear HS
                  obtain ⟨c, rfl, hc, hP, hB⟩ := hrel
                  by_cases hlc : c < k
                  · have hlc' : (c : Int) < (k : Int) := by omega
                    go_wp2
                    go_loopw [19] (fun i wr => ∃ d : Nat, i = .int .i64 d ∧ d ≤ c ∧ ArP L wr a ws k 4000 (fdP k) ∧ Below w.heap.size w wr) (fun i _ => c - (intOf i).toNat)
                    case atStart => exact ⟨0, rfl, by omega, hP, hB⟩
                    case round =>
                      clear hP hB
                      obtain ⟨d, rfl, hd, hP, hB⟩ := hrel
                      by_cases hld : d < c
                      · have hld' : (d : Int) < (c : Int) := by omega
                        have TC := Lib.hid (fun W (h : ArP L W a ws k 4000 (fdP k)) => trace_p h (by omega) (c := (c : Int)) ⟨by omega, by omega⟩ (Q := fun t => ∀ y ∈ t, fdSet 5 c y) (fun ts _ hp => hp c (by omega) (by omega)))
                        have TD := Lib.hid (fun W (h : ArP L W a ws k 4000 (fdP k)) => trace_p h (by omega) (c := (d : Int)) ⟨by omega, by omega⟩ (Q := fun t => ∀ y ∈ t, fdSet 5 d y) (fun ts _ hp => hp d (by omega) (by omega)))
                        go_wp2_with (fail)
                        refine (TC.out _ hP).mono ?_
                        rintro e w4 ⟨v4, t4, rfl, hq4, hl4, hs4, hB4⟩
                        have hP4 := hP.below hB4
                        go_wp2_with (fail)
                        refine (words_full t4 v4 false w4 hs4 hl4).mono ?_
                        rintro e w5 ⟨u, us, rfl, hW5⟩
                        have hP5 := hP4.below hW5.keeps
                        have hB5 := bel_then (bel_then hB hB4) hW5.keeps
                        clear hs4
                        go_wp2_with (fail)
                        refine (TD.out _ hP5).mono ?_
                        rintro e w6 ⟨v6, t6, rfl, hq6, hl6, hs6, hB6⟩
                        have hP6 := hP5.below hB6
                        go_wp2_with (fail)
                        refine (words_full t6 v6 false w6 hs6 hl6).mono ?_
                        rintro e w7 ⟨u', us', rfl, hW7⟩
                        have hP7 := hP6.below hW7.keeps
                        have hB7 := bel_then (bel_then hB5 hB6) hW7.keeps
                        have hsl1 := (hW5.own.sl.below hB6).below hW7.keeps
                        have hsl2 := hW7.own.sl
                        have hno2 : ∀ i j, i < us.length → j < us'.length → nth us i ≠ nth us' j := by
                          intro i j hi hj e
                          obtain ⟨x, hx, _, ex⟩ := (hW5.st.mem _).1 (nth_mem hi)
                          obtain ⟨y, hy, _, ey⟩ := (hW7.st.mem _).1 (nth_mem hj)
                          have h1 := hq4 x (List.mem_of_mem_take hx)
                          have h2 := hq6 y (List.mem_of_mem_take hy)
                          unfold fdSet at h1 h2
                          omega
                        have hlu : us.length ≤ 1099511627776 := Nat.le_trans hW5.st.len (Nat.le_trans (List.length_take_le _ _) hl4)
                        have hlu' : us'.length ≤ 1099511627776 := Nat.le_trans hW7.st.len (Nat.le_trans (List.length_take_le _ _) hl6)
                        clear hW5 hW7 TC TD hq4 hq6 hs6 hP4 hP5 hP6 hB4 hB5 hB6 hP hB
                        obtain ⟨_, A1, cap1, rfl, hc1, h⟩ := hsl1
                        obtain ⟨_, A2, cap2, rfl, hc2, h'⟩ := hsl2
                        have H := Lib.hid h
                        have H' := Lib.hid h'
                        have HNO := Lib.hid hno2
                        have HP := Lib.hid hP7
                        have HBB := Lib.hid hB7
                        clear h h' hno2 hP7 hB7
                        go_wp2
                        go_loopw [22] (fun i wr => ∃ p : Nat, p ≤ us.length ∧ i = .int .i64 p ∧ ∃ d, wr = w7.drewN d) (fun i _ => us.length - (intOf i).toNat)
                        case atStart => exact ⟨0, Nat.zero_le _, rfl, 0, rfl⟩
                        case round =>
                          obtain ⟨p, hp, rfl, dd, rfl⟩ := hrel
                          by_cases hlt : p < us.length
                          · obtain ⟨g1, off1, rfl, hcell⟩ := H.out (by omega)
                            have q1 := hcell _ _ (ints_at hlt)
                            have HM := Lib.hid (fun j => HNO.out p j hlt)
                            clear hcell H
                            generalize nth us p = x1 at *
                            go_wp2
                            go_loopw [23] (fun i wr => ∃ q : Nat, q ≤ us'.length ∧ i = .int .i64 q ∧ ∃ d, wr = w7.drewN d) (fun i _ => us'.length - (intOf i).toNat)
                            case atStart => exact ⟨0, Nat.zero_le _, rfl, _, rfl⟩
                            case round =>
                              obtain ⟨q, hq, rfl, dd2, rfl⟩ := hrel
                              by_cases hlt2 : q < us'.length
                              · obtain ⟨g2, off2, rfl, hcell'⟩ := H'.out (by omega)
                                have q3 := hcell' _ _ (ints_at hlt2)
                                have hne := HM.out q hlt2
                                clear hcell' H'
                                generalize nth us' q = y1 at *
                                have he : (x1 == y1) = false := by simpa using hne
                                clear hne
                                go_wp2
                                go_quiet (fail)
                                go_wp2
                                go_roundw
                                case rel => exact ⟨q + 1, by omega, by go_num, _, rfl⟩
                                case measure => simp [intOf]; omega
                              · go_wp2
                                go_roundw
                                case rel => exact ⟨p + 1, by omega, by go_num, _, rfl⟩
                                case measure => simp [intOf]; omega
                          · go_wp2
                            go_roundw
                            case rel => exact ⟨d + 1, by go_num, by omega, HP.out.drewN _, below_drewN' HBB.out _⟩
                            case measure => simp [intOf]; omega
                      · have hld' : ¬ (d : Int) < (c : Int) := by omega
                        go_wp2
                        go_roundw
                        case rel => exact ⟨c + 1, by go_num, by omega, hP, hB⟩
                        case measure => simp [intOf]; omega
                  · have hlc' : ¬ (c : Int) < (k : Int) := by omega
                    go_wp2_with (go_at_call 18; refine (num_calls _ _).mono ?_; rintro e w' ⟨rfl, rfl⟩)
                    refine (awake12 _).mono ?_
                    rintro e w8 ⟨rfl, hB8⟩
                    go_wp2_with (fail)
                    go_ret
                    exact ⟨rfl, bel_then hB hB8⟩)
end Go.Proofs.Ytpmgfjglkbbhgaa
