
/- Arena: note. -/
import Derived.Test.YtkbajjpdngfhbaaArNote
namespace Go.Proofs.Ytkbajjpdngfhbaa
open Go.RowKit
set_option maxHeartbeats 400000

section
variable {L : Nat → Prop} {w : World} {a bw bt : Nat} {vs : List Value} {ws : List Int} {ts : List (List Acc)}

/-- What the append and the store leave is an arena. -/
theorem note_end {w1 : World} {o : Obj} {v : Value} {g cap c : Nat} {x : Acc} {ex : Value} (h : ArIn L w a bw bt vs ws ts) (hc : c < ts.length) (hv : vs.getD c undef = v) (hx : encAcc x = ex) {tt : List Acc} (htt : tr ts c = tt)
    (hown : w1.ownsRow 0 20 1 (.slice (some ⟨g, 0, none⟩) (tt.length + 1) cap) (tt.length + 1) (tt.map encAcc ++ [ex]))
    (hg : (w.alloc o).drew.grownBy w1 v.ownBlock) (hat : v.ownBlock = some g ∨ g = w.heap.size + 1) :
    ArIn L (w1.setCell ⟨bt, c, none⟩ (.slice (some ⟨g, 0, none⟩) (tt.length + 1) cap)) a bw bt (vs.set c (.slice (some ⟨g, 0, none⟩) (tt.length + 1) cap)) ws (noted ts (c : Int) x) ∧
    Keeps L w (w1.setCell ⟨bt, c, none⟩ (.slice (some ⟨g, 0, none⟩) (tt.length + 1) cap)) := by
  subst htt
  have etr : tr ts (c : Int) = ts.getD c [] := rfl
  rw [etr] at hown ⊢
  clear etr
  subst hv
  have old : ∀ b, b < w.heap.size → some b ≠ (vs.getD c undef).ownBlock → w1.heap[b]? = w.heap[b]? := fun b hb hn =>
    (hg.block b (by simp; omega) hn).trans (Below.heap_alloc _ _ _ hb)
  have na := own_blk_ne (h.row c hc) h.ba (by decide)
  have nw := own_blk_ne (h.row c hc) h.bws (by decide)
  have nt := own_blk_ne (h.row c hc) h.bts (by decide)
  have sz : w.heap.size ≤ w1.heap.size := by have := hg.size; simp at this; omega
  have ba1 : Blk w1 a _ _ := Blk.of_heap (old _ h.ba.lt (Ne.symm na)) h.ba
  have bw1 : Blk w1 bw _ _ := Blk.of_heap (old _ h.bws.lt (Ne.symm nw)) h.bws
  have bt1 : Blk w1 bt _ _ := Blk.of_heap (old _ h.bts.lt (Ne.symm nt)) h.bts
  have nab : a ≠ bt := h.ba.ne_ h.bts (by decide)
  have nwb : bw ≠ bt := h.bws.ne_ h.bts (by decide)
  have ngb : g ≠ bt := fun e => own_blk_ne hown bt1 (by decide) (by simp [Value.ownBlock, e])
  have ngL : ¬ L g := by
    rcases hat with e | e
    · exact h.lrow c hc g e
    · exact h.bd.ge (by omega)
  have hl' := h.vl
  constructor
  · refine ⟨fun b hb => Nat.lt_of_lt_of_le (h.bd b hb) (by simpa [World.setCell] using sz), h.la, h.lw, h.lt, ?_, bw1.far nwb _, ?_, ?_, ?_, ?_, ?_, h.wsl, ?_⟩
    · rw [noted_length]; exact ba1.far nab _
    · have := bt1.set_ c (.slice (some ⟨g, 0, none⟩) ((ts.getD c []).length + 1) cap)
      simpa using this
    · simp [noted_length, hl']
    · intro c' hc'
      rw [noted_length] at hc'
      by_cases e : c' = c
      · subst e
        have h1 : (vs.set c' (Value.slice (some ⟨g, 0, none⟩) ((ts.getD c' []).length + 1) cap)).getD c' undef = .slice (some ⟨g, 0, none⟩) ((ts.getD c' []).length + 1) cap := by
          simp [List.getD, hl', hc']
        have h2 : (noted ts (c' : Int) x).getD c' [] = ts.getD c' [] ++ [x] := by simp [noted, tr, List.getD, hc']
        rw [h1, h2]
        have h3 : ((ts.getD c' [] ++ [x]).map encAcc) = (ts.getD c' []).map encAcc ++ [ex] := by simp [hx]
        rw [h3, List.length_append, List.length_singleton]
        exact ownsRow_setCell_other hown (a := ⟨bt, c', none⟩) (by simp [Value.ownBlock]; exact ngb) _
      · have h1 : (vs.set c (Value.slice (some ⟨g, 0, none⟩) ((ts.getD c []).length + 1) cap)).getD c' undef = vs.getD c' undef := by
          simp [List.getD, Ne.symm e]
        have h2 : (noted ts (c : Int) x).getD c' [] = ts.getD c' [] := by simp [noted, tr, List.getD, Ne.symm e]
        rw [h1, h2]
        have r := h.row c' hc'
        have r1 : w1.ownsRow 0 20 1 (vs.getD c' undef) (ts.getD c' []).length ((ts.getD c' []).map encAcc) := by
          refine ⟨r.1, ?_⟩
          rcases r.2 with r2 | ⟨g', cap', cur, hv', hg', hh, rest⟩
          · exact .inl r2
          · refine .inr ⟨g', cap', cur, hv', hg', ?_, rest⟩
            rw [old g' (lt_of_block hh) (fun e' => h.apart c' c hc' hc e g' (by rw [hv']; rfl) e'.symm)]
            exact hh
        exact ownsRow_setCell_other r1 (a := ⟨bt, c, none⟩) (own_blk_ne r1 bt1 (by decide)) _
    · intro c' hc' b hb
      rw [noted_length] at hc'
      by_cases e : c' = c
      · subst e
        simp [List.getD, hl', hc', Value.ownBlock] at hb
        exact hb ▸ ngL
      · have h1 : (vs.set c (Value.slice (some ⟨g, 0, none⟩) ((ts.getD c []).length + 1) cap)).getD c' undef = vs.getD c' undef := by
          simp [List.getD, Ne.symm e]
        rw [h1] at hb
        exact h.lrow c' hc' b hb
    · intro c1 c2 hc1 hc2 hne b hb1 hb2
      rw [noted_length] at hc1 hc2
      have oldlt : ∀ c', c' < ts.length → ∀ b, (vs.getD c' undef).ownBlock = some b → b < w.heap.size := fun c' hc' b hb => ((h.row c' hc').lt b hb).2
      have get : ∀ c', c' ≠ c → (vs.set c (Value.slice (some ⟨g, 0, none⟩) ((ts.getD c []).length + 1) cap)).getD c' undef = vs.getD c' undef := fun c' e => by
        simp [List.getD, Ne.symm e]
      have getc : (vs.set c (Value.slice (some ⟨g, 0, none⟩) ((ts.getD c []).length + 1) cap)).getD c undef = .slice (some ⟨g, 0, none⟩) ((ts.getD c []).length + 1) cap := by
        simp [List.getD, hl', hc]
      have key : ∀ c', c' < ts.length → c' ≠ c → (vs.getD c' undef).ownBlock = some g → False := fun c' hc' e hb => by
        rcases hat with e2 | e2
        · exact h.apart c' c hc' hc e g hb e2
        · have := oldlt c' hc' g hb; omega
      by_cases e1 : c1 = c
      · subst e1
        have e2 : c2 ≠ c1 := Ne.symm hne
        rw [getc] at hb1
        rw [get c2 e2] at hb2
        simp [Value.ownBlock] at hb1
        subst hb1
        exact key c2 hc2 e2 hb2
      · rw [get c1 e1] at hb1
        by_cases e2 : c2 = c
        · subst e2
          rw [getc] at hb2
          simp [Value.ownBlock] at hb2
          subst hb2
          exact key c1 hc1 e1 hb1
        · rw [get c2 e2] at hb2
          exact h.apart c1 c2 hc1 hc2 hne b hb1 hb2
    · rw [noted_length]; exact h.tsl
  · have k0 : Keeps L w w1 := by
      have k := (((Keeps.refl L w).alloc h.bd o).drew).grown hg ((h.bd.alloc o).drew) (fun b hb => h.lrow c hc b hb)
      exact k
    exact k0.setCell h.lt _

theorem note_in (h : ArIn L w a bw bt vs ws ts) (c : Int) (h0 : 0 ≤ c) (h1 : c < ts.length) (x : Acc) (hs : (tr ts c).length ≤ 1099511627776) :
    Calls Try.prog 68 #[.pointer (some ⟨a, 0, none⟩), .int .i64 c, encAcc x] w fun e w' => e = .returned (.tuple #[]) ∧ (∃ vs', ArIn L w' a bw bt vs' ws (noted ts c x)) ∧ Keeps L w w' := by
  obtain ⟨c, rfl⟩ := Int.eq_ofNat_of_zero_le h0
  have hc : c < ts.length := by omega
  obtain ⟨i0, hi, hz0, hz1, hz2⟩ := info_parts info_any
  have c1 := h.c1
  have ct := h.ct hc
  have la := h.ba.lt
  have lt := h.bts.lt
  have hl := h.tsl
  have hown := Lib.hid (h.row c hc)
  have NE := Lib.hid (own_blk_ne (h.row c hc) h.bts (by decide))
  have NA := Lib.hid (own_blk_ne (h.row c hc) h.ba (by decide))
  have FB := Lib.hid (h.bts.frozen)
  have H := Lib.hid h
  clear h
  generalize hv : vs.getD c undef = v at *
  have HV := Lib.hid hv
  clear hv
  have etr : ts.getD c [] = tr ts (c : Int) := rfl
  rw [etr] at hown
  clear etr
  generalize ht : tr ts (c : Int) = tt at *
  have HT := Lib.hid ht
  clear ht
  obtain ⟨ty, n, hx⟩ : ∃ ty n, encAcc x = .iface ty (.int .i64 n) := ⟨_, _, rfl⟩
  have HX := Lib.hid hx
  rw [hx]
  clear hx
  go_enter Try.func68, Try.ntmps68
  have fbt : w.frozen? ⟨bt, c, none⟩ = false := FB.out c
  go_region_law ((refine step_append_lies _ rfl (.tmp 17) (.tmp 19) 85 rfl 0 20 i0 .nilIface 1 16 Try.underlying85 hi hz0 hz1 hz2 rfl (by decide) v _ _ rfl ((hown.out.alloc (Obj.cells #[.iface ty (.int .i64 n)] 20))) ⟨w.heap.size, 0, none⟩ 1 1 [.iface ty (.int .i64 n)] rfl rfl (cell_one_new _ _ _) (by intro u hu; simp at hu; subst hu; rfl) (by decide) (by simp only [maxLen]; omega) (by omega) (Nat.zero_le _) _ rfl ?_
                  intro g cap w1 hown1 hgrow hat hlt
                  have ne1 : some bt ≠ v.ownBlock := fun e => NE.out e.symm
                  have k1 : w1.cell? ⟨bt, c, none⟩ = some v := (hgrow.cell_far ⟨bt, c, none⟩ (by simp; omega) ne1).trans ((World.cell?_alloc_past _ _ _ lt).trans ct)
                  have k2 : w1.frozen? ⟨bt, c, none⟩ = false := (hgrow.frozen_far ⟨bt, c, none⟩ (by simp; omega) ne1).trans ((World.frozen?_alloc_past _ _ _ lt).trans fbt)
                  have ne2 : some a ≠ v.ownBlock := fun e => NA.out e.symm
                  have k3 : w1.cell? ⟨a, 1, none⟩ = some (.slice (some ⟨bt, 0, none⟩) ts.length ts.length) := (hgrow.cell_far ⟨a, 1, none⟩ (by simp; omega) ne2).trans ((World.cell?_alloc_past _ _ _ la).trans c1)
                  clear ne1 ne2))
  all_goals
    go_end0
    have hend := note_end H.out hc HV.out HX.out HT.out hown1 hgrow (by simpa using hat)
    exact ⟨rfl, ⟨_, hend.1⟩, hend.2⟩
end
end Go.Proofs.Ytkbajjpdngfhbaa
