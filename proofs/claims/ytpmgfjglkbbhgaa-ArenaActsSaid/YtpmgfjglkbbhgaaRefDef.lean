
/- concourseref1.Arena as it lies in memory (written by genref.py out of the arena's own text). -/
import Derived.Test.YtpmgfjglkbbhgaaArTo
namespace Go.Proofs.Ytpmgfjglkbbhgaa
open Go.RowKit
set_option maxHeartbeats 400000

/-- An arena at block a: the words' block, the traces' block, what the latter holds. None of its blocks is in L. -/
structure RfIn (L : Nat → Prop) (w : World) (a bw bt : Nat) (vs : List Value) (ws : List Int) (ts : List (List Acc)) : Prop where
  bd : Bd L w
  la : ¬ L a
  lw : ¬ L bw
  lt : ¬ L bt
  ba : Blk w a 96 #[.slice (some ⟨bw, 0, none⟩) ws.length ws.length, .slice (some ⟨bt, 0, none⟩) ts.length ts.length]
  bws : Blk w bw 3 (ws.map (Value.int .i64)).toArray
  bts : Blk w bt 37 vs.toArray
  vl : vs.length = ts.length
  row : ∀ c, c < ts.length → w.ownsRow 0 40 2 (vs.getD c undef) (ts.getD c []).length (encAccs (ts.getD c []))
  lrow : ∀ c, c < ts.length → ∀ b, (vs.getD c undef).ownBlock = some b → ¬ L b
  apart : ∀ c c', c < ts.length → c' < ts.length → c ≠ c' → ∀ b, (vs.getD c undef).ownBlock = some b → (vs.getD c' undef).ownBlock ≠ some b
  wsl : ws.length ≤ 65536
  tsl : ts.length ≤ 8

def RfAt (L : Nat → Prop) (w : World) (a : Nat) (ws : List Int) (ts : List (List Acc)) : Prop := ∃ bw bt vs, RfIn L w a bw bt vs ws ts

section
variable {L L' : Nat → Prop} {w w' : World} {a bw bt : Nat} {vs : List Value} {ws : List Int} {ts : List (List Acc)}

/-- Into another world in which the arena's blocks are as they were. -/
theorem RfIn.move (h : RfIn L w a bw bt vs ws ts) (hb : Bd L' w') (hl : ∀ b, L' b → b < w.heap.size → L b)
    (hk : ∀ b, b < w.heap.size → ¬ L b → w'.heap[b]? = w.heap[b]?) : RfIn L' w' a bw bt vs ws ts := by
  have nl : ∀ b, b < w.heap.size → ¬ L b → ¬ L' b := fun b hlt hn hc => hn (hl b hc hlt)
  refine ⟨hb, nl _ h.ba.lt h.la, nl _ h.bws.lt h.lw, nl _ h.bts.lt h.lt, Blk.of_heap (hk _ h.ba.lt h.la) h.ba, Blk.of_heap (hk _ h.bws.lt h.lw) h.bws, Blk.of_heap (hk _ h.bts.lt h.lt) h.bts, h.vl, ?_, ?_, h.apart, h.wsl, h.tsl⟩
  · intro c hc
    have r := h.row c hc
    refine ⟨r.1, ?_⟩
    rcases r.2 with r2 | ⟨g, cap, cur, hv, hg, hh, rest⟩
    · exact .inl r2
    · refine .inr ⟨g, cap, cur, hv, hg, ?_, rest⟩
      rw [hk g (lt_of_block hh) (h.lrow c hc g (by rw [hv]; rfl))]
      exact hh
  · intro c hc b hb'
    have := (h.row c hc).lt b hb'
    exact nl b this.2 (h.lrow c hc b hb')

theorem RfAt.move (h : RfAt L w a ws ts) (hb : Bd L' w') (hl : ∀ b, L' b → b < w.heap.size → L b)
    (hk : ∀ b, b < w.heap.size → ¬ L b → w'.heap[b]? = w.heap[b]?) : RfAt L' w' a ws ts := by
  obtain ⟨bw, bt, vs, h⟩ := h
  exact ⟨bw, bt, vs, h.move hb hl hk⟩
theorem RfAt.bd (h : RfAt L w a ws ts) : Bd L w := by obtain ⟨bw, bt, vs, h⟩ := h; exact h.bd
theorem RfAt.lt (h : RfAt L w a ws ts) : a < w.heap.size := by obtain ⟨bw, bt, vs, h⟩ := h; exact h.ba.lt
theorem RfAt.sub (h : RfAt L w a ws ts) (hs : ∀ b, L' b → L b) : RfAt L' w a ws ts := h.move (h.bd.sub hs) (fun b hb _ => hs b hb) (fun _ _ _ => rfl)
theorem RfAt.alloc (h : RfAt L w a ws ts) (o : Obj) : RfAt L (w.alloc o) a ws ts :=
  h.move (h.bd.alloc o) (fun _ hb _ => hb) (fun _ hb _ => Below.heap_alloc _ _ _ hb)
/-- A new block, protected from now on. -/
theorem RfAt.allocIns (h : RfAt L w a ws ts) (o : Obj) : RfAt (ins L w.heap.size) (w.alloc o) a ws ts :=
  h.move ((h.bd.alloc o).ins (n := w.heap.size) (by simp)) (fun b hb hlt => by
    rcases hb with hb | hb
    · exact hb
    · omega) (fun _ hb _ => Below.heap_alloc _ _ _ hb)
theorem RfAt.setCell (h : RfAt L w a ws ts) {p : Addr} (hp : L p.block) (u : Value) : RfAt L (w.setCell p u) a ws ts :=
  h.move (h.bd.setCell p u) (fun _ hb _ => hb) (fun _ _ hn => Below.heap_setCell _ _ _ _ (fun e => hn (e ▸ hp)))
theorem RfAt.drew (h : RfAt L w a ws ts) : RfAt L w.drew a ws ts := h.move h.bd (fun _ hb _ => hb) (fun _ _ _ => rfl)
theorem RfAt.drewN (h : RfAt L w a ws ts) (n : Nat) : RfAt L (w.drewN n) a ws ts := h.move h.bd (fun _ hb _ => hb) (fun _ _ _ => rfl)
theorem RfAt.wsl (h : RfAt L w a ws ts) : ws.length ≤ 65536 := by obtain ⟨bw, bt, vs, h⟩ := h; exact h.wsl
theorem RfAt.tsl (h : RfAt L w a ws ts) : ts.length ≤ 8 := by obtain ⟨bw, bt, vs, h⟩ := h; exact h.tsl
end


section
variable {L : Nat → Prop} {w : World} {a bw bt : Nat} {vs : List Value} {ws : List Int} {ts : List (List Acc)}
theorem RfIn.c0 (h : RfIn L w a bw bt vs ws ts) : w.cell? ⟨a, 0, none⟩ = some (.slice (some ⟨bw, 0, none⟩) ws.length ws.length) := by rw [h.ba.cell]; rfl
theorem RfIn.c1 (h : RfIn L w a bw bt vs ws ts) : w.cell? ⟨a, 1, none⟩ = some (.slice (some ⟨bt, 0, none⟩) ts.length ts.length) := by rw [h.ba.cell]; rfl
theorem RfIn.cw (h : RfIn L w a bw bt vs ws ts) {i : Nat} (hi : i < ws.length) : w.cell? ⟨bw, i, none⟩ = some (.int .i64 (ws.getD i 0)) := by
  rw [h.bws.cell]; simp [hi, List.getD]
theorem RfIn.ct (h : RfIn L w a bw bt vs ws ts) {c : Nat} (hc : c < ts.length) : w.cell? ⟨bt, c, none⟩ = some (vs.getD c undef) := by
  rw [h.bts.cell]; simp [h.vl, hc, List.getD]

/-- A word is stored. -/
theorem RfIn.poke (h : RfIn L w a bw bt vs ws ts) (i : Nat) (v : Int) : RfIn L (w.setCell ⟨bw, i, none⟩ (.int .i64 v)) a bw bt vs (ws.set i v) ts ∧ Keeps L w (w.setCell ⟨bw, i, none⟩ (.int .i64 v)) := by
  have k : Keeps L w (w.setCell ⟨bw, i, none⟩ (.int .i64 v)) := (Keeps.refl L w).setCell h.lw _
  refine ⟨⟨h.bd.setCell _ _, h.la, h.lw, h.lt, ?_, ?_, h.bts.far (h.bts.ne_ h.bws (by decide)) _, h.vl, fun c hc => ownsRow_setCell_other (h.row c hc) (own_blk_ne (h.row c hc) h.bws (by decide)) _, h.lrow, h.apart, by simpa using h.wsl, h.tsl⟩, k⟩
  · have := h.ba.far (p := ⟨bw, i, none⟩) (h.ba.ne_ h.bws (by decide)) (.int .i64 v)
    simpa using this
  · have := h.bws.set_ i (.int .i64 v)
    simpa [List.map_set] using this

/-- What the append and the store leave is an arena. -/
theorem rnote_end {w1 : World} {o : Obj} {v : Value} {g cap c : Nat} {x : Acc} {ex : List Value} (h : RfIn L w a bw bt vs ws ts) (hc : c < ts.length) (hv : vs.getD c undef = v) (hx : [.int .i64 x.1, .bool x.2] = ex) {tt : List Acc} (htt : tr ts c = tt)
    (hown : w1.ownsRow 0 40 2 (.slice (some ⟨g, 0, none⟩) (tt.length + 1) cap) (tt.length + 1) (encAccs tt ++ ex))
    (hg : (w.alloc o).drew.grownBy w1 v.ownBlock) (hat : v.ownBlock = some g ∨ g = w.heap.size + 1) :
    RfIn L (w1.setCell ⟨bt, c, none⟩ (.slice (some ⟨g, 0, none⟩) (tt.length + 1) cap)) a bw bt (vs.set c (.slice (some ⟨g, 0, none⟩) (tt.length + 1) cap)) ws (noted ts (c : Int) x) ∧
    Keeps L w (w1.setCell ⟨bt, c, none⟩ (.slice (some ⟨g, 0, none⟩) (tt.length + 1) cap)) := by
  subst htt
  have etr : tr ts (c : Int) = ts.getD c [] := rfl
  rw [etr] at hown ⊢
  clear etr
  subst hv
  have old : ∀ b, b < w.heap.size → some b ≠ (vs.getD c undef).ownBlock → w1.heap[b]? = w.heap[b]? := fun b hb hn =>
    (hg.block b (by simp; omega) hn).trans (Below.heap_alloc _ _ _ hb)
  have na := own_blk_ne (h.row c hc) h.ba (by decide)
  have nw := own_blk_ne (h.row c hc) h.bws (by decide)
  have nt := own_blk_ne (h.row c hc) h.bts (by decide)
  have sz : w.heap.size ≤ w1.heap.size := by have := hg.size; simp at this; omega
  have ba1 : Blk w1 a _ _ := Blk.of_heap (old _ h.ba.lt (Ne.symm na)) h.ba
  have bw1 : Blk w1 bw _ _ := Blk.of_heap (old _ h.bws.lt (Ne.symm nw)) h.bws
  have bt1 : Blk w1 bt _ _ := Blk.of_heap (old _ h.bts.lt (Ne.symm nt)) h.bts
  have nab : a ≠ bt := h.ba.ne_ h.bts (by decide)
  have nwb : bw ≠ bt := h.bws.ne_ h.bts (by decide)
  have ngb : g ≠ bt := fun e => own_blk_ne hown bt1 (by decide) (by simp [Value.ownBlock, e])
  have ngL : ¬ L g := by
    rcases hat with e | e
    · exact h.lrow c hc g e
    · exact h.bd.ge (by omega)
  have hl' := h.vl
  constructor
  · refine ⟨fun b hb => Nat.lt_of_lt_of_le (h.bd b hb) (by simpa [World.setCell] using sz), h.la, h.lw, h.lt, ?_, bw1.far nwb _, ?_, ?_, ?_, ?_, ?_, h.wsl, ?_⟩
    · rw [noted_length]; exact ba1.far nab _
    · have := bt1.set_ c (.slice (some ⟨g, 0, none⟩) ((ts.getD c []).length + 1) cap)
      simpa using this
    · simp [noted_length, hl']
    · intro c' hc'
      rw [noted_length] at hc'
      by_cases e : c' = c
      · subst e
        have h1 : (vs.set c' (Value.slice (some ⟨g, 0, none⟩) ((ts.getD c' []).length + 1) cap)).getD c' undef = .slice (some ⟨g, 0, none⟩) ((ts.getD c' []).length + 1) cap := by
          simp [List.getD, hl', hc']
        have h2 : (noted ts (c' : Int) x).getD c' [] = ts.getD c' [] ++ [x] := by simp [noted, tr, List.getD, hc']
        rw [h1, h2]
        have h3 : encAccs (ts.getD c' [] ++ [x]) = encAccs (ts.getD c' []) ++ ex := by rw [encAccs_append, ← hx]; rfl
        rw [h3, List.length_append, List.length_singleton]
        exact ownsRow_setCell_other hown (a := ⟨bt, c', none⟩) (by simp [Value.ownBlock]; exact ngb) _
      · have h1 : (vs.set c (Value.slice (some ⟨g, 0, none⟩) ((ts.getD c []).length + 1) cap)).getD c' undef = vs.getD c' undef := by
          simp [List.getD, Ne.symm e]
        have h2 : (noted ts (c : Int) x).getD c' [] = ts.getD c' [] := by simp [noted, tr, List.getD, Ne.symm e]
        rw [h1, h2]
        have r := h.row c' hc'
        have r1 : w1.ownsRow 0 40 2 (vs.getD c' undef) (ts.getD c' []).length (encAccs (ts.getD c' [])) := by
          refine ⟨r.1, ?_⟩
          rcases r.2 with r2 | ⟨g', cap', cur, hv', hg', hh, rest⟩
          · exact .inl r2
          · refine .inr ⟨g', cap', cur, hv', hg', ?_, rest⟩
            rw [old g' (lt_of_block hh) (fun e' => h.apart c' c hc' hc e g' (by rw [hv']; rfl) e'.symm)]
            exact hh
        exact ownsRow_setCell_other r1 (a := ⟨bt, c, none⟩) (own_blk_ne r1 bt1 (by decide)) _
    · intro c' hc' b hb
      rw [noted_length] at hc'
      by_cases e : c' = c
      · subst e
        simp [List.getD, hl', hc', Value.ownBlock] at hb
        exact hb ▸ ngL
      · have h1 : (vs.set c (Value.slice (some ⟨g, 0, none⟩) ((ts.getD c []).length + 1) cap)).getD c' undef = vs.getD c' undef := by
          simp [List.getD, Ne.symm e]
        rw [h1] at hb
        exact h.lrow c' hc' b hb
    · intro c1 c2 hc1 hc2 hne b hb1 hb2
      rw [noted_length] at hc1 hc2
      have oldlt : ∀ c', c' < ts.length → ∀ b, (vs.getD c' undef).ownBlock = some b → b < w.heap.size := fun c' hc' b hb => ((h.row c' hc').lt b hb).2
      have get : ∀ c', c' ≠ c → (vs.set c (Value.slice (some ⟨g, 0, none⟩) ((ts.getD c []).length + 1) cap)).getD c' undef = vs.getD c' undef := fun c' e => by
        simp [List.getD, Ne.symm e]
      have getc : (vs.set c (Value.slice (some ⟨g, 0, none⟩) ((ts.getD c []).length + 1) cap)).getD c undef = .slice (some ⟨g, 0, none⟩) ((ts.getD c []).length + 1) cap := by
        simp [List.getD, hl', hc]
      have key : ∀ c', c' < ts.length → c' ≠ c → (vs.getD c' undef).ownBlock = some g → False := fun c' hc' e hb => by
        rcases hat with e2 | e2
        · exact h.apart c' c hc' hc e g hb e2
        · have := oldlt c' hc' g hb; omega
      by_cases e1 : c1 = c
      · subst e1
        have e2 : c2 ≠ c1 := Ne.symm hne
        rw [getc] at hb1
        rw [get c2 e2] at hb2
        simp [Value.ownBlock] at hb1
        subst hb1
        exact key c2 hc2 e2 hb2
      · rw [get c1 e1] at hb1
        by_cases e2 : c2 = c
        · subst e2
          rw [getc] at hb2
          simp [Value.ownBlock] at hb2
          subst hb2
          exact key c1 hc1 e1 hb1
        · rw [get c2 e2] at hb2
          exact h.apart c1 c2 hc1 hc2 hne b hb1 hb2
    · rw [noted_length]; exact h.tsl
  · have k0 : Keeps L w w1 := by
      have k := (((Keeps.refl L w).alloc h.bd o).drew).grown hg ((h.bd.alloc o).drew) (fun b hb => h.lrow c hc b hb)
      exact k
    exact k0.setCell h.lt _

theorem info_accs : (Try.prog.info? 37).map (fun i => (i.zero, i.size, i.bytes)) = some (some (.slice none 0 0), 1, 24) := by kernel_rfl
/-- What three new blocks make. -/
theorem rnew_in {W : World} {a bw bt n k : Nat} (hb : Bd L W) (ha : ¬ L a) (hw : ¬ L bw) (ht : ¬ L bt) (hn : n ≤ 65536) (hk : k ≤ 8)
    (ba : Blk W a 96 #[.slice (some ⟨bw, 0, none⟩) n n, .slice (some ⟨bt, 0, none⟩) k k]) (b1 : Blk W bw 3 (List.replicate n (Value.int .i64 0)).toArray) (b2 : Blk W bt 37 (List.replicate k (Value.slice none 0 0)).toArray) :
    RfAt L W a (List.replicate n 0) (List.replicate k []) := by
  have get : ∀ c, c < k → (List.replicate k (Value.slice none 0 0)).getD c undef = .slice none 0 0 := fun c hc => by simp [List.getD, hc]
  refine ⟨bw, bt, List.replicate k (.slice none 0 0), hb, ha, hw, ht, ?_, ?_, b2, by simp, ?_, ?_, ?_, by simpa using hn, by simpa using hk⟩
  · simpa using ba
  · simpa using b1
  · intro c hc
    simp only [List.length_replicate] at hc
    rw [get c hc]
    have : (List.replicate k ([] : List Acc)).getD c [] = [] := by simp [List.getD, hc]
    rw [this]
    exact World.ownsRow_nil _ _ _ _
  · intro c hc b hb
    simp only [List.length_replicate] at hc
    rw [get c hc] at hb; cases hb
  · intro c c' hc _ _ b hb
    simp only [List.length_replicate] at hc
    rw [get c hc] at hb; cases hb

theorem rnew_ok (hb : Bd L w) (n k : Int) (h0 : 1 ≤ n) (h1 : n ≤ 65536) (h2 : 1 ≤ k) (h3 : k ≤ 8) :
    Calls Try.prog 29 #[.int .i64 n, .int .i64 k] w fun e w' => ∃ a, e = .returned (.tuple #[.pointer (some ⟨a, 0, none⟩), .int .i64 0]) ∧
      RfAt L w' a (List.replicate n.toNat 0) (List.replicate k.toNat []) ∧ Keeps L w w' := by
  obtain ⟨n, rfl⟩ := Int.eq_ofNat_of_zero_le (show 0 ≤ n by omega)
  obtain ⟨k, rfl⟩ := Int.eq_ofNat_of_zero_le (show 0 ≤ k by omega)
  obtain ⟨i1, hi1, hz10, hz11, hz12⟩ := info_parts info_int
  obtain ⟨i2, hi2, hz20, hz21, hz22⟩ := info_parts info_accs
  have hm1 := run_make_rowN (P := Try.prog) 22 3 i1 _ Try.underlying22 hi1 hz10 .i64 .i64 n n (Nat.le_refl _) (by rw [hz12]; omega) (by omega)
  have hm2 := run_make_rowN (P := Try.prog) 94 37 i2 _ Try.underlying94 hi2 hz20 .i64 .i64 k k (Nat.le_refl _) (by rw [hz22]; omega) (by omega)
  simp only [hz11, hz21, Nat.mul_one, Value.cells, madeCells_one] at hm1 hm2
  have e0 : ((n : Int) < 1) = False := by simp; omega
  have HM1 := Lib.hid hm1
  have HM2 := Lib.hid hm2
  clear hm1 hm2 hi1 hi2 hz10 hz11 hz12 hz20 hz21 hz22 e0
  go_enter Try.func29, Try.ntmps29
  go_wp2
  have hm1 := HM1.out
  have hm2 := HM2.out
  go_region
  all_goals go_wp2
  all_goals clear hm1 hm2 HM1 HM2
  · go_ret2
    refine ⟨_, rfl, ?_, ?_⟩
    · simp only [Int.toNat_natCast]
      refine (rnew_in (W := ((w.alloc (Obj.cells (Array.replicate n (Value.int IntKind.i64 0)) 3)).alloc (Obj.cells (Array.replicate k (Value.slice none 0 0)) 37)).alloc (Obj.cells #[Value.slice (some ⟨w.heap.size, 0, none⟩) n n, Value.slice (some ⟨w.heap.size + 1, 0, none⟩) k k] 96)) (bw := w.heap.size) (bt := w.heap.size + 1)
        (((hb.alloc _).alloc _).alloc _) (hb.ge (by omega)) hb.new (hb.ge (by omega)) (by omega) (by omega) ?_ ?_ ?_).drew
      · exact Blk.newAt _ _ _ (by simp)
      · rw [List.toArray_replicate]; exact ((Blk.new w _ _).alloc _).alloc _
      · rw [List.toArray_replicate]; exact (Blk.newAt (w.alloc _) _ _ (by simp)).alloc _
    · exact (((((Keeps.refl L w).alloc hb _).alloc (hb.alloc _) _).alloc ((hb.alloc _).alloc _) _).drew)
  · go_ret2
    refine ⟨_, rfl, ?_, ?_⟩
    · simp only [Int.toNat_natCast]
      refine (rnew_in (W := ((w.alloc (Obj.cells (Array.replicate k (Value.slice none 0 0)) 37)).alloc (Obj.cells (Array.replicate n (Value.int IntKind.i64 0)) 3)).alloc (Obj.cells #[Value.slice (some ⟨w.heap.size + 1, 0, none⟩) n n, Value.slice (some ⟨w.heap.size, 0, none⟩) k k] 96)) (bw := w.heap.size + 1) (bt := w.heap.size)
        (((hb.alloc _).alloc _).alloc _) (hb.ge (by omega)) (hb.ge (by omega)) hb.new (by omega) (by omega) ?_ ?_ ?_).drew
      · exact Blk.newAt _ _ _ (by simp)
      · rw [List.toArray_replicate]; exact (Blk.newAt (w.alloc _) _ _ (by simp)).alloc _
      · rw [List.toArray_replicate]; exact ((Blk.new w _ _).alloc _).alloc _
    · exact (((((Keeps.refl L w).alloc hb _).alloc (hb.alloc _) _).alloc ((hb.alloc _).alloc _) _).drew)

theorem rnew_err (w : World) (n k : Int) (h : n < 1 ∨ 65536 < n ∨ k < 1 ∨ 8 < k) :
    Calls Try.prog 29 #[.int .i64 n, .int .i64 k] w fun e w' => e = .returned (.tuple #[.pointer none, .int .i64 200]) ∧ w = w' := by
  by_cases a1 : n < 1
  · go_enter Try.func29, Try.ntmps29; go_wp2; go_ret2; exact ⟨rfl, rfl⟩
  · have b1 : 1 ≤ n := by omega
    by_cases a2 : 65536 < n
    · go_enter Try.func29, Try.ntmps29; go_wp2; go_ret2; exact ⟨rfl, rfl⟩
    · have b2 : n ≤ 65536 := by omega
      by_cases a3 : k < 1
      · go_enter Try.func29, Try.ntmps29; go_wp2; go_ret2; exact ⟨rfl, rfl⟩
      · have b3 : 1 ≤ k := by omega
        have a4 : 8 < k := by omega
        go_enter Try.func29, Try.ntmps29; go_wp2; go_ret2; exact ⟨rfl, rfl⟩

theorem rclear_end (h : RfIn L w a bw bt vs ws ts) (c : Int) (h0 : 0 ≤ c) (h1 : c < ts.length) : RfIn L (w.setCell ⟨bt, c.toNat, none⟩ (.slice none 0 0)) a bw bt (vs.set c.toNat (.slice none 0 0)) ws (ts.set c.toNat []) := by
  have hvl := h.vl
  have get : ∀ j, (vs.set c.toNat (Value.slice none 0 0)).getD j undef = if j = c.toNat then .slice none 0 0 else vs.getD j undef := fun j => by
    by_cases e : j = c.toNat
    · subst e; simp [List.getD, hvl, show c.toNat < ts.length by omega]
    · simp [List.getD, Ne.symm e, e]
  have gett : ∀ j, (ts.set c.toNat []).getD j [] = if j = c.toNat then [] else ts.getD j [] := fun j => by
    by_cases e : j = c.toNat
    · subst e; simp [List.getD, show c.toNat < ts.length by omega]
    · simp [List.getD, Ne.symm e, e]
  refine ⟨h.bd.setCell _ _, h.la, h.lw, h.lt, ?_, h.bws.far (h.bws.ne_ h.bts (by decide)) _, ?_, ?_, ?_, ?_, ?_, h.wsl, by simpa using h.tsl⟩
  · have := h.ba.far (p := ⟨bt, c.toNat, none⟩) (h.ba.ne_ h.bts (by decide)) (.slice none 0 0)
    simpa using this
  · have := h.bts.set_ c.toNat (.slice none 0 0)
    simpa using this
  · simpa using hvl
  · intro j hj
    rw [List.length_set] at hj
    rw [get, gett]
    by_cases e : j = c.toNat
    · rw [if_pos e, if_pos e]; exact World.ownsRow_nil _ _ _ _
    · rw [if_neg e, if_neg e]
      exact ownsRow_setCell_other (h.row j hj) (own_blk_ne (h.row j hj) h.bts (by decide)) _
  · intro j hj b hb
    rw [List.length_set] at hj
    rw [get] at hb
    by_cases e : j = c.toNat
    · rw [if_pos e] at hb; cases hb
    · rw [if_neg e] at hb; exact h.lrow j hj b hb
  · intro j k hj hk hne b hb1 hb2
    rw [List.length_set] at hj hk
    rw [get] at hb1 hb2
    by_cases e : j = c.toNat
    · rw [if_pos e] at hb1; cases hb1
    · by_cases e' : k = c.toNat
      · rw [if_pos e'] at hb2; cases hb2
      · rw [if_neg e] at hb1; rw [if_neg e'] at hb2
        exact h.apart j k hj hk hne b hb1 hb2

end
end Go.Proofs.Ytpmgfjglkbbhgaa
