
/- LockActs: what an act answers, in plain terms; the law's own 'plain'. -/
import Derived.Test.YtacjpchcaknacaaLock
import Derived.Test.YtacjpchcaknacaaInts
namespace Go.Proofs.Ytacjpchcaknacaa
open Go.RowKit
set_option maxHeartbeats 1000000

/-- The class of a kind: 0 Try, 1 Unlock, 2 Holder, 3 Begin, 4 Same, 5 Turn. -/
def cls (kind : Int) : Nat := if kind = 0 ∨ kind = 1 then 0 else if kind = 2 ∨ kind = 3 then 1 else if kind = 4 then 2 else if kind = 5 then 3 else if kind = 6 then 4 else 5
/-- Of a word w, a core c, a number v: the number, the bool, the code that are answered; the word then; the accesses. -/
def pU (k : Nat) (w : Int) : Int := if k = 2 then holder w 3 else if k = 3 then w else 0
def pS (k : Nat) (w v : Int) : Bool := if k = 0 then w == 0 else if k = 3 then w.tmod 2 == 0 else if k = 4 then w == v else false
def pG (k : Nat) (w c : Int) : Int := if k = 1 then (if w = c + 1 then 0 else 501) else 0
def pW (k : Nat) (w c : Int) : Int := if k = 0 then (if w = 0 then c + 1 else w) else if k = 1 then (if w = c + 1 then 0 else w) else if k = 5 then wrap64 (w + 1) else w
def pT (k : Nat) (i w c : Int) : List Acc := if k = 0 then [(i, w == 0)] else if k = 1 then (if w = c + 1 then [(i, false), (i, true)] else [(i, false)]) else if k = 5 then [(i, true)] else [(i, false)]

section
variable {L : Nat → Prop} {w : World} {a : Nat} {ws : List Int} {ts : List (List Acc)}
/-- What an act leaves: the word, the accesses of its core. -/
def Acted (L : Nat → Prop) (w' : World) (a : Nat) (ws : List Int) (k : Nat) (c i : Int) : Prop :=
  ∃ ts', ts'.length = 3 ∧ Short 2 ts' ∧ tr ts' c = pT k i (rd ws i) c ∧ ArAt L w' a (wr ws i (pW k (rd ws i) c)) ts'

theorem acted_one {k : Nat} {c i : Int} {x : Acc} {w' : World} {ws' : List Int} (hl : ts.length = 3) (hz : ∀ d, 0 ≤ d → tr ts d = []) (hc : 0 ≤ c ∧ c < 3) (hp : pT k i (rd ws i) c = [x]) (hw : wr ws i (pW k (rd ws i) c) = ws')
    (h : ArAt L w' a ws' (noted ts c x)) : Acted L w' a ws k c i := by
  subst hw
  refine ⟨_, by simp [hl], ?_, ?_, h⟩
  · intro t ht
    rcases List.mem_or_eq_of_mem_set ht with ht | rfl
    · obtain ⟨j, hj, rfl⟩ := List.getElem_of_mem ht
      have := hz j (by omega)
      unfold tr at this
      simp [List.getD, hj] at this
      simp [this]
    · rw [hz c hc.1]; simp
  · rw [tr_noted _ ⟨hc.1, by rw [hl]; omega⟩ hc.1, if_pos rfl, hz c hc.1, hp]; rfl

theorem room_zero (hl : ts.length = 3) (hz : ∀ d, 0 ≤ d → tr ts d = []) : Room ts := by
  intro t ht
  obtain ⟨j, hj, rfl⟩ := List.getElem_of_mem ht
  have := hz j (by omega)
  unfold tr at this
  simp [List.getD, hj] at this
  simp [this]

variable (h : ArAt L w a ws ts) (hl : ts.length = 3) (hz : ∀ d, 0 ≤ d → tr ts d = []) {c i : Int} (hc : 0 ≤ c ∧ c < 3) (hi : 0 ≤ i ∧ i < ws.length)
include h hl hz hc hi

theorem try_gen : Calls Try.prog 19 #[.pointer (some ⟨a, 0, none⟩), .int .i64 c, .int .i64 i] w fun e w' => e = .returned (.tuple #[.bool (pS 0 (rd ws i) 0), .int .i64 0]) ∧ Acted L w' a ws 0 c i ∧ Keeps L w w' := by
  have hr := room_zero hl hz
  by_cases e : rd ws i = 0
  · refine (try_yes h hr ⟨hc.1, by omega⟩ hi e).mono ?_
    rintro e' w' ⟨rfl, h1, h2⟩
    exact ⟨by simp [pS, e], acted_one hl hz hc (by simp [pT, e]) (by simp [pW, e]) h1, h2⟩
  · refine (try_no h hr ⟨hc.1, by omega⟩ hi e).mono ?_
    rintro e' w' ⟨rfl, h1, h2⟩
    refine ⟨by simp [pS, e], acted_one (x := (i, false)) hl hz hc (by simp [pT, e]) ?_ h1, h2⟩
    simp only [pW, if_pos, if_neg e]
    exact wr_rd rfl hi
theorem unlock_gen : Calls Try.prog 17 #[.pointer (some ⟨a, 0, none⟩), .int .i64 c, .int .i64 i] w fun e w' => e = .returned (.int .i64 (pG 1 (rd ws i) c)) ∧ Acted L w' a ws 1 c i ∧ Keeps L w w' := by
  have hr := room_zero hl hz
  have hs0 : Short 0 ts := fun t ht => by
    obtain ⟨j, hj, rfl⟩ := List.getElem_of_mem ht
    have := hz j (by omega)
    unfold tr at this
    simp [List.getD, hj] at this
    simp [this]
  by_cases e : rd ws i = c + 1
  · refine (unlock_ok h (Room.of (hs0.noted _) (by omega)) hr ⟨hc.1, by omega⟩ hi e).mono ?_
    rintro e' w' ⟨rfl, h1, h2⟩
    refine ⟨by simp [pG, e], ⟨noted (noted ts c (i, false)) c (i, true), by simp [hl], (hs0.noted _).noted _, ?_, ?_⟩, h2⟩
    · rw [tr_noted _ ⟨hc.1, by simp [hl]; omega⟩ hc.1, if_pos rfl, tr_noted _ ⟨hc.1, by rw [hl]; omega⟩ hc.1, if_pos rfl, hz c hc.1]
      simp [pT, e]
    · have e2 : pW 1 (rd ws i) c = 0 := by simp [pW, e]
      rw [e2]; exact h1
  · refine (unlock_held h hr ⟨hc.1, by omega⟩ hi e).mono ?_
    rintro e' w' ⟨rfl, h1, h2⟩
    refine ⟨by simp [pG, e], acted_one hl hz hc (by simp [pT, e]) ?_ h1, h2⟩
    have e2 : pW 1 (rd ws i) c = rd ws i := by simp [pW, e]
    rw [e2]
    exact wr_rd rfl hi
theorem holder_gen : Calls Try.prog 20 #[.pointer (some ⟨a, 0, none⟩), .int .i64 c, .int .i64 i] w fun e w' => e = .returned (.tuple #[.int .i64 (pU 2 (rd ws i)), .int .i64 0]) ∧ Acted L w' a ws 2 c i ∧ Keeps L w w' := by
  refine (holder_ok h (room_zero hl hz) ⟨hc.1, by omega⟩ hi).mono ?_
  rintro e' w' ⟨rfl, h1, h2⟩
  rw [hl]
  exact ⟨by simp [pU], acted_one hl hz hc (by simp [pT]) (wr_rd (by simp [pW]) hi) h1, h2⟩
theorem begin_gen : Calls Try.prog 23 #[.pointer (some ⟨a, 0, none⟩), .int .i64 c, .int .i64 i] w fun e w' => e = .returned (.tuple #[.int .i64 (pU 3 (rd ws i)), .bool (pS 3 (rd ws i) 0), .int .i64 0]) ∧ Acted L w' a ws 3 c i ∧ Keeps L w w' := by
  refine (begin_even h (room_zero hl hz) ⟨hc.1, by omega⟩ hi).mono ?_
  rintro e' w' ⟨rfl, h1, h2⟩
  exact ⟨by simp [pU, pS], acted_one hl hz hc (by simp [pT]) (wr_rd (by simp [pW]) hi) h1, h2⟩
theorem same_gen (q : Int) : Calls Try.prog 25 #[.pointer (some ⟨a, 0, none⟩), .int .i64 c, .int .i64 i, .int .i64 q] w fun e w' => e = .returned (.tuple #[.bool (pS 4 (rd ws i) q), .int .i64 0]) ∧ Acted L w' a ws 4 c i ∧ Keeps L w w' := by
  refine (same_ok h (room_zero hl hz) q ⟨hc.1, by omega⟩ hi).mono ?_
  rintro e' w' ⟨rfl, h1, h2⟩
  exact ⟨by simp [pS], acted_one hl hz hc (by simp [pT]) (wr_rd (by simp [pW]) hi) h1, h2⟩
theorem turn_gen : Calls Try.prog 21 #[.pointer (some ⟨a, 0, none⟩), .int .i64 c, .int .i64 i] w fun e w' => e = .returned (.int .i64 0) ∧ Acted L w' a ws 5 c i ∧ Keeps L w w' := by
  refine (turn_ok h (room_zero hl hz) ⟨hc.1, by omega⟩ hi).mono ?_
  rintro e' w' ⟨rfl, h1, h2⟩
  exact ⟨by simp, acted_one hl hz hc (by simp [pT]) (by simp [pW]) h1, h2⟩
end

theorem results_tmp4 {fn : Func} {t u v x : Tmp} (h : fn.results = #[.tmp t, .tmp u, .tmp v, .tmp x]) (tmps : Array Value) (P : Program) (w : World) :
    (results fn tmps).run P w = .ok (.tuple #[tmps.getD t undef, tmps.getD u undef, tmps.getD v undef, tmps.getD x undef]) w := by simp [results, h]
def ints (xs : List Int) : Array Value := (xs.map (Value.int .i64)).toArray
theorem Blk.intAt {w : World} {g : Nat} {t : TypeId} {xs : List Int} (h : Blk w g t (ints xs)) {i : Int} (h0 : 0 ≤ i ∧ i < xs.length) : w.cell? ⟨g, i.toNat, none⟩ = some (.int .i64 (rd xs i)) := by
  rw [h.cell]; simp [ints, rd, show i.toNat < xs.length by omega, List.getD]
theorem Blk.intSet {w : World} {g : Nat} {t : TypeId} {xs : List Int} (h : Blk w g t (ints xs)) (i v : Int) : Blk (w.setCell ⟨g, i.toNat, none⟩ (.int .i64 v)) g t (ints (wr xs i v)) := by
  have := h.set_ i.toNat (.int .i64 v)
  simpa [ints, wr, List.map_set] using this

/-- What 'plain' leaves: the words' row, the accesses in new memory. -/
def PlainEnd (w w' : World) (g : Nat) (ws : List Int) (i nw : Int) (t : List Acc) (v : Value) : Prop :=
  Blk w' g 3 (ints (wr ws i nw)) ∧ Sl w' 2 v t.length (encAccs t) ∧ Keeps (fun b => b < w.heap.size ∧ b ≠ g) w w'

theorem PlainEnd.drew {w w' : World} {g : Nat} {ws : List Int} {i nw : Int} {t : List Acc} {v : Value} (h : PlainEnd w w' g ws i nw t v) : PlainEnd w w'.drew g ws i nw t v :=
  ⟨h.1, h.2.1, h.2.2.drew⟩
theorem Sl.ofBlk {w : World} {b n size : Nat} {T : TypeId} {cs : Array Value} {xs : List Value} (hb : Blk w b T cs) (hx : cs.toList = xs) (hn : xs.length = n * size) : Sl w size (.slice (some ⟨b, 0, none⟩) n n) n xs := by
  subst hx
  refine ⟨hn, _, _, rfl, Nat.le_refl _, fun _ => ⟨_, _, rfl, fun j u hu => ?_⟩⟩
  rw [Nat.zero_add, hb.cell j]
  simpa using hu
theorem plain_read {w W : World} {g b n : Nat} {T : TypeId} {ws : List Int} {i nw : Int} {t : List Acc} {cs : Array Value} (hb : Blk w g 3 (ints ws)) (hi : 0 ≤ i ∧ i < ws.length) (hn : rd ws i = nw) (hB : Below w.heap.size w W)
    (hs : Blk W b T cs) (hcs : cs.toList = encAccs t) (hl : t.length = n) : PlainEnd w W g ws i nw t (.slice (some ⟨b, 0, none⟩) n n) := by
  subst hl
  rw [PlainEnd, wr_rd hn hi]
  exact ⟨Blk.of_heap (hB.block g hb.lt) hb, Sl.ofBlk hs hcs (encAccs_length t), (Keeps.ofBelow hB).sub fun _ h => h.1⟩
theorem plain_write {w W : World} {g b n : Nat} {T : TypeId} {ws : List Int} {i nw : Int} {t : List Acc} {cs : Array Value} (hb : Blk w g 3 (ints ws)) (hB : Below w.heap.size w W)
    (hs : Blk W b T cs) (hbg : w.heap.size ≤ b) (hcs : cs.toList = encAccs t) (hl : t.length = n) : PlainEnd w (W.setCell ⟨g, i.toNat, none⟩ (.int .i64 nw)) g ws i nw t (.slice (some ⟨b, 0, none⟩) n n) := by
  subst hl
  have hlt := hb.lt
  exact ⟨(Blk.of_heap (hB.block g hb.lt) hb).intSet i nw, Sl.ofBlk (hs.far (p := ⟨g, i.toNat, none⟩) (show b ≠ g by omega) _) hcs (encAccs_length t),
    ((Keeps.ofBelow hB).sub fun _ h => h.1).setCell (p := ⟨g, i.toNat, none⟩) (fun h => h.2 rfl) _⟩
theorem plain_write2 {w W : World} {g n b : Nat} {T : TypeId} {ws : List Int} {i nw : Int} {t : List Acc} {cs : Array Value} (hb : Blk w g 3 (ints ws)) (hB : Below w.heap.size w W)
    (hcs : cs.toList = encAccs t) (hl : t.length = n) (hbn : b = W.heap.size) : PlainEnd w ((W.setCell ⟨g, i.toNat, none⟩ (.int .i64 nw)).alloc (.cells cs T)) g ws i nw t (.slice (some ⟨b, 0, none⟩) n n) := by
  subst hl hbn
  have hlt := hb.lt
  have hk := ((Keeps.ofBelow hB).sub (L' := fun b => b < w.heap.size ∧ b ≠ g) fun _ h => h.1).setCell (p := ⟨g, i.toNat, none⟩) (fun h => h.2 rfl) (.int .i64 nw)
  refine ⟨((Blk.of_heap (hB.block g hb.lt) hb).intSet i nw).alloc _, Sl.ofBlk (Blk.newAt _ _ _ (by simp [World.setCell])) hcs (encAccs_length t), hk.alloc (fun b h => ?_) _⟩
  have := hB.size
  simp [World.setCell]
  omega

theorem three_bel (w : World) (o1 o2 o3 : Obj) : Below w.heap.size w (((w.alloc o1).alloc o2).alloc o3) :=
  ((((Below.refl _ _).alloc (Nat.le_refl _) o1).alloc (by simp) o2).alloc (by simp; omega) o3)

section
variable (g : Nat) (ws : List Int) (c i v x : Int) (w : World) (hb : Blk w g 3 (ints ws)) (hi : 0 ≤ i ∧ i < ws.length) (hc : 0 ≤ c ∧ c < 3) (hl : ws.length = 4) (hr : rd ws i = x)
include hb hi hc hl hr

set_option maxRecDepth 100000 in
theorem plain_try (kind : Int) (hk : kind = 0 ∨ kind = 1) :
    Calls Try.prog 27 #[.slice (some ⟨g, 0, none⟩) 4 4, .agg #[.int .i64 kind, .int .i64 c, .int .i64 i, .int .i64 v]] w fun e w' =>
      ∃ s, e = .returned (.tuple #[.int .i64 0, .bool (x == 0), .int .i64 0, s]) ∧ PlainEnd w w' g ws i (pW 0 x c) (pT 0 i x c) s := by
  have q := hb.intAt hi
  have hlt := hb.lt
  have hi4 : i < 4 := by omega
  have hi0 := hi.1
  have qf : ∀ o1 o2 o3, (((w.alloc o1).alloc o2).alloc o3).frozen? ⟨g, i.toNat, none⟩ = false := fun o1 o2 o3 => (((hb.alloc o1).alloc o2).alloc o3).frozen _
  have HB := Lib.hid hb
  have HI := Lib.hid hi
  rw [hr] at q
  have HR := Lib.hid hr
  have qc : ∀ o1 o2 o3, (((w.alloc o1).alloc o2).alloc o3).cell? ⟨g, i.toNat, none⟩ = some (.int .i64 x) := fun o1 o2 o3 => by rw [(((hb.alloc o1).alloc o2).alloc o3).cell, ← hb.cell]; exact q
  clear hb hi hr
  by_cases e : x = 0
  · subst e
    rcases hk with rfl | rfl
    · go_enter Try.func27, Try.ntmps27
      go_wp2
      refine bodyPost_ret (results_tmp4 rfl _ _ _) rfl ?_
      exact ⟨_, rfl, plain_write HB.out (three_bel w _ _ _) (Blk.newAt _ _ _ (by simp)) (by omega) rfl rfl⟩
    · go_enter Try.func27, Try.ntmps27
      go_wp2
      refine bodyPost_ret (results_tmp4 rfl _ _ _) rfl ?_
      exact ⟨_, rfl, plain_write HB.out (three_bel w _ _ _) (Blk.newAt _ _ _ (by simp)) (by omega) rfl rfl⟩
  · have e' : (x != 0) = true := by simpa using e
    have e2 : (x == 0) = false := by simpa using e
    rw [e2]
    have HP : Hid (pW 0 x c = x ∧ pT 0 i x c = [(i, false)]) := ⟨by simp [pW, e], by simp [pT, e]⟩
    clear e e2
    rcases hk with rfl | rfl
    · go_enter Try.func27, Try.ntmps27
      go_wp2
      refine bodyPost_ret (results_tmp4 rfl _ _ _) rfl ?_
      rw [HP.out.1, HP.out.2]
      exact ⟨_, rfl, plain_read HB.out HI.out HR.out (three_bel w _ _ _) ((Blk.newAt _ _ _ (by simp)).alloc _) rfl rfl⟩
    · go_enter Try.func27, Try.ntmps27
      go_wp2
      refine bodyPost_ret (results_tmp4 rfl _ _ _) rfl ?_
      rw [HP.out.1, HP.out.2]
      exact ⟨_, rfl, plain_read HB.out HI.out HR.out (three_bel w _ _ _) ((Blk.newAt _ _ _ (by simp)).alloc _) rfl rfl⟩

set_option maxRecDepth 100000 in
theorem plain_unlock (kind : Int) (hk : kind = 2 ∨ kind = 3) :
    Calls Try.prog 27 #[.slice (some ⟨g, 0, none⟩) 4 4, .agg #[.int .i64 kind, .int .i64 c, .int .i64 i, .int .i64 v]] w fun e w' =>
      ∃ s, e = .returned (.tuple #[.int .i64 0, .bool false, .int .i64 (pG 1 x c), s]) ∧ PlainEnd w w' g ws i (pW 1 x c) (pT 1 i x c) s := by
  have q := hb.intAt hi
  have hlt := hb.lt
  have hi4 : i < 4 := by omega
  have hi0 := hi.1
  have qf : ∀ o1 o2 o3, (((w.alloc o1).alloc o2).alloc o3).frozen? ⟨g, i.toNat, none⟩ = false := fun o1 o2 o3 => (((hb.alloc o1).alloc o2).alloc o3).frozen _
  have HB := Lib.hid hb
  have HI := Lib.hid hi
  rw [hr] at q
  have HR := Lib.hid hr
  have qc : ∀ o1 o2 o3, (((w.alloc o1).alloc o2).alloc o3).cell? ⟨g, i.toNat, none⟩ = some (.int .i64 x) := fun o1 o2 o3 => by rw [(((hb.alloc o1).alloc o2).alloc o3).cell, ← hb.cell]; exact q
  clear hb hi hr
  by_cases e : x = c + 1
  · subst e
    have e' : (c + 1 != c + 1) = false := by simp
    have HP : Hid (pW 1 (c + 1) c = 0 ∧ pT 1 i (c + 1) c = [(i, false), (i, true)] ∧ pG 1 (c + 1) c = 0) := ⟨by simp [pW], by simp [pT], by simp [pG]⟩
    rw [HP.out.1, HP.out.2.1, HP.out.2.2]
    rcases hk with rfl | rfl
    · go_enter Try.func27, Try.ntmps27
      go_wp2
      go_region
      all_goals go_wp2
      all_goals refine bodyPost_ret (results_tmp4 rfl _ _ _) rfl ?_
      all_goals exact ⟨.slice (some ⟨w.heap.size + 1 + 1 + 1, 0, none⟩) 2 2, rfl, (plain_write2 (b := w.heap.size + 1 + 1 + 1) (n := 2) (i := i) (nw := 0) (t := [(i, false), (i, true)]) (cs := #[.int .i64 i, .bool false, .int .i64 i, .bool true]) (T := 91) HB.out (three_bel w (.cells #[.int .i64 2, .int .i64 c, .int .i64 i, .int .i64 v] 43) (.cells #[.int .i64 i, .bool false] 91) (.cells #[.int .i64 i, .bool true] 91)) rfl rfl (by simp)).drew⟩
    · go_enter Try.func27, Try.ntmps27
      go_wp2
      go_region
      all_goals go_wp2
      all_goals refine bodyPost_ret (results_tmp4 rfl _ _ _) rfl ?_
      all_goals exact ⟨.slice (some ⟨w.heap.size + 1 + 1 + 1, 0, none⟩) 2 2, rfl, (plain_write2 (b := w.heap.size + 1 + 1 + 1) (n := 2) (i := i) (nw := 0) (t := [(i, false), (i, true)]) (cs := #[.int .i64 i, .bool false, .int .i64 i, .bool true]) (T := 91) HB.out (three_bel w (.cells #[.int .i64 3, .int .i64 c, .int .i64 i, .int .i64 v] 43) (.cells #[.int .i64 i, .bool false] 91) (.cells #[.int .i64 i, .bool true] 91)) rfl rfl (by simp)).drew⟩
  · have e' : (x != c + 1) = true := by simpa using e
    have HP : Hid (pW 1 x c = x ∧ pT 1 i x c = [(i, false)] ∧ pG 1 x c = 501) := ⟨by simp [pW, e], by simp [pT, e], by simp [pG, e]⟩
    rw [HP.out.1, HP.out.2.1, HP.out.2.2]
    clear e
    rcases hk with rfl | rfl
    all_goals
      go_enter Try.func27, Try.ntmps27
      go_wp2
      refine bodyPost_ret (results_tmp4 rfl _ _ _) rfl ?_
      exact ⟨_, rfl, plain_read HB.out HI.out HR.out (three_bel w _ _ _) ((Blk.newAt _ _ _ (by simp)).alloc _) rfl rfl⟩

omit hc in
set_option maxRecDepth 100000 in
theorem plain_holder (kind : Int) (hk : kind = 4) :
    Calls Try.prog 27 #[.slice (some ⟨g, 0, none⟩) 4 4, .agg #[.int .i64 kind, .int .i64 c, .int .i64 i, .int .i64 v]] w fun e w' =>
      ∃ s, e = .returned (.tuple #[.int .i64 (holder x 3), .bool false, .int .i64 0, s]) ∧ PlainEnd w w' g ws i (pW 2 x c) (pT 2 i x c) s := by
  have q := hb.intAt hi
  have hlt := hb.lt
  have hi4 : i < 4 := by omega
  have hi0 := hi.1
  have qf : ∀ o1 o2 o3, (((w.alloc o1).alloc o2).alloc o3).frozen? ⟨g, i.toNat, none⟩ = false := fun o1 o2 o3 => (((hb.alloc o1).alloc o2).alloc o3).frozen _
  have HB := Lib.hid hb
  have HI := Lib.hid hi
  rw [hr] at q
  have HR := Lib.hid hr
  have qc : ∀ o1 o2 o3, (((w.alloc o1).alloc o2).alloc o3).cell? ⟨g, i.toNat, none⟩ = some (.int .i64 x) := fun o1 o2 o3 => by rw [(((hb.alloc o1).alloc o2).alloc o3).cell, ← hb.cell]; exact q
  clear hb hi hr
  subst hk
  have HP : Hid (pW 2 x c = x ∧ pT 2 i x c = [(i, false)]) := ⟨by simp [pW], by simp [pT]⟩
  rw [HP.out.1, HP.out.2]
  unfold holder
  by_cases a1 : x < 1
  · rw [if_pos (Or.inl a1)]
    go_enter Try.func27, Try.ntmps27
    go_wp2
    refine bodyPost_ret (results_tmp4 rfl _ _ _) rfl ?_
    exact ⟨_, rfl, plain_read HB.out HI.out HR.out (three_bel w _ _ _) ((Blk.newAt _ _ _ (by simp)).alloc _) rfl rfl⟩
  · have a1' : 1 ≤ x := by omega
    by_cases a2 : 3 < x
    · rw [if_pos (Or.inr a2)]
      go_enter Try.func27, Try.ntmps27
      go_wp2
      refine bodyPost_ret (results_tmp4 rfl _ _ _) rfl ?_
      exact ⟨_, rfl, plain_read HB.out HI.out HR.out (three_bel w _ _ _) ((Blk.newAt _ _ _ (by simp)).alloc _) rfl rfl⟩
    · rw [if_neg (by omega)]
      have a2' : x ≤ 3 := by omega
      go_enter Try.func27, Try.ntmps27
      go_wp2
      refine bodyPost_ret (results_tmp4 rfl _ _ _) rfl ?_
      exact ⟨_, rfl, plain_read HB.out HI.out HR.out (three_bel w _ _ _) ((Blk.newAt _ _ _ (by simp)).alloc _) rfl rfl⟩

omit hc in
set_option maxRecDepth 100000 in
theorem plain_begin (kind : Int) (hk : kind = 5) :
    Calls Try.prog 27 #[.slice (some ⟨g, 0, none⟩) 4 4, .agg #[.int .i64 kind, .int .i64 c, .int .i64 i, .int .i64 v]] w fun e w' =>
      ∃ s, e = .returned (.tuple #[.int .i64 x, .bool (x.tmod 2 == 0), .int .i64 0, s]) ∧ PlainEnd w w' g ws i (pW 3 x c) (pT 3 i x c) s := by
  have q := hb.intAt hi
  have hlt := hb.lt
  have hi4 : i < 4 := by omega
  have hi0 := hi.1
  have qf : ∀ o1 o2 o3, (((w.alloc o1).alloc o2).alloc o3).frozen? ⟨g, i.toNat, none⟩ = false := fun o1 o2 o3 => (((hb.alloc o1).alloc o2).alloc o3).frozen _
  have HB := Lib.hid hb
  have HI := Lib.hid hi
  rw [hr] at q
  have HR := Lib.hid hr
  have qc : ∀ o1 o2 o3, (((w.alloc o1).alloc o2).alloc o3).cell? ⟨g, i.toNat, none⟩ = some (.int .i64 x) := fun o1 o2 o3 => by rw [(((hb.alloc o1).alloc o2).alloc o3).cell, ← hb.cell]; exact q
  clear hb hi hr
  subst hk
  have HP : Hid (pW 3 x c = x ∧ pT 3 i x c = [(i, false)]) := ⟨by simp [pW], by simp [pT]⟩
  rw [HP.out.1, HP.out.2]
  go_enter Try.func27, Try.ntmps27
  go_wp2
  refine bodyPost_ret (results_tmp4 rfl _ _ _) rfl ?_
  exact ⟨_, rfl, plain_read HB.out HI.out HR.out (three_bel w _ _ _) ((Blk.newAt _ _ _ (by simp)).alloc _) rfl rfl⟩

omit hc in
set_option maxRecDepth 100000 in
theorem plain_same (kind : Int) (hk : kind = 6) :
    Calls Try.prog 27 #[.slice (some ⟨g, 0, none⟩) 4 4, .agg #[.int .i64 kind, .int .i64 c, .int .i64 i, .int .i64 v]] w fun e w' =>
      ∃ s, e = .returned (.tuple #[.int .i64 0, .bool (x == v), .int .i64 0, s]) ∧ PlainEnd w w' g ws i (pW 4 x c) (pT 4 i x c) s := by
  have q := hb.intAt hi
  have hlt := hb.lt
  have hi4 : i < 4 := by omega
  have hi0 := hi.1
  have qf : ∀ o1 o2 o3, (((w.alloc o1).alloc o2).alloc o3).frozen? ⟨g, i.toNat, none⟩ = false := fun o1 o2 o3 => (((hb.alloc o1).alloc o2).alloc o3).frozen _
  have HB := Lib.hid hb
  have HI := Lib.hid hi
  rw [hr] at q
  have HR := Lib.hid hr
  have qc : ∀ o1 o2 o3, (((w.alloc o1).alloc o2).alloc o3).cell? ⟨g, i.toNat, none⟩ = some (.int .i64 x) := fun o1 o2 o3 => by rw [(((hb.alloc o1).alloc o2).alloc o3).cell, ← hb.cell]; exact q
  clear hb hi hr
  subst hk
  have HP : Hid (pW 4 x c = x ∧ pT 4 i x c = [(i, false)]) := ⟨by simp [pW], by simp [pT]⟩
  rw [HP.out.1, HP.out.2]
  go_enter Try.func27, Try.ntmps27
  go_wp2
  go_quiet (fail)
  go_wp2
  refine bodyPost_ret (results_tmp4 rfl _ _ _) rfl ?_
  exact ⟨_, rfl, plain_read HB.out HI.out HR.out (below_drewN (three_bel w _ _ _) _) ((Blk.newAt _ _ _ (by simp)).alloc _) rfl rfl⟩

omit hc in
set_option maxRecDepth 100000 in
theorem plain_turn (kind : Int) (hk : kind < 0 ∨ 6 < kind) :
    Calls Try.prog 27 #[.slice (some ⟨g, 0, none⟩) 4 4, .agg #[.int .i64 kind, .int .i64 c, .int .i64 i, .int .i64 v]] w fun e w' =>
      ∃ s, e = .returned (.tuple #[.int .i64 0, .bool false, .int .i64 0, s]) ∧ PlainEnd w w' g ws i (pW 5 x c) (pT 5 i x c) s := by
  have q := hb.intAt hi
  have hlt := hb.lt
  have hi4 : i < 4 := by omega
  have hi0 := hi.1
  have qf : ∀ o1 o2 o3, (((w.alloc o1).alloc o2).alloc o3).frozen? ⟨g, i.toNat, none⟩ = false := fun o1 o2 o3 => (((hb.alloc o1).alloc o2).alloc o3).frozen _
  have HB := Lib.hid hb
  have HI := Lib.hid hi
  rw [hr] at q
  have HR := Lib.hid hr
  have qc : ∀ o1 o2 o3, (((w.alloc o1).alloc o2).alloc o3).cell? ⟨g, i.toNat, none⟩ = some (.int .i64 x) := fun o1 o2 o3 => by rw [(((hb.alloc o1).alloc o2).alloc o3).cell, ← hb.cell]; exact q
  clear hb hi hr
  have k0 : (kind == 0) = false := by simp; omega
  have k1 : (kind == 1) = false := by simp; omega
  have k2 : (kind == 2) = false := by simp; omega
  have k3 : (kind == 3) = false := by simp; omega
  have k4 : (kind == 4) = false := by simp; omega
  have k5 : (kind == 5) = false := by simp; omega
  have k6 : (kind == 6) = false := by simp; omega
  clear hk
  have HP : Hid (pW 5 x c = wrap64 (x + 1) ∧ pT 5 i x c = [(i, true)]) := ⟨by simp [pW], by simp [pT]⟩
  rw [HP.out.1, HP.out.2]
  go_enter Try.func27, Try.ntmps27
  go_wp2
  refine bodyPost_ret (results_tmp4 rfl _ _ _) rfl ?_
  exact ⟨_, rfl, plain_write HB.out (three_bel w _ _ _) (Blk.newAt _ _ _ (by simp)) (by omega) rfl rfl⟩

theorem plain_calls (kind : Int) :
    Calls Try.prog 27 #[.slice (some ⟨g, 0, none⟩) 4 4, .agg #[.int .i64 kind, .int .i64 c, .int .i64 i, .int .i64 v]] w fun e w' =>
      ∃ s, e = .returned (.tuple #[.int .i64 (pU (cls kind) x), .bool (pS (cls kind) x v), .int .i64 (pG (cls kind) x c), s]) ∧ PlainEnd w w' g ws i (pW (cls kind) x c) (pT (cls kind) i x c) s := by
  by_cases k0 : kind = 0 ∨ kind = 1
  · have hcl : cls kind = 0 := by unfold cls; rw [if_pos k0]
    rw [hcl]
    exact plain_try g ws c i v x w hb hi hc hl hr kind k0
  by_cases k1 : kind = 2 ∨ kind = 3
  · have hcl : cls kind = 1 := by unfold cls; rw [if_neg k0, if_pos k1]
    rw [hcl]
    exact plain_unlock g ws c i v x w hb hi hc hl hr kind k1
  by_cases k2 : kind = 4
  · have hcl : cls kind = 2 := by unfold cls; rw [if_neg k0, if_neg k1, if_pos k2]
    rw [hcl]
    exact plain_holder g ws c i v x w hb hi hl hr kind k2
  by_cases k3 : kind = 5
  · have hcl : cls kind = 3 := by unfold cls; rw [if_neg k0, if_neg k1, if_neg k2, if_pos k3]
    rw [hcl]
    exact plain_begin g ws c i v x w hb hi hl hr kind k3
  by_cases k4 : kind = 6
  · have hcl : cls kind = 4 := by unfold cls; rw [if_neg k0, if_neg k1, if_neg k2, if_neg k3, if_pos k4]
    rw [hcl]
    exact plain_same g ws c i v x w hb hi hl hr kind k4
  · have hcl : cls kind = 5 := by unfold cls; rw [if_neg k0, if_neg k1, if_neg k2, if_neg k3, if_neg k4]
    rw [hcl]
    exact plain_turn g ws c i v x w hb hi hl hr kind (by omega)
end
end Go.Proofs.Ytacjpchcaknacaa
