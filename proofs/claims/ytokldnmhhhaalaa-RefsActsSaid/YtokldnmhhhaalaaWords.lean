
/- concourseref23.Words: the words of accesses, rising, each once. -/
import Derived.Test.YtokldnmhhhaalaaArP
import Derived.Test.YtokldnmhhhaalaaReads
import Derived.Test.YtokldnmhhhaalaaWordsP
import Derived.Handy
namespace Go.Proofs.Ytokldnmhhhaalaa
open Go.RowKit
set_option maxHeartbeats 1000000

theorem info_intW : (Try.prog.info? 3).map (fun i => (i.zero, i.size, i.bytes)) = some (some (.int .i64 0), 1, 8) := by kernel_rfl
theorem one_ints (xs : List Int) : ∀ u ∈ xs.map (Value.int .i64), u.oneCell' = true := by
  intro u hu
  obtain ⟨x, _, rfl⟩ := List.mem_map.1 hu
  rfl
theorem ints_at {xs : List Int} {k : Nat} (h : k < xs.length) : (xs.map (Value.int .i64))[k]? = some (.int .i64 (nth xs k)) := by
  rw [List.getElem?_map, List.getElem?_eq_getElem h, nth_eq h]; rfl
/-- A row of ints of the call's own. -/
def IntRow (w : World) (B : Nat) (v : Value) (us : List Int) : Prop := w.ownsRow B 3 1 v us.length (us.map (Value.int .i64))
theorem IntRow.nil (w : World) (B : Nat) : IntRow w B (.slice none 0 0) [] := World.ownsRow_nil _ _ _ _
theorem IntRow.form {w : World} {B : Nat} {v : Value} {us : List Int} (h : IntRow w B v us) : ∃ A cap, v = .slice A us.length cap ∧ us.length ≤ cap ∧ cap ≤ maxLen ∧ (0 < us.length → ∃ g, A = some ⟨g, 0, none⟩ ∧ B ≤ g ∧ ∀ j, j < us.length → w.cell? ⟨g, j, none⟩ = some (.int .i64 (nth us j)) ∧ w.frozen? ⟨g, j, none⟩ = false) := by
  have h' := h
  rcases h.2 with ⟨rfl, h0⟩ | ⟨g, cap, cur, rfl, hb, hg, hnc, hcm, _⟩
  · exact ⟨none, 0, by rw [h0], by omega, by simp [maxLen], fun h => absurd h (by omega)⟩
  · refine ⟨some ⟨g, 0, none⟩, cap, rfl, hnc, hcm, fun _ => ⟨g, rfl, hb, fun j hj => ⟨?_, Blk.frozen (t := 3) hg j⟩⟩⟩
    have := h.cells (g := g) rfl j _ (ints_at hj)
    rw [Addr.add_lit, Nat.zero_add] at this
    exact this
theorem IntRow.sl {w : World} {B : Nat} {v : Value} {us : List Int} (h : IntRow w B v us) : Sl w 1 v us.length (us.map (Value.int .i64)) := Sl.ofOwn h
theorem IntRow.drewN {w : World} {B : Nat} {v : Value} {us : List Int} (h : IntRow w B v us) (d : Nat) : IntRow (w.drewN d) B v us := h

/-- The words of the first k accesses, in a row of the call's own. -/
structure WdAt (t : List Acc) (b : Bool) (w : World) (v : Value) (k : Nat) (wr : World) (us : List Int) : Prop where
  st : WSt (t.take k) b us
  own : IntRow wr w.heap.size v us
  keeps : Below w.heap.size w wr
theorem WdAt.start (t : List Acc) (b : Bool) (w : World) : WdAt t b w (.slice none 0 0) 0 w [] := ⟨WSt.nil b, IntRow.nil _ _, Below.refl _ _⟩
theorem take_snocA {t : List Acc} {k : Nat} (h : k < t.length) : t.take (k + 1) = t.take k ++ [t[k]] := List.take_succ_eq_append_getElem h
theorem below_drewN' {B : Nat} {a w : World} (h : Below B a w) (n : Nat) : Below B a (w.drewN n) := ⟨h.os, h.tape, h.output, h.size, h.block⟩
theorem WdAt.skip {t : List Acc} {b : Bool} {w wr : World} {v : Value} {k : Nat} {us : List Int} (h : WdAt t b w v k wr us) (hk : k < t.length) (hb : b = true) (hx : t[k].2 = false) (d : Nat) : WdAt t b w v (k + 1) (wr.drewN d) us :=
  ⟨by rw [take_snocA hk]; exact h.st.skip hb hx, h.own, below_drewN' h.keeps d⟩
theorem WdAt.same {t : List Acc} {b : Bool} {w wr : World} {v : Value} {k : Nat} {us : List Int} (h : WdAt t b w v k wr us) (hk : k < t.length) (hx : t[k].1 ∈ us) (d : Nat) : WdAt t b w v (k + 1) (wr.drewN d) us :=
  ⟨by rw [take_snocA hk]; exact h.st.same hx, h.own, below_drewN' h.keeps d⟩
theorem WdAt.put {t : List Acc} {b : Bool} {w wr w' : World} {v v' : Value} {k j n : Nat} {us : List Int} (h : WdAt t b w v k wr us) (hk : k < t.length) (hb : b = true → t[k].2 = true) (hj : j ≤ us.length) (hlo : 0 < j → nth us (j - 1) < t[k].1) (hhi : Hi us t[k].1 j)
    (hown : w'.ownsRow w.heap.size 3 1 v' n ((us.take j).map (Value.int .i64) ++ [.int .i64 t[k].1] ++ (us.drop j).map (Value.int .i64))) (hn : n = us.length + 1) (hB : Below w.heap.size w w') : WdAt t b w v' (k + 1) w' (put us t[k].1 j) := by
  refine ⟨by rw [take_snocA hk]; exact h.st.put hb hj hlo hhi, ?_, hB⟩
  unfold IntRow
  rw [put_length hj, ← hn]
  simpa [Proofs.Ytokldnmhhhaalaa.put] using hown


/-- What three appends leave as it was. -/
theorem grow1 {wr w1 : World} {d : Nat} {o : Obj} (hg1 : ((wr.drewN d).alloc o).grownBy w1 (some wr.heap.size)) : Below wr.heap.size wr w1 :=
  ((below_drewN' (Below.refl wr.heap.size wr) d).alloc (by simp) o).grown hg1 (by simp) (fun g hg => by simp at hg; omega)
theorem grow2 {wr w1 w2 : World} {d : Nat} {o o2 : Obj} {v1 : Value} (hg1 : ((wr.drewN d).alloc o).grownBy w1 (some wr.heap.size)) (hat1 : v1.ownBlock = some wr.heap.size ∨ v1.ownBlock = some ((wr.drewN d).alloc o).heap.size) (hg2 : (w1.alloc o2).grownBy w2 v1.ownBlock) : Below wr.heap.size wr w2 :=
  ((grow1 hg1).alloc (grow1 hg1).size o2).grown hg2 (by have := (grow1 hg1).size; simp; omega) (fun g hg => by rcases hat1 with h | h <;> rw [h] at hg <;> simp at hg <;> omega)
theorem grow3 {B : Nat} {w wr w1 w2 w3 : World} {d g5 n cap : Nat} {o o2 : Obj} {v1 : Value} (hb : Below B w wr) (hB : B ≤ wr.heap.size) (hg1 : ((wr.drewN d).alloc o).grownBy w1 (some wr.heap.size)) (hat1 : v1.ownBlock = some wr.heap.size ∨ v1.ownBlock = some ((wr.drewN d).alloc o).heap.size) (hg2 : (w1.alloc o2).grownBy w2 v1.ownBlock)
    (hat2 : v1.ownBlock = some g5 ∨ g5 = (w1.alloc o2).heap.size) (hg3 : w2.grownBy w3 (Value.slice (some ⟨g5, 0, none⟩) n cap).ownBlock) : Below B w w3 := by
  have h2 := grow2 hg1 hat1 hg2
  have h1 := (grow1 hg1).size
  refine hb.trans ((h2.grown hg3 h2.size (fun g hg => ?_)).mono hB)
  simp [Value.ownBlock] at hg
  subst hg
  rcases hat2 with h | h
  · rcases hat1 with h' | h' <;> rw [h'] at h <;> simp at h <;> omega
  · simp at h; omega

set_option maxRecDepth 100000 in
theorem words_fullL (t : List Acc) (v : Value) (b : Bool) (w : World) (h : Sl w 2 v t.length (encAccs t)) (hl : t.length ≤ 8796093022208) :
    Calls Try.prog 33 #[v, .bool b] w fun e w' => ∃ u us, e = .returned u ∧ WdAt t b w u t.length w' us := by
  obtain ⟨_, A, cap, rfl, hc, h⟩ := h
  obtain ⟨i0, hi, hz0, hz1, hz2⟩ := info_parts info_intW
  have H := Lib.hid h
  clear h
  go_enter Try.func33, Try.ntmps33
  go_wp2
  go_loopw [5, 6] (fun o i wr => ∃ (k : Nat) (us : List Int), k ≤ t.length ∧ i = .int .i64 k ∧ WdAt t b w o k wr us) (fun _ i _ => t.length - (intOf i).toNat)
  case atStart => exact ⟨0, [], Nat.zero_le _, rfl, WdAt.start _ _ _⟩
  case round =>
    obtain ⟨k, us, hk, rfl, hW⟩ := hrel
    have HW := Lib.hid hW
    obtain ⟨Ao, co, hv, hoc, hcm, ho⟩ := hW.own.form
    have hus : us.length ≤ t.length := by have := hW.st.len; rw [List.length_take] at this; omega
    have hB := hW.keeps
    clear hW
    subst hv
    have HO := Lib.hid ho
    have hsz := hB.size
    by_cases hlt : k < t.length
    · obtain ⟨g, off, rfl, hcell⟩ := H.out (by omega)
      obtain ⟨ea, eb⟩ := encAccs_at t k hlt
      have p1 := hcell _ _ ea
      have p2 : w.cell? ⟨g, off + k * 2 + 1, none⟩ = _ := hcell _ _ eb
      have q1 := (hB.cell (World.block_lt_of_cell? w _ p1)).trans p1
      have q2 := (hB.cell (World.block_lt_of_cell? w _ p2)).trans p2
      have HB := Lib.hid hB
      clear hcell ea eb H p1 p2 ho hB
      generalize hx1 : t[k].1 = x at *
      generalize hx2 : t[k].2 = x2 at *
      have HX1 := Lib.hid hx1
      have HX2 := Lib.hid hx2
      clear hx1 hx2
      by_cases hsk : b = true ∧ x2 = false
      · obtain ⟨rfl, rfl⟩ := hsk
        go_wp2
        go_roundw
        case rel => exact ⟨k + 1, us, by omega, by go_num, HW.out.skip hlt rfl HX2.out 0⟩
        case measure => simp [intOf]; omega
      · have hbx : b = true → x2 = true := by cases b <;> cases x2 <;> simp_all
        have hcase : b = false ∨ (b = true ∧ x2 = true) := by cases b <;> cases x2 <;> simp_all
        have HBX := Lib.hid hbx
        clear hbx hsk
        rcases hcase with rfl | ⟨rfl, rfl⟩
        all_goals (
          go_wp2
          go_loopw [7] (fun s wx => ∃ (j : Nat) (d : Nat), s = .int .i64 j ∧ j ≤ us.length ∧ Hi us x j ∧ wx = wr.drewN d) (fun s _ => (intOf s).toNat)
          case atStart => exact ⟨us.length, 0, rfl, Nat.le_refl _, Hi.top _ _, rfl⟩
          case round =>
            obtain ⟨j, d, rfl, hj, hhi, rfl⟩ := hrel
            have HHI := Lib.hid hhi
            clear hhi
            have hcase : (0 < j ∧ x < nth us (j - 1)) ∨ (0 < j ∧ nth us (j - 1) = x) ∨ (j = 0 ∨ (0 < j ∧ nth us (j - 1) < x)) := by omega
            rcases hcase with ⟨hj0, hgt⟩ | ⟨hj0, heq⟩ | hex
            · obtain ⟨g2, rfl, hg2, hc2⟩ := HO.out (by omega)
              obtain ⟨i, hi1⟩ : ∃ i : Nat, j = i + 1 := ⟨j - 1, by omega⟩
              have q3 := (hc2 i (by omega)).1
              have HJ := Lib.hid hi1
              have hw : IntKind.i64.wrap ((j : Int) - 1) = (i : Int) := by rw [IntKind.wrap_i64]; omega
              have hi0 : (0 : Int) ≤ (i : Int) := by omega
              have hil : (i : Int) < (us.length : Int) := by omega
              have hjp : (0 : Int) < (j : Int) := by omega
              have e1 : nth us (j - 1) = nth us i := by rw [hi1]; rfl
              rw [e1] at hgt
              have HD := Lib.hid (show Hi us x i from Hi.down (show Hi us x (i + 1) by rw [← hi1]; exact HHI.out) hgt)
              clear hc2 hi1 e1
              generalize nth us i = y at *
              go_wp2
              go_quiet (fail)
              clear hw
              go_wp2
              go_roundw
              case rel => exact ⟨i, _, by have := HJ.out; go_num, by have := HJ.out; omega, HD.out, rfl⟩
              case measure => have := HJ.out; simp [intOf]; omega
            · obtain ⟨g2, rfl, hg2, hc2⟩ := HO.out (by omega)
              obtain ⟨i, hi1⟩ : ∃ i : Nat, j = i + 1 := ⟨j - 1, by omega⟩
              have q3 := (hc2 i (by omega)).1
              have hin : nth us i ∈ us := nth_mem (by omega)
              have hw : IntKind.i64.wrap ((j : Int) - 1) = (i : Int) := by rw [IntKind.wrap_i64]; omega
              have hi0 : (0 : Int) ≤ (i : Int) := by omega
              have hil : (i : Int) < (us.length : Int) := by omega
              have hjp : (0 : Int) < (j : Int) := by omega
              have e1 : nth us (j - 1) = nth us i := by rw [hi1]; rfl
              rw [e1] at heq
              rw [heq] at q3 hin
              have HIN := Lib.hid hin
              have hng : decide (x < x) = false := by simp
              clear hc2 hi1 e1 heq hin
              go_wp2
              go_quiet (fail)
              go_wp2
              go_quiet (fail)
              clear hw
              go_wp2
              go_roundw
              case rel => exact ⟨k + 1, us, by omega, by go_num, HW.out.same hlt (by rw [HX1.out]; exact HIN.out) _⟩
              case measure => simp [intOf]; omega
            · have HLO := Lib.hid (show 0 < j → nth us (j - 1) < x by intro h; rcases hex with h1 | h1 <;> omega)
              have hfin : (¬ 0 < j) ∨ (0 < j ∧ ∃ i : Nat, j = i + 1 ∧ nth us i < x) := by
                rcases hex with h1 | ⟨h1, h2⟩
                · left; omega
                · right; exact ⟨h1, j - 1, by omega, h2⟩
              clear hex
              have HN := Lib.hid (show Ao = none → us = [] by
                intro e
                rcases Nat.eq_zero_or_pos us.length with h0 | h0
                · exact List.eq_nil_of_length_eq_zero h0
                · obtain ⟨g3, h3, _⟩ := HO.out h0
                  rw [e] at h3
                  cases h3)
              have OWN0 := Lib.hid (fun d : Nat => show ((wr.drewN d).alloc (.cells #[] 3)).ownsRow w.heap.size 3 1 (.slice (some ⟨wr.heap.size, 0, none⟩) 0 0) 0 [] from
                ⟨rfl, .inr ⟨wr.heap.size, 0, #[], rfl, hsz, heap_alloc_new (wr.drewN d) _, Nat.le_refl _, Nat.zero_le _, rfl, rfl⟩⟩)
              have RD := Lib.hid (show Reads wr wr.heap.size 1 Ao us.length (us.map (Value.int .i64)) from Reads.of_own HW.out.own)
              have gb : g < wr.heap.size := World.block_lt_of_cell? wr _ q1
              have QX := Lib.hid (fun (d : Nat) (W1 : World) (hg : ((wr.drewN d).alloc (.cells #[] 3)).grownBy W1 (some wr.heap.size)) => show W1.cell? ⟨g, off + k * 2, none⟩ = some (.int .i64 x) by
                rw [hg.cell_far _ (by simp; omega) (by simp; omega)]
                exact (World.cell?_alloc_lt _ _ _ (by simpa using gb)).trans q1)
              rcases Ao with _ | ao
              · obtain rfl : us = [] := HN.out rfl
                obtain rfl : j = 0 := by simpa using hj
                clear hfin
                have hj0 : ¬ 0 < 0 := by omega
                go_wp2
                go_quiet (fail)
                go_wp2
                go_quiet (fail)
                go_wp2_with (first
                  | (at_builtin; refine wpList_append_any _ rfl (.tmp 58) (.tmp 61) 22 rfl w.heap.size 3 i0 _ 1 8 Try.underlying22 hi hz0 hz1 hz2 rfl (by omega) _ 0 [] rfl (OWN0.out _) wr.heap.size _ _ _ _ rfl Reads.none_ (by simp) (by simp only [maxLen]; omega) (by omega) (by simp; omega) ?_; intro v1 w1 hown1 hg1 hat1; simp only [Nat.zero_add, List.nil_append] at hown1; have q5 := QX.out _ _ hg1; have hw1 : w.heap.size ≤ w1.heap.size := by have := hg1.size; simp at this; omega)
                  | (at_builtin; refine wpList_append_lies _ rfl (.tmp 63) (.tmp 69) 22 rfl w.heap.size 3 i0 _ 1 8 Try.underlying22 hi hz0 hz1 hz2 rfl (by omega) v1 _ _ rfl (hown1.alloc (Obj.cells #[.int .i64 x] 3)) ⟨w1.heap.size, 0, none⟩ 1 1 [.int .i64 x] rfl rfl (World.news_of_block (heap_alloc_new _ _)) (by intro u hu; simp at hu; subst hu; rfl) (by decide) (by simp only [maxLen]; omega) (by omega) (by simp; omega) _ rfl ?_; intro g5 cap5 w2 hown2 hg2 hat2 hlt2; have hC := grow2 hg1 hat1 hg2)
                  | (at_builtin; refine wpList_append_any _ rfl (.tmp 71) (.tmp 74) 22 rfl w.heap.size 3 i0 _ 1 8 Try.underlying22 hi hz0 hz1 hz2 rfl (by omega) _ _ _ rfl hown2 wr.heap.size _ _ _ _ rfl Reads.none_ (by simp) (by simp only [maxLen]; omega) (by omega) (Nat.le_trans hsz hC.size) ?_; intro v3 w3 hown3 hg3 hat3))
                have hB3 := grow3 HB.out hsz hg1 hat1 hg2 hat2 hg3
                go_wp2
                go_roundw
                case rel =>
                  refine ⟨k + 1, put [] x 0, by omega, by go_num, ?_⟩
                  have := HW.out.put (v' := v3) (w' := w3) (j := 0) (n := 1) hlt (by rw [HX2.out]; first | exact HBX.out | (intro _; rfl)) (Nat.zero_le _) (by rw [HX1.out]; exact HLO.out) (by rw [HX1.out]; exact HHI.out) (by rw [HX1.out]; simpa using hown3) (by simp) hB3
                  rw [HX1.out] at this
                  exact this
                case measure => simp [intOf]; omega
              · have RD0 := Lib.hid (fun d : Nat => show Reads ((wr.drewN d).alloc (.cells #[] 3)) wr.heap.size 1 (some ao) j ((us.take j).map (Value.int .i64)) by
                  have := ((RD.out.take_ hj).drewN d).alloc (Nat.le_refl _) (.cells #[] 3)
                  simpa [List.map_take] using this)
                have RD2 := Lib.hid (fun (W2 : World) (h2 : Below wr.heap.size wr W2) => show Reads W2 wr.heap.size 1 (if co = j then some ao else some (ao.add j)) (us.length - j) ((us.drop j).map (Value.int .i64)) by
                  have := (RD.out.cut hj hoc).below h2
                  simpa [List.map_drop] using this)
                rcases hfin with hj0 | ⟨hj0, i, hi1, hlt1⟩
                case' inl =>
                  have hjd : decide (0 < j) = false := by simpa using hj0
                  go_wp2
                  go_quiet (fail)
                  go_wp2
                  go_quiet (fail)
                case' inr =>
                  obtain ⟨ao', u', e1, _, hx3, q3⟩ := RD.out.at_ (k := i) (by omega)
                  injection e1 with e1
                  subst e1
                  rw [ints_at (by omega)] at hx3
                  injection hx3 with hx3
                  subst hx3
                  have hw : IntKind.i64.wrap ((j : Int) - 1) = (i : Int) := by rw [IntKind.wrap_i64]; omega
                  have hi0 : (0 : Int) ≤ (i : Int) := by omega
                  have hil : (i : Int) < (us.length : Int) := by omega
                  have hjp : (0 : Int) < (j : Int) := by omega
                  have hng : decide (x < nth us i) = false := by simp; omega
                  have hne : (nth us i == x) = false := by simp; omega
                  clear hi1
                  generalize nth us i = y at *
                  go_wp2
                  go_quiet (fail)
                  go_wp2
                  go_quiet (fail)
                  clear hw
                all_goals (
                  go_wp2_with (first
                    | (at_builtin; refine wpList_append_any _ rfl (.tmp 58) (.tmp 61) 22 rfl w.heap.size 3 i0 _ 1 8 Try.underlying22 hi hz0 hz1 hz2 rfl (by omega) _ 0 [] rfl (OWN0.out _) wr.heap.size _ _ _ _ rfl (RD0.out _) (one_ints _) (by simp only [maxLen]; omega) (by omega) (by simp; omega) ?_; intro v1 w1 hown1 hg1 hat1; simp only [Nat.zero_add, List.nil_append] at hown1; have q5 := QX.out _ _ hg1; have hw1 : w.heap.size ≤ w1.heap.size := by have := hg1.size; simp at this; omega)
                    | (at_builtin; refine wpList_append_lies _ rfl (.tmp 63) (.tmp 69) 22 rfl w.heap.size 3 i0 _ 1 8 Try.underlying22 hi hz0 hz1 hz2 rfl (by omega) v1 _ _ rfl (hown1.alloc (Obj.cells #[.int .i64 x] 3)) ⟨w1.heap.size, 0, none⟩ 1 1 [.int .i64 x] rfl rfl (World.news_of_block (heap_alloc_new _ _)) (by intro u hu; simp at hu; subst hu; rfl) (by decide) (by simp only [maxLen]; omega) (by omega) (by simp; omega) _ rfl ?_; intro g5 cap5 w2 hown2 hg2 hat2 hlt2; have hC := grow2 hg1 hat1 hg2)
                    | (at_builtin; refine wpList_append_any _ rfl (.tmp 71) (.tmp 74) 22 rfl w.heap.size 3 i0 _ 1 8 Try.underlying22 hi hz0 hz1 hz2 rfl (by omega) _ _ _ rfl hown2 wr.heap.size _ _ _ _ rfl (RD2.out _ hC) (one_ints _) (by simp only [maxLen]; omega) (by omega) (Nat.le_trans hsz hC.size) ?_; intro v3 w3 hown3 hg3 hat3))
                  have hB3 := grow3 HB.out hsz hg1 hat1 hg2 hat2 hg3
                  go_wp2
                  go_roundw
                  case rel =>
                    refine ⟨k + 1, put us x j, by omega, by go_num, ?_⟩
                    have := HW.out.put (v' := v3) (w' := w3) (j := j) (n := j + 1 + (us.length - j)) hlt (by rw [HX2.out]; first | exact HBX.out | (intro _; rfl)) hj (by rw [HX1.out]; exact HLO.out) (by rw [HX1.out]; exact HHI.out) (by rw [HX1.out]; simpa using hown3) (by omega) hB3
                    rw [HX1.out] at this
                    exact this
                  case measure => simp [intOf]; omega))
    · have hkt : k = t.length := by omega
      have HW := Lib.hid (show WdAt t b w (.slice Ao us.length co) t.length wr us by rw [← hkt]; exact HW.out)
      clear ho hkt
      go_wp2
      go_ret
      exact ⟨_, us, rfl, HW.out⟩
theorem words_full (t : List Acc) (v : Value) (b : Bool) (w : World) (h : Sl w 2 v t.length (encAccs t)) (hl : t.length ≤ 1099511627776) :
    Calls Try.prog 33 #[v, .bool b] w fun e w' => ∃ u us, e = .returned u ∧ WdAt t b w u t.length w' us := words_fullL t v b w h (by omega)

end Go.Proofs.Ytokldnmhhhaalaa
