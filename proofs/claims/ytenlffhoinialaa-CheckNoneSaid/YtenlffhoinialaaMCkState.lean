/- check: State. -/
import Derived.Test.YtenlffhoinialaaMCkSrt
import Derived.Test.YtenlffhoinialaaMCkBod
import Derived.Test.YtenlffhoinialaaMCkOpen
namespace Go.Proofs.Ytenlffhoinialaa
open Go.RowKit Go.Shelf Go.Lib Go.Sort
set_option maxHeartbeats 1000000

theorem flatF_get : ∀ (D : List Fnd) (t : Nat), (D.flatMap encF)[t]? = (D[t / 3]?).bind fun e => (encF e)[t % 3]?
  | [], t => by simp
  | e :: D, t => by
    rw [List.flatMap_cons]
    by_cases h : t < 3
    · have : t = 0 ∨ t = 1 ∨ t = 2 := by omega
      rcases this with rfl | rfl | rfl <;> simp [encF]
    · have e1 : t / 3 = (t - 3) / 3 + 1 := by omega
      have e2 : t % 3 = (t - 3) % 3 := by omega
      rw [List.getElem?_append_right (by simp [encF]; omega), e1, List.getElem?_cons_succ, e2, ← flatF_get D (t - 3)]
      simp [encF]
theorem flatKF_eq (D : List Fnd) : flatK encF 3 D.toArray = (D.flatMap encF).toArray := by
  apply Array.ext
  · rw [size_flatK, List.size_toArray, List.size_toArray, encF_len]
  · intro t h1 h2
    have h3 : t < D.length * 3 := by rw [size_flatK] at h1; simpa using h1
    have ha := get_flatK encF 3 D.toArray t (by simpa using h3)
    rw [getElem!_pos (flatK encF 3 D.toArray) t h1] at ha
    rw [ha]
    have hb := flatF_get D t
    have hd : t / 3 < D.length := by omega
    rw [List.getElem?_eq_getElem (by rw [encF_len]; exact h3), List.getElem?_eq_getElem hd] at hb
    have hm : t % 3 < (encF D[t / 3]).length := by simp [encF]; omega
    simp only [Option.bind_some] at hb
    rw [List.getElem?_eq_getElem hm] at hb
    have hb := Option.some.inj hb
    simp only [List.getElem_toArray]
    rw [hb]
    have hx : D.toArray[t / 3]! = D[t / 3] := by simp [hd]
    rw [hx]
    exact getElem!_pos (encF D[t / 3]) (t % 3) hm
theorem holdsF_of {w : World} {base g cap : Nat} {D : List Fnd} (h : w.ownsRow base 64 3 (.slice (some ⟨g, 0, none⟩) D.length cap) D.length (D.flatMap encF)) : HoldsK encF 3 w g 0 D.toArray := by
  unfold HoldsK
  rw [flatKF_eq]
  intro j hj
  have hj' : j < (D.flatMap encF).length := by simpa using hj
  have hget : (D.flatMap encF)[j]? = some ((D.flatMap encF).toArray[j]!) := by
    rw [getElem!_pos (D.flatMap encF).toArray j hj, List.getElem_toArray, List.getElem?_eq_getElem hj']
  have hc := h.cells (g := g) rfl j _ hget
  have e : (⟨g, 0, none⟩ : Addr).add j = ⟨g, 0 + j, none⟩ := by unfold Addr.add; split <;> simp_all
  rw [e] at hc
  refine ⟨hc, ?_⟩
  rcases h.2 with ⟨hn, _⟩ | ⟨g', cap', cur, hv, _, hh, _⟩
  · cases hn
  · have : g = g' := by simpa [Value.ownBlock] using congrArg Value.ownBlock hv
    subst this
    exact (Blk.frozen (show Blk w g _ cur from hh) _)
theorem sortedF_heap {w : World} {g n : Nat} {D' : List Fnd} {os : Array Obj} (k : Nat) (hk : k < w.heap.size) :
    (sortWorldK encF 3 w g 0 n D'.toArray os).heap[k]? = if k = g then (w.heap[k]?).map (onCells (putCells id 0 (flatK encF 3 D'.toArray))) else w.heap[k]? := by
  unfold sortWorldK grow putRowK putRow mapBlock Sort.ahead
  show ((w.heap.modify g (onCells (putCells id 0 (flatK encF 3 D'.toArray)))) ++ os)[k]? = _
  rw [Array.getElem?_append_left (by simpa using hk), Array.getElem?_modify]
  by_cases e : g = k
  · rw [if_pos e, if_pos e.symm]
  · rw [if_neg e, if_neg (fun h => e h.symm)]
theorem sortedF_own {w : World} {base g cap n : Nat} {D D' : List Fnd} {os : Array Obj} (h : w.ownsRow base 64 3 (.slice (some ⟨g, 0, none⟩) D.length cap) D.length (D.flatMap encF)) (hl : D'.length = D.length) :
    (sortWorldK encF 3 w g 0 n D'.toArray os).ownsRow base 64 3 (.slice (some ⟨g, 0, none⟩) D'.length cap) D'.length (D'.flatMap encF) := by
  refine ⟨encF_len D', .inr ?_⟩
  rcases h.2 with ⟨hn, _⟩ | ⟨g', cap', cur, hv, hb, hh, h1, h2, h3, h4⟩
  · cases hn
  · have e1 : g = g' := by simpa [Value.ownBlock] using congrArg Value.ownBlock hv
    subst e1
    have e2 : cap = cap' := by
      injection hv
    subst e2
    have hg : g < w.heap.size := Blk.lt (show Blk w g _ cur from hh)
    refine ⟨g, cap, putCells id 0 (flatK encF 3 D'.toArray) cur, rfl, hb, ?_, by omega, h2, ?_, ?_⟩
    · rw [sortedF_heap g hg, if_pos rfl, hh]
      rfl
    · simp [putCells, h3]
    · rw [flatKF_eq]
      have hle : D'.length * 3 ≤ cap * 3 := Nat.mul_le_mul_right _ (by omega)
      apply List.ext_getElem
      · simp only [List.length_take, Array.length_toList, Array.size_mapIdx, encF_len, h3, putCells, List.size_toArray]
        omega
      · intro j q1 q2
        rw [encF_len] at q2
        have hp : (0 ≤ j ∧ j < 0 + (D'.flatMap encF).toArray.size) := by
          refine ⟨Nat.zero_le _, ?_⟩
          rw [List.size_toArray, encF_len]
          omega
        simp only [List.getElem_take, Array.getElem_toList, putCells, Array.getElem_mapIdx]
        rw [if_pos hp]
        have hq : j - 0 < (D'.flatMap encF).toArray.size := by rw [List.size_toArray, encF_len]; omega
        rw [getElem!_pos (D'.flatMap encF).toArray (j - 0) hq]
        simp
/-- What is found, unsorted. -/
def rawF (S : St) : List Fnd := numbersF S ++ bodiesF S ++ treeF S ++ openF S
theorem ownF_row {w : World} {base : Nat} {v : Value} {D : List Fnd} (h : w.ownsRow base 64 3 v D.length (D.flatMap encF)) : RowAt w v D.length 3 (fndC D) := by
  rcases h.2 with ⟨rfl, h0⟩ | ⟨g, cap, cur, rfl, hb, hh, h1, _⟩
  · rw [h0]; exact RowAt.nil_ _ _ _
  · refine ⟨_, _, rfl, h1, fun _ => ⟨g, 0, rfl, fun i j hi hj => ?_⟩⟩
    have hc := h.cells (g := g) rfl (i * 3 + j) (fndC D i j) (by
      rw [flatF_get, show (i * 3 + j) / 3 = i by omega, show (i * 3 + j) % 3 = j by omega, List.getElem?_eq_getElem hi]
      have hf : fAt D i = D[i] := by simp [fAt, List.getD, hi]
      have : j = 0 ∨ j = 1 ∨ j = 2 := by omega
      rcases this with rfl | rfl | rfl <;> simp [encF, fndC, hf])
    rw [Addr.add_lit] at hc
    exact hc
/-- The findings rise. -/
def RiseF (D : List Fnd) : Prop := D.Pairwise ltF
theorem rise_of_sorted {D' : List Fnd} (hn : D'.Nodup) (h : SortedIn (ltOf cmpF) 0 D'.length D'.toArray) : RiseF D' := by
  unfold RiseF
  rw [List.pairwise_iff_getElem]
  intro i j hi hj hij
  have h2 := h i j (Nat.zero_le _) hij hj
  rw [getElem!_pos D'.toArray i (by simpa using hi), getElem!_pos D'.toArray j (by simpa using hj)] at h2
  simp only [List.getElem_toArray] at h2
  rcases ltF_tri D'[i] D'[j] with q | q | q
  · exact q
  · exact absurd q (List.pairwise_iff_getElem.1 hn i j hi hj hij)
  · have := (ltOf_cmpF _ _).2 q
    rw [this] at h2
    cases h2
theorem rise_unique : ∀ {D E : List Fnd}, RiseF D → RiseF E → D.Perm E → D = E
  | [], E, _, _, hp => (List.nil_perm.1 hp).symm
  | d :: D, [], _, _, hp => by simpa using hp.length_eq
  | d :: D, e :: E, hd, he, hp => by
    have h1 := List.pairwise_cons.1 hd
    have h2 := List.pairwise_cons.1 he
    have hde : d = e := by
      have m1 : d ∈ e :: E := hp.subset (List.mem_cons_self)
      have m2 : e ∈ d :: D := hp.symm.subset (List.mem_cons_self)
      rcases List.mem_cons.1 m1 with q | q
      · exact q
      · rcases List.mem_cons.1 m2 with r | r
        · exact r.symm
        · exact absurd (ltF_trans (h1.1 e r) (h2.1 d q)) (ltF_irrefl d)
    subst hde
    rw [rise_unique h1.2 h2.2 (List.perm_cons d |>.1 hp)]
theorem raw_len (S : St) (hs : S.small) : (rawF S).length ≤ 10000000 := by
  unfold rawF numbersF bodiesF treeF openF
  simp only [List.length_append]
  have h1 := one_len 1 1 nm0 (rootB S)
  have h2 := flat_len (numAt_len S) S.inodes.length
  have h3 := one_len 8 (-1) nm0 (manyB S)
  have h4 := flat_len (f := fun (i : Nat) => one 8 (i : Int) nm0 (madB S i)) (c := 1) (fun _ => one_len _ _ _ _) S.made.length
  have h5 := flat_len (bodyAt_len S hs) S.inodes.length
  have h6 := flat_len (treeAt_len S) S.inodes.length
  have h7 := flat_len (f := openAt S) (c := 1) (fun _ => one_len _ _ _ _) S.opens.length
  have := hs.ni
  have := hs.no
  have := hs.nm
  omega
/-- slices.SortFunc at the checker's row. -/
theorem ck_sort {w0 w : World} {c sb : Nat} {v : Value} {D : List Fnd} (hbel : Below w0.heap.size w0 w) (hc : Blk w c 74 #[.pointer (some ⟨sb, 0, none⟩), v]) (hown : w.ownsRow w0.heap.size 64 3 v D.length (D.flatMap encF)) (hlen : D.length ≤ 10000000) :
    Calls Try.prog 40 #[v, .func (.func 41) #[] #[]] w fun e w' => e = .returned (.tuple #[]) ∧ ∃ D' : List Fnd, D'.Perm D ∧ SortedIn (ltOf cmpF) 0 D'.length D'.toArray ∧ Below w0.heap.size w0 w' ∧ Blk w' c 74 #[.pointer (some ⟨sb, 0, none⟩), v] ∧ w'.ownsRow w0.heap.size 64 3 v D'.length (D'.flatMap encF) := by
  rcases hown.2 with ⟨rfl, h0⟩ | ⟨g, cap, cur, rfl, hb, hh, _⟩
  · refine (AnyF.slices_SortFunc_none Try.sortFnd none 0 _ w).mono ?_
    rintro e w' ⟨rfl, rfl⟩
    exact ⟨rfl, D, .refl _, (by rw [h0]; intro i j _ _ hj; omega), hbel, hc, hown⟩
  · have hg : g < w.heap.size := Blk.lt (show Blk w g _ cur from hh)
    have hgc : c ≠ g := Blk.ne_ hc (show Blk w g 64 cur from hh) (by decide)
    have hH := holdsF_of hown
    refine (sort_calls g 0 cap D.toArray w hH hg (by rw [List.size_toArray]; omega)).mono ?_
    rintro e w' ⟨rfl, D', n', os, hp, hs, rfl⟩
    obtain ⟨D', rfl⟩ : ∃ l : List Fnd, D' = l.toArray := ⟨D'.toList, rfl⟩
    have hsz : D'.length = D.length := by simpa using hp.1
    have hperm : D'.Perm D := by
      have := hp.2.2
      have e1 : D'.toArray.extract 0 D.toArray.size = D'.toArray := by rw [← hp.1]; exact Array.extract_size
      have e2 : D.toArray.extract 0 D.toArray.size = D.toArray := Array.extract_size
      rw [e1, e2] at this
      simpa using this
    refine ⟨rfl, D', hperm, (by have := hs; rw [List.size_toArray, ← hsz] at this; exact this), ?_, ?_, ?_⟩
    · refine hbel.trans ⟨rfl, rfl, rfl, ?_, fun k hk => ?_⟩
      · show w.heap.size ≤ ((w.heap.modify g _) ++ os).size
        simp
      · rw [sortedF_heap k (by have := hbel.size; omega), if_neg (by omega)]
    · unfold Blk
      rw [sortedF_heap c hc.lt, if_neg hgc]
      exact hc
    · have := sortedF_own (n := n') (os := os) hown hsz
      rw [hsz] at this ⊢
      exact this

set_option maxRecDepth 1000000 in
theorem State_calls {w : World} {iv ov mv : Value} {ev : Nat → Value} {S : St} (hS : StM w iv ov mv ev S) (hs : S.small) {E : List Fnd} (hE : RiseF E) (hp : E.Perm (rawF S)) :
    Calls Try.prog 15 #[.agg #[iv, ov, mv]] w fun e w' => ∃ v, e = .returned v ∧ Below w.heap.size w w' ∧ w'.ownsRow w.heap.size 64 3 v E.length (E.flatMap encF) := by
  obtain ⟨A, cap, rfl⟩ := hS.ino.form
  obtain ⟨OA, ocap, rfl⟩ := hS.opn.form
  obtain ⟨MA, mcap, rfl⟩ := hS.mad.form
  have HS := Lib.hid hS
  have HSm := Lib.hid hs
  have HL := Lib.hid (raw_len S hs)
  have HE := Lib.hid hE
  have HP := Lib.hid hp
  have HR := Lib.hid (show rawF S = numbersF S ++ bodiesF S ++ treeF S ++ openF S from rfl)
  clear hS hs hE hp
  generalize S.inodes.length = n at *
  generalize S.opens.length = no at *
  generalize S.made.length = nm at *
  have HC : Ck w ((w.alloc (.cells #[.slice A n cap, .slice OA no ocap, .slice MA nm mcap] 26)).alloc (.cells #[.pointer (some ⟨w.heap.size, 0, none⟩), .slice none 0 0] 74)) (w.heap.size + 1) w.heap.size (.slice A n cap) (.slice OA no ocap) (.slice MA nm mcap) [] :=
    ⟨((Below.refl _ _).alloc (Nat.le_refl _) _).alloc (by simp) _, Nat.le_refl _, (Blk.new _ _ _).alloc _, by omega, _, Blk.newAt _ _ _ (by simp), World.ownsRow_nil _ _ _ _⟩
  have HC := Lib.hid HC
  rename_i HC0
  clear HC0
  go_enter Try.func15, Try.ntmps15
  go_wp2_with (fail)
  refine (numbers_calls HC.out HS.out HSm.out (by simp)).mono ?_
  rintro e w1 ⟨rfl, h1⟩
  have H1 := Lib.hid h1
  have HL1 := Lib.hid (show ([] ++ numbersF S).length ≤ 10000000 by have := HL.out; rw [HR.out] at this; simp only [List.length_append, List.nil_append] at this ⊢; omega)
  clear h1 HC
  go_wp2_with (fail)
  refine (bodies_calls H1.out.1 HS.out HSm.out (by have := HL1.out; omega)).mono ?_
  rintro e w2 ⟨rfl, h2⟩
  have H2 := Lib.hid h2
  have HL2 := Lib.hid (show ([] ++ numbersF S ++ bodiesF S).length ≤ 10000000 by have := HL.out; rw [HR.out] at this; simp only [List.length_append, List.nil_append] at this ⊢; omega)
  clear h2 H1
  go_wp2_with (fail)
  refine (tree_calls H2.out.1 HS.out HSm.out (by have := HL2.out; omega)).mono ?_
  rintro e w3 ⟨rfl, h3⟩
  have H3 := Lib.hid h3
  have HL3 := Lib.hid (show ([] ++ numbersF S ++ bodiesF S ++ treeF S).length ≤ 10000000 by have := HL.out; rw [HR.out] at this; simp only [List.length_append, List.nil_append] at this ⊢; omega)
  clear h3 H2
  go_wp2_with (fail)
  refine (open_calls H3.out.1 HS.out HSm.out (by have := HL3.out; omega)).mono ?_
  rintro e w4 ⟨rfl, h4⟩
  have hD : [] ++ numbersF S ++ bodiesF S ++ treeF S ++ openF S = rawF S := by rw [HR.out, List.nil_append]
  rw [hD] at h4
  obtain ⟨v, hv1, hv2⟩ := h4.1.row
  have c1 : w4.cell? ⟨w.heap.size + 1, 1, none⟩ = some v := hv1.cell 1
  have HSO := Lib.hid (ck_sort h4.1.bel hv1 hv2 HL.out)
  clear h4 H3 hD hv1 hv2
  go_wp2_with (fail)
  refine HSO.out.mono ?_
  rintro e w5 ⟨rfl, D', hperm, hsort, hbel, hck, hown⟩
  clear c1
  have c1 : w5.cell? ⟨w.heap.size + 1, 1, none⟩ = some v := hck.cell 1
  have hnd : D'.Nodup := (hperm.trans HP.out.symm).nodup_iff.2 (List.Pairwise.imp (S := fun a b : Fnd => a ≠ b) (fun {a b} (h : ltF a b) (e : a = b) => ltF_irrefl a (e ▸ h)) HE.out)
  have hDE : D' = E := rise_unique (rise_of_sorted hnd hsort) HE.out (hperm.trans HP.out.symm)
  subst hDE
  have HO := Lib.hid hown
  have HB := Lib.hid hbel
  have HCO := Lib.hid (compact_calls (ownF_row hown) (by have := hperm.length_eq; have := HL.out; omega) (fun i hi => by
    have h := List.pairwise_iff_getElem.1 HE.out i (i + 1) (by omega) hi (by omega)
    have e1 : fAt D' (i + 1) = D'[i + 1] := by simp [fAt, List.getD, hi]
    have e2 : fAt D' i = D'[i] := by simp [fAt, List.getD, show i < D'.length by omega]
    rw [e1, e2]
    intro e
    rw [← e] at h
    exact ltF_irrefl _ h))
  clear hperm hsort hbel hck hown hnd
  go_wp2_with (fail)
  refine HCO.out.mono ?_
  rintro e w6 ⟨rfl, d, rfl⟩
  go_wp2_with (fail)
  go_ret
  exact ⟨v, rfl, ⟨HB.out.os, HB.out.tape, HB.out.output, HB.out.size, HB.out.block⟩, HO.out⟩
end Go.Proofs.Ytenlffhoinialaa
