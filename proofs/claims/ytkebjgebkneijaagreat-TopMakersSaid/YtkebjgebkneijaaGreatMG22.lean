/- Texts of one's own that a claim's last text rests on: Ins2 Dr1 Dr2 NoP4. -/
import Derived.Test.YtkebjgebkneijaaGreatMG21
import Derived.Test.YtkebjgebkneijaaGreatMG16
import Derived.Test.YtkebjgebkneijaaGreatMG11
import Derived.Test.YtkebjgebkneijaaGreatMG14
set_option linter.unusedVariables false
set_option linter.unusedSimpArgs false
namespace Go.Proofs.YtkebjgebkneijaaGreat
section
open Go.RowKit Go.Lib
set_option maxHeartbeats 4000000
set_option maxRecDepth 1000000 in
theorem insertE_mid {w : World} {base g cap : Nat} {L : List (En)} {i : Nat} (hown : w.ownsRow base 132 2 (.slice (some ⟨g, 0, none⟩) L.length cap) L.length (L.flatMap encEn)) (hi : i < L.length) {x : En} {xb : Nat} (hx : Blk w xb 132 (encEn x).toArray) (hne : xb ≠ g) (hone : ∀ y ∈ x :: L, ∀ u ∈ encEn y, u.oneCell' = true) (hn : L.length <= 90000) (hbase : base <= w.heap.size) :
  Calls Tryz.prog 172 #[.slice (some ⟨g, 0, none⟩) L.length cap, .int .i64 i, .slice (some ⟨xb, 0, none⟩) 1 1] w fun e w' => ∃ v', e = .returned v' /\ w'.ownsRow base 132 2 v' (L.length + 1) ((L.take i ++ x :: L.drop i).flatMap encEn) /\ w.grownBy w' (some g) /\ (v'.ownBlock = some g ∨ v'.ownBlock = some w.heap.size) := by
 obtain ⟨i0, hi0, hz⟩ := Option.map_eq_some_iff.1 info_ent2
 have hz0 : i0.zero = some (.agg #[.string ⟨#[]⟩, .int .i64 0]) := congrArg (fun p => p.1) hz
 have hz1 : i0.size = 2 := congrArg (fun p => p.2.1) hz
 have hz2 : i0.bytes = 24 := congrArg (fun p => p.2.2) hz
 clear hz
 obtain ⟨g', cap', cur, hv, hgb, hh, hcap, hcm, hcs, htk⟩ : ∃ g' cap' cur, Value.slice (some ⟨g, 0, none⟩) L.length cap = .slice (some ⟨g', 0, none⟩) L.length cap' /\ base <= g' /\ w.heap[g']? = some (.cells cur 132 (0, 0)) /\ L.length <= cap' /\ cap' <= maxLen /\ cur.size = cap' * 2 /\ cur.toList.take (L.length * 2) = L.flatMap encEn := by
  rcases hown.2 with ⟨q, -⟩ | q
  ·cases q
  ·exact q
 obtain rfl : g = g' := by injection hv with e1; injection e1 with e1; injection e1
 obtain rfl : cap = cap' := by injection hv
 clear hv hown
 have HH := lhi (show Blk w g 132 cur from hh)
 have HX := lhi hx
 have hgw : g < w.heap.size := HH.out.lt
 have hxw : xb < w.heap.size := hx.lt
 obtain ⟨P, hP⟩ : ∃ P, P = (L.take i).flatMap encEn := ⟨_, rfl⟩
 obtain ⟨D, hD⟩ : ∃ D, D = (L.drop i).flatMap encEn := ⟨_, rfl⟩
 obtain ⟨X, hX⟩ : ∃ X, X = encEn x := ⟨_, rfl⟩
 obtain ⟨n, hnn⟩ : ∃ n, L.length = n := ⟨_, rfl⟩
 have hPl : P.length = i * 2 := by rw [hP, flat_len_k encEn_len, List.length_take]; congr 1; omega
 have hDl : D.length = (n - i) * 2 := by rw [hD, flat_len_k encEn_len, List.length_drop, hnn]
 have hXl : X.length = 2 := by rw [hX]; rfl
 have hres : (L.take i ++ x :: L.drop i).flatMap encEn = P ++ X ++ D := by rw [List.flatMap_append, List.flatMap_cons, <- hP, <- hD, <- hX, List.append_assoc]
 have hF : L.flatMap encEn = P ++ D := by rw [hP, hD, <- List.flatMap_append, List.take_append_drop]
 have hcP : cur.toList.take (i * 2) = P := by
  have h := flat_take (enc := encEn) encEn_len L i
  rw [<- hP, <- htk, List.take_take, Nat.min_eq_left (by omega)] at h
  exact h
 have h1D : ∀ v ∈ D, v.oneCell' = true := fun v hv => by
  rw [hD] at hv
  obtain ⟨y, hy, hv⟩ := List.mem_flatMap.1 hv
  exact hone y (List.mem_cons_of_mem _ (List.mem_of_mem_drop hy)) v hv
 have h1X : ∀ v ∈ X, v.oneCell' = true := fun v hv => hone x List.mem_cons_self v (by rw [<- hX]; exact hv)
 have hsz : (Tryz.prog.info? 132).map (·.size) = some 2 := by rw [hi0]; simp [hz1]
 have hcD : ∀ j v, D[j]? = some v -> w.cell? ((⟨g, i * 2, none⟩ : Addr).add j) = some v := fun j v hj => by
  rw [Addr.add_lit, HH.out.cell]
  have hjl : j < D.length := (List.getElem?_eq_some_iff.1 hj).1
  have h : (L.flatMap encEn)[i * 2 + j]? = some v := by rw [hF, <- hPl, List.getElem?_append_right (by omega), Nat.add_sub_cancel_left]; exact hj
  rw [<- htk, List.getElem?_take, hnn, if_pos (by omega)] at h
  simpa using h
 have hcX : ∀ j v, X[j]? = some v -> w.cell? ((⟨xb, 0, none⟩ : Addr).add j) = some v := fun j v hj => by
  rw [Addr.add_lit, HX.out.cell, <- hX, Nat.zero_add]
  simpa using hj
 rw [hres]
 rw [hnn] at hi hn hcap ⊢
 clear hnn hone hF htk hres hP hD hx hh L
 have mixed : Tryz.prog.follows .mixedOrders = true := by kernel_rfl
 have hz3 : ¬ ((i : Int) = (n : Int)) := by omega
 have hin : i <= n := by omega
 have hw1 : IntKind.i64.wrap ((i : Int) + 1) = (i : Int) + 1 := by rw [IntKind.wrap_i64]; omega
 have hw2 : IntKind.i64.wrap ((n : Int) + 1) = (n : Int) + 1 := by rw [IntKind.wrap_i64]; omega
 have hb1 : (0 : Int) <= (i : Int) + 1 := by omega
 have hb0 : (0 : Int) <= (n : Int) + 1 := by omega
 have ht1 : ((i : Int) + 1).toNat = i + 1 := by omega
 have ht2 : ((n : Int) + 1).toNat = n + 1 := by omega
 by_cases hroom : n + 1 <= cap
 ·have hroom1 : ¬ ((cap : Int) < (n : Int) + 1) := by omega
  have hroom2 : (n : Int) + 1 <= (cap : Int) := by omega
  have hb3 : (i : Int) + 1 <= (n : Int) + 1 := by omega
  have hb4 : (i : Int) <= (n : Int) + 1 := by omega
  have hb5 : ¬ (cap = i + 1) := by omega
  have hb6 : ¬ (cap = i) := by omega
  have hov : ∀ lb cb, (callFunc 214 #[.slice (some ⟨xb, 0, none⟩) 1 1, .slice (some ⟨g, (i + 1) * 2, none⟩) lb cb]).run Tryz.prog w = .ok (.value (.bool false)) w := fun lb cb => by
   rw [run_callFunc_extern Tryz.func214 (by kernel_rfl) (by kernel_rfl) (by kernel_rfl) (e := Extern.SlicesOverlaps.overlaps #[91, 91] #[4]) (by kernel_rfl),
    Lib.run_overlaps_apart w 91 4 132 Tryz.underlying91 2 (fun w => by simp [sizeOf, typeInfo, hi0, hz1]) ⟨xb, 0, none⟩ ⟨g, (i + 1) * 2, none⟩ 1 1 lb cb hne 132 132 2 cur.size (by have := HX.out; unfold Blk at this; simp [World.shape?, this, encEn_len]) (by have := HH.out; unfold Blk at this; simp [World.shape?, this]) (by omega) (HX.out.frozen _) (HX.out.frozen _)]
   rfl
  have hcp1 : ∀ ty dc sc, (Builtin.copy_ #[91, 91] ty #[.slice (some ⟨g, (i + 1) * 2, none⟩) (n - i) dc, .slice (some ⟨g, i * 2, none⟩) (n + 1 - i) sc]).run Tryz.prog w.drew = .ok (goInt (Nat.min (n + 1 - i) (n - i))) (w.drew.setRow g (splice cur.toList ((i + 1) * 2) D).toArray) := fun ty dc sc =>
   run_copyK w.drew _ _ ty 132 g ((i + 1) * 2) (n - i) dc ⟨g, i * 2, none⟩ (n + 1 - i) sc 2 cur 132 D Tryz.underlying91 hsz HH.out (by rw [hDl]; congr 1; simp only [Nat.min_def]; split <;> omega) hcD (by omega) h1D
  obtain ⟨W1, hW1⟩ : ∃ W1, W1 = w.drew.setRow g (splice cur.toList ((i + 1) * 2) D).toArray := ⟨_, rfl⟩
  have hB1 : Blk W1 g 132 (splice cur.toList ((i + 1) * 2) D).toArray := by rw [hW1]; exact Blk.setRow (show Blk w.drew g _ _ from HH.out) _
  have hB1l : (splice cur.toList ((i + 1) * 2) D).length = cap * 2 := by rw [splice_len (by simp; omega)]; simpa using hcs
  have hcX1 : ∀ j v, X[j]? = some v -> W1.cell? ((⟨xb, 0, none⟩ : Addr).add j) = some v := fun j v hj => by
   rw [hW1, cell_setRow_other _ _ _ _ (by rw [Addr.add_lit]; exact hne)]
   exact hcX j v hj
  rw [<- hW1] at hcp1
  have hcp2 : ∀ ty dc, (Builtin.copy_ #[91, 91] ty #[.slice (some ⟨g, i * 2, none⟩) (n + 1 - i) dc, .slice (some ⟨xb, 0, none⟩) 1 1]).run Tryz.prog W1 = .ok (goInt (Nat.min 1 (n + 1 - i))) (W1.setRow g (splice (splice cur.toList ((i + 1) * 2) D).toArray.toList (i * 2) X).toArray) := fun ty dc =>
   run_copyK W1 _ _ ty 132 g (i * 2) (n + 1 - i) dc ⟨xb, 0, none⟩ 1 1 2 _ 132 X Tryz.underlying91 hsz hB1 (by rw [hXl]; simp only [Nat.min_def]; split <;> omega) hcX1 (by simp [hB1l]; omega) h1X
  have HFIN := lhi (show (W1.setRow g (splice (splice cur.toList ((i + 1) * 2) D).toArray.toList (i * 2) X).toArray).ownsRow base 132 2 (.slice (some ⟨g, 0, none⟩) (n + 1) cap) (n + 1) (P ++ X ++ D) from by
   refine ⟨by simp [hPl, hXl, hDl]; omega, .inr ⟨g, cap, _, rfl, hgb, hB1.setRow _, hroom, hcm, ?_, ?_⟩⟩
   ·simp only [List.size_toArray]
    rw [splice_len (by simp [hB1l]; omega)]
    simpa using hB1l
   ·have h := splice_room (l := cur.toList) (P := P) (X := X) (D := D) (o := i * 2) (n := (n + 1) * 2) hcP hPl (by simp; omega) (by omega)
    have e : i * 2 + X.length = (i + 1) * 2 := by omega
    rw [e] at h
    exact h)
  have HGR := lhi (show w.grownBy (W1.setRow g (splice (splice cur.toList ((i + 1) * 2) D).toArray.toList (i * 2) X).toArray) (some g) from by
   rw [hW1]
   exact grown_trans (grown_drew' w _) (grown_trans (grown_setRow w.drew g _) (grown_setRow _ g _)))
  clear hcP hcD hcX hB1 hcX1 hW1 hX
  go_enter Tryz.func172, Tryz.ntmps172
  go_wp2_with (simp only [hov])
  go_region_law_o (refine Go.Proofs.step_copy_runI rfl _ _ 91 91 rfl _ _ (by simp [Act.eval, Act.put]) (by simp [Act.eval, Act.put]) (hcp1 _ _ _) ?_)
  go_wp2_with (at_builtin; refine Go.Proofs.wpList_copy_runI _ rfl _ _ 91 91 rfl _ _ rfl rfl (hcp2 _ _) ?_)
  go_ret
  exact ⟨_, rfl, HFIN.out, HGR.out, .inl rfl⟩
 ·have hroom1 : (cap : Int) < (n : Int) + 1 := by omega
  have hkk : (n : Int) + 1 - (i : Int) = ((n + 1 - i : Nat) : Int) := by omega
  have hik : i + (n + 1 - i) = n + 1 := by omega
  have hold : (Builtin.firstCells i0.size i (.slice (some ⟨g, 0, none⟩) i cap)).run Tryz.prog w.drew = .ok P.toArray w.drew := by
   rw [hz1]
   refine run_firstCells_some w.drew 2 i ⟨g, 0, none⟩ i cap P (by omega) (fun j v hj => ?_)
   rw [Addr.add_lit]
   show w.cell? _ = _
   rw [HH.out.cell]
   have hjl : j < P.length := (List.getElem?_eq_some_iff.1 hj).1
   rw [<- hcP, List.getElem?_take] at hj
   split at hj
   ·simpa using hj
   ·cases hj
  have hrz : ∀ ty, (Builtin.append_ #[91, 3] ty #[.slice (some ⟨g, 0, none⟩) i cap, .int .i64 ((n : Int) + 1 - (i : Int))]).run Tryz.prog w =
    .ok (.slice (some ⟨w.heap.size, 0, none⟩) (n + 1) (grownCap w (n + 1) cap 132)) (w.drew.alloc (.cells (P.toArray ++ Builtin.zeroCells (Value.cells (.agg #[.string ⟨#[]⟩, .int .i64 0])) (n + 1 - i) ++ Builtin.zeroCells (Value.cells (.agg #[.string ⟨#[]⟩, .int .i64 0])) (grownCap w (n + 1) cap 132 - (n + 1))) 132)) := fun ty => by
   have h := Lib.run_append_grow_zeros w 91 3 ty 132 i0 _ .i64 .i64 Tryz.underlying91 Tryz.underlying3 hi0 hz0 (some ⟨g, 0, none⟩) i cap P hold (n + 1 - i) (by omega) (by omega) (by omega) (by omega) (by rw [hz2]; omega) (by rw [hz2, hik]; exact growslice_fits (by omega) (by omega))
   rw [hik] at h
   rw [hkk]
   exact h
  have hGn : n + 1 <= grownCap w (n + 1) cap 132 := grownCap_ge w _ _ _
  have hGm : grownCap w (n + 1) cap 132 <= maxLen := grownCap_le_maxLen w (n + 1) cap 132 (by unfold maxLen; omega)
  obtain ⟨G, hG⟩ : ∃ G, G = grownCap w (n + 1) cap 132 := ⟨_, rfl⟩
  rw [<- hG] at hrz hGn hGm
  obtain ⟨ROW, hROW⟩ : ∃ ROW : Array Value, ROW = P.toArray ++ Builtin.zeroCells (Value.cells (.agg #[.string ⟨#[]⟩, .int .i64 0])) (n + 1 - i) ++ Builtin.zeroCells (Value.cells (.agg #[.string ⟨#[]⟩, .int .i64 0])) (G - (n + 1)) := ⟨_, rfl⟩
  rw [<- hROW] at hrz
  have hRl : ROW.size = G * 2 := by
   rw [hROW]
   simp [Builtin.zeroCells, Value.cells, hPl]
   omega
  have hRP : ROW.toList.take (i * 2) = P := by
   rw [hROW]
   simp only [Array.toList_append]
   rw [List.append_assoc, List.take_append_of_le_length (by simp [hPl]), <- hPl, List.take_length]
  have hG63 : G <= 9223372036854775807 := by unfold maxLen at hGm; omega
  clear hG hROW hold hkk
  obtain ⟨W1, hW1⟩ : ∃ W1, W1 = w.drew.alloc (.cells ROW 132) := ⟨_, rfl⟩
  rw [<- hW1] at hrz
  obtain ⟨h, hh⟩ : ∃ h, h = w.heap.size := ⟨_, rfl⟩
  have hB1 : Blk W1 h 132 ROW := by rw [hW1, hh]; exact Blk.new w.drew _ _
  have hXW : Blk W1 xb 132 (encEn x).toArray := by rw [hW1]; exact Blk.alloc (show Blk w.drew xb _ _ from HX.out) _
  have hgW : Blk W1 g 132 cur := by rw [hW1]; exact Blk.alloc (show Blk w.drew g _ _ from HH.out) _
  have hhg : g ≠ h := by omega
  have hhx : xb ≠ h := by omega
  rw [<- hh] at hrz ⊢
  have hcpA : ∀ ty dc, (Builtin.copy_ #[91, 91] ty #[.slice (some ⟨h, i * 2, none⟩) (n + 1 - i) dc, .slice (some ⟨xb, 0, none⟩) 1 1]).run Tryz.prog W1 = .ok (goInt (Nat.min 1 (n + 1 - i))) (W1.setRow h (splice ROW.toList (i * 2) X).toArray) := fun ty dc =>
   run_copyK W1 _ _ ty 132 h (i * 2) (n + 1 - i) dc ⟨xb, 0, none⟩ 1 1 2 _ 132 X Tryz.underlying91 hsz hB1 (by rw [hXl]; simp only [Nat.min_def]; split <;> omega) (fun j v hj => by
    rw [Addr.add_lit, hXW.cell, Nat.zero_add, <- hX]
    simpa using hj) (by omega) h1X
  obtain ⟨W2, hW2⟩ : ∃ W2, W2 = W1.setRow h (splice ROW.toList (i * 2) X).toArray := ⟨_, rfl⟩
  have hB2 : Blk W2 h 132 (splice ROW.toList (i * 2) X).toArray := by rw [hW2]; exact Blk.setRow hB1 _
  have hl2 : (splice ROW.toList (i * 2) X).length = G * 2 := by rw [splice_len (by simp; omega)]; simpa using hRl
  have hcpB : ∀ ty dc sc, (Builtin.copy_ #[91, 91] ty #[.slice (some ⟨h, (i + 1) * 2, none⟩) (n - i) dc, .slice (some ⟨g, i * 2, none⟩) (n - i) sc]).run Tryz.prog W2.drew = .ok (goInt (Nat.min (n - i) (n - i))) (W2.drew.setRow h (splice (splice ROW.toList (i * 2) X).toArray.toList ((i + 1) * 2) D).toArray) := fun ty dc sc =>
   run_copyK W2.drew _ _ ty 132 h ((i + 1) * 2) (n - i) dc ⟨g, i * 2, none⟩ (n - i) sc 2 _ 132 D Tryz.underlying91 hsz (show Blk W2.drew h _ _ from hB2) (by rw [hDl]; congr 1; simp only [Nat.min_def]; split <;> omega) (fun j v hj => by
    have := hcD j v hj
    rw [Addr.add_lit] at this ⊢
    show W2.cell? _ = _
    rw [hW2]
    rw [cell_setRow_other _ _ _ _ hhg, hgW.cell]
    rw [HH.out.cell] at this
    exact this) (by simp [hl2]; omega) h1D
  have HFIN := lhi (show (W2.drew.setRow h (splice (splice ROW.toList (i * 2) X).toArray.toList ((i + 1) * 2) D).toArray).ownsRow base 132 2 (.slice (some ⟨h, 0, none⟩) (n + 1) G) (n + 1) (P ++ X ++ D) from by
   refine ⟨by simp [hPl, hXl, hDl]; omega, .inr ⟨h, G, _, rfl, by omega, Blk.setRow (show Blk W2.drew h _ _ from hB2) _, hGn, hGm, ?_, ?_⟩⟩
   ·simp only [List.size_toArray]
    rw [splice_len (by simp [hl2]; omega)]
    simpa using hl2
   ·have q := splice_grow (l := ROW.toList) (P := P) (X := X) (D := D) (o := i * 2) (n := (n + 1) * 2) hRP hPl (by simp; omega) (by omega)
    have e : i * 2 + X.length = (i + 1) * 2 := by omega
    rw [e] at q
    exact q)
  have HGR := lhi (show w.grownBy (W2.drew.setRow h (splice (splice ROW.toList (i * 2) X).toArray.toList ((i + 1) * 2) D).toArray) (some g) from by
   refine ⟨by rw [hW2, hW1]; rfl, by rw [hW2, hW1]; rfl, by rw [hW2, hW1]; rfl, ?_, fun b hb _ => ?_⟩
   ·rw [setRow_size]
    show _ <= W2.heap.size
    rw [hW2, setRow_size, hW1]
    rw [World.size_alloc]
    exact Nat.le_succ _
   ·rw [setRow_other _ _ _ _ (by omega)]
    show W2.heap[b]? = _
    rw [hW2, setRow_other _ _ _ _ (by omega), hW1]
    exact Below.heap_alloc w.drew _ b hb)
  have hGi : ¬ (G = i) := by omega
  have hGim : ¬ (G = i + 1) := by omega
  have hci : ¬ (cap = i) := by omega
  have hb3 : (i : Int) + 1 <= (n : Int) + 1 := by omega
  have hb4 : (i : Int) <= (n : Int) + 1 := by omega
  have hw3 : IntKind.i64.wrap ((n : Int) + 1 - (i : Int)) = (n : Int) + 1 - (i : Int) := by rw [IntKind.wrap_i64]; omega
  clear hcP hcD hcX hB1 hXW hgW hW1 hB2 hl2 hRP hRl hh hX
  go_enter Tryz.func172, Tryz.ntmps172
  go_wp2_with (first
   | (at_builtin; refine Lib.wpList_append_run _ rfl _ _ _ _ rfl _ _ rfl rfl _ _ (hrz _) ?_)
   | (at_builtin; refine Go.Proofs.wpList_copy_runI _ rfl _ _ 91 91 rfl _ _ rfl rfl (hcpA _ _) ?_))
  rw [<- hW2]
  clear hW2
  go_region_law_o (refine Go.Proofs.step_copy_runI rfl _ _ 91 91 rfl _ _ (by simp [Act.eval, Act.put]) (by simp [Act.eval, Act.put]) (hcpB _ _ _) ?_)
  go_wp2
  go_ret
  exact ⟨_, rfl, HFIN.out, HGR.out, .inr rfl⟩
theorem insertE_any {w : World} {base : Nat} {v : Value} {L : List (En)} {i : Nat} (hown : w.ownsRow base 132 2 v L.length (L.flatMap encEn)) (hi : i <= L.length) {x : En} {xb : Nat} (hx : Blk w xb 132 (encEn x).toArray) (hne : v.ownBlock ≠ some xb) (hone : ∀ y ∈ x :: L, ∀ u ∈ encEn y, u.oneCell' = true) (hn : L.length <= 90000) (hbase : base <= w.heap.size) :
  Calls Tryz.prog 172 #[v, .int .i64 i, .slice (some ⟨xb, 0, none⟩) 1 1] w fun e w' => ∃ v', e = .returned v' /\ w'.ownsRow base 132 2 v' (L.length + 1) ((L.take i ++ x :: L.drop i).flatMap encEn) /\ w.grownBy w' v.ownBlock /\ (v'.ownBlock = v.ownBlock ∨ v'.ownBlock = some w.heap.size) := by
 by_cases e : i = L.length
 ·subst e
  have h := insertE_end hown (xv := .slice (some ⟨xb, 0, none⟩) 1 1) (x := x) (C := fun _ j => (encEn x).getD j (.int .i64 0)) ⟨_, _, rfl, Nat.le_refl _, fun _ => ⟨xb, 0, rfl, fun a j ha hj => by
   obtain rfl : a = 0 := by omega
   rw [hx.cell, Nat.zero_add, Nat.zero_mul, Nat.zero_add, List.getElem?_toArray]
   show _ = some ((encEn x).getD j (.int .i64 0))
   rw [List.getD_eq_getElem?_getD, List.getElem?_eq_getElem (by rw [encEn_len]; exact hj)]
   rfl⟩⟩ (fun a j ha hj => by
   have ha : a < 1 := ha
   obtain rfl : a = 0 := by omega
   show (encEn x)[j]? = some ((encEn x).getD j (.int .i64 0))
   rw [List.getD_eq_getElem?_getD, List.getElem?_eq_getElem (by rw [encEn_len]; exact hj)]
   rfl) (hone x List.mem_cons_self) hn hbase
  rw [List.take_length, List.drop_length]
  exact h
 ·rcases hown.2 with ⟨rfl, h0⟩ | ⟨g, cap, cur, rfl, -⟩
  ·omega
  ·exact insertE_mid hown (by omega) hx (fun q => hne (by rw [q]; rfl)) hone hn hbase
set_option maxRecDepth 1000000 in
theorem insertI_mid {w : World} {base g cap : Nat} {L : List (InV)} {i : Nat} (hown : w.ownsRow base 93 4 (.slice (some ⟨g, 0, none⟩) L.length cap) L.length (L.flatMap encI)) (hi : i < L.length) {x : InV} {xb : Nat} (hx : Blk w xb 93 (encI x).toArray) (hne : xb ≠ g) (hone : ∀ y ∈ x :: L, ∀ u ∈ encI y, u.oneCell' = true) (hn : L.length <= 90000) (hbase : base <= w.heap.size) :
  Calls Tryz.prog 122 #[.slice (some ⟨g, 0, none⟩) L.length cap, .int .i64 i, .slice (some ⟨xb, 0, none⟩) 1 1] w fun e w' => ∃ v', e = .returned v' /\ w'.ownsRow base 93 4 v' (L.length + 1) ((L.take i ++ x :: L.drop i).flatMap encI) /\ w.grownBy w' (some g) /\ (v'.ownBlock = some g ∨ v'.ownBlock = some w.heap.size) := by
 obtain ⟨i0, hi0, hz⟩ := Option.map_eq_some_iff.1 info_ino4
 have hz0 : i0.zero = some (.agg #[.int .i64 0, .bool false, .slice none 0 0, .string ⟨#[]⟩]) := congrArg (fun p => p.1) hz
 have hz1 : i0.size = 4 := congrArg (fun p => p.2.1) hz
 have hz2 : i0.bytes = 56 := congrArg (fun p => p.2.2) hz
 clear hz
 obtain ⟨g', cap', cur, hv, hgb, hh, hcap, hcm, hcs, htk⟩ : ∃ g' cap' cur, Value.slice (some ⟨g, 0, none⟩) L.length cap = .slice (some ⟨g', 0, none⟩) L.length cap' /\ base <= g' /\ w.heap[g']? = some (.cells cur 93 (0, 0)) /\ L.length <= cap' /\ cap' <= maxLen /\ cur.size = cap' * 4 /\ cur.toList.take (L.length * 4) = L.flatMap encI := by
  rcases hown.2 with ⟨q, -⟩ | q
  ·cases q
  ·exact q
 obtain rfl : g = g' := by injection hv with e1; injection e1 with e1; injection e1
 obtain rfl : cap = cap' := by injection hv
 clear hv hown
 have HH := lhi (show Blk w g 93 cur from hh)
 have HX := lhi hx
 have hgw : g < w.heap.size := HH.out.lt
 have hxw : xb < w.heap.size := hx.lt
 obtain ⟨P, hP⟩ : ∃ P, P = (L.take i).flatMap encI := ⟨_, rfl⟩
 obtain ⟨D, hD⟩ : ∃ D, D = (L.drop i).flatMap encI := ⟨_, rfl⟩
 obtain ⟨X, hX⟩ : ∃ X, X = encI x := ⟨_, rfl⟩
 obtain ⟨n, hnn⟩ : ∃ n, L.length = n := ⟨_, rfl⟩
 have hPl : P.length = i * 4 := by rw [hP, flat_len_k encI_len, List.length_take]; congr 1; omega
 have hDl : D.length = (n - i) * 4 := by rw [hD, flat_len_k encI_len, List.length_drop, hnn]
 have hXl : X.length = 4 := by rw [hX]; rfl
 have hres : (L.take i ++ x :: L.drop i).flatMap encI = P ++ X ++ D := by rw [List.flatMap_append, List.flatMap_cons, <- hP, <- hD, <- hX, List.append_assoc]
 have hF : L.flatMap encI = P ++ D := by rw [hP, hD, <- List.flatMap_append, List.take_append_drop]
 have hcP : cur.toList.take (i * 4) = P := by
  have h := flat_take (enc := encI) encI_len L i
  rw [<- hP, <- htk, List.take_take, Nat.min_eq_left (by omega)] at h
  exact h
 have h1D : ∀ v ∈ D, v.oneCell' = true := fun v hv => by
  rw [hD] at hv
  obtain ⟨y, hy, hv⟩ := List.mem_flatMap.1 hv
  exact hone y (List.mem_cons_of_mem _ (List.mem_of_mem_drop hy)) v hv
 have h1X : ∀ v ∈ X, v.oneCell' = true := fun v hv => hone x List.mem_cons_self v (by rw [<- hX]; exact hv)
 have hsz : (Tryz.prog.info? 93).map (·.size) = some 4 := by rw [hi0]; simp [hz1]
 have hcD : ∀ j v, D[j]? = some v -> w.cell? ((⟨g, i * 4, none⟩ : Addr).add j) = some v := fun j v hj => by
  rw [Addr.add_lit, HH.out.cell]
  have hjl : j < D.length := (List.getElem?_eq_some_iff.1 hj).1
  have h : (L.flatMap encI)[i * 4 + j]? = some v := by rw [hF, <- hPl, List.getElem?_append_right (by omega), Nat.add_sub_cancel_left]; exact hj
  rw [<- htk, List.getElem?_take, hnn, if_pos (by omega)] at h
  simpa using h
 have hcX : ∀ j v, X[j]? = some v -> w.cell? ((⟨xb, 0, none⟩ : Addr).add j) = some v := fun j v hj => by
  rw [Addr.add_lit, HX.out.cell, <- hX, Nat.zero_add]
  simpa using hj
 rw [hres]
 rw [hnn] at hi hn hcap ⊢
 clear hnn hone hF htk hres hP hD hx hh L
 have mixed : Tryz.prog.follows .mixedOrders = true := by kernel_rfl
 have hz3 : ¬ ((i : Int) = (n : Int)) := by omega
 have hin : i <= n := by omega
 have hw1 : IntKind.i64.wrap ((i : Int) + 1) = (i : Int) + 1 := by rw [IntKind.wrap_i64]; omega
 have hw2 : IntKind.i64.wrap ((n : Int) + 1) = (n : Int) + 1 := by rw [IntKind.wrap_i64]; omega
 have hb1 : (0 : Int) <= (i : Int) + 1 := by omega
 have hb0 : (0 : Int) <= (n : Int) + 1 := by omega
 have ht1 : ((i : Int) + 1).toNat = i + 1 := by omega
 have ht2 : ((n : Int) + 1).toNat = n + 1 := by omega
 by_cases hroom : n + 1 <= cap
 ·have hroom1 : ¬ ((cap : Int) < (n : Int) + 1) := by omega
  have hroom2 : (n : Int) + 1 <= (cap : Int) := by omega
  have hb3 : (i : Int) + 1 <= (n : Int) + 1 := by omega
  have hb4 : (i : Int) <= (n : Int) + 1 := by omega
  have hb5 : ¬ (cap = i + 1) := by omega
  have hb6 : ¬ (cap = i) := by omega
  have hov : ∀ lb cb, (callFunc 173 #[.slice (some ⟨xb, 0, none⟩) 1 1, .slice (some ⟨g, (i + 1) * 4, none⟩) lb cb]).run Tryz.prog w = .ok (.value (.bool false)) w := fun lb cb => by
   rw [run_callFunc_extern Tryz.func173 (by kernel_rfl) (by kernel_rfl) (by kernel_rfl) (e := Extern.SlicesOverlaps.overlaps #[26, 26] #[4]) (by kernel_rfl),
    Lib.run_overlaps_apart w 26 4 93 Tryz.underlying26 4 (fun w => by simp [sizeOf, typeInfo, hi0, hz1]) ⟨xb, 0, none⟩ ⟨g, (i + 1) * 4, none⟩ 1 1 lb cb hne 93 93 4 cur.size (by have := HX.out; unfold Blk at this; simp [World.shape?, this, encI_len]) (by have := HH.out; unfold Blk at this; simp [World.shape?, this]) (by omega) (HX.out.frozen _) (HX.out.frozen _)]
   rfl
  have hcp1 : ∀ ty dc sc, (Builtin.copy_ #[26, 26] ty #[.slice (some ⟨g, (i + 1) * 4, none⟩) (n - i) dc, .slice (some ⟨g, i * 4, none⟩) (n + 1 - i) sc]).run Tryz.prog w.drew = .ok (goInt (Nat.min (n + 1 - i) (n - i))) (w.drew.setRow g (splice cur.toList ((i + 1) * 4) D).toArray) := fun ty dc sc =>
   run_copyK w.drew _ _ ty 93 g ((i + 1) * 4) (n - i) dc ⟨g, i * 4, none⟩ (n + 1 - i) sc 4 cur 93 D Tryz.underlying26 hsz HH.out (by rw [hDl]; congr 1; simp only [Nat.min_def]; split <;> omega) hcD (by omega) h1D
  obtain ⟨W1, hW1⟩ : ∃ W1, W1 = w.drew.setRow g (splice cur.toList ((i + 1) * 4) D).toArray := ⟨_, rfl⟩
  have hB1 : Blk W1 g 93 (splice cur.toList ((i + 1) * 4) D).toArray := by rw [hW1]; exact Blk.setRow (show Blk w.drew g _ _ from HH.out) _
  have hB1l : (splice cur.toList ((i + 1) * 4) D).length = cap * 4 := by rw [splice_len (by simp; omega)]; simpa using hcs
  have hcX1 : ∀ j v, X[j]? = some v -> W1.cell? ((⟨xb, 0, none⟩ : Addr).add j) = some v := fun j v hj => by
   rw [hW1, cell_setRow_other _ _ _ _ (by rw [Addr.add_lit]; exact hne)]
   exact hcX j v hj
  rw [<- hW1] at hcp1
  have hcp2 : ∀ ty dc, (Builtin.copy_ #[26, 26] ty #[.slice (some ⟨g, i * 4, none⟩) (n + 1 - i) dc, .slice (some ⟨xb, 0, none⟩) 1 1]).run Tryz.prog W1 = .ok (goInt (Nat.min 1 (n + 1 - i))) (W1.setRow g (splice (splice cur.toList ((i + 1) * 4) D).toArray.toList (i * 4) X).toArray) := fun ty dc =>
   run_copyK W1 _ _ ty 93 g (i * 4) (n + 1 - i) dc ⟨xb, 0, none⟩ 1 1 4 _ 93 X Tryz.underlying26 hsz hB1 (by rw [hXl]; simp only [Nat.min_def]; split <;> omega) hcX1 (by simp [hB1l]; omega) h1X
  have HFIN := lhi (show (W1.setRow g (splice (splice cur.toList ((i + 1) * 4) D).toArray.toList (i * 4) X).toArray).ownsRow base 93 4 (.slice (some ⟨g, 0, none⟩) (n + 1) cap) (n + 1) (P ++ X ++ D) from by
   refine ⟨by simp [hPl, hXl, hDl]; omega, .inr ⟨g, cap, _, rfl, hgb, hB1.setRow _, hroom, hcm, ?_, ?_⟩⟩
   ·simp only [List.size_toArray]
    rw [splice_len (by simp [hB1l]; omega)]
    simpa using hB1l
   ·have h := splice_room (l := cur.toList) (P := P) (X := X) (D := D) (o := i * 4) (n := (n + 1) * 4) hcP hPl (by simp; omega) (by omega)
    have e : i * 4 + X.length = (i + 1) * 4 := by omega
    rw [e] at h
    exact h)
  have HGR := lhi (show w.grownBy (W1.setRow g (splice (splice cur.toList ((i + 1) * 4) D).toArray.toList (i * 4) X).toArray) (some g) from by
   rw [hW1]
   exact grown_trans (grown_drew' w _) (grown_trans (grown_setRow w.drew g _) (grown_setRow _ g _)))
  clear hcP hcD hcX hB1 hcX1 hW1 hX
  go_enter Tryz.func122, Tryz.ntmps122
  go_wp2_with (simp only [hov])
  go_region_law_o (refine Go.Proofs.step_copy_runI rfl _ _ 26 26 rfl _ _ (by simp [Act.eval, Act.put]) (by simp [Act.eval, Act.put]) (hcp1 _ _ _) ?_)
  go_wp2_with (at_builtin; refine Go.Proofs.wpList_copy_runI _ rfl _ _ 26 26 rfl _ _ rfl rfl (hcp2 _ _) ?_)
  go_ret
  exact ⟨_, rfl, HFIN.out, HGR.out, .inl rfl⟩
 ·have hroom1 : (cap : Int) < (n : Int) + 1 := by omega
  have hkk : (n : Int) + 1 - (i : Int) = ((n + 1 - i : Nat) : Int) := by omega
  have hik : i + (n + 1 - i) = n + 1 := by omega
  have hold : (Builtin.firstCells i0.size i (.slice (some ⟨g, 0, none⟩) i cap)).run Tryz.prog w.drew = .ok P.toArray w.drew := by
   rw [hz1]
   refine run_firstCells_some w.drew 4 i ⟨g, 0, none⟩ i cap P (by omega) (fun j v hj => ?_)
   rw [Addr.add_lit]
   show w.cell? _ = _
   rw [HH.out.cell]
   have hjl : j < P.length := (List.getElem?_eq_some_iff.1 hj).1
   rw [<- hcP, List.getElem?_take] at hj
   split at hj
   ·simpa using hj
   ·cases hj
  have hrz : ∀ ty, (Builtin.append_ #[26, 3] ty #[.slice (some ⟨g, 0, none⟩) i cap, .int .i64 ((n : Int) + 1 - (i : Int))]).run Tryz.prog w =
    .ok (.slice (some ⟨w.heap.size, 0, none⟩) (n + 1) (grownCap w (n + 1) cap 93)) (w.drew.alloc (.cells (P.toArray ++ Builtin.zeroCells (Value.cells (.agg #[.int .i64 0, .bool false, .slice none 0 0, .string ⟨#[]⟩])) (n + 1 - i) ++ Builtin.zeroCells (Value.cells (.agg #[.int .i64 0, .bool false, .slice none 0 0, .string ⟨#[]⟩])) (grownCap w (n + 1) cap 93 - (n + 1))) 93)) := fun ty => by
   have h := Lib.run_append_grow_zeros w 26 3 ty 93 i0 _ .i64 .i64 Tryz.underlying26 Tryz.underlying3 hi0 hz0 (some ⟨g, 0, none⟩) i cap P hold (n + 1 - i) (by omega) (by omega) (by omega) (by omega) (by rw [hz2]; omega) (by rw [hz2, hik]; exact growslice_fits (by omega) (by omega))
   rw [hik] at h
   rw [hkk]
   exact h
  have hGn : n + 1 <= grownCap w (n + 1) cap 93 := grownCap_ge w _ _ _
  have hGm : grownCap w (n + 1) cap 93 <= maxLen := grownCap_le_maxLen w (n + 1) cap 93 (by unfold maxLen; omega)
  obtain ⟨G, hG⟩ : ∃ G, G = grownCap w (n + 1) cap 93 := ⟨_, rfl⟩
  rw [<- hG] at hrz hGn hGm
  obtain ⟨ROW, hROW⟩ : ∃ ROW : Array Value, ROW = P.toArray ++ Builtin.zeroCells (Value.cells (.agg #[.int .i64 0, .bool false, .slice none 0 0, .string ⟨#[]⟩])) (n + 1 - i) ++ Builtin.zeroCells (Value.cells (.agg #[.int .i64 0, .bool false, .slice none 0 0, .string ⟨#[]⟩])) (G - (n + 1)) := ⟨_, rfl⟩
  rw [<- hROW] at hrz
  have hRl : ROW.size = G * 4 := by
   rw [hROW]
   simp [Builtin.zeroCells, Value.cells, hPl]
   omega
  have hRP : ROW.toList.take (i * 4) = P := by
   rw [hROW]
   simp only [Array.toList_append]
   rw [List.append_assoc, List.take_append_of_le_length (by simp [hPl]), <- hPl, List.take_length]
  have hG63 : G <= 9223372036854775807 := by unfold maxLen at hGm; omega
  clear hG hROW hold hkk
  obtain ⟨W1, hW1⟩ : ∃ W1, W1 = w.drew.alloc (.cells ROW 93) := ⟨_, rfl⟩
  rw [<- hW1] at hrz
  obtain ⟨h, hh⟩ : ∃ h, h = w.heap.size := ⟨_, rfl⟩
  have hB1 : Blk W1 h 93 ROW := by rw [hW1, hh]; exact Blk.new w.drew _ _
  have hXW : Blk W1 xb 93 (encI x).toArray := by rw [hW1]; exact Blk.alloc (show Blk w.drew xb _ _ from HX.out) _
  have hgW : Blk W1 g 93 cur := by rw [hW1]; exact Blk.alloc (show Blk w.drew g _ _ from HH.out) _
  have hhg : g ≠ h := by omega
  have hhx : xb ≠ h := by omega
  rw [<- hh] at hrz ⊢
  have hcpA : ∀ ty dc, (Builtin.copy_ #[26, 26] ty #[.slice (some ⟨h, i * 4, none⟩) (n + 1 - i) dc, .slice (some ⟨xb, 0, none⟩) 1 1]).run Tryz.prog W1 = .ok (goInt (Nat.min 1 (n + 1 - i))) (W1.setRow h (splice ROW.toList (i * 4) X).toArray) := fun ty dc =>
   run_copyK W1 _ _ ty 93 h (i * 4) (n + 1 - i) dc ⟨xb, 0, none⟩ 1 1 4 _ 93 X Tryz.underlying26 hsz hB1 (by rw [hXl]; simp only [Nat.min_def]; split <;> omega) (fun j v hj => by
    rw [Addr.add_lit, hXW.cell, Nat.zero_add, <- hX]
    simpa using hj) (by omega) h1X
  obtain ⟨W2, hW2⟩ : ∃ W2, W2 = W1.setRow h (splice ROW.toList (i * 4) X).toArray := ⟨_, rfl⟩
  have hB2 : Blk W2 h 93 (splice ROW.toList (i * 4) X).toArray := by rw [hW2]; exact Blk.setRow hB1 _
  have hl2 : (splice ROW.toList (i * 4) X).length = G * 4 := by rw [splice_len (by simp; omega)]; simpa using hRl
  have hcpB : ∀ ty dc sc, (Builtin.copy_ #[26, 26] ty #[.slice (some ⟨h, (i + 1) * 4, none⟩) (n - i) dc, .slice (some ⟨g, i * 4, none⟩) (n - i) sc]).run Tryz.prog W2.drew = .ok (goInt (Nat.min (n - i) (n - i))) (W2.drew.setRow h (splice (splice ROW.toList (i * 4) X).toArray.toList ((i + 1) * 4) D).toArray) := fun ty dc sc =>
   run_copyK W2.drew _ _ ty 93 h ((i + 1) * 4) (n - i) dc ⟨g, i * 4, none⟩ (n - i) sc 4 _ 93 D Tryz.underlying26 hsz (show Blk W2.drew h _ _ from hB2) (by rw [hDl]; congr 1; simp only [Nat.min_def]; split <;> omega) (fun j v hj => by
    have := hcD j v hj
    rw [Addr.add_lit] at this ⊢
    show W2.cell? _ = _
    rw [hW2]
    rw [cell_setRow_other _ _ _ _ hhg, hgW.cell]
    rw [HH.out.cell] at this
    exact this) (by simp [hl2]; omega) h1D
  have HFIN := lhi (show (W2.drew.setRow h (splice (splice ROW.toList (i * 4) X).toArray.toList ((i + 1) * 4) D).toArray).ownsRow base 93 4 (.slice (some ⟨h, 0, none⟩) (n + 1) G) (n + 1) (P ++ X ++ D) from by
   refine ⟨by simp [hPl, hXl, hDl]; omega, .inr ⟨h, G, _, rfl, by omega, Blk.setRow (show Blk W2.drew h _ _ from hB2) _, hGn, hGm, ?_, ?_⟩⟩
   ·simp only [List.size_toArray]
    rw [splice_len (by simp [hl2]; omega)]
    simpa using hl2
   ·have q := splice_grow (l := ROW.toList) (P := P) (X := X) (D := D) (o := i * 4) (n := (n + 1) * 4) hRP hPl (by simp; omega) (by omega)
    have e : i * 4 + X.length = (i + 1) * 4 := by omega
    rw [e] at q
    exact q)
  have HGR := lhi (show w.grownBy (W2.drew.setRow h (splice (splice ROW.toList (i * 4) X).toArray.toList ((i + 1) * 4) D).toArray) (some g) from by
   refine ⟨by rw [hW2, hW1]; rfl, by rw [hW2, hW1]; rfl, by rw [hW2, hW1]; rfl, ?_, fun b hb _ => ?_⟩
   ·rw [setRow_size]
    show _ <= W2.heap.size
    rw [hW2, setRow_size, hW1]
    rw [World.size_alloc]
    exact Nat.le_succ _
   ·rw [setRow_other _ _ _ _ (by omega)]
    show W2.heap[b]? = _
    rw [hW2, setRow_other _ _ _ _ (by omega), hW1]
    exact Below.heap_alloc w.drew _ b hb)
  have hGi : ¬ (G = i) := by omega
  have hGim : ¬ (G = i + 1) := by omega
  have hci : ¬ (cap = i) := by omega
  have hb3 : (i : Int) + 1 <= (n : Int) + 1 := by omega
  have hb4 : (i : Int) <= (n : Int) + 1 := by omega
  have hw3 : IntKind.i64.wrap ((n : Int) + 1 - (i : Int)) = (n : Int) + 1 - (i : Int) := by rw [IntKind.wrap_i64]; omega
  clear hcP hcD hcX hB1 hXW hgW hW1 hB2 hl2 hRP hRl hh hX
  go_enter Tryz.func122, Tryz.ntmps122
  go_wp2_with (first
   | (at_builtin; refine Lib.wpList_append_run _ rfl _ _ _ _ rfl _ _ rfl rfl _ _ (hrz _) ?_)
   | (at_builtin; refine Go.Proofs.wpList_copy_runI _ rfl _ _ 26 26 rfl _ _ rfl rfl (hcpA _ _) ?_))
  rw [<- hW2]
  clear hW2
  go_region_law_o (refine Go.Proofs.step_copy_runI rfl _ _ 26 26 rfl _ _ (by simp [Act.eval, Act.put]) (by simp [Act.eval, Act.put]) (hcpB _ _ _) ?_)
  go_wp2
  go_ret
  exact ⟨_, rfl, HFIN.out, HGR.out, .inr rfl⟩
theorem insertI_any {w : World} {base : Nat} {v : Value} {L : List (InV)} {i : Nat} (hown : w.ownsRow base 93 4 v L.length (L.flatMap encI)) (hi : i <= L.length) {x : InV} {xb : Nat} (hx : Blk w xb 93 (encI x).toArray) (hne : v.ownBlock ≠ some xb) (hone : ∀ y ∈ x :: L, ∀ u ∈ encI y, u.oneCell' = true) (hn : L.length <= 90000) (hbase : base <= w.heap.size) :
  Calls Tryz.prog 122 #[v, .int .i64 i, .slice (some ⟨xb, 0, none⟩) 1 1] w fun e w' => ∃ v', e = .returned v' /\ w'.ownsRow base 93 4 v' (L.length + 1) ((L.take i ++ x :: L.drop i).flatMap encI) /\ w.grownBy w' v.ownBlock /\ (v'.ownBlock = v.ownBlock ∨ v'.ownBlock = some w.heap.size) := by
 by_cases e : i = L.length
 ·subst e
  have h := insertI_end hown (xv := .slice (some ⟨xb, 0, none⟩) 1 1) (x := x) (C := fun _ j => (encI x).getD j (.int .i64 0)) ⟨_, _, rfl, Nat.le_refl _, fun _ => ⟨xb, 0, rfl, fun a j ha hj => by
   obtain rfl : a = 0 := by omega
   rw [hx.cell, Nat.zero_add, Nat.zero_mul, Nat.zero_add, List.getElem?_toArray]
   show _ = some ((encI x).getD j (.int .i64 0))
   rw [List.getD_eq_getElem?_getD, List.getElem?_eq_getElem (by rw [encI_len]; exact hj)]
   rfl⟩⟩ (fun a j ha hj => by
   have ha : a < 1 := ha
   obtain rfl : a = 0 := by omega
   show (encI x)[j]? = some ((encI x).getD j (.int .i64 0))
   rw [List.getD_eq_getElem?_getD, List.getElem?_eq_getElem (by rw [encI_len]; exact hj)]
   rfl) (hone x List.mem_cons_self) hn hbase
  rw [List.take_length, List.drop_length]
  exact h
 ·rcases hown.2 with ⟨rfl, h0⟩ | ⟨g, cap, cur, rfl, -⟩
  ·omega
  ·exact insertI_mid hown (by omega) hx (fun q => hne (by rw [q]; rfl)) hone hn hbase
end
section
open Go.RowKit
set_option maxHeartbeats 2000000
def doerCs (ob : Nat) (c : CallV) (r : ResV) : Array Value := #[.pointer (some ⟨ob, 0, none⟩), .int .i64 c.kind, .int .i64 c.core, .int .i64 c.fd, .int .i64 c.off, .int .i64 c.num, .string c.path, .string c.path2, .string c.data, .int .i64 r.code, .int .i64 r.fd, .int .i64 r.num, .bool r.dir, .string r.data, Value.slice r.na r.nl r.nc]
structure Doer (W : World) (base ob db : Nat) (c : CallV) (r : ResV) (iv ov mv : Value) (Iv : List InV) (S : St) : Prop where
 ob_ : base <= ob
 db_ : base <= db
 o : Blk W ob 30 #[iv, ov, mv]
 d : Blk W db 88 (doerCs ob c r)
 st : StO W base iv ov mv Iv S
namespace Doer
variable {W W' : World} {base ob db : Nat} {c : CallV} {r : ResV} {iv ov mv : Value} {Iv : List InV} {S : St}
theorem bs (h : Doer W base ob db c r iv ov mv Iv S) : base <= W.heap.size := Nat.le_of_lt (Nat.lt_of_le_of_lt h.ob_ h.o.lt)
theorem below (h : Doer W base ob db c r iv ov mv Iv S) (hb : Below W.heap.size W W') : Doer W' base ob db c r iv ov mv Iv S :=
 ⟨h.ob_, h.db_, Blk.of_heap (hb.block _ h.o.lt) h.o, Blk.of_heap (hb.block _ h.d.lt) h.d, h.st.below hb⟩
theorem stm (h : Doer W base ob db c r iv ov mv Iv S) : StM W iv ov mv (fun i => (Iv.getD i (noIno, .int .i64 0)).2) S := h.st.stv.stm
theorem row (h : Doer W base ob db c r iv ov mv Iv S) (hn : 0 < S.inodes.length) : ∃ g cap cs, iv = .slice (some ⟨g, 0, none⟩) S.inodes.length cap /\ base <= g /\ Blk W g 93 cs /\ S.inodes.length <= cap := by
 have hl : Iv.length = S.inodes.length := by rw [<- h.st.len, List.length_map]
 rcases h.st.ino.2 with ⟨-, q⟩ | ⟨g, cap, cur, hv, hb, hh, h1, -⟩
 ·omega
 ·rw [hl] at hv h1
  exact ⟨g, cap, cur, hv, hb, hh, h1⟩
end Doer
def parentS (S : St) (p : ByteArray) : Except Int (Nat × ByteArray) := match parseF p with
 | .err k => .error (codeF k)
 | .ok ns => match ns.getLast? with
  | none => .error 9
  | some nm => if (walkS S ns.dropLast 0).2 = 0 then (if S.dir (walkS S ns.dropLast 0).1.toNat = true then .ok ((walkS S ns.dropLast 0).1.toNat, nm) else .error 7) else .error (walkS S ns.dropLast 0).2
def ParentR (g : Nat) (e : Ending) : Except Int (Nat × ByteArray) -> Prop
 | .error k => e = mthrown k
 | .ok (k, nm) => e = .returned (.tuple #[.pointer (some ⟨g, k * 4, none⟩), .string nm])
theorem parentS_lt {S : St} (hI : Inv S) {p : ByteArray} {k : Nat} {nm : ByteArray} (h : parentS S p = .ok (k, nm)) : k < S.inodes.length /\ S.dir k = true := by
 unfold parentS at h
 split at h
 ·cases h
 ·rename_i ns hp
  split at h
  ·cases h
  ·split at h
   ·rename_i h0
    split at h
    ·rename_i hd
     obtain ⟨j, hj, e⟩ := walkS_at hI.ord ns.dropLast 0 hI.pos h0
     injection h with h
     injection h with h1 h2
     rw [e] at h1 hd
     simp only [Int.toNat_natCast] at h1 hd
     subst h1
     exact ⟨hj, hd⟩
    ·cases h
   ·cases h
set_option maxRecDepth 1000000 in
theorem parent_calls {W : World} {base ob db g icap : Nat} {c : CallV} {r : ResV} {ov mv : Value} {Iv : List InV} {S : St} (h : Doer W base ob db c r (.slice (some ⟨g, 0, none⟩) S.inodes.length icap) ov mv Iv S) (hI : Inv S) {p : ByteArray} (hp : p.size <= 4611686018427387904) :
  Calls Tryz.prog 115 #[.pointer (some ⟨db, 0, none⟩), .string p] W fun e w' => ParentR g e (parentS S p) /\ Below W.heap.size W w' := by
 have HS := lhi h.stm
 have HI := lhi hI
 have HD := lhi h.d
 have HOB := lhi h.o
 cases hpr : parseF p with
 | err k =>
  have HPS := lhi (parse_badM hp W hpr (parseF_err hpr))
  have HR : parentS S p = .error (codeF k) := by unfold parentS; rw [hpr]
  rw [HR]
  clear hpr h hI HR
  go_enter Tryz.func115, Tryz.ntmps115
  go_wp2_with (go_at_call 171; refine HPS.out.mono ?_; rintro e w1 ⟨rfl, hb1⟩)
  exact ⟨rfl, rfl, hb1⟩
 | ok ns =>
  have HPS := lhi (parse_okM hp W hpr)
  have hnl := parseF_len hpr
  rcases (show ns = [] ∨ ∃ l nm, ns = l ++ [nm] from by
   rcases List.eq_nil_or_concat ns with h | ⟨l, nm, h⟩
   ·exact .inl h
   ·exact .inr ⟨l, nm, by rw [h, List.concat_eq_append]⟩) with rfl | ⟨l, nm, rfl⟩
  ·have HR : parentS S p = .error 9 := by unfold parentS; rw [hpr]; rfl
   rw [HR]
   clear hpr h hI HR
   go_enter Tryz.func115, Tryz.ntmps115
   go_wp2_with (first
    | (go_at_call 171; refine HPS.out.mono ?_; rintro e w1 ⟨⟨v, rfl, hv, -⟩, hb1⟩; obtain ⟨NA, ncap, rfl, -, -⟩ := hv.at'; clear hv; simp only [List.length_nil] at *)
    | (go_at_call 116; refine (mthrow_yes _ _).mono ?_; rintro e w2 ⟨rfl, rfl⟩))
   exact ⟨rfl, rfl, hb1⟩
  ·have HR : parentS S p = if (walkS S l 0).2 = 0 then (if S.dir (walkS S l 0).1.toNat = true then .ok ((walkS S l 0).1.toNat, nm) else .error 7) else .error (walkS S l 0).2 := by
    unfold parentS
    rw [hpr]
    simp
   rw [HR]
   have HWA := lhi (walkS_at hI.ord l 0 hI.pos)
   have hll : l.length <= 1000 := by simp at hnl; omega
   clear hpr h hI HR hnl
   obtain ⟨wp, hwp⟩ : ∃ q, walkS S l 0 = q := ⟨_, rfl⟩
   have HWK := lhi (fun (V : World) (NA : Option Addr) (ncap : Nat) (hv : RowAt V (.slice NA l.length ncap) l.length 1 (nmC l)) (hb : Below W.heap.size W V) => mwalk_calls (w := V) (sp := ob) (HS.out.keep hb) HI.out.ord HI.out.pos ((hb.cell (p := ⟨ob, 0, none⟩) HOB.out.lt).trans (HOB.out.cell 0)) hv hll)
   rw [hwp] at HWK HWA ⊢
   obtain ⟨wa, wb⟩ := wp
   clear hwp
   obtain ⟨RES, hres⟩ : ∃ R, (if wb = 0 then (if S.dir wa.toNat = true then Except.ok (wa.toNat, nm) else Except.error 7) else Except.error wb : Except Int (Nat × ByteArray)) = R := ⟨_, rfl⟩
   have HRES := lhi hres
   rw [hres]
   clear hres
   go_enter Tryz.func115, Tryz.ntmps115
   go_upto_region 2 with (go_at_call 171; refine HPS.out.mono ?_; rintro e w1 ⟨⟨v, rfl, hv, -⟩, hb1⟩; obtain ⟨NA, ncap, rfl, -, -⟩ := RowT.at' hv)
   rw [show (l ++ [nm]).length = l.length + 1 by simp] at hv
   obtain ⟨ng, noff, ncs, rfl, hncap, hblk, hinit, hlast⟩ := nm_init hv
   have HIN := lhi hinit
   have HB1 := lhi hb1
   have HNL := lhi hlast
   have HNB := lhi hblk
   have HWK1 := lhi (fun (V : World) (hb : Below w1.heap.size w1 V) => HWK.out V _ ncap (hinit.at'.keep hb) (hb1.trans (hb.mono hb1.size)))
   clear hv hb1 hblk hinit hlast
   obtain ⟨k, hk⟩ : ∃ k, l.length = k := ⟨_, rfl⟩
   rw [hk] at HIN HNL HWK1 hncap hll ⊢
   have e0 : (((k + 1 : Nat) : Int) == 0) = false := by rw [beq_eq_false_iff_ne]; omega
   have hk0 : (0 : Int) <= (k : Int) := by omega
   have ek : ((k + 1 : Nat) : Int) - 1 = (k : Int) := by omega
   go_upto_region 4 with (go_at_call 116; refine (mthrow_no _ _).mono ?_; rintro e w' ⟨rfl, rfl⟩)
   have x0 : ∀ x : WIn (Bel w1), x.v.cell? ⟨db, 0, none⟩ = some (.pointer (some ⟨ob, 0, none⟩)) := fun x => x.cell ((HB1.out.cell (p := ⟨db, 0, none⟩) HD.out.lt).trans (HD.out.cell 0))
   have HWX := lhi (fun x : WIn (Bel w1) => HWK1.out x.v x.h)
   refine wp_region_in (C := Bel w1) (by kernel_rfl) (by kernel_rfl) (Bel.drew w1) ?_
   repeat (go_big_quiet_step (first | (go_at_call 45; exact Calls.bel _ (HWX.out _))))
   refine wpQuiet_nil ?_
   rintro w2 ⟨⟨w2', hb2⟩, hw⟩
   obtain rfl : w2 = w2' := hw
   have HB2 := lhi hb2
   have HBW := lhi (HB1.out.trans (hb2.mono HB1.out.size))
   clear hb2 x0
   by_cases h0 : wb = 0
   ·subst h0
    obtain ⟨j, hj, rfl⟩ := HWA.out rfl
    have HOJ := lhi (HBW.out.cell (p := ⟨ob, 0, none⟩) HOB.out.lt)
    have d0 : w2.cell? ⟨db, 0, none⟩ = some (.pointer (some ⟨ob, 0, none⟩)) := (HBW.out.cell (p := ⟨db, 0, none⟩) HD.out.lt).trans (HD.out.cell 0)
    have o0 : w2.cell? ⟨ob, 0, none⟩ = some (.slice (some ⟨g, 0, none⟩) S.inodes.length icap) := HOJ.out.trans (HOB.out.cell 0)
    have n0 : w2.cell? ⟨ng, noff + k, none⟩ = some (.string nm) := (HB2.out.cell (World.block_lt_of_cell? _ _ HNL.out)).trans HNL.out
    have q1 : w2.cell? ⟨g, j * 4 + 1, none⟩ = some (.bool (S.dir j)) := by
     obtain ⟨-, -, g', off, hA, hcell⟩ := (HS.out.ino.keep HBW.out).at_ hj
     injection hA with hA
     injection hA with e1 e2
     subst e1 e2
     have := hcell 1 (by omega)
     rw [Nat.zero_add] at this
     exact this
    have hj1 : (j : Int) < S.inodes.length := by omega
    have hkk : (k : Int) < (k : Int) + 1 := by omega
    cases hd : S.dir j with
    | false =>
     rw [hd] at q1
     obtain rfl : RES = .error 7 := by rw [<- HRES.out, if_pos rfl, if_neg (by rw [Int.toNat_natCast, hd]; decide)]
     clear HRES
     go_upto_region 6 with (go_at_call 116; refine (mthrow_no _ _).mono ?_; rintro e w' ⟨rfl, rfl⟩)
     go_wp2_with (go_at_call 116; refine (mthrow_yes _ _).mono ?_; rintro e w' ⟨rfl, rfl⟩)
     exact ⟨rfl, rfl, HBW.out⟩
    | true =>
     rw [hd] at q1
     obtain rfl : RES = .ok (j, nm) := by rw [<- HRES.out, if_pos rfl, if_pos (by rw [Int.toNat_natCast]; exact hd), Int.toNat_natCast]
     clear HRES
     go_upto_region 6 with (go_at_call 116; refine (mthrow_no _ _).mono ?_; rintro e w' ⟨rfl, rfl⟩)
     go_upto_region 7 with (go_at_call 116; refine (mthrow_no _ _).mono ?_; rintro e w' ⟨rfl, rfl⟩)
     go_region
     go_wp2_with (fail)
     go_ret2
     exact ⟨rfl, HBW.out.trans ((below_drew w2).mono HBW.out.size)⟩
   ·obtain rfl : RES = .error wb := by rw [<- HRES.out, if_neg h0]
    have h1 : (wb != 0) = true := by rw [bne_iff_ne]; exact h0
    go_wp2_with (go_at_call 116; refine (mthrow_yes _ _).mono ?_; rintro e w' ⟨rfl, rfl⟩)
    exact ⟨rfl, rfl, HBW.out⟩
end
section
open Go.RowKit
set_option maxHeartbeats 2000000
def cntF (es : List (ByteArray × Int)) (s but : ByteArray) (k : Nat) : Nat := ((es.take k).filter fun e => !decide (e.1 = but) && (nbucket e.1 == nbucket s)).length
def fullS (es : List (ByteArray × Int)) (s but : ByteArray) : Bool := decide (4 <= cntF es s but es.length)
theorem cntF_succ {es : List (ByteArray × Int)} {s but : ByteArray} {k : Nat} (hk : k < es.length) : cntF es s but (k + 1) = cntF es s but k + if (!decide (enmL es k = but) && (nbucket (enmL es k) == nbucket s)) = true then 1 else 0 := by
 unfold cntF
 rw [take_snoc es (ByteArray.empty, 0) hk, List.filter_append, List.length_append]
 congr 1
 show ([es.getD k (ByteArray.empty, 0)].filter _).length = if (!decide ((es.getD k (ByteArray.empty, 0)).1 = but) && (nbucket (es.getD k (ByteArray.empty, 0)).1 == nbucket s)) = true then 1 else 0
 rw [List.filter_cons]
 split <;> simp_all
theorem cntF_le (es : List (ByteArray × Int)) (s but : ByteArray) (k : Nat) : cntF es s but k <= k := by
 unfold cntF
 refine Nat.le_trans (List.length_filter_le _ _) ?_
 rw [List.length_take]
 omega
set_option maxRecDepth 1000000 in
theorem full_calls {W : World} {g o : Nat} {ev : Value} {es : List (ByteArray × Int)} (hc : W.cell? ⟨g, o + 2, none⟩ = some ev) (he : RowAt W ev es.length 2 (entL es)) (hn : es.length <= 1000) (s but : ByteArray) :
  Calls Tryz.prog 117 #[.pointer (some ⟨g, o, none⟩), .string s, .string but] W fun e w' => e = .returned (.bool (fullS es s but)) /\ Below W.heap.size W w' := by
 have HE := lhi he
 obtain ⟨EA, ecap, rfl, -, -⟩ := he
 obtain ⟨n, hnn⟩ : ∃ n, es.length = n := ⟨_, rfl⟩
 have HN := lhi hnn
 rw [hnn] at hc hn HE
 clear hnn
 obtain ⟨RES, hres⟩ : ∃ R, fullS es s but = R := ⟨_, rfl⟩
 have HF := lhi (show ∀ N, cntF es s but n = N -> RES = decide (4 <= N) from fun N h => by rw [<- hres]; unfold fullS; rw [HN.out, h])
 rw [hres]
 clear hres
 go_enter Tryz.func117, Tryz.ntmps117
 go_wp2_with (fail)
 go_loopw [15, 7] (fun i q wr => ∃ k : Nat, i = .int .i64 k /\ q = .int .i64 (cntF es s but k) /\ k <= n /\ Below W.heap.size W wr) (fun i _ _ => n - (intOf i).toNat)
 case atStart => exact ⟨0, rfl, rfl, by omega, Below.refl _ _⟩
 case round =>
  obtain ⟨k, rfl, rfl, hk, hb⟩ := hrel
  have HB := lhi hb
  have hck := cntF_le es s but k
  by_cases hp : k < n
  ·have hp1 : (k : Int) < n := by omega
   obtain ⟨-, -, eg, eoff, rfl, hcell⟩ := (HE.out.keep hb).at_ hp
   have q0 : wr.cell? ⟨eg, eoff + k * 2, none⟩ = some (.string (enmL es k)) := hcell 0 (by omega)
   have q1 : wr.cell? ⟨eg, eoff + k * 2 + 1, none⟩ = some (.int .i64 (enuL es k)) := hcell 1 (by omega)
   have HS := lhi (cntF_succ (s := s) (but := but) (show k < es.length by rw [HN.out]; exact hp))
   clear hcell hb
   obtain ⟨x, hx⟩ : ∃ x, enmL es k = x := ⟨_, rfl⟩
   obtain ⟨y, hy⟩ : ∃ y, enuL es k = y := ⟨_, rfl⟩
   obtain ⟨ck, hck2⟩ : ∃ c, cntF es s but k = c := ⟨_, rfl⟩
   rw [hx] at q0 HS
   rw [hy] at q1
   rw [hck2] at hck HS
   rw [hck2]
   have HEN := lhi (Blk.new wr 132 #[.string x, .int .i64 y])
   have HBA := lhi (HB.out.alloc HB.out.size (Obj.cells #[.string x, .int .i64 y] 132))
   have HBX := lhi (bucket_calls x)
   have HBS := lhi (bucket_calls s)
   clear hx hy hck2
   go_upto_region 5 with (fail)
   obtain ⟨wy, hwy⟩ : ∃ wy, wy = wr.alloc (Obj.cells #[.string x, .int .i64 y] 132) := ⟨_, rfl⟩
   obtain ⟨eb, heb⟩ : ∃ eb, wr.heap.size = eb := ⟨_, rfl⟩
   rw [<- hwy] at HEN HBA ⊢
   rw [heb] at HEN ⊢
   clear hwy heb q0 q1
   have e0 : wy.cell? ⟨eb, 0, none⟩ = some (.string x) := HEN.out.cell 0
   by_cases hxb : x = but
   ·subst hxb
    go_wp2_with (fail)
    go_roundw
    case rel => exact ⟨k + 1, by go_num, by rw [HS.out]; simp, by omega, HBA.out⟩
    case measure =>
     simp only [intOf]
     omega
   ·have l1 : (x.toList == but.toList) = false := by
     cases h : x.toList == but.toList with
     | false => rfl
     | true =>
      have h : x.toList = but.toList := by simpa using h
      exact absurd (toList_inj h) hxb
    by_cases hbs : nbucket x = nbucket s
    ·have d : (((nbucket x : Nat) : Int) == ((nbucket s : Nat) : Int)) = true := by rw [beq_iff_eq]; omega
     have hc1 : cntF es s but (k + 1) = ck + 1 := by rw [HS.out]; simp [hxb, hbs]
     go_wp2_with (go_at_call 62; first | (refine (HBX.out _).mono ?_; rintro e w5 ⟨rfl, hb5⟩) | (refine (HBS.out _).mono ?_; rintro e w6 ⟨rfl, hb6⟩))
     go_roundw
     case rel => exact ⟨k + 1, by go_num, by rw [hc1]; go_num, by omega, HBA.out.trans ((hb5.mono HBA.out.size).trans (hb6.mono (Nat.le_trans HBA.out.size hb5.size)))⟩
     case measure =>
      simp only [intOf]
      omega
    ·have d : (((nbucket x : Nat) : Int) == ((nbucket s : Nat) : Int)) = false := by rw [beq_eq_false_iff_ne]; omega
     have hc1 : cntF es s but (k + 1) = ck := by rw [HS.out]; simp [hxb, hbs]
     go_wp2_with (go_at_call 62; first | (refine (HBX.out _).mono ?_; rintro e w5 ⟨rfl, hb5⟩) | (refine (HBS.out _).mono ?_; rintro e w6 ⟨rfl, hb6⟩))
     go_roundw
     case rel => exact ⟨k + 1, by go_num, by rw [hc1], by omega, HBA.out.trans ((hb5.mono HBA.out.size).trans (hb6.mono (Nat.le_trans HBA.out.size hb5.size)))⟩
     case measure =>
      simp only [intOf]
      omega
  ·have e : k = n := by omega
   subst e
   obtain ⟨N, hN⟩ : ∃ N, cntF es s but k = N := ⟨_, rfl⟩
   have HR := lhi (HF.out N hN)
   rw [hN]
   have hd : decide ((4 : Int) <= (N : Int)) = decide (4 <= N) := by
    by_cases q : 4 <= N
    ·rw [decide_eq_true q, decide_eq_true (by omega)]
    ·rw [decide_eq_false q, decide_eq_false (by omega)]
   clear hN hck
   go_wp2_with (fail)
   go_ret
   exact ⟨by rw [HR.out]; rfl, HB.out⟩
end
section
set_option maxHeartbeats 1000000
def insBy {A : Type} (lt : A -> A -> Bool) (p : A) : List A -> List A
 | [] => [p]
 | e :: l => if lt p e = true then p :: e :: l else e :: insBy lt p l
section
variable {A : Type} {lt : A -> A -> Bool} {p : A}
theorem perm_insBy : ∀ l : List A, (insBy lt p l).Perm (p :: l)
 | [] => .rfl
 | e :: l => by
  unfold insBy
  split
  ·exact .rfl
  ·exact ((perm_insBy l).cons e).trans (List.Perm.swap ..)
theorem mem_insBy {l : List A} {y : A} : y ∈ insBy lt p l ↔ y = p ∨ y ∈ l := by
 rw [(perm_insBy l).mem_iff, List.mem_cons]
theorem pair_insBy {R : A -> A -> Prop} (ht : ∀ a b c, R a b -> R b c -> R a c) : ∀ {l : List A}, l.Pairwise R -> (∀ e ∈ l, lt p e = true -> R p e) -> (∀ e ∈ l, lt p e = false -> R e p) -> (insBy lt p l).Pairwise R
 | [], _, _, _ => List.pairwise_singleton ..
 | e :: l, h, h1, h2 => by
  obtain ⟨ha, hb⟩ := List.pairwise_cons.1 h
  unfold insBy
  by_cases q : lt p e = true
  ·rw [if_pos q]
   refine List.pairwise_cons.2 ⟨fun y hy => ?_, h⟩
   have hpe := h1 e (List.mem_cons_self ..) q
   rcases List.mem_cons.1 hy with rfl | hy
   ·exact hpe
   ·exact ht _ _ _ hpe (ha y hy)
  ·rw [if_neg q]
   refine List.pairwise_cons.2 ⟨fun y hy => ?_, pair_insBy ht hb (fun e he => h1 e (List.mem_cons_of_mem _ he)) fun e he => h2 e (List.mem_cons_of_mem _ he)⟩
   rcases mem_insBy.1 hy with rfl | hy
   ·exact h2 e (List.mem_cons_self ..) (by simpa using q)
   ·exact ha y hy
theorem insBy_head {a : A} {l : List A} (h : lt p a = false) : insBy lt p (a :: l) = a :: insBy lt p l := by
 show (if lt p a = true then _ else _) = _
 rw [if_neg (by simp [h])]
end
theorem sum_turn {h h' : Ino -> Nat} {d : Int} : ∀ {l : List Ino}, l.Pairwise (fun x y => x.num < y.num) -> ∀ {x0 : Ino}, x0 ∈ l -> x0.num = d -> (∀ x ∈ l, x.num ≠ d -> h' x = h x) -> (l.map h').sum + h x0 = (l.map h).sum + h' x0
 | [], _, _, hx, _, _ => by cases hx
 | x :: l, hp, x0, hx, hd, hh => by
  obtain ⟨ha, hb⟩ := List.pairwise_cons.1 hp
  simp only [List.map_cons, List.sum_cons]
  rcases List.mem_cons.1 hx with rfl | hx
  ·have : l.map h' = l.map h := List.map_congr_left fun y hy => hh y (List.mem_cons_of_mem _ hy) (by have := ha y hy; omega)
   rw [this]; omega
  ·have h1 := hh x (List.mem_cons_self ..) (by have := ha x0 hx; omega)
   have ih := sum_turn hb hx hd fun y hy => hh y (List.mem_cons_of_mem _ hy)
   rw [h1]; omega
theorem count_links (S : St) (y : Int) : (links S).count y = (S.inodes.map fun x => (linksOf x).count y).sum := by
 unfold links
 rw [List.count_flatMap]; rfl
end
end Go.Proofs.YtkebjgebkneijaaGreat
