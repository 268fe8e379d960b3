
/- A make's run, as a drawn region's law asks it. -/
import Derived.Test.YtokldnmhhhaalaaMakes
import Derived.WalkKit
namespace Go.Proofs.Ytokldnmhhhaalaa
open Go.RowKit
theorem mk_run {P : Program} {o : Oper} {t e : TypeId} {s n : Nat} {cs : Array Value} (ho : o.op = .makeSlice t (.tmp s) (.tmp s)) {a : Act} (ha : a.eval (.tmp s) = .int .i64 n)
    (hr : ∀ w : World, (Instr.makeSlice t (.int .i64 (n : Int)) (.int .i64 (n : Int))).run P w = .ok (.slice (some ⟨w.heap.size, 0, none⟩) n n) (w.alloc (.cells cs e))) (w : World) :
    (execOp a.eval o).run P w = .ok (.value (.slice (some ⟨w.heap.size, 0, none⟩) n n)) (w.alloc (.cells cs e)) := by
  unfold execOp
  rw [ho]
  simp only [ha]
  have h := hr w
  simp [h]
theorem nd_of {M : List Mk} (h : (M.map (·.d)).Nodup) (j k : Nat) (m m' : Mk) (hj : M[j]? = some m) (hk : M[k]? = some m') (hne : j ≠ k) : m.d ≠ m'.d := by
  intro e
  have h1 : (M.map (·.d))[j]? = some m.d := by rw [List.getElem?_map, hj]; rfl
  have h2 : (M.map (·.d))[k]? = some m.d := by rw [List.getElem?_map, hk, e]; rfl
  obtain ⟨l1, e1⟩ := List.getElem?_eq_some_iff.1 h1
  obtain ⟨l2, e2⟩ := List.getElem?_eq_some_iff.1 h2
  rcases Nat.lt_or_gt_of_ne hne with h3 | h3
  · exact List.pairwise_iff_getElem.1 h j k l1 l2 h3 (e1.trans e2.symm)
  · exact List.pairwise_iff_getElem.1 h k j l2 l1 h3 (e2.trans e1.symm)
theorem eval_get {a a0 : Act} {t : Nat} {v : Value} (h : a.tmps[t]? = a0.tmps[t]?) (h0 : a0.tmps[t]? = some v) : a.eval (.tmp t) = v := by
  show a.tmps.getD t undef = v
  rw [h0] at h
  rw [Array.getD_eq_getD_getElem?, h]
  rfl
theorem MkJ.start (M : List Mk) (a0 : Act) (w0 : World) (n : Nat) : MkJ M a0 w0 (List.replicate n false) (fun _ => 0) a0 w0 := by
  have no : ∀ k : Nat, (List.replicate n false)[k]? ≠ some true := fun k h => by
    rw [List.getElem?_replicate] at h
    split at h <;> cases h
  exact ⟨rfl, rfl, fun _ _ => rfl, fun k _ _ h => absurd h (no k), fun j _ h => absurd h (no j), Below.refl _ _⟩
end Go.Proofs.Ytokldnmhhhaalaa
