
/- dir.List's own comparison of entries. -/
import Derived.Test.YtkbajjpdngfhbaaDirT
import Derived.Test.YtkbajjpdngfhbaaShelf
namespace Go.Proofs.Ytkbajjpdngfhbaa
open Go.RowKit Go.Shelf Go.Lib Go.Sort
set_option maxHeartbeats 1000000

theorem bl_irrefl : ∀ x : List UInt8, Op.bytesLess x x = false
  | [] => rfl
  | a :: x => by
    unfold Op.bytesLess
    have h : decide (a < a) = false := by simp
    rw [h, bl_irrefl x]
    simp
theorem bl_cons (a b : UInt8) (x y : List UInt8) : Op.bytesLess (a :: x) (b :: y) = true ↔ a < b ∨ (a = b ∧ Op.bytesLess x y = true) := by
  conv => lhs; unfold Op.bytesLess
  simp
theorem bl_trans : ∀ x y z : List UInt8, Op.bytesLess x y = true → Op.bytesLess y z = true → Op.bytesLess x z = true
  | [], [], _, h, _ => by cases h
  | [], _ :: _, [], _, h => by cases h
  | [], _ :: _, _ :: _, _, _ => rfl
  | _ :: _, [], _, h, _ => by cases h
  | _ :: _, _ :: _, [], _, h => by cases h
  | a :: x, b :: y, c :: z, h1, h2 => by
    rw [bl_cons] at *
    rcases h1 with h1 | ⟨rfl, h1⟩
    · rcases h2 with h2 | ⟨rfl, h2⟩
      · exact .inl (UInt8.lt_trans h1 h2)
      · exact .inl h1
    · rcases h2 with h2 | ⟨rfl, h2⟩
      · exact .inl h2
      · exact .inr ⟨rfl, bl_trans x y z h1 h2⟩
theorem bl_tri : ∀ x y : List UInt8, Op.bytesLess x y = true ∨ x = y ∨ Op.bytesLess y x = true
  | [], [] => .inr (.inl rfl)
  | [], _ :: _ => .inl rfl
  | _ :: _, [] => .inr (.inr rfl)
  | a :: x, b :: y => by
    rw [bl_cons, bl_cons]
    rcases Nat.lt_trichotomy a.toNat b.toNat with h | h | h
    · exact .inl (.inl (UInt8.lt_iff_toNat_lt.2 h))
    · have : a = b := UInt8.toNat_inj.1 h
      subst this
      rcases bl_tri x y with h | rfl | h
      · exact .inl (.inr ⟨rfl, h⟩)
      · exact .inr (.inl rfl)
      · exact .inr (.inr (.inr ⟨rfl, h⟩))
    · exact .inr (.inr (.inl (UInt8.lt_iff_toNat_lt.2 h)))
/-- A name below another. -/
def nlt (s t : ByteArray) : Bool := Op.bytesLess s.toList t.toList
theorem toList_inj {s t : ByteArray} (h : s.toList = t.toList) : s = t := by
  rw [Lib.toList_data, Lib.toList_data] at h
  exact ByteArray.ext (Array.ext' h)
theorem nlt_irrefl (s : ByteArray) : nlt s s = false := bl_irrefl _
theorem nlt_trans {s t u : ByteArray} (h1 : nlt s t = true) (h2 : nlt t u = true) : nlt s u = true := bl_trans _ _ _ h1 h2
theorem nlt_tri (s t : ByteArray) : nlt s t = true ∨ s = t ∨ nlt t s = true := by
  rcases bl_tri s.toList t.toList with h | h | h
  · exact .inl h
  · exact .inr (.inl (toList_inj h))
  · exact .inr (.inr h)
def cmpS (s t : ByteArray) : Int := if nlt s t = true then -1 else if (s.toList == t.toList) = true then 0 else 1
theorem ltOf_cmpS (x y : Ent) : ltOf (fun x y : Ent => cmpS x.1 y.1) x y = nlt x.1 y.1 := by
  show decide (cmpS x.1 y.1 < 0) = _
  unfold cmpS
  by_cases h : nlt x.1 y.1 = true
  · rw [if_pos h, h]; rfl
  · rw [if_neg h, Bool.eq_false_iff.2 h]
    split <;> rfl
theorem swo_names : SWO (ltOf fun x y : Ent => cmpS x.1 y.1) where
  irrefl x := by rw [ltOf_cmpS]; simp [nlt_irrefl]
  trans x y z h1 h2 := by rw [ltOf_cmpS] at *; exact nlt_trans h1 h2
  ntrans x y z h1 h2 := by
    rw [ltOf_cmpS] at *
    cases h : nlt x.1 z.1
    · rfl
    · rcases nlt_tri x.1 y.1 with q | q | q
      · rw [q] at h1; cases h1
      · rw [q] at h; rw [h] at h2; cases h2
      · have := nlt_trans q h; rw [this] at h2; cases h2
set_option maxRecDepth 1000000 in
theorem nan_calls (s : ByteArray) (w : World) :
    Calls Try.prog 62 #[.string s] w fun e w' => e = .returned (.bool false) ∧ w' = w := by
  go_enter Try.func62, Try.ntmps62
  go_wp2_with (fail)
  go_ret
  exact ⟨rfl, rfl⟩
set_option maxRecDepth 1000000 in
theorem compare_calls (s t : ByteArray) (w : World) :
    Calls Try.prog 39 #[.string s, .string t] w fun e w' => e = .returned (.int .i64 (cmpS s t)) ∧ w' = w := by
  by_cases h : nlt s t = true
  · have HF := Lib.hid (show cmpS s t = -1 by unfold cmpS; rw [if_pos h])
    have h' : Op.bytesLess s.toList t.toList = true := h
    go_enter Try.func39, Try.ntmps39
    go_wp2_with (go_at_call 62; refine (nan_calls _ _).mono ?_; rintro e w' ⟨rfl, rfl⟩)
    go_ret
    exact ⟨by rw [HF.out]; rfl, rfl⟩
  · have h' : Op.bytesLess s.toList t.toList = false := Bool.eq_false_iff.2 h
    by_cases h2 : (s.toList == t.toList) = true
    · have HF := Lib.hid (show cmpS s t = 0 by unfold cmpS; rw [if_neg h, if_pos h2])
      go_enter Try.func39, Try.ntmps39
      go_wp2_with (go_at_call 62; refine (nan_calls _ _).mono ?_; rintro e w' ⟨rfl, rfl⟩)
      go_ret
      exact ⟨by rw [HF.out]; rfl, rfl⟩
    · have h2' := Bool.eq_false_iff.2 h2
      have HF := Lib.hid (show cmpS s t = 1 by unfold cmpS; rw [if_neg h, if_neg h2])
      go_enter Try.func39, Try.ntmps39
      go_wp2_with (go_at_call 62; refine (nan_calls _ _).mono ?_; rintro e w' ⟨rfl, rfl⟩)
      go_ret
      exact ⟨by rw [HF.out]; rfl, rfl⟩
/-- An entry's two cells. -/
def encE (e : Ent) : List Value := [.string e.1, .int .i64 e.2]
set_option maxRecDepth 1000000 in
theorem cmpE_calls (x y : Ent) (W : World) :
    Calls Try.prog 38 #[.agg #[.string x.1, .int .i64 x.2], .agg #[.string y.1, .int .i64 y.2]] W fun e w' => e = .returned (.int .i64 (cmpS x.1 y.1)) ∧ ∃ q os', w' = grow (W.drewN q) os' := by
  have hcon := fun W => compare_calls x.1 y.1 W
  generalize cmpS x.1 y.1 = r at hcon ⊢
  go_enter Try.func38, Try.ntmps38
  go_wp2_with (go_at_call 39; refine (hcon _).mono ?_; rintro e w' ⟨rfl, rfl⟩)
  go_ret
  exact ⟨rfl, 0, _, by rw [alloc_eq_grow, alloc_eq_grow, grow_grow]; rfl⟩
theorem cmpLaysE (blk off size : Nat) (w : World) : CmpLays Try.prog 38 #[] encE 2 (fun x y => cmpS x.1 y.1) blk off size w :=
  fun _ _ _ _ x y => cmpE_calls x y _
/-- slices.SortFunc at a row of entries. -/
theorem sort_calls (blk off cap : Nat) (D : Array Ent) (w : World) (hH : HoldsK encE 2 w blk off D) (hblk : blk < w.heap.size) (hsz : D.size < 4611686018427387904) :
    Calls Try.prog 37 #[.slice (some ⟨blk, off, none⟩) D.size cap, .func (.func 38) #[] #[]] w fun e w' => e = .returned (.tuple #[]) ∧ ∃ D' n os, PermIn 0 D.size D D' ∧ SortedIn (ltOf fun x y : Ent => cmpS x.1 y.1) 0 D.size D' ∧ w' = sortWorldK encE 2 w blk off n D' os := by
  have eg : ∀ args w, (callFunc 38 args).run Try.prog w = .ok (.enter 38 args) w := enters_of Try.func38 (by kernel_rfl) rfl
  exact AnyQ.slices_SortFunc Try.sortEnt 2 Try.isAgg54 Try.sizeOf54 encE (fun _ => rfl) (fun x v hv => by simp [encE] at hv; rcases hv with rfl | rfl <;> rfl) (fun x y => cmpS x.1 y.1) swo_names 38 #[] blk off cap D w eg (cmpLaysE blk off D.size w) hH hblk hsz
end Go.Proofs.Ytkbajjpdngfhbaa
