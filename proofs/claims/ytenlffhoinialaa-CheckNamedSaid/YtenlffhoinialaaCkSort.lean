
/- check: State's sort. -/
import Derived.Test.YtenlffhoinialaaCkCmp
namespace Go.Proofs.Ytenlffhoinialaa
open Go.RowKit Go.Shelf Go.Lib Go.Sort
set_option maxHeartbeats 1000000
attribute [local go_sem ↓] Go.wp_at_zero Go.wp_at_succ
instance : Inhabited Fnd := ⟨⟨0, 0, nm0⟩⟩
theorem cells3 {w : World} {q : Nat} {t : TypeId} {x y z : Value} (h : Blk w q t #[x, y, z]) : w.cell? ⟨q, 0, none⟩ = some x ∧ w.cell? ⟨q, 1, none⟩ = some y ∧ w.cell? ⟨q, 2, none⟩ = some z := ⟨h.cell 0, h.cell 1, h.cell 2⟩
set_option maxRecDepth 1000000 in
theorem cmpF_calls (a b : Fnd) (W : World) :
    Calls Try.prog 41 #[.agg #[.int .i64 a.kind, .int .i64 a.num, .string a.name], .agg #[.int .i64 b.kind, .int .i64 b.num, .string b.name]] W fun e w' => e = .returned (.int .i64 (cmpF a b)) ∧ ∃ q os', w' = grow (W.drewN q) os' := by
  obtain ⟨ak, an, sa⟩ := a
  obtain ⟨bk, bn, sb⟩ := b
  have HF := Lib.hid (show cmpF ⟨ak, an, sa⟩ ⟨bk, bn, sb⟩ = or3 (cmpI ak bk) (cmpI an bn) (cmpS sa sb) from rfl)
  have HB1 := Lib.hid ((Blk.new W 64 #[.int .i64 ak, .int .i64 an, .string sa]).alloc (Obj.cells #[.int .i64 bk, .int .i64 bn, .string sb] 64))
  have HB2 := Lib.hid (Blk.newAt (W.alloc (Obj.cells #[.int .i64 ak, .int .i64 an, .string sa] 64)) 64 #[.int .i64 bk, .int .i64 bn, .string sb] (n := W.heap.size + 1) (by simp))
  have HK := Lib.hid (fun W => compareI_calls ak bk W)
  have HN := Lib.hid (fun W => compareI_calls an bn W)
  have HS := Lib.hid (fun W => compareS_calls sa sb W)
  show Calls Try.prog 41 #[.agg #[.int .i64 ak, .int .i64 an, .string sa], .agg #[.int .i64 bk, .int .i64 bn, .string sb]] W _
  go_enter Try.func41, Try.ntmps41
  go_wp2_with (fail)
  obtain ⟨wz, hwz⟩ : ∃ wz, wz = (W.alloc (Obj.cells #[.int .i64 ak, .int .i64 an, .string sa] 64)).alloc (Obj.cells #[.int .i64 bk, .int .i64 bn, .string sb] 64) := ⟨_, rfl⟩
  rw [← hwz] at HB1 HB2 ⊢
  have HWZ := Lib.hid hwz
  clear hwz
  generalize W.heap.size = p at *
  generalize cmpI ak bk = c1 at *
  generalize cmpI an bn = c2 at *
  generalize cmpS sa sb = c3 at *
  go_region_held3 (fun w' => (w'.cell? ⟨p, 0, none⟩ = some (.int .i64 ak) ∧ w'.cell? ⟨p, 1, none⟩ = some (.int .i64 an) ∧ w'.cell? ⟨p, 2, none⟩ = some (.string sa)) ∧ (w'.cell? ⟨p + 1, 0, none⟩ = some (.int .i64 bk) ∧ w'.cell? ⟨p + 1, 1, none⟩ = some (.int .i64 bn) ∧ w'.cell? ⟨p + 1, 2, none⟩ = some (.string sb)))
    (first | exact ⟨cells3 HB1.out, cells3 HB2.out⟩ | exact ⟨cells3 (w := wz.drew) HB1.out, cells3 (w := wz.drew) HB2.out⟩ | exact ⟨cells3 (w := (wz.alloc (Obj.cells #[.int .i64 c1, .int .i64 c2, .int .i64 c3] 3)).drew) (Blk.alloc (w := wz) HB1.out _), cells3 (w := (wz.alloc (Obj.cells #[.int .i64 c1, .int .i64 c2, .int .i64 c3] 3)).drew) (Blk.alloc (w := wz) HB2.out _)⟩)
    ((first
      | (go_at_call 44; refine (HS.out _).mono ?_; rintro e w' ⟨rfl, rfl⟩)
      | (go_at_call 42; refine (or_calls (w := (wz.alloc (Obj.cells #[.int .i64 c1, .int .i64 c2, .int .i64 c3] 3)).drew) (show Blk (wz.alloc (Obj.cells #[.int .i64 c1, .int .i64 c2, .int .i64 c3] 3)) _ _ _ from Blk.new _ _ _)).mono ?_; rintro e w' ⟨rfl, rfl⟩)
      | ((with_reducible refine (HK.out _).mono ?_); rintro e w' ⟨rfl, rfl⟩)
      | ((with_reducible refine (HN.out _).mono ?_); rintro e w' ⟨rfl, rfl⟩)))
  go_wp2_with (fail)
  go_ret
  exact ⟨by rw [HF.out]; rfl, 1, _, by rw [HWZ.out, alloc_eq_grow, alloc_eq_grow, alloc_eq_grow, grow_grow, grow_grow]; rfl⟩
theorem cmpLaysF (blk off size : Nat) (w : World) : CmpLays Try.prog 41 #[] encF 3 cmpF blk off size w :=
  fun _ _ _ _ x y => cmpF_calls x y _
/-- slices.SortFunc at a row of findings. -/
theorem sort_calls (blk off cap : Nat) (D : Array Fnd) (w : World) (hH : HoldsK encF 3 w blk off D) (hblk : blk < w.heap.size) (hsz : D.size < 4611686018427387904) :
    Calls Try.prog 40 #[.slice (some ⟨blk, off, none⟩) D.size cap, .func (.func 41) #[] #[]] w fun e w' => e = .returned (.tuple #[]) ∧ ∃ D' n os, PermIn 0 D.size D D' ∧ SortedIn (ltOf cmpF) 0 D.size D' ∧ w' = sortWorldK encF 3 w blk off n D' os := by
  have eg : ∀ args w, (callFunc 41 args).run Try.prog w = .ok (.enter 41 args) w := enters_of Try.func41 (by kernel_rfl) rfl
  exact AnyQ.slices_SortFunc Try.sortFnd 3 Try.isAgg64 Try.sizeOf64 encF (fun _ => rfl) (fun x v hv => by simp [encF] at hv; rcases hv with rfl | rfl | rfl <;> rfl) cmpF swo_fnd 41 #[] blk off cap D w eg (cmpLaysF blk off D.size w) hH hblk hsz
end Go.Proofs.Ytenlffhoinialaa
