
/- check: Compact of findings of which no two neighbours are one. -/
import Derived.Test.YtenlffhoinialaaCkSort
namespace Go.Proofs.Ytenlffhoinialaa
open Go.RowKit
set_option maxHeartbeats 1000000
attribute [local go_sem ↓] Go.wp_at_zero Go.wp_at_succ
def fAt (D : List Fnd) (i : Nat) : Fnd := D.getD i default
def fndC (D : List Fnd) : Nat → Nat → Value := fun i j => match j with
  | 0 => .int .i64 (fAt D i).kind
  | 1 => .int .i64 (fAt D i).num
  | _ => .string (fAt D i).name
theorem fnd_ne {a b : Fnd} (h : a ≠ b) : a.kind ≠ b.kind ∨ (a.kind = b.kind ∧ a.num ≠ b.num) ∨ (a.kind = b.kind ∧ a.num = b.num ∧ a.name.toList ≠ b.name.toList) := by
  by_cases h1 : a.kind = b.kind
  · by_cases h2 : a.num = b.num
    · refine .inr (.inr ⟨h1, h2, fun h3 => h ?_⟩)
      have := toList_inj h3
      cases a; cases b
      simp only at h1 h2 this
      subst h1 h2 this
      rfl
    · exact .inr (.inl ⟨h1, h2⟩)
  · exact .inl h1
set_option maxRecDepth 1000000 in
theorem compact_calls {w : World} {v : Value} {D : List Fnd} (h : RowAt w v D.length 3 (fndC D)) (hD : D.length ≤ 1000000000) (hne : ∀ i, i + 1 < D.length → fAt D (i + 1) ≠ fAt D i) :
    Calls Try.prog 45 #[v] w fun e w' => e = .returned v ∧ ∃ d, w' = w.drewN d := by
  obtain ⟨A, cap, rfl⟩ := h.form
  have HR := Lib.hid h
  have HN := Lib.hid hne
  clear h hne
  generalize D.length = n at *
  by_cases h2 : n < 2
  · have h2' : (n : Int) < 2 := by omega
    go_enter Try.func45, Try.ntmps45
    go_wp2_with (fail)
    go_ret
    exact ⟨rfl, 0, rfl⟩
  · have h2' : ¬ (n : Int) < 2 := by omega
    go_enter Try.func45, Try.ntmps45
    go_wp2_with (fail)
    go_loopw [3] (fun i wr => ∃ k d : Nat, i = .int .i64 (k + 1 : Nat) ∧ k + 1 ≤ n ∧ wr = w.drewN d) (fun i _ => n - (intOf i).toNat)
    case atStart => exact ⟨0, 0, rfl, by omega, rfl⟩
    case round =>
      obtain ⟨k, d, rfl, hk, rfl⟩ := hrel
      by_cases hp : k + 1 < n
      · obtain ⟨-, hcap, g, off, rfl, hcell⟩ := HR.out.at_ hp
        obtain ⟨-, -, g', off', e, hcell'⟩ := HR.out.at_ (i := k) (by omega)
        injection e with e
        injection e with e1 e2
        subst e1 e2
        have hx := HN.out k hp
        have q0 : w.cell? ⟨g, off + (k + 1) * 3, none⟩ = some (.int .i64 (fAt D (k + 1)).kind) := hcell 0 (by omega)
        have q1 : w.cell? ⟨g, off + (k + 1) * 3 + 1, none⟩ = some (.int .i64 (fAt D (k + 1)).num) := hcell 1 (by omega)
        have q2 : w.cell? ⟨g, off + (k + 1) * 3 + 2, none⟩ = some (.string (fAt D (k + 1)).name) := hcell 2 (by omega)
        have p0 : w.cell? ⟨g, off + k * 3, none⟩ = some (.int .i64 (fAt D k).kind) := hcell' 0 (by omega)
        have p1 : w.cell? ⟨g, off + k * 3 + 1, none⟩ = some (.int .i64 (fAt D k).num) := hcell' 1 (by omega)
        have p2 : w.cell? ⟨g, off + k * 3 + 2, none⟩ = some (.string (fAt D k).name) := hcell' 2 (by omega)
        have hx := fnd_ne hx
        clear hcell hcell'
        generalize fAt D (k + 1) = a at *
        generalize fAt D k = b at *
        obtain ⟨ak, an, sa⟩ := a
        obtain ⟨bk, bn, sb⟩ := b
        simp only at hx q0 q1 q2 p0 p1 p2
        have hk1 : ((k + 1 : Nat) : Int) < n := by omega
        rcases hx with hx | ⟨rfl, hx⟩ | ⟨rfl, rfl, hx⟩
        all_goals (
          go_wp2_with (fail)
          go_quiet (fail)
          go_wp2_with (fail)
          go_roundw
          case rel => exact ⟨k + 1, d + nq, by go_num, by omega, rfl⟩
          case measure =>
            simp only [intOf]
            omega)
      · have e : k + 1 = n := by omega
        subst e
        go_wp2_with (fail)
        go_ret
        exact ⟨rfl, d, rfl⟩
end Go.Proofs.Ytenlffhoinialaa
