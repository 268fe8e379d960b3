
/- law20: what the laws call: SameFindings, Num, whole. -/
import Derived.Test.YtenlffhoinialaaCkState
namespace Go.Proofs.Ytenlffhoinialaa
open Go.RowKit
set_option maxHeartbeats 1000000
attribute [local go_sem ↓] Go.wp_at_zero Go.wp_at_succ
theorem RowAt.drewN {w : World} {v : Value} {n k : Nat} {C : Nat → Nat → Value} (h : RowAt w v n k C) (d : Nat) : RowAt (w.drewN d) v n k C := h
set_option maxRecDepth 1000000 in
theorem same_fnd {w : World} {v v' : Value} {D : List Fnd} (h : RowAt w v D.length 3 (fndC D)) (h' : RowAt w v' D.length 3 (fndC D)) (hD : D.length ≤ 1000000000) :
    Calls Try.prog 17 #[v, v'] w fun e w' => e = .returned (.bool true) ∧ ∃ d, w' = w.drewN d := by
  obtain ⟨A, cap, rfl⟩ := h.form
  obtain ⟨A', cap', rfl⟩ := h'.form
  have HR := Lib.hid h
  have HR' := Lib.hid h'
  clear h h'
  generalize D.length = n at *
  go_enter Try.func17, Try.ntmps17
  go_wp2_with (fail)
  go_loopw [5] (fun i wr => ∃ k d : Nat, i = .int .i64 k ∧ k ≤ n ∧ wr = w.drewN d) (fun i _ => n - (intOf i).toNat)
  case atStart => exact ⟨0, 0, rfl, by omega, rfl⟩
  case round =>
    obtain ⟨k, d, rfl, hk, rfl⟩ := hrel
    by_cases hp : k < n
    · obtain ⟨-, hcap, g, off, rfl, hcell⟩ := HR.out.at_ hp
      obtain ⟨-, hcap', g', off', rfl, hcell'⟩ := HR'.out.at_ hp
      have q0 : w.cell? ⟨g, off + k * 3, none⟩ = some (.int .i64 (fAt D k).kind) := hcell 0 (by omega)
      have q1 : w.cell? ⟨g, off + k * 3 + 1, none⟩ = some (.int .i64 (fAt D k).num) := hcell 1 (by omega)
      have q2 : w.cell? ⟨g, off + k * 3 + 2, none⟩ = some (.string (fAt D k).name) := hcell 2 (by omega)
      have p0 : w.cell? ⟨g', off' + k * 3, none⟩ = some (.int .i64 (fAt D k).kind) := hcell' 0 (by omega)
      have p1 : w.cell? ⟨g', off' + k * 3 + 1, none⟩ = some (.int .i64 (fAt D k).num) := hcell' 1 (by omega)
      have p2 : w.cell? ⟨g', off' + k * 3 + 2, none⟩ = some (.string (fAt D k).name) := hcell' 2 (by omega)
      clear hcell hcell'
      have hp1 : (k : Int) < n := by omega
      go_wp2_with (fail)
      go_quiet (fail)
      go_wp2_with (fail)
      go_roundw
      case rel => exact ⟨k + 1, d + nq, by go_num, by omega, rfl⟩
      case measure =>
        simp only [intOf]
        omega
    · have e : k = n := by omega
      subst e
      go_wp2_with (fail)
      go_ret
      exact ⟨rfl, d, rfl⟩
set_option maxRecDepth 1000000 in
theorem num_calls (x : Int) (w : World) : Calls Try.prog 24 #[.int .i64 x] w fun e w' => e = .returned (.int .i64 x) ∧ w = w' := by
  go_enter Try.func24, Try.ntmps24
  go_wp2_with (fail)
  go_ret
  exact ⟨rfl, rfl⟩
def sB (l : List UInt8) : ByteArray := ⟨l.toArray⟩
/-- The inodes of whole, with the places of its entries. -/
def wholeI (e1 e2 : Nat) : Array Value := #[.int .i64 1, .bool true, .slice (some ⟨e1, 0, none⟩) 3 3, .string ⟨#[]⟩, .int .i64 2, .bool true, .slice (some ⟨e2, 0, none⟩) 1 1, .string ⟨#[]⟩, .int .i64 3, .bool false, .slice none 0 0, .string ⟨#[116, 104, 114, 101, 101]⟩, .int .i64 10, .bool false, .slice none 0 0, .string ⟨#[]⟩, .int .i64 11, .bool false, .slice none 0 0, .string ⟨#[111, 112, 101, 110]⟩]
def wholeE1 : Array Value := #[.string ⟨#[100]⟩, .int .i64 2, .string ⟨#[102]⟩, .int .i64 3, .string ⟨#[103]⟩, .int .i64 3]
def wholeE2 : Array Value := #[.string ⟨#[104]⟩, .int .i64 10]
structure Whole (w w' : World) (g go gm e1 e2 : Nat) (I E1 E2 O M : Array Value) : Prop where
  bel : Below w.heap.size w w'
  hg : w.heap.size ≤ g
  hgo : w.heap.size ≤ go
  hgm : w.heap.size ≤ gm
  he1 : w.heap.size ≤ e1
  he2 : w.heap.size ≤ e2
  ne : e1 ≠ e2
  ino : Blk w' g 56 I
  ent1 : Blk w' e1 58 E1
  ent2 : Blk w' e2 58 E2
  opn : Blk w' go 60 O
  mad : Blk w' gm 3 M
set_option maxRecDepth 1000000 in
theorem whole_calls (w : World) : Calls Try.prog 28 #[] w fun e w' => ∃ g go gm e1 e2, e = .returned (.agg #[.slice (some ⟨g, 0, none⟩) 5 5, .slice (some ⟨go, 0, none⟩) 1 1, .slice (some ⟨gm, 0, none⟩) 2 2]) ∧ Whole w w' g go gm e1 e2 (wholeI e1 e2) wholeE1 wholeE2 #[.int .i64 1, .int .i64 2, .int .i64 11] #[.int .i64 3, .int .i64 2] := by
  go_enter Try.func28, Try.ntmps28
  go_wp2_with (fail)
  refine bodyPost_ret (v := .agg #[.slice (some ⟨w.heap.size + 1 + 1 + 1 + 1 + 1, 0, none⟩) 5 5, .slice (some ⟨w.heap.size + 1 + 1, 0, none⟩) 1 1, .slice (some ⟨w.heap.size + 1, 0, none⟩) 2 2]) (by simp [results, Try.results28, go_sem]) rfl ⟨_, _, _, w.heap.size + 1 + 1 + 1, w.heap.size + 1 + 1 + 1 + 1, rfl, ?_⟩
  exact ⟨((((((Below.refl _ _).alloc (Nat.le_refl _) _).alloc (by simp) _).alloc (by simp; omega) _).alloc (by simp; omega) _).alloc (by simp; omega) _).alloc (by simp; omega) _, by omega, by omega, by omega, by omega, by omega, by omega,
    Blk.newAt _ _ _ (by simp), ((Blk.newAt _ _ _ (by simp)).alloc _).alloc _, (Blk.newAt _ _ _ (by simp)).alloc _, (((Blk.newAt _ _ _ (by simp)).alloc _).alloc _).alloc _, ((((Blk.newAt _ _ _ (by simp)).alloc _).alloc _).alloc _).alloc _⟩
end Go.Proofs.Ytenlffhoinialaa
