
/- dir.New: the words are wiped. -/
import Derived.Test.YtkbajjpdngfhbaaDirMove
namespace Go.Proofs.Ytkbajjpdngfhbaa
open Go.RowKit
set_option maxHeartbeats 1000000
section
variable {L : Nat → Prop} {w : World} {a d : Nat} {ws : List Int} {n m : Nat} {P : List (List Acc) → Prop} {f : Int} {T : Nat → Nat → Option Ent}
theorem Tab.empty {ws : List Int} {f : Int} (h0 : 0 ≤ f) (hl : f + 104 ≤ ws.length) (hz : ∀ i, f ≤ i → i < f + 104 → rd ws i = 0) : Tab ws f (fun _ _ => none) :=
  ⟨⟨h0, hl⟩, fun b k hb hk => hz _ (by omega) (by omega), fun b k hb hk => hz _ (by omega) (by omega), fun b k hb hk => hz _ (by omega) (by omega), fun b k e hb hk h => (by cases h), fun b k k' e e' hb hk hk' h => (by cases h)⟩
set_option maxRecDepth 1000000 in
theorem New_ok (hA : ArP L w a ws n m P) (k : Int) (hf : 0 ≤ f) (hk : 512 ≤ k) (hl : f + k ≤ ws.length) :
    Calls Try.prog 28 #[.pointer (some ⟨a, 0, none⟩), .int .i64 f, .int .i64 k] w fun e w' => ∃ ws', e = .returned (.tuple #[.pointer (some ⟨w'.heap.size - 1, 0, none⟩), .int .i64 0]) ∧ ws'.length = ws.length ∧ Tab ws' f (fun _ _ => none) ∧ w.heap.size ≤ w'.heap.size - 1 ∧ DAt (ins L (w'.heap.size - 1)) w' (w'.heap.size - 1) a f ∧ ArP (ins L (w'.heap.size - 1)) w' a ws' n m P ∧ Keeps L w w' := by
  have HF := Lib.hid (fits_yes_p hA f k hf (by omega) hl)
  have hf1 : ¬ f < 0 := by omega
  have hk1 : ¬ k < 512 := by omega
  have hwl := hA.wsl
  have HA := Lib.hid hA
  clear hA
  go_enter Try.func28, Try.ntmps28
  go_wp2_with (go_at_call 47; refine HF.out.mono ?_; rintro e w' ⟨rfl, rfl⟩)
  go_loopw [26] (fun i wr => ∃ (j : Nat) (ws1 : List Int), i = .int .i64 j ∧ j ≤ 104 ∧ ws1.length = ws.length ∧ (∀ i, f ≤ i → i < f + (j : Int) → rd ws1 i = 0) ∧ ArP L wr a ws1 n m P ∧ Keeps L w wr) (fun i _ => 104 - (intOf i).toNat)
  case atStart => exact ⟨0, ws, rfl, by omega, rfl, fun i h1 h2 => absurd h2 (by omega), HA.out, Keeps.refl _ _⟩
  case round =>
    obtain ⟨j, ws1, rfl, hj, hl1, hz, hAr, hKr⟩ := hrel
    by_cases hp : j < 104
    · have h1 : (j : Int) < 104 := by omega
      have ej : IntKind.i64.wrap (f + (j : Int)) = f + (j : Int) := IntWalk.i64_in _ (by omega)
      have HZ := Lib.hid hz
      have HK := Lib.hid hKr
      have HP := Lib.hid (poke_p hAr (i := f + (j : Int)) (v := 0) ⟨by omega, by omega⟩ rfl)
      clear hz hKr hAr
      go_wp2_with (go_at_call 48; refine HP.out.mono ?_; rintro e w2 ⟨rfl, hA2, hK2⟩)
      go_roundw
      case rel =>
        refine ⟨j + 1, _, by first | rfl | (congr 1; omega), by omega, (wr_length _ _ _).trans hl1, ?_, hA2, HK.out.trans hK2⟩
        intro i h1 h2
        rw [rd_wr ⟨by omega, by omega⟩ (by omega)]
        by_cases e : i = f + (j : Int)
        · rw [if_pos e]
        · rw [if_neg e]
          exact HZ.out i h1 (by omega)
      case measure =>
        simp only [intOf]
        omega
    · have e : j = 104 := by omega
      subst e
      have HT := Lib.hid (Tab.empty (ws := ws1) hf (by omega) (fun i h1 h2 => hz i h1 (by omega)))
      have HK := Lib.hid hKr
      clear hz hKr
      go_wp2_with (fail)
      go_ret2
      have hbd := hAr.bd
      have hs : ∀ o, (wr.alloc o).heap.size - 1 = wr.heap.size := fun o => by simp
      refine ⟨ws1, ?_, hl1, HT.out, ?_, ?_, ?_, HK.out.alloc hbd _⟩
      · rw [hs]; rfl
      · rw [hs]; exact HK.out.size
      · rw [hs]; exact ⟨.inr rfl, Blk.new _ _ _, by omega, by omega⟩
      · rw [hs]; exact hAr.allocIns _
end
end Go.Proofs.Ytkbajjpdngfhbaa
