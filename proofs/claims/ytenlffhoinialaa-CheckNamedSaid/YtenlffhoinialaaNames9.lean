
/- Names: the package's Check tells what the document's own Check tells. -/
import Derived.Test.YtenlffhoinialaaNames8
import Derived.Test.YtenlffhoinialaaNamesP2
namespace Go.Proofs.Ytenlffhoinialaa
open Go.RowKit

set_option maxHeartbeats 1000000 in
set_option maxRecDepth 1000000 in
theorem check_calls (s : ByteArray) (w : World) :
    Calls Try.prog 100 #[.string s] w fun e w' => e = .returned (.int .i64 (ncheck s)) ∧ Below w.heap.size w w' := by
  go_enter Try.func100, Try.ntmps100
  by_cases h1 : 12 < s.size
  · have h2 : (12 : Int) < (s.size : Int) := by omega
    have H := Lib.hid (show ncheck s = 801 by unfold ncheck; rw [if_pos h1])
    go_wp2_with (fail)
    go_ret
    exact ⟨by rw [H.out]; rfl, Below.refl _ _⟩
  · have h2 : ¬ (12 : Int) < (s.size : Int) := by omega
    by_cases hf : (s.toList.isEmpty || s.toList == [46] || s.toList == [46, 46]) = true
    · have H := Lib.hid (show ncheck s = 800 by unfold ncheck; rw [if_neg h1, if_pos hf])
      have hx : s.toList.isEmpty = true ∨ (s.toList.isEmpty = false ∧ (s.toList == [46]) = true) ∨ (s.toList.isEmpty = false ∧ (s.toList == [46]) = false ∧ (s.toList == [46, 46]) = true) := by
        revert hf
        cases s.toList.isEmpty <;> cases (s.toList == [46]) <;> cases (s.toList == [46, 46]) <;> simp
      clear hf
      rcases hx with hx | ⟨hx, hy⟩ | ⟨hx, hy, hz⟩
      all_goals (
        go_wp2_with (fail)
        go_ret
        exact ⟨by rw [H.out]; rfl, Below.refl _ _⟩)
    · have HN := Lib.hid (show ncheck s = if okFrom s s.size 0 = true then 0 else 800 by unfold ncheck; rw [if_neg h1, if_neg hf])
      have hx : s.toList.isEmpty = false ∧ (s.toList == [46]) = false ∧ (s.toList == [46, 46]) = false := by
        revert hf
        cases s.toList.isEmpty <;> cases (s.toList == [46]) <;> cases (s.toList == [46, 46]) <;> simp
      obtain ⟨hx, hy, hz⟩ := hx
      clear hf
      go_wp2_with (fail)
      go_loopw [] (fun wr => ∃ (pos b : Nat), wr = w.iter s pos ∧ okFrom s b pos = okFrom s s.size 0 ∧ s.size ≤ pos + b) (fun w' => s.size - w'.iterPos w.heap.size)
      case atStart => exact ⟨0, s.size, rfl, rfl, by omega⟩
      case round =>
        obtain ⟨pos, b, rfl, hc, hb⟩ := hrel
        by_cases hp : pos < s.size
        · have hnx : ∀ ty, (Instr.next (.pointer (some ⟨w.heap.size, 0, none⟩)) true ty).run Try.prog (w.iter s pos) = _ := fun ty => run_next_any w s pos ty hp
          obtain ⟨b', rfl⟩ : ∃ b', b = b' + 1 := ⟨b - 1, by omega⟩
          have hp1 : (pos : Int) ≤ (s.size : Int) := by omega
          have hwd := Lib.decode_width_pos s pos hp
          have HC := Lib.hid hc
          have HO := Lib.hid (show okFrom s (b' + 1) pos = (runeOk (Utf8.decode s pos) && okFrom s b' (pos + (Utf8.decode s pos).2)) by simp only [okFrom, hp, if_true])
          have HF := Lib.hid (show runeOk (Utf8.decode s pos) = false → ncheck s = 800 from fun h => by rw [HN.out, ← HC.out, HO.out, h]; rfl)
          have HK := Lib.hid (show runeOk (Utf8.decode s pos) = true → okFrom s b' (pos + (Utf8.decode s pos).2) = okFrom s s.size 0 from fun h => by rw [← HC.out, HO.out, h, Bool.true_and])
          have HV := Lib.hid (decode_valid s pos)
          clear hc HC HO HN
          have hr : (Utf8.decode s pos).1 = 47 ∨ ((Utf8.decode s pos).1 ≠ 47 ∧ (Utf8.decode s pos).1 < 32) ∨ (Utf8.decode s pos).1 = 127 ∨ ((Utf8.decode s pos).1 ≠ 47 ∧ ¬ (Utf8.decode s pos).1 < 32 ∧ (Utf8.decode s pos).1 ≠ 127) := by omega
          rcases hr with hr | ⟨hr, hr2⟩ | hr | ⟨hr, hr2, hr3⟩
          · have H := Lib.hid (HF.out (by unfold runeOk; rw [hr]; rfl))
            have k1 : (((Utf8.decode s pos).1 : Int) == 47) = true := by rw [hr]; rfl
            clear HF HK hr
            go_wp2_with (fail)
            go_ret
            exact ⟨by rw [H.out]; rfl, below_iter _ _ _⟩
          · have H := Lib.hid (HF.out (by unfold runeOk; simp [hr2]))
            have k1 : (((Utf8.decode s pos).1 : Int) == 47) = false := by simp; omega
            have k2 : ((Utf8.decode s pos).1 : Int) < 32 := by omega
            clear HF HK hr hr2
            go_wp2_with (fail)
            go_ret
            exact ⟨by rw [H.out]; rfl, below_iter _ _ _⟩
          · have H := Lib.hid (HF.out (by unfold runeOk; rw [hr]; rfl))
            have k1 : (((Utf8.decode s pos).1 : Int) == 47) = false := by rw [hr]; rfl
            have k2 : ¬ ((Utf8.decode s pos).1 : Int) < 32 := by omega
            have k3 : (((Utf8.decode s pos).1 : Int) == 127) = true := by rw [hr]; rfl
            clear HF HK hr
            go_wp2_with (fail)
            go_ret
            exact ⟨by rw [H.out]; rfl, below_iter _ _ _⟩
          · have k1 : (((Utf8.decode s pos).1 : Int) == 47) = false := by simp; omega
            have k2 : ¬ ((Utf8.decode s pos).1 : Int) < 32 := by omega
            have k3 : (((Utf8.decode s pos).1 : Int) == 127) = false := by simp; omega
            have HR := Lib.hid (show runeOk (Utf8.decode s pos) = !(Utf8.decode s pos == (65533, 1)) by unfold runeOk; simp [hr, hr2, hr3])
            by_cases h5 : (Utf8.decode s pos).1 = 65533
            · have k4 : ((Utf8.encode ((Utf8.decode s pos).1 : Int)).toList == [239, 191, 189]) = true := beq_iff_eq.2 ((enc_ff _ HV.out).2 h5)
              have HPF := Lib.hid (prefix_ff s pos hp h5)
              clear hr hr2 hr3 h5
              go_wp2_with (fail)
              refine (prefix_calls _ _ _).mono ?_
              rintro e w' ⟨rfl, rfl⟩
              rw [HPF.out, ← HR.out]
              by_cases hq : runeOk (Utf8.decode s pos) = true
              · have H := Lib.hid (HK.out hq)
                rw [hq]
                clear HF HK HR HPF hq
                go_wp2_with (fail)
                go_roundw
                case rel => exact ⟨_, b', rfl, H.out, by omega⟩
                case measure =>
                  simp
                  omega
              · have hq := Bool.eq_false_iff.2 hq
                have H := Lib.hid (HF.out hq)
                rw [hq]
                clear HF HK HR HPF hq
                go_wp2_with (fail)
                go_ret
                exact ⟨by rw [H.out]; rfl, below_iter _ _ _⟩
            · have k4 : ((Utf8.encode ((Utf8.decode s pos).1 : Int)).toList == [239, 191, 189]) = false := by
                rw [beq_eq_false_iff_ne]
                exact fun h => h5 ((enc_ff _ HV.out).1 h)
              have hq : runeOk (Utf8.decode s pos) = true := by
                rw [HR.out, show (Utf8.decode s pos == (65533, 1)) = false by rw [beq_eq_false_iff_ne]; exact fun h => h5 (by rw [h])]
                rfl
              have H := Lib.hid (HK.out hq)
              clear HF HK HR hq hr hr2 hr3 h5
              go_wp2_with (fail)
              go_roundw
              case rel => exact ⟨_, b', rfl, H.out, by omega⟩
              case measure =>
                simp
                omega
        · have hnx : ∀ ty, (Instr.next (.pointer (some ⟨w.heap.size, 0, none⟩)) true ty).run Try.prog (w.iter s pos) = _ := fun ty => run_next_end w s pos ty hp
          have H := Lib.hid (show ncheck s = 0 by rw [HN.out, ← hc, okFrom_end s b pos hp, if_pos rfl])
          clear hc HN
          go_wp2_with (fail)
          go_ret
          exact ⟨by rw [H.out]; rfl, below_iter _ _ _⟩
end Go.Proofs.Ytenlffhoinialaa
