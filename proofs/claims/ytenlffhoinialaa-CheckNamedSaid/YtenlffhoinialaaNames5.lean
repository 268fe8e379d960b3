
/- Names: the document's own hash and bucket; the package's bucket. -/
import Derived.Test.YtenlffhoinialaaNames4
namespace Go.Proofs.Ytenlffhoinialaa
open Go.RowKit

theorem rn1_fst (s : ByteArray) (i : Nat) : (rn1 s i).1 = ((Utf8.decode s i).1 : Int) := by
  unfold rn1 fixp
  split
  · rename_i h; rw [h]; rfl
  · rfl
theorem rn1_snd (s : ByteArray) (i : Nat) : ((rn1 s i).2 = 0 ∧ (Utf8.decode s i).2 = 1) ∨ (rn1 s i).2 = ((Utf8.decode s i).2 : Int) := by
  unfold rn1 fixp
  split
  · rename_i h; rw [h]; exact .inl ⟨rfl, rfl⟩
  · exact .inr rfl
theorem rn1_max (s : ByteArray) (i : Nat) (hi : i < s.size) : (if (rn1 s i).2 < 1 then 1 else (rn1 s i).2) = ((Utf8.decode s i).2 : Int) := by
  have h1 := Lib.decode_width_pos s i hi
  rcases rn1_snd s i with ⟨h, h2⟩ | h
  · rw [h, h2]; rfl
  · rw [h, if_neg (by omega)]
theorem decode_snd_le (s : ByteArray) (i : Nat) (hi : i < s.size) : (Utf8.decode s i).2 ≤ s.size - i := by
  rw [Lib.decode_at]
  unfold Lib.decodeN
  repeat' split
  all_goals simp only
  all_goals omega

theorem hash_step (acc r : Nat) (ha : acc < 4294967296) (hr : r ≤ 1114111) : ((31 * (acc : Int) + (r : Int)).tmod 4294967296) = (((31 * acc + r) % 4294967296 : Nat) : Int) := by
  rw [Int.tmod_eq_emod_of_nonneg (by omega)]
  omega
set_option maxRecDepth 1000000 in
theorem rhash_calls (s : ByteArray) (hs : s.size ≤ 1000000000000000000) (w : World) :
    Calls Try.prog 114 #[.string s] w fun e w' => e = .returned (.int .i64 (nhash s : Nat)) ∧ ∃ d, w' = w.drewN d := by
  go_enter Try.func114, Try.ntmps114
  go_wp2
  go_loopw [3, 4] (fun n i wr => ∃ (pos b acc d : Nat), wr = w.drewN d ∧ n = .int .i64 acc ∧ i = .int .i64 pos ∧ hashFrom s b pos acc = nhash s ∧ s.size ≤ pos + b ∧ pos ≤ s.size ∧ acc < 4294967296) (fun _ i _ => s.size - (intOf i).toNat)
  case atStart => exact ⟨0, s.size, 7, 0, rfl, rfl, rfl, rfl, by omega, by omega, by omega⟩
  case round =>
    obtain ⟨pos, b, acc, d, rfl, rfl, rfl, hc, hb, hps, hacc⟩ := hrel
    by_cases hp : pos < s.size
    · have hp1 : (pos : Int) < (s.size : Int) := by omega
      have HC := Lib.hid hc
      clear hc
      go_wp2_with (fail)
      refine (rune1_calls s pos hp hs _).mono ?_
      rintro e w' ⟨rfl, d1, rfl⟩
      have hr := decode_le s pos
      have hm := rn1_max s pos hp
      have hw1 := Lib.decode_width_pos s pos hp
      have hw2 := decode_snd_le s pos hp
      rw [rn1_fst]
      have ew : IntKind.i64.wrap (31 * (acc : Int) + ((Utf8.decode s pos).1 : Int)) = 31 * (acc : Int) + ((Utf8.decode s pos).1 : Int) := IntWalk.i64_in _ (by omega)
      have HM := Lib.hid hm
      clear hm
      go_wp2_with (fail)
      have e5 : wrap64 ((pos : Int) + if (rn1 s pos).2 < 1 then 1 else (rn1 s pos).2) = ((pos + (Utf8.decode s pos).2 : Nat) : Int) := by
        rw [HM.out, IntWalk.wrap64_in _ (by omega)]
        omega
      have e6 : (31 * (acc : Int) + ((Utf8.decode s pos).1 : Int)) % 4294967296 = (((31 * acc + (Utf8.decode s pos).1) % 4294967296 : Nat) : Int) := by omega
      rw [e5, e6]
      have HC2 := Lib.hid (show ∀ b', b = b' + 1 → hashFrom s b' (pos + (Utf8.decode s pos).2) ((31 * acc + (Utf8.decode s pos).1) % 4294967296) = nhash s from fun b' hb' => by
        rw [← HC.out, hb']
        simp only [hashFrom, hp, if_true])
      clear HC HM e5 e6
      generalize hq : pos + (Utf8.decode s pos).2 = q at *
      have hlt := Nat.mod_lt (31 * acc + (Utf8.decode s pos).1) (show 0 < 4294967296 by omega)
      generalize (31 * acc + (Utf8.decode s pos).1) % 4294967296 = acc2 at *
      clear ew
      obtain ⟨b', rfl⟩ : ∃ b', b = b' + 1 := ⟨b - 1, by omega⟩
      go_roundw
      case rel => exact ⟨q, b', acc2, _, rfl, rfl, rfl, HC2.out b' rfl, by omega, by omega, by omega⟩
      case measure =>
        simp only [intOf]
        omega
    · have hp1 : ¬ (pos : Int) < (s.size : Int) := by omega
      rw [hashFrom_end s b pos acc hp] at hc
      subst hc
      go_wp2_with (fail)
      go_ret
      exact ⟨rfl, _, rfl⟩
end Go.Proofs.Ytenlffhoinialaa
