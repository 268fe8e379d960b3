/- Names: what name.Hash, name.Bucket and the document's own Hash, Bucket compute: the same, at every string. Names: the document's own rune: 'next' and 'rune1' tell what the model's range over a string tells. Names: the document's own rune. Names: the walk of the document's own rune. Names: the document's own hash and bucket; the package's bucket. Names: the buckets. Names: the document's own Check. Names: strings.HasPrefix. Names: plain facts on the bytes of U+FFFD: no program. Names: the prefix test at a place: no program. Names: the package's Check tells what the document's own Check tells. Names: May. -/
import Derived.Test.YtenlffhoinialaaMBase
import Derived.Test.YtenlffhoinialaaProg
import Derived.Laws.RangeAny
import Derived.Laws.RangeString
import Derived.Lib.RuneCount
import Derived.Lib.DecodeN
import Derived.Laws.Strings
import Derived.Laws.Strings2
import Derived.Laws.Strings3
section
namespace Go.Proofs.Ytenlffhoinialaa
open Go.RowKit

/-- The hash, rune by rune. -/
def hashFrom (s : ByteArray) : Nat → Nat → Nat → Nat
  | 0, _, acc => acc
  | b + 1, pos, acc => if pos < s.size then hashFrom s b (pos + (Utf8.decode s pos).2) ((31 * acc + (Utf8.decode s pos).1) % 4294967296) else acc
def nhash (s : ByteArray) : Nat := hashFrom s s.size 0 7
theorem hashFrom_end (s : ByteArray) (b pos acc : Nat) (h : ¬ pos < s.size) : hashFrom s b pos acc = acc := by
  cases b with
  | zero => rfl
  | succ b => simp [hashFrom, h]
theorem hashFrom_lt (s : ByteArray) : ∀ b pos acc : Nat, acc < 4294967296 → hashFrom s b pos acc < 4294967296
  | 0, _, acc, h => h
  | b + 1, pos, acc, h => by
    unfold hashFrom
    split
    · exact hashFrom_lt s b _ _ (Nat.mod_lt _ (by omega))
    · exact h
theorem nhash_lt (s : ByteArray) : nhash s < 4294967296 := hashFrom_lt s _ _ _ (by omega)
theorem decode_le (s : ByteArray) (i : Nat) : (Utf8.decode s i).1 ≤ 1114111 := by
  rw [Lib.decode_at]
  have h0 := (s.get! i).toNat_lt
  unfold Lib.decodeN
  repeat' split
  all_goals simp only
  all_goals omega
theorem below_iter (w : World) (s : ByteArray) (pos : Nat) : Below w.heap.size w (w.iter s pos) := (Below.refl _ w).alloc (Nat.le_refl _) _

set_option maxRecDepth 1000000 in
theorem hash_calls (s : ByteArray) (w : World) :
    Calls Try.prog 101 #[.string s] w fun e w' => e = .returned (.int .i64 (nhash s : Nat)) ∧ Below w.heap.size w w' := by
  go_enter Try.func101, Try.ntmps101
  go_wp2
  go_loopw [3] (fun n w' => ∃ (pos b : Nat) (acc : Nat), w' = w.iter s pos ∧ n = .int .u32 acc ∧ hashFrom s b pos acc = nhash s ∧ s.size ≤ pos + b ∧ acc < 4294967296) (fun _ w' => s.size - w'.iterPos w.heap.size)
  case atStart => exact ⟨0, s.size, 7, rfl, rfl, rfl, by omega, by omega⟩
  case round =>
    obtain ⟨pos, b, acc, rfl, rfl, hc, hb, hacc⟩ := hrel
    by_cases hp : pos < s.size
    · have hnx : ∀ ty, (Instr.next (.pointer (some ⟨w.heap.size, 0, none⟩)) true ty).run Try.prog (w.iter s pos) = _ := fun ty => run_next_any w s pos ty hp
      go_wp2
      have hwd := Lib.decode_width_pos s pos hp
      go_roundw
      case rel =>
        cases b with
        | zero => omega
        | succ b =>
          have hr := decode_le s pos
          refine ⟨pos + (Utf8.decode s pos).2, b, (31 * acc + (Utf8.decode s pos).1) % 4294967296, rfl, ?_, ?_, by omega, Nat.mod_lt _ (by omega)⟩
          · go_num
          · rw [← hc]
            simp [hashFrom, hp]
      case measure =>
        simp
        omega
    · have hnx : ∀ ty, (Instr.next (.pointer (some ⟨w.heap.size, 0, none⟩)) true ty).run Try.prog (w.iter s pos) = _ := fun ty => run_next_end w s pos ty hp
      go_wp2
      go_ret
      rw [hashFrom_end s b pos acc hp] at hc
      subst hc
      refine ⟨?_, below_iter _ _ _⟩
      go_num
end Go.Proofs.Ytenlffhoinialaa
end

section
namespace Go.Proofs.Ytenlffhoinialaa
open Go.RowKit

/-- A byte that goes on; -1: none. -/
def nx (s : ByteArray) (i : Nat) : Int := if i < s.size ∧ 128 ≤ (s.get! i).toNat ∧ (s.get! i).toNat ≤ 191 then ((s.get! i).toNat : Int) - 128 else -1
theorem get_at (s : ByteArray) (i : Nat) (h : i < s.size) : s.get! i = s[i]'h := by
  simp [ByteArray.get!, getElem!_pos, h]
  rfl

set_option maxRecDepth 1000000 in
theorem next_calls (s : ByteArray) (i : Nat) (hi : i ≤ 9223372036854775807) (w : World) :
    Calls Try.prog 135 #[.string s, .int .i64 i] w fun e w' => e = .returned (.int .i64 (nx s i)) ∧ ∃ d, w' = w.drewN d := by
  go_enter Try.func135, Try.ntmps135
  by_cases hp : i < s.size
  · have h1 : (i : Int) < (s.size : Int) := by omega
    have h0 : (0 : Int) ≤ (i : Int) := by omega
    have hg := Lib.hid (get_at s i hp)
    have hl := (s[i]'hp).toNat_lt
    have hx : (((s[i]'hp).toNat : Int) < 128) ∨ (¬ ((s[i]'hp).toNat : Int) < 128 ∧ 191 < ((s[i]'hp).toNat : Int)) ∨ (¬ ((s[i]'hp).toNat : Int) < 128 ∧ ¬ 191 < ((s[i]'hp).toNat : Int)) := by omega
    have hn : (((s[i]'hp).toNat : Int) < 128 ∨ 191 < ((s[i]'hp).toNat : Int)) → nx s i = -1 := fun h => by unfold nx; rw [hg.out, if_neg (by omega)]
    have hn2 : ¬ ((s[i]'hp).toNat : Int) < 128 → ¬ 191 < ((s[i]'hp).toNat : Int) → nx s i = ((s[i]'hp).toNat : Int) - 128 := fun h h' => by unfold nx; rw [hg.out, if_pos (by omega)]
    have HN := Lib.hid hn
    have HN2 := Lib.hid hn2
    clear hn hn2
    rcases hx with hx | ⟨hx, hy⟩ | ⟨hx, hy⟩
    · have H := Lib.hid (HN.out (.inl hx))
      go_wp2
      go_ret
      exact ⟨by rw [H.out]; rfl, 0, rfl⟩
    · have H := Lib.hid (HN.out (.inr hy))
      go_wp2
      go_ret
      exact ⟨by rw [H.out]; rfl, 0, rfl⟩
    · have H := Lib.hid (HN2.out hx hy)
      go_wp2
      go_ret
      exact ⟨by rw [H.out]; rfl, 0, rfl⟩
  · have h1 : (s.size : Int) ≤ (i : Int) := by omega
    have h2 : s.size ≤ i := by omega
    have H := Lib.hid (show nx s i = -1 by unfold nx; rw [if_neg (by omega)])
    go_wp2
    go_ret
    exact ⟨by rw [H.out]; rfl, 0, rfl⟩
end Go.Proofs.Ytenlffhoinialaa
end

section
namespace Go.Proofs.Ytenlffhoinialaa
open Go.RowKit

def r3 (c a b : Int) : Int := (c - 224) * 4096 + a * 64 + b
def r4 (c a b d : Int) : Int := (c - 240) * 262144 + a * 4096 + b * 64 + d
/-- The document's rune by four bytes: -1 is a byte that does not go on. -/
def r1 (c a b d : Int) : Int × Int :=
  if c < 128 then (c, 1)
  else if 194 ≤ c ∧ c ≤ 223 ∧ 0 ≤ a then ((c - 192) * 64 + a, 2)
  else if 224 ≤ c ∧ c ≤ 239 ∧ 0 ≤ a ∧ 0 ≤ b then (if 2048 ≤ r3 c a b ∧ (r3 c a b < 55296 ∨ 57343 < r3 c a b) then (r3 c a b, 3) else (65533, 0))
  else if 240 ≤ c ∧ c ≤ 244 ∧ 0 ≤ a ∧ 0 ≤ b ∧ 0 ≤ d then (if 65536 ≤ r4 c a b d ∧ r4 c a b d ≤ 1114111 then (r4 c a b d, 4) else (65533, 0))
  else (65533, 0)
/-- What the model's range tells, the width of a byte that is no rune turned to 0. -/
def fixp (p : Nat × Nat) : Int × Int := if p = (65533, 1) then (65533, 0) else (p.1, p.2)
def rn1 (s : ByteArray) (i : Nat) : Int × Int := fixp (Utf8.decode s i)
theorem fixp_bad : fixp (65533, 1) = (65533, 0) := by simp [fixp]
theorem fixp_one (b : Nat) (h : b < 128) : fixp (b, 1) = ((b : Int), 1) := by
  unfold fixp
  rw [if_neg (by intro h; injection h; omega)]
  rfl
theorem fixp_more (r k : Nat) (h : k ≠ 1) : fixp (r, k) = ((r : Int), (k : Int)) := by
  unfold fixp
  rw [if_neg (by intro h; injection h; omega)]
theorem nx_le (s : ByteArray) (i : Nat) : -1 ≤ nx s i ∧ nx s i ≤ 63 := by
  unfold nx
  split <;> omega
theorem nx_cases (s : ByteArray) (i k : Nat) : (k < s.size - i ∧ (s.get! (i + k)).toNat / 64 = 2 ∧ nx s (i + k) = ((s.get! (i + k)).toNat % 64 : Nat)) ∨ (¬ (k < s.size - i ∧ (s.get! (i + k)).toNat / 64 = 2) ∧ nx s (i + k) = -1) := by
  have hb := (s.get! (i + k)).toNat_lt
  unfold nx
  split <;> omega
/-- THE PLAIN LAW: both tell the same rune. -/
theorem r1_plain (n b0 b1 b2 b3 : Nat) (x1 x2 x3 : Int) (h0 : b0 < 256) (hn : 1 ≤ n)
    (k1 : (1 < n ∧ b1 / 64 = 2 ∧ x1 = (b1 % 64 : Nat)) ∨ (¬ (1 < n ∧ b1 / 64 = 2) ∧ x1 = -1))
    (k2 : (2 < n ∧ b2 / 64 = 2 ∧ x2 = (b2 % 64 : Nat)) ∨ (¬ (2 < n ∧ b2 / 64 = 2) ∧ x2 = -1))
    (k3 : (3 < n ∧ b3 / 64 = 2 ∧ x3 = (b3 % 64 : Nat)) ∨ (¬ (3 < n ∧ b3 / 64 = 2) ∧ x3 = -1)) :
    r1 b0 x1 x2 x3 = fixp (Lib.decodeN n b0 b1 b2 b3) := by
  have hc : b0 < 128 ∨ (128 ≤ b0 ∧ b0 ≤ 193) ∨ (194 ≤ b0 ∧ b0 ≤ 223) ∨ (224 ≤ b0 ∧ b0 ≤ 239) ∨ (240 ≤ b0 ∧ b0 ≤ 244) ∨ 245 ≤ b0 := by omega
  rcases hc with hc | hc | hc | hc | hc | hc
  · unfold r1 Lib.decodeN
    rw [if_pos (by omega), if_pos hc, fixp_one _ hc]
  · unfold r1 Lib.decodeN
    rw [if_neg (by omega), if_neg (by omega), if_neg (by omega), if_neg (by omega), if_neg (by omega)]
    clear k1 k2 k3
    by_cases h : b0 / 32 = 6 ∧ (1 < n ∧ b1 / 64 = 2)
    · rw [if_pos h, if_neg (by omega), fixp_bad]
    · rw [if_neg h, if_neg (by omega), if_neg (by omega), fixp_bad]
  · unfold r1 Lib.decodeN
    clear k2 k3
    rw [if_neg (by omega), if_neg (show ¬ b0 < 128 by omega)]
    rcases k1 with ⟨u1, u2, rfl⟩ | ⟨u1, rfl⟩
    · rw [if_pos (by omega), if_pos (by omega), if_pos (by omega), fixp_more _ _ (by omega)]
      refine Prod.ext ?_ ?_ <;> simp only <;> omega
    · rw [if_neg (by omega), if_neg (by omega), if_neg (by omega), if_neg (by omega), if_neg (by omega), if_neg (by omega), fixp_bad]
  · unfold r1 Lib.decodeN
    clear k3
    rw [if_neg (by omega), if_neg (by omega), if_neg (show ¬ b0 < 128 by omega), if_neg (show ¬ (b0 / 32 = 6 ∧ _) by omega)]
    by_cases h : (1 < n ∧ b1 / 64 = 2) ∧ (2 < n ∧ b2 / 64 = 2)
    · have e1 : x1 = (b1 % 64 : Nat) := by omega
      have e2 : x2 = (b2 % 64 : Nat) := by omega
      clear k1 k2
      subst e1 e2
      rw [if_pos (by omega), if_pos (show b0 / 16 = 14 ∧ (1 < n ∧ b1 / 64 = 2) ∧ (2 < n ∧ b2 / 64 = 2) from ⟨by omega, h⟩)]
      unfold r3
      by_cases h2 : b0 % 16 * 4096 + b1 % 64 * 64 + b2 % 64 ≥ 2048 ∧ (b0 % 16 * 4096 + b1 % 64 * 64 + b2 % 64 < 55296 ∨ (57344 ≤ b0 % 16 * 4096 + b1 % 64 * 64 + b2 % 64 ∧ b0 % 16 * 4096 + b1 % 64 * 64 + b2 % 64 ≤ 1114111))
      · rw [if_pos (by omega), if_pos h2, fixp_more _ _ (by omega)]
        refine Prod.ext ?_ ?_ <;> simp only <;> omega
      · rw [if_neg (by omega), if_neg h2, fixp_bad]
    · have e1 : x1 = -1 ∨ x2 = -1 := by omega
      clear k1 k2
      rw [if_neg (by omega), if_neg (by omega), if_neg (fun h' => h h'.2), if_neg (by omega), fixp_bad]
  · unfold r1 Lib.decodeN
    rw [if_neg (by omega), if_neg (by omega), if_neg (by omega), if_neg (show ¬ b0 < 128 by omega), if_neg (show ¬ (b0 / 32 = 6 ∧ _) by omega), if_neg (show ¬ (b0 / 16 = 14 ∧ _) by omega)]
    by_cases h : (1 < n ∧ b1 / 64 = 2) ∧ (2 < n ∧ b2 / 64 = 2) ∧ (3 < n ∧ b3 / 64 = 2)
    · have e1 : x1 = (b1 % 64 : Nat) := by omega
      have e2 : x2 = (b2 % 64 : Nat) := by omega
      have e3 : x3 = (b3 % 64 : Nat) := by omega
      clear k1 k2 k3
      subst e1 e2 e3
      rw [if_pos (by omega), if_pos (show b0 / 8 = 30 ∧ (1 < n ∧ b1 / 64 = 2) ∧ (2 < n ∧ b2 / 64 = 2) ∧ (3 < n ∧ b3 / 64 = 2) from ⟨by omega, h⟩)]
      unfold r4
      by_cases h2 : b0 % 8 * 262144 + b1 % 64 * 4096 + b2 % 64 * 64 + b3 % 64 ≥ 65536 ∧ (b0 % 8 * 262144 + b1 % 64 * 4096 + b2 % 64 * 64 + b3 % 64 < 55296 ∨ (57344 ≤ b0 % 8 * 262144 + b1 % 64 * 4096 + b2 % 64 * 64 + b3 % 64 ∧ b0 % 8 * 262144 + b1 % 64 * 4096 + b2 % 64 * 64 + b3 % 64 ≤ 1114111))
      · rw [if_pos (by omega), if_pos h2, fixp_more _ _ (by omega)]
        refine Prod.ext ?_ ?_ <;> simp only <;> omega
      · rw [if_neg (by omega), if_neg h2, fixp_bad]
    · have e1 : x1 = -1 ∨ x2 = -1 ∨ x3 = -1 := by omega
      clear k1 k2 k3
      rw [if_neg (by omega), if_neg (fun h' => h h'.2), fixp_bad]
  · unfold r1 Lib.decodeN
    clear k1 k2 k3
    rw [if_neg (by omega), if_neg (by omega), if_neg (by omega), if_neg (by omega), if_neg (by omega), if_neg (by omega), if_neg (by omega)]
    by_cases h : b0 / 8 = 30 ∧ (1 < n ∧ b1 / 64 = 2) ∧ (2 < n ∧ b2 / 64 = 2) ∧ (3 < n ∧ b3 / 64 = 2)
    · rw [if_pos h, if_neg (by omega), fixp_bad]
    · rw [if_neg h, fixp_bad]
theorem r1_decode (s : ByteArray) (i : Nat) (hi : i < s.size) : r1 (s.get! i).toNat (nx s (i + 1)) (nx s (i + 2)) (nx s (i + 3)) = rn1 s i := by
  unfold rn1
  rw [Lib.decode_at]
  exact r1_plain _ _ _ _ _ _ _ _ (s.get! i).toNat_lt (by omega) (nx_cases s i 1) (nx_cases s i 2) (nx_cases s i 3)
end Go.Proofs.Ytenlffhoinialaa
end

section
namespace Go.Proofs.Ytenlffhoinialaa
open Go.RowKit

theorem next_at (s : ByteArray) (j : Int) (i : Nat) (hj : j = i) (hi : i ≤ 9223372036854775807) (w : World) :
    Calls Try.prog 135 #[.string s, .int .i64 j] w fun e w' => e = .returned (.int .i64 (nx s i)) ∧ ∃ d, w' = w.drewN d := by
  subst hj
  exact next_calls s i hi w

set_option maxHeartbeats 4000000 in
set_option maxRecDepth 1000000 in
theorem rune1_calls (s : ByteArray) (i : Nat) (hi : i < s.size) (hs : s.size ≤ 1000000000000000000) (w : World) :
    Calls Try.prog 113 #[.string s, .int .i64 i] w fun e w' => e = .returned (.tuple #[.int .i64 (rn1 s i).1, .int .i64 (rn1 s i).2]) ∧ ∃ d, w' = w.drewN d := by
  have hg := r1_decode s i hi
  rw [get_at s i hi] at hg
  have HG := Lib.hid hg
  have hl := (s[i]'hi).toNat_lt
  clear hg
  have h1 : (i : Int) < (s.size : Int) := by omega
  have h0 : (0 : Int) ≤ (i : Int) := by omega
  have w1 : IntKind.i64.wrap ((i : Int) + 1) = (i : Int) + 1 := IntWalk.i64_in _ (by omega)
  have w2 : IntKind.i64.wrap ((i : Int) + 2) = (i : Int) + 2 := IntWalk.i64_in _ (by omega)
  have w3 : IntKind.i64.wrap ((i : Int) + 3) = (i : Int) + 3 := IntWalk.i64_in _ (by omega)
  go_enter Try.func113, Try.ntmps113
  go_wp2_with (fail)
  refine (next_at s _ (i + 1) (by omega) (by omega) _).mono ?_
  rintro e w' ⟨rfl, d1, rfl⟩
  have ha := nx_le s (i + 1)
  generalize nx s (i + 1) = a at *
  go_wp2_with (fail)
  refine (next_at s _ (i + 2) (by omega) (by omega) _).mono ?_
  rintro e w' ⟨rfl, d2, rfl⟩
  have hb := nx_le s (i + 2)
  generalize nx s (i + 2) = b at *
  go_wp2_with (fail)
  refine (next_at s _ (i + 3) (by omega) (by omega) _).mono ?_
  rintro e w' ⟨rfl, d3, rfl⟩
  have hd := nx_le s (i + 3)
  generalize nx s (i + 3) = d at *
  clear w1 w2 w3
  generalize ((s[i]'hi).toNat : Int) = c at *
  have key : ∀ x k : Int, r1 c a b d = (x, k) → rn1 s i = (x, k) := fun x k h => HG.out ▸ h
  have KEY := Lib.hid key
  clear key HG
  by_cases c1 : c < 128
  · have H := Lib.hid (KEY.out c 1 (by unfold r1; rw [if_pos c1]))
    clear KEY
    go_wp2
    go_ret2
    exact ⟨by rw [H.out]; rfl, _, rfl⟩
  have c2 : c < 194 ∨ (194 ≤ c ∧ c ≤ 223) ∨ (224 ≤ c ∧ c ≤ 239) ∨ (240 ≤ c ∧ c ≤ 244) ∨ 245 ≤ c := by omega
  rcases c2 with c2 | ⟨c2, c3⟩ | ⟨c2, c3⟩ | ⟨c2, c3⟩ | c2
  · have H := Lib.hid (KEY.out 65533 0 (by unfold r1; rw [if_neg c1, if_neg (by omega), if_neg (by omega), if_neg (by omega)]))
    clear KEY
    have e1 : ¬ 194 ≤ c := by omega
    have e2 : ¬ 224 ≤ c := by omega
    have e3 : ¬ 240 ≤ c := by omega
    go_wp2
    go_ret2
    exact ⟨by rw [H.out]; rfl, _, rfl⟩
  · have e2 : ¬ 224 ≤ c := by omega
    have e3 : ¬ 240 ≤ c := by omega
    by_cases a0 : 0 ≤ a
    · have H := Lib.hid (KEY.out ((c - 192) * 64 + a) 2 (by unfold r1; rw [if_neg c1, if_pos ⟨c2, c3, a0⟩]))
      have ew : IntKind.i64.wrap ((c - 192) * 64 + a) = (c - 192) * 64 + a := IntWalk.i64_in _ (by omega)
      clear KEY
      go_wp2
      go_ret2
      exact ⟨by rw [H.out]; first | rfl | (go_num), _, rfl⟩
    · have H := Lib.hid (KEY.out 65533 0 (by unfold r1; rw [if_neg c1, if_neg (by omega), if_neg (by omega), if_neg (by omega)]))
      clear KEY
      go_wp2
      go_ret2
      exact ⟨by rw [H.out]; rfl, _, rfl⟩
  · have e1 : ¬ c ≤ 223 := by omega
    have e2 : 194 ≤ c := by omega
    have e3 : ¬ 240 ≤ c := by omega
    have ab : (0 ≤ a ∧ 0 ≤ b) ∨ ¬ 0 ≤ a ∨ (0 ≤ a ∧ ¬ 0 ≤ b) := by omega
    rcases ab with ⟨a0, b0⟩ | a0 | ⟨a0, b0⟩
    · have ew1 : IntKind.i64.wrap ((c - 224) * 4096 + a * 64) = (c - 224) * 4096 + a * 64 := IntWalk.i64_in _ (by omega)
      have ew : IntKind.i64.wrap ((c - 224) * 4096 + a * 64 + b) = (c - 224) * 4096 + a * 64 + b := IntWalk.i64_in _ (by omega)
      have rr : ¬ 2048 ≤ (c - 224) * 4096 + a * 64 + b ∨ (2048 ≤ (c - 224) * 4096 + a * 64 + b ∧ (c - 224) * 4096 + a * 64 + b < 55296) ∨ (2048 ≤ (c - 224) * 4096 + a * 64 + b ∧ ¬ (c - 224) * 4096 + a * 64 + b < 55296 ∧ ¬ 57343 < (c - 224) * 4096 + a * 64 + b) ∨ (2048 ≤ (c - 224) * 4096 + a * 64 + b ∧ ¬ (c - 224) * 4096 + a * 64 + b < 55296 ∧ 57343 < (c - 224) * 4096 + a * 64 + b) := by omega
      have K0 := Lib.hid (show (¬ 2048 ≤ (c - 224) * 4096 + a * 64 + b ∨ (¬ (c - 224) * 4096 + a * 64 + b < 55296 ∧ ¬ 57343 < (c - 224) * 4096 + a * 64 + b)) → rn1 s i = (65533, 0) from fun h => KEY.out _ _ (by unfold r1 r3; rw [if_neg c1, if_neg (by omega), if_pos ⟨c2, c3, a0, b0⟩, if_neg (by omega)]))
      have K1 := Lib.hid (show (2048 ≤ (c - 224) * 4096 + a * 64 + b ∧ ((c - 224) * 4096 + a * 64 + b < 55296 ∨ 57343 < (c - 224) * 4096 + a * 64 + b)) → rn1 s i = ((c - 224) * 4096 + a * 64 + b, 3) from fun h => KEY.out _ _ (by unfold r1 r3; rw [if_neg c1, if_neg (by omega), if_pos ⟨c2, c3, a0, b0⟩, if_pos h]))
      clear KEY
      rcases rr with rr | ⟨r1, r2⟩ | ⟨r1, r2, r3⟩ | ⟨r1, r2, r3⟩
      · have H := Lib.hid (K0.out (.inl rr))
        clear K0 K1
        go_wp2
        go_ret2
        exact ⟨by rw [H.out]; rfl, _, rfl⟩
      · have H := Lib.hid (K1.out ⟨r1, .inl r2⟩)
        clear K0 K1
        go_wp2
        go_ret2
        exact ⟨by rw [H.out]; first | rfl | (go_num), _, rfl⟩
      · have H := Lib.hid (K0.out (.inr ⟨r2, r3⟩))
        clear K0 K1
        go_wp2
        go_ret2
        exact ⟨by rw [H.out]; rfl, _, rfl⟩
      · have H := Lib.hid (K1.out ⟨r1, .inr r3⟩)
        clear K0 K1
        go_wp2
        go_ret2
        exact ⟨by rw [H.out]; first | rfl | (go_num), _, rfl⟩
    all_goals (
      have H := Lib.hid (KEY.out 65533 0 (by unfold r1; rw [if_neg c1, if_neg (by omega), if_neg (by omega), if_neg (by omega)]))
      clear KEY
      go_wp2
      go_ret2
      exact ⟨by rw [H.out]; rfl, _, rfl⟩)
  · have e1 : ¬ c ≤ 223 := by omega
    have e2 : 194 ≤ c := by omega
    have e3 : 224 ≤ c := by omega
    have e4 : ¬ c ≤ 239 := by omega
    have ab : (0 ≤ a ∧ 0 ≤ b ∧ 0 ≤ d) ∨ ¬ 0 ≤ a ∨ (0 ≤ a ∧ ¬ 0 ≤ b) ∨ (0 ≤ a ∧ 0 ≤ b ∧ ¬ 0 ≤ d) := by omega
    rcases ab with ⟨a0, b0, d0⟩ | a0 | ⟨a0, b0⟩ | ⟨a0, b0, d0⟩
    · have ew : IntKind.i64.wrap ((c - 240) * 262144 + a * 4096 + b * 64 + d) = (c - 240) * 262144 + a * 4096 + b * 64 + d := IntWalk.i64_in _ (by omega)
      have rr : ¬ 65536 ≤ (c - 240) * 262144 + a * 4096 + b * 64 + d ∨ (65536 ≤ (c - 240) * 262144 + a * 4096 + b * 64 + d ∧ (c - 240) * 262144 + a * 4096 + b * 64 + d ≤ 1114111) ∨ (65536 ≤ (c - 240) * 262144 + a * 4096 + b * 64 + d ∧ ¬ (c - 240) * 262144 + a * 4096 + b * 64 + d ≤ 1114111) := by omega
      have K0 := Lib.hid (show ¬ (65536 ≤ (c - 240) * 262144 + a * 4096 + b * 64 + d ∧ (c - 240) * 262144 + a * 4096 + b * 64 + d ≤ 1114111) → rn1 s i = (65533, 0) from fun h => KEY.out _ _ (by unfold r1 r4; rw [if_neg c1, if_neg (by omega), if_neg (by omega), if_pos ⟨c2, c3, a0, b0, d0⟩, if_neg h]))
      have K1 := Lib.hid (show (65536 ≤ (c - 240) * 262144 + a * 4096 + b * 64 + d ∧ (c - 240) * 262144 + a * 4096 + b * 64 + d ≤ 1114111) → rn1 s i = ((c - 240) * 262144 + a * 4096 + b * 64 + d, 4) from fun h => KEY.out _ _ (by unfold r1 r4; rw [if_neg c1, if_neg (by omega), if_neg (by omega), if_pos ⟨c2, c3, a0, b0, d0⟩, if_pos h]))
      clear KEY
      rcases rr with rr | ⟨r1, r2⟩ | ⟨r1, r2⟩
      · have H := Lib.hid (K0.out (fun h => rr h.1))
        clear K0 K1
        go_wp2
        go_ret2
        exact ⟨by rw [H.out]; rfl, _, rfl⟩
      · have H := Lib.hid (K1.out ⟨r1, r2⟩)
        clear K0 K1
        go_wp2
        go_ret2
        exact ⟨by rw [H.out]; first | rfl | (go_num), _, rfl⟩
      · have H := Lib.hid (K0.out (fun h => r2 h.2))
        clear K0 K1
        go_wp2
        go_ret2
        exact ⟨by rw [H.out]; rfl, _, rfl⟩
    all_goals (
      have H := Lib.hid (KEY.out 65533 0 (by unfold r1; rw [if_neg c1, if_neg (by omega), if_neg (by omega), if_neg (by omega)]))
      clear KEY
      go_wp2
      go_ret2
      exact ⟨by rw [H.out]; rfl, _, rfl⟩)
  · have H := Lib.hid (KEY.out 65533 0 (by unfold r1; rw [if_neg c1, if_neg (by omega), if_neg (by omega), if_neg (by omega)]))
    clear KEY
    have e1 : ¬ c ≤ 223 := by omega
    have e2 : ¬ c ≤ 239 := by omega
    have e3 : ¬ c ≤ 244 := by omega
    have e4 : 194 ≤ c := by omega
    have e5 : 224 ≤ c := by omega
    have e6 : 240 ≤ c := by omega
    go_wp2
    go_ret2
    exact ⟨by rw [H.out]; rfl, _, rfl⟩
end Go.Proofs.Ytenlffhoinialaa
end

section
namespace Go.Proofs.Ytenlffhoinialaa
open Go.RowKit

theorem rn1_fst (s : ByteArray) (i : Nat) : (rn1 s i).1 = ((Utf8.decode s i).1 : Int) := by
  unfold rn1 fixp
  split
  · rename_i h; rw [h]; rfl
  · rfl
theorem rn1_snd (s : ByteArray) (i : Nat) : ((rn1 s i).2 = 0 ∧ (Utf8.decode s i).2 = 1) ∨ (rn1 s i).2 = ((Utf8.decode s i).2 : Int) := by
  unfold rn1 fixp
  split
  · rename_i h; rw [h]; exact .inl ⟨rfl, rfl⟩
  · exact .inr rfl
theorem rn1_max (s : ByteArray) (i : Nat) (hi : i < s.size) : (if (rn1 s i).2 < 1 then 1 else (rn1 s i).2) = ((Utf8.decode s i).2 : Int) := by
  have h1 := Lib.decode_width_pos s i hi
  rcases rn1_snd s i with ⟨h, h2⟩ | h
  · rw [h, h2]; rfl
  · rw [h, if_neg (by omega)]
theorem decode_snd_le (s : ByteArray) (i : Nat) (hi : i < s.size) : (Utf8.decode s i).2 ≤ s.size - i := by
  rw [Lib.decode_at]
  unfold Lib.decodeN
  repeat' split
  all_goals simp only
  all_goals omega

theorem hash_step (acc r : Nat) (ha : acc < 4294967296) (hr : r ≤ 1114111) : ((31 * (acc : Int) + (r : Int)).tmod 4294967296) = (((31 * acc + r) % 4294967296 : Nat) : Int) := by
  rw [Int.tmod_eq_emod_of_nonneg (by omega)]
  omega
set_option maxRecDepth 1000000 in
theorem rhash_calls (s : ByteArray) (hs : s.size ≤ 1000000000000000000) (w : World) :
    Calls Try.prog 114 #[.string s] w fun e w' => e = .returned (.int .i64 (nhash s : Nat)) ∧ ∃ d, w' = w.drewN d := by
  go_enter Try.func114, Try.ntmps114
  go_wp2
  go_loopw [3, 4] (fun n i wr => ∃ (pos b acc d : Nat), wr = w.drewN d ∧ n = .int .i64 acc ∧ i = .int .i64 pos ∧ hashFrom s b pos acc = nhash s ∧ s.size ≤ pos + b ∧ pos ≤ s.size ∧ acc < 4294967296) (fun _ i _ => s.size - (intOf i).toNat)
  case atStart => exact ⟨0, s.size, 7, 0, rfl, rfl, rfl, rfl, by omega, by omega, by omega⟩
  case round =>
    obtain ⟨pos, b, acc, d, rfl, rfl, rfl, hc, hb, hps, hacc⟩ := hrel
    by_cases hp : pos < s.size
    · have hp1 : (pos : Int) < (s.size : Int) := by omega
      have HC := Lib.hid hc
      clear hc
      go_wp2_with (fail)
      refine (rune1_calls s pos hp hs _).mono ?_
      rintro e w' ⟨rfl, d1, rfl⟩
      have hr := decode_le s pos
      have hm := rn1_max s pos hp
      have hw1 := Lib.decode_width_pos s pos hp
      have hw2 := decode_snd_le s pos hp
      rw [rn1_fst]
      have ew : IntKind.i64.wrap (31 * (acc : Int) + ((Utf8.decode s pos).1 : Int)) = 31 * (acc : Int) + ((Utf8.decode s pos).1 : Int) := IntWalk.i64_in _ (by omega)
      have HM := Lib.hid hm
      clear hm
      go_wp2_with (fail)
      have e5 : wrap64 ((pos : Int) + if (rn1 s pos).2 < 1 then 1 else (rn1 s pos).2) = ((pos + (Utf8.decode s pos).2 : Nat) : Int) := by
        rw [HM.out, IntWalk.wrap64_in _ (by omega)]
        omega
      have e6 : (31 * (acc : Int) + ((Utf8.decode s pos).1 : Int)) % 4294967296 = (((31 * acc + (Utf8.decode s pos).1) % 4294967296 : Nat) : Int) := by omega
      rw [e5, e6]
      have HC2 := Lib.hid (show ∀ b', b = b' + 1 → hashFrom s b' (pos + (Utf8.decode s pos).2) ((31 * acc + (Utf8.decode s pos).1) % 4294967296) = nhash s from fun b' hb' => by
        rw [← HC.out, hb']
        simp only [hashFrom, hp, if_true])
      clear HC HM e5 e6
      generalize hq : pos + (Utf8.decode s pos).2 = q at *
      have hlt := Nat.mod_lt (31 * acc + (Utf8.decode s pos).1) (show 0 < 4294967296 by omega)
      generalize (31 * acc + (Utf8.decode s pos).1) % 4294967296 = acc2 at *
      clear ew
      obtain ⟨b', rfl⟩ : ∃ b', b = b' + 1 := ⟨b - 1, by omega⟩
      go_roundw
      case rel => exact ⟨q, b', acc2, _, rfl, rfl, rfl, HC2.out b' rfl, by omega, by omega, by omega⟩
      case measure =>
        simp only [intOf]
        omega
    · have hp1 : ¬ (pos : Int) < (s.size : Int) := by omega
      rw [hashFrom_end s b pos acc hp] at hc
      subst hc
      go_wp2_with (fail)
      go_ret
      exact ⟨rfl, _, rfl⟩
end Go.Proofs.Ytenlffhoinialaa
end

section
namespace Go.Proofs.Ytenlffhoinialaa
open Go.RowKit

def nbucket (s : ByteArray) : Nat := nhash s % 8
theorem nbucket_lt (s : ByteArray) : nbucket s < 8 := Nat.mod_lt _ (by omega)
set_option maxRecDepth 1000000 in
theorem bucket_calls (s : ByteArray) (w : World) :
    Calls Try.prog 74 #[.string s] w fun e w' => e = .returned (.int .i64 (nbucket s : Nat)) ∧ Below w.heap.size w w' := by
  have hl := nhash_lt s
  have hb : ((nhash s : Nat) : Int).tmod 8 = (nbucket s : Nat) := by
    rw [Int.tmod_eq_emod_of_nonneg (by omega)]
    unfold nbucket
    omega
  have hb2 : ((nhash s : Nat) : Int) % 8 = (nbucket s : Nat) := by
    unfold nbucket
    omega
  have HB := Lib.hid hb2
  clear hb hb2
  go_enter Try.func74, Try.ntmps74
  go_wp2_with (fail)
  refine (hash_calls s w).mono ?_
  rintro e w' ⟨rfl, hB⟩
  generalize nhash s = h at *
  go_wp2_with (fail)
  go_ret
  refine ⟨?_, hB⟩
  first | rw [← HB.out]; rfl | (rw [← HB.out]; go_num)
set_option maxRecDepth 1000000 in
theorem rbucket_calls (s : ByteArray) (hs : s.size ≤ 1000000000000000000) (w : World) :
    Calls Try.prog 85 #[.string s] w fun e w' => e = .returned (.int .i64 (nbucket s : Nat)) ∧ ∃ d, w' = w.drewN d := by
  have hl := nhash_lt s
  have hb2 : ((nhash s : Nat) : Int) % 8 = (nbucket s : Nat) := by
    unfold nbucket
    omega
  have HB := Lib.hid hb2
  clear hb2
  go_enter Try.func85, Try.ntmps85
  go_wp2_with (fail)
  refine (rhash_calls s hs w).mono ?_
  rintro e w' ⟨rfl, d, rfl⟩
  generalize nhash s = h at *
  go_wp2_with (fail)
  go_ret
  refine ⟨?_, _, rfl⟩
  first | rw [← HB.out]; rfl | (rw [← HB.out]; go_num)
end Go.Proofs.Ytenlffhoinialaa
end

section
namespace Go.Proofs.Ytenlffhoinialaa
open Go.RowKit

/-- A rune that a name may have: none of '/', below 32, 127, and no byte that is no rune. -/
def runeOk (p : Nat × Nat) : Bool := !(p.1 == 47 || decide (p.1 < 32) || p.1 == 127 || p == (65533, 1))
def okFrom (s : ByteArray) : Nat → Nat → Bool
  | 0, _ => true
  | b + 1, pos => if pos < s.size then (runeOk (Utf8.decode s pos) && okFrom s b (pos + (Utf8.decode s pos).2)) else true

/-- What a Check tells: too long, no name, a name. -/
def ncheck (s : ByteArray) : Int :=
  if 12 < s.size then 801 else if (s.toList.isEmpty || s.toList == [46] || s.toList == [46, 46]) = true then 800 else if okFrom s s.size 0 = true then 0 else 800
theorem okFrom_end (s : ByteArray) (b pos : Nat) (h : ¬ pos < s.size) : okFrom s b pos = true := by
  cases b with
  | zero => rfl
  | succ b => simp [okFrom, h]
theorem rn1_ok (s : ByteArray) (i : Nat) (_ : i < s.size) : ((rn1 s i).2 = 0 ∧ runeOk (Utf8.decode s i) = false) ∨ (¬ (rn1 s i).2 = 0 ∧ (rn1 s i).2 = ((Utf8.decode s i).2 : Int) ∧ runeOk (Utf8.decode s i) = !((Utf8.decode s i).1 == 47 || decide ((Utf8.decode s i).1 < 32) || (Utf8.decode s i).1 == 127)) := by
  have h1 := Lib.decode_width_pos s i ‹_›
  unfold rn1 fixp runeOk
  by_cases h : Utf8.decode s i = (65533, 1)
  · rw [if_pos h, h]
    exact .inl ⟨rfl, by simp⟩
  · rw [if_neg h]
    refine .inr ⟨by simp only; omega, rfl, ?_⟩
    rw [show (Utf8.decode s i == (65533, 1)) = false by simpa using h, Bool.or_false]

set_option maxRecDepth 1000000 in
theorem rcheck_calls (s : ByteArray) (hs : s.size ≤ 1000000000000000000) (w : World) :
    Calls Try.prog 84 #[.string s] w fun e w' => e = .returned (.int .i64 (ncheck s)) ∧ ∃ d, w' = w.drewN d := by
  go_enter Try.func84, Try.ntmps84
  by_cases h1 : 12 < s.size
  · have h2 : (12 : Int) < (s.size : Int) := by omega
    have H := Lib.hid (show ncheck s = 801 by unfold ncheck; rw [if_pos h1])
    go_wp2_with (fail)
    go_ret
    exact ⟨by rw [H.out]; rfl, 0, rfl⟩
  · have h2 : ¬ (12 : Int) < (s.size : Int) := by omega
    by_cases hf : (s.toList.isEmpty || s.toList == [46] || s.toList == [46, 46]) = true
    · have H := Lib.hid (show ncheck s = 800 by unfold ncheck; rw [if_neg h1, if_pos hf])
      have hx : s.toList.isEmpty = true ∨ (s.toList.isEmpty = false ∧ (s.toList == [46]) = true) ∨ (s.toList.isEmpty = false ∧ (s.toList == [46]) = false ∧ (s.toList == [46, 46]) = true) := by
        revert hf
        cases s.toList.isEmpty <;> cases (s.toList == [46]) <;> cases (s.toList == [46, 46]) <;> simp
      clear hf
      rcases hx with hx | ⟨hx, hy⟩ | ⟨hx, hy, hz⟩
      all_goals (
        go_wp2_with (fail)
        go_ret
        exact ⟨by rw [H.out]; rfl, 0, rfl⟩)
    · have HN := Lib.hid (show ncheck s = if okFrom s s.size 0 = true then 0 else 800 by unfold ncheck; rw [if_neg h1, if_neg hf])
      have hx : s.toList.isEmpty = false ∧ (s.toList == [46]) = false ∧ (s.toList == [46, 46]) = false := by
        revert hf
        cases s.toList.isEmpty <;> cases (s.toList == [46]) <;> cases (s.toList == [46, 46]) <;> simp
      obtain ⟨hx, hy, hz⟩ := hx
      clear hf
      go_wp2_with (fail)
      go_loopw [3] (fun i wr => ∃ (pos b d : Nat), wr = w.drewN d ∧ i = .int .i64 pos ∧ okFrom s b pos = okFrom s s.size 0 ∧ s.size ≤ pos + b ∧ pos ≤ s.size) (fun i _ => s.size - (intOf i).toNat)
      case atStart => exact ⟨0, s.size, 0, rfl, rfl, rfl, by omega, by omega⟩
      case round =>
        obtain ⟨pos, b, d, rfl, rfl, hc, hb, hps⟩ := hrel
        by_cases hp : pos < s.size
        · have hp1 : (pos : Int) < (s.size : Int) := by omega
          obtain ⟨b', rfl⟩ : ∃ b', b = b' + 1 := ⟨b - 1, by omega⟩
          have HC := Lib.hid hc
          have HO := Lib.hid (show okFrom s (b' + 1) pos = (runeOk (Utf8.decode s pos) && okFrom s b' (pos + (Utf8.decode s pos).2)) by simp only [okFrom, hp, if_true])
          have HF := Lib.hid (show runeOk (Utf8.decode s pos) = false → ncheck s = 800 from fun h => by rw [HN.out, ← HC.out, HO.out, h]; rfl)
          clear hc
          go_wp2_with (fail)
          refine (rune1_calls s pos hp hs _).mono ?_
          rintro e w' ⟨rfl, d1, rfl⟩
          rw [rn1_fst]
          have hw2 := decode_snd_le s pos hp
          have hw1 := Lib.decode_width_pos s pos hp
          have hk := rn1_ok s pos hp
          have hrl := decode_le s pos
          generalize (rn1 s pos).2 = k at *
          generalize (Utf8.decode s pos).1 = r at *
          generalize (Utf8.decode s pos).2 = q at *
          rcases hk with ⟨rfl, hk⟩ | ⟨hk0, rfl, hk⟩
          · have H := Lib.hid (HF.out hk)
            clear HF HO HC HN hk
            go_wp2_with (fail)
            go_ret
            exact ⟨by rw [H.out]; rfl, _, rfl⟩
          · have hr : r = 47 ∨ (r ≠ 47 ∧ r < 32) ∨ r = 127 ∨ (r ≠ 47 ∧ ¬ r < 32 ∧ r ≠ 127) := by omega
            have k0 : ((q : Int) == 0) = false := by simpa using hk0
            rcases hr with rfl | ⟨hr, hr2⟩ | rfl | ⟨hr, hr2, hr3⟩
            · have H := Lib.hid (HF.out (by rw [hk]; rfl))
              clear HF HO HC HN hk
              go_wp2_with (fail)
              go_ret
              exact ⟨by rw [H.out]; rfl, _, rfl⟩
            · have H := Lib.hid (HF.out (by rw [hk]; simp [hr2]))
              have hr4 : ((r : Int) == 47) = false := by simp; omega
              have hr5 : (r : Int) < 32 := by omega
              clear HF HO HC HN hk
              go_wp2_with (fail)
              go_ret
              exact ⟨by rw [H.out]; rfl, _, rfl⟩
            · have H := Lib.hid (HF.out (by rw [hk]; rfl))
              clear HF HO HC HN hk
              go_wp2_with (fail)
              go_ret
              exact ⟨by rw [H.out]; rfl, _, rfl⟩
            · have hok : runeOk (Utf8.decode s pos) = true := by rw [hk]; simp [hr, hr2, hr3]
              have HC2 := Lib.hid (show okFrom s b' (pos + q) = okFrom s s.size 0 by rw [← HC.out, HO.out, hok, Bool.true_and])
              have hr4 : ((r : Int) == 47) = false := by simp; omega
              have hr5 : ¬ (r : Int) < 32 := by omega
              have hr6 : ((r : Int) == 127) = false := by simp; omega
              have e5 : wrap64 ((pos : Int) + (q : Int)) = ((pos + q : Nat) : Int) := by
                rw [IntWalk.wrap64_in _ (by omega)]
                omega
              clear HF HO HC hk hok
              go_wp2_with (fail)
              go_roundw
              case rel => exact ⟨pos + q, b', _, rfl, by first | rfl | rw [e5], HC2.out, by omega, by omega⟩
              case measure =>
                simp only [intOf]
                first | omega | (rw [e5]; omega)
        · have hp1 : ¬ (pos : Int) < (s.size : Int) := by omega
          have H := Lib.hid (show ncheck s = 0 by rw [HN.out, ← hc, okFrom_end s b pos hp, if_pos rfl])
          clear hc HN
          go_wp2_with (fail)
          go_ret
          exact ⟨by rw [H.out]; rfl, _, rfl⟩
end Go.Proofs.Ytenlffhoinialaa
end

section
namespace Go.Proofs.Ytenlffhoinialaa
open Go.RowKit

set_option maxRecDepth 1000000 in
theorem prefix_calls (s p : ByteArray) (w : World) :
    Calls Try.prog 91 #[.string s, .string p] w fun e w' => e = .returned (.bool (decide (p.size ≤ s.size) && ((s.extract 0 p.size).toList == p.toList))) ∧ w = w' := by
  go_enter Try.func91, Try.ntmps91
  by_cases h : p.size ≤ s.size
  · have h1 : (p.size : Int) ≤ (s.size : Int) := by omega
    go_wp2
    all_goals go_ret
    all_goals exact ⟨by first | rfl | simp [h], rfl⟩
  · have h1 : ¬ (p.size : Int) ≤ (s.size : Int) := by omega
    go_wp2
    all_goals go_ret
    all_goals exact ⟨by first | rfl | simp [h], rfl⟩

end Go.Proofs.Ytenlffhoinialaa
end

section
namespace Go.Proofs.Ytenlffhoinialaa

theorem enc_ff (r : Nat) (h : r < 55296 ∨ (57344 ≤ r ∧ r ≤ 1114111)) : (Utf8.encode (r : Int)).toList = [239, 191, 189] ↔ r = 65533 := by
  rw [ByteArray.toList_eq]
  have hv : Utf8.valid (r : Int) = true := by
    simp only [Utf8.valid, Bool.or_eq_true, Bool.and_eq_true, decide_eq_true_eq]
    omega
  constructor
  · intro he
    unfold Utf8.encode at he
    simp only [hv, if_true, Int.toNat_natCast] at he
    split at he
    · simp at he
    · split at he
      · simp at he
      · split at he
        · simp only [List.cons.injEq, and_true] at he
          obtain ⟨h1, h2, h3⟩ := he
          have e1 := congrArg UInt8.toNat h1
          have e2 := congrArg UInt8.toNat h2
          have e3 := congrArg UInt8.toNat h3
          simp only [UInt8.toNat_ofNat'] at e1 e2 e3
          have f1 : (239 : UInt8).toNat = 239 := rfl
          have f2 : (191 : UInt8).toNat = 191 := rfl
          have f3 : (189 : UInt8).toNat = 189 := rfl
          rw [f1] at e1
          rw [f2] at e2
          rw [f3] at e3
          omega
        · simp at he
  · rintro rfl
    rfl
theorem decode_valid (s : ByteArray) (i : Nat) : (Utf8.decode s i).1 < 55296 ∨ (57344 ≤ (Utf8.decode s i).1 ∧ (Utf8.decode s i).1 ≤ 1114111) := by
  rw [Lib.decode_at]
  have h0 := (s.get! i).toNat_lt
  unfold Lib.decodeN
  repeat' split
  all_goals simp only
  all_goals omega
/-- The three bytes of U+FFFD at a place: the rune is 65533 of width 3. -/
theorem decode_three (s : ByteArray) (i : Nat) (h : (Utf8.decode s i).1 = 65533) : (Utf8.decode s i = (65533, 3)) ↔ (i + 3 ≤ s.size ∧ (s.get! i).toNat = 239 ∧ (s.get! (i + 1)).toNat = 191 ∧ (s.get! (i + 2)).toNat = 189) := by
  rw [Lib.decode_at] at *
  have h0 := (s.get! i).toNat_lt
  have c2 : (i + 3 ≤ s.size) = (2 < s.size - i) := propext ⟨fun h => by omega, fun h => by omega⟩
  rw [c2]
  clear c2
  generalize s.size - i = n at *
  generalize (s.get! i).toNat = b0 at *
  generalize (s.get! (i + 1)).toNat = b1 at *
  generalize (s.get! (i + 2)).toNat = b2 at *
  generalize (s.get! (i + 3)).toNat = b3 at *
  unfold Lib.decodeN at *
  constructor
  · intro he
    split at he
    · cases he
    · split at he
      · split at he <;> (injection he with e1 e2; omega)
      · split at he
        · split at he <;> (injection he with e1 e2; omega)
        · split at he
          · split at he <;> (injection he with e1 e2; omega)
          · injection he with e1 e2; omega
  · rintro ⟨e1, e2, e3, e4⟩
    subst e2 e3 e4
    rw [if_neg (by omega), if_neg (by omega), if_pos (by omega), if_pos (by omega)]
end Go.Proofs.Ytenlffhoinialaa
end

section
namespace Go.Proofs.Ytenlffhoinialaa

theorem extract_three (s : ByteArray) (i : Nat) (h : i + 3 ≤ s.size) : ((s.extract i s.size).extract 0 3).toList = [s.get! i, s.get! (i + 1), s.get! (i + 2)] := by
  rw [get_at s i (by omega), get_at s (i + 1) (by omega), get_at s (i + 2) (by omega), ByteArray.toList_eq]
  apply List.ext_getElem
  · simp
    have : s.data.size = s.size := rfl
    omega
  · intro k h1 h2
    simp only [List.length_cons, List.length_nil] at h2
    have hk : k = 0 ∨ k = 1 ∨ k = 2 := by omega
    rcases hk with rfl | rfl | rfl <;> simp <;> rfl
theorem prefix_ff (s : ByteArray) (i : Nat) (_ : i < s.size) (hr : (Utf8.decode s i).1 = 65533) :
    (decide ((⟨#[239, 191, 189]⟩ : ByteArray).size ≤ (s.extract i s.size).size) && (((s.extract i s.size).extract 0 (⟨#[239, 191, 189]⟩ : ByteArray).size).toList == (⟨#[239, 191, 189]⟩ : ByteArray).toList)) = !(Utf8.decode s i == (65533, 1)) := by
  have hsz : (s.extract i s.size).size = s.size - i := by simp [ByteArray.size_extract]
  have e3 : (⟨#[239, 191, 189]⟩ : ByteArray).size = 3 := rfl
  have eL : (⟨#[239, 191, 189]⟩ : ByteArray).toList = [239, 191, 189] := by rw [ByteArray.toList_eq]
  rw [hsz, e3, eL]
  have h13 : Utf8.decode s i = (65533, 1) ∨ Utf8.decode s i = (65533, 3) := by
    have h0 := (s.get! i).toNat_lt
    have h := hr
    have h2 : (Utf8.decode s i).2 = 1 ∨ (Utf8.decode s i).2 = 3 := by
      rw [Lib.decode_at] at h ⊢
      unfold Lib.decodeN at h ⊢
      generalize (s.get! i).toNat = b0 at *
      generalize (s.get! (i + 1)).toNat = b1 at *
      generalize (s.get! (i + 2)).toNat = b2 at *
      generalize (s.get! (i + 3)).toNat = b3 at *
      revert h
      repeat' split
      all_goals intro h
      all_goals first
        | exact .inl rfl
        | exact .inr rfl
        | (exfalso; simp only at h; omega)
    exact h2.imp (fun h2 => Prod.ext h h2) (fun h2 => Prod.ext h h2)
  have ht := decode_three s i hr
  rcases h13 with h | h
  · have hn : ¬ (i + 3 ≤ s.size ∧ (s.get! i).toNat = 239 ∧ (s.get! (i + 1)).toNat = 191 ∧ (s.get! (i + 2)).toNat = 189) := fun h' => by
      have := ht.2 h'
      rw [h] at this
      cases this
    rw [h]
    by_cases h3 : i + 3 ≤ s.size
    · rw [extract_three s i h3, show decide (3 ≤ s.size - i) = true by simp; omega, Bool.true_and]
      simp only [BEq.rfl, Bool.not_true, beq_eq_false_iff_ne, ne_eq, List.cons.injEq, and_true]
      rintro ⟨a, b, c⟩
      rw [a, b, c] at hn
      exact hn ⟨h3, rfl, rfl, rfl⟩
    · rw [show decide (3 ≤ s.size - i) = false by simp; omega]
      rfl
  · obtain ⟨h3, a, b, c⟩ := ht.1 h
    rw [h, extract_three s i h3, show decide (3 ≤ s.size - i) = true by simp; omega, Bool.true_and]
    have a' : s.get! i = 239 := UInt8.toNat_inj.1 a
    have b' : s.get! (i + 1) = 191 := UInt8.toNat_inj.1 b
    have c' : s.get! (i + 2) = 189 := UInt8.toNat_inj.1 c
    rw [a', b', c']
    rfl
end Go.Proofs.Ytenlffhoinialaa
end

section
namespace Go.Proofs.Ytenlffhoinialaa
open Go.RowKit

set_option maxHeartbeats 1000000 in
set_option maxRecDepth 1000000 in
theorem check_calls (s : ByteArray) (w : World) :
    Calls Try.prog 100 #[.string s] w fun e w' => e = .returned (.int .i64 (ncheck s)) ∧ Below w.heap.size w w' := by
  go_enter Try.func100, Try.ntmps100
  by_cases h1 : 12 < s.size
  · have h2 : (12 : Int) < (s.size : Int) := by omega
    have H := Lib.hid (show ncheck s = 801 by unfold ncheck; rw [if_pos h1])
    go_wp2_with (fail)
    go_ret
    exact ⟨by rw [H.out]; rfl, Below.refl _ _⟩
  · have h2 : ¬ (12 : Int) < (s.size : Int) := by omega
    by_cases hf : (s.toList.isEmpty || s.toList == [46] || s.toList == [46, 46]) = true
    · have H := Lib.hid (show ncheck s = 800 by unfold ncheck; rw [if_neg h1, if_pos hf])
      have hx : s.toList.isEmpty = true ∨ (s.toList.isEmpty = false ∧ (s.toList == [46]) = true) ∨ (s.toList.isEmpty = false ∧ (s.toList == [46]) = false ∧ (s.toList == [46, 46]) = true) := by
        revert hf
        cases s.toList.isEmpty <;> cases (s.toList == [46]) <;> cases (s.toList == [46, 46]) <;> simp
      clear hf
      rcases hx with hx | ⟨hx, hy⟩ | ⟨hx, hy, hz⟩
      all_goals (
        go_wp2_with (fail)
        go_ret
        exact ⟨by rw [H.out]; rfl, Below.refl _ _⟩)
    · have HN := Lib.hid (show ncheck s = if okFrom s s.size 0 = true then 0 else 800 by unfold ncheck; rw [if_neg h1, if_neg hf])
      have hx : s.toList.isEmpty = false ∧ (s.toList == [46]) = false ∧ (s.toList == [46, 46]) = false := by
        revert hf
        cases s.toList.isEmpty <;> cases (s.toList == [46]) <;> cases (s.toList == [46, 46]) <;> simp
      obtain ⟨hx, hy, hz⟩ := hx
      clear hf
      go_wp2_with (fail)
      go_loopw [] (fun wr => ∃ (pos b : Nat), wr = w.iter s pos ∧ okFrom s b pos = okFrom s s.size 0 ∧ s.size ≤ pos + b) (fun w' => s.size - w'.iterPos w.heap.size)
      case atStart => exact ⟨0, s.size, rfl, rfl, by omega⟩
      case round =>
        obtain ⟨pos, b, rfl, hc, hb⟩ := hrel
        by_cases hp : pos < s.size
        · have hnx : ∀ ty, (Instr.next (.pointer (some ⟨w.heap.size, 0, none⟩)) true ty).run Try.prog (w.iter s pos) = _ := fun ty => run_next_any w s pos ty hp
          obtain ⟨b', rfl⟩ : ∃ b', b = b' + 1 := ⟨b - 1, by omega⟩
          have hp1 : (pos : Int) ≤ (s.size : Int) := by omega
          have hwd := Lib.decode_width_pos s pos hp
          have HC := Lib.hid hc
          have HO := Lib.hid (show okFrom s (b' + 1) pos = (runeOk (Utf8.decode s pos) && okFrom s b' (pos + (Utf8.decode s pos).2)) by simp only [okFrom, hp, if_true])
          have HF := Lib.hid (show runeOk (Utf8.decode s pos) = false → ncheck s = 800 from fun h => by rw [HN.out, ← HC.out, HO.out, h]; rfl)
          have HK := Lib.hid (show runeOk (Utf8.decode s pos) = true → okFrom s b' (pos + (Utf8.decode s pos).2) = okFrom s s.size 0 from fun h => by rw [← HC.out, HO.out, h, Bool.true_and])
          have HV := Lib.hid (decode_valid s pos)
          clear hc HC HO HN
          have hr : (Utf8.decode s pos).1 = 47 ∨ ((Utf8.decode s pos).1 ≠ 47 ∧ (Utf8.decode s pos).1 < 32) ∨ (Utf8.decode s pos).1 = 127 ∨ ((Utf8.decode s pos).1 ≠ 47 ∧ ¬ (Utf8.decode s pos).1 < 32 ∧ (Utf8.decode s pos).1 ≠ 127) := by omega
          rcases hr with hr | ⟨hr, hr2⟩ | hr | ⟨hr, hr2, hr3⟩
          · have H := Lib.hid (HF.out (by unfold runeOk; rw [hr]; rfl))
            have k1 : (((Utf8.decode s pos).1 : Int) == 47) = true := by rw [hr]; rfl
            clear HF HK hr
            go_wp2_with (fail)
            go_ret
            exact ⟨by rw [H.out]; rfl, below_iter _ _ _⟩
          · have H := Lib.hid (HF.out (by unfold runeOk; simp [hr2]))
            have k1 : (((Utf8.decode s pos).1 : Int) == 47) = false := by simp; omega
            have k2 : ((Utf8.decode s pos).1 : Int) < 32 := by omega
            clear HF HK hr hr2
            go_wp2_with (fail)
            go_ret
            exact ⟨by rw [H.out]; rfl, below_iter _ _ _⟩
          · have H := Lib.hid (HF.out (by unfold runeOk; rw [hr]; rfl))
            have k1 : (((Utf8.decode s pos).1 : Int) == 47) = false := by rw [hr]; rfl
            have k2 : ¬ ((Utf8.decode s pos).1 : Int) < 32 := by omega
            have k3 : (((Utf8.decode s pos).1 : Int) == 127) = true := by rw [hr]; rfl
            clear HF HK hr
            go_wp2_with (fail)
            go_ret
            exact ⟨by rw [H.out]; rfl, below_iter _ _ _⟩
          · have k1 : (((Utf8.decode s pos).1 : Int) == 47) = false := by simp; omega
            have k2 : ¬ ((Utf8.decode s pos).1 : Int) < 32 := by omega
            have k3 : (((Utf8.decode s pos).1 : Int) == 127) = false := by simp; omega
            have HR := Lib.hid (show runeOk (Utf8.decode s pos) = !(Utf8.decode s pos == (65533, 1)) by unfold runeOk; simp [hr, hr2, hr3])
            by_cases h5 : (Utf8.decode s pos).1 = 65533
            · have k4 : ((Utf8.encode ((Utf8.decode s pos).1 : Int)).toList == [239, 191, 189]) = true := beq_iff_eq.2 ((enc_ff _ HV.out).2 h5)
              have HPF := Lib.hid (prefix_ff s pos hp h5)
              clear hr hr2 hr3 h5
              go_wp2_with (fail)
              refine (prefix_calls _ _ _).mono ?_
              rintro e w' ⟨rfl, rfl⟩
              rw [HPF.out, ← HR.out]
              by_cases hq : runeOk (Utf8.decode s pos) = true
              · have H := Lib.hid (HK.out hq)
                rw [hq]
                clear HF HK HR HPF hq
                go_wp2_with (fail)
                go_roundw
                case rel => exact ⟨_, b', rfl, H.out, by omega⟩
                case measure =>
                  simp
                  omega
              · have hq := Bool.eq_false_iff.2 hq
                have H := Lib.hid (HF.out hq)
                rw [hq]
                clear HF HK HR HPF hq
                go_wp2_with (fail)
                go_ret
                exact ⟨by rw [H.out]; rfl, below_iter _ _ _⟩
            · have k4 : ((Utf8.encode ((Utf8.decode s pos).1 : Int)).toList == [239, 191, 189]) = false := by
                rw [beq_eq_false_iff_ne]
                exact fun h => h5 ((enc_ff _ HV.out).1 h)
              have hq : runeOk (Utf8.decode s pos) = true := by
                rw [HR.out, show (Utf8.decode s pos == (65533, 1)) = false by rw [beq_eq_false_iff_ne]; exact fun h => h5 (by rw [h])]
                rfl
              have H := Lib.hid (HK.out hq)
              clear HF HK HR hq hr hr2 hr3 h5
              go_wp2_with (fail)
              go_roundw
              case rel => exact ⟨_, b', rfl, H.out, by omega⟩
              case measure =>
                simp
                omega
        · have hnx : ∀ ty, (Instr.next (.pointer (some ⟨w.heap.size, 0, none⟩)) true ty).run Try.prog (w.iter s pos) = _ := fun ty => run_next_end w s pos ty hp
          have H := Lib.hid (show ncheck s = 0 by rw [HN.out, ← hc, okFrom_end s b pos hp, if_pos rfl])
          clear hc HN
          go_wp2_with (fail)
          go_ret
          exact ⟨by rw [H.out]; rfl, below_iter _ _ _⟩
end Go.Proofs.Ytenlffhoinialaa
end

section
namespace Go.Proofs.Ytenlffhoinialaa
open Go.RowKit

set_option maxRecDepth 1000000 in
theorem may_calls (s : ByteArray) (w : World) :
    Calls Try.prog 73 #[.string s] w fun e w' => e = .returned (.bool (ncheck s == 0)) ∧ Below w.heap.size w w' := by
  go_enter Try.func73, Try.ntmps73
  go_wp2_with (fail)
  refine (check_calls s w).mono ?_
  rintro e w' ⟨rfl, hB⟩
  go_wp2_with (fail)
  go_ret
  exact ⟨rfl, hB⟩
end Go.Proofs.Ytenlffhoinialaa
end

