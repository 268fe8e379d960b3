
/- dir.find. -/
import Derived.Test.YtkbajjpdngfhbaaDirT
import Derived.Test.YtkbajjpdngfhbaaDirGet
namespace Go.Proofs.Ytkbajjpdngfhbaa
open Go.RowKit
set_option maxHeartbeats 1000000

/-- What a look over the first i slots of bucket B tells of a name. -/
def AtF (B : Nat → Option Ent) (s : ByteArray) (i : Nat) (x : Int) : Prop := (∃ k v, k < i ∧ x = (k : Int) ∧ B k = some (s, v)) ∨ (x = -1 ∧ ∀ k v, k < i → B k ≠ some (s, v))
def FreeF (B : Nat → Option Ent) (i : Nat) (y : Int) : Prop := (∃ k, k < i ∧ y = (k : Int) ∧ B k = none) ∨ (y = -1 ∧ ∀ k, k < i → B k ≠ none)
theorem AtF.yes {B : Nat → Option Ent} {s : ByteArray} {i : Nat} {v : Nat} (hB : B i = some (s, v)) : AtF B s (i + 1) (i : Int) := .inl ⟨i, v, by omega, rfl, hB⟩
theorem AtF.no {B : Nat → Option Ent} {s : ByteArray} {i : Nat} {x : Int} (h : AtF B s i x) (hB : ∀ v, B i ≠ some (s, v)) : AtF B s (i + 1) x := by
  rcases h with ⟨k, v, h1, h2, h3⟩ | ⟨h1, h2⟩
  · exact .inl ⟨k, v, by omega, h2, h3⟩
  · refine .inr ⟨h1, fun k v hk => ?_⟩
    rcases Nat.lt_or_ge k i with h | h
    · exact h2 k v h
    · rw [show k = i by omega]; exact hB v
theorem FreeF.yes {B : Nat → Option Ent} {i : Nat} (hB : B i = none) : FreeF B (i + 1) (i : Int) := .inl ⟨i, by omega, rfl, hB⟩
theorem FreeF.keep {B : Nat → Option Ent} {i : Nat} {x : Int} (h : FreeF B i x) (hB : ¬ x < 0 ∨ B i ≠ none) : FreeF B (i + 1) x := by
  rcases h with ⟨k, h1, h2, h3⟩ | ⟨h1, h2⟩
  · exact .inl ⟨k, by omega, h2, h3⟩
  · refine .inr ⟨h1, fun k hk => ?_⟩
    rcases Nat.lt_or_ge k i with h | h
    · exact h2 k h
    · rw [show k = i by omega]
      rcases hB with hB | hB
      · omega
      · exact hB
section
variable {L : Nat → Prop} {w : World} {a d : Nat} {ws : List Int} {n m : Nat} {P : List (List Acc) → Prop} {f : Int} {T : Nat → Nat → Option Ent}
theorem get_slot (h : DAt L w d a f) (hA : ArP L w a ws n m P) (hT : Tab ws f T) (hm : m ≤ 1099511627770) {c : Int} {b k : Nat} (hc : 0 ≤ c ∧ c < n) (hb : b < 8) (hk : k < 4) {S : Acc → Prop} (hcl : Cl n P c S) (hS : ∀ i, f + (b : Int) * 13 ≤ i → i < f + (b : Int) * 13 + 13 → S (i, false)) :
    Calls Try.prog 34 #[.pointer (some ⟨d, 0, none⟩), .int .i64 c, .int .i64 b, .int .i64 k] w fun e w' => e = .returned (.agg #[.int .i64 (sW0 (T b k)), .int .i64 (sW1 (T b k)), .int .i64 (sW2 (T b k))]) ∧ ArP L w' a ws n (m + 3) P ∧ Keeps L w w' := by
  have := get_calls h hA hm c b k hc (by omega) (by omega) hT.len.2 hcl hS
  rw [hT.at0 b k hb hk, hT.at1 b k hb hk, hT.at2 b k hb hk] at this
  exact this
set_option maxRecDepth 1000000 in
theorem find_calls (h : DAt L w d a f) (hA : ArP L w a ws n m P) (hT : Tab ws f T) (hm : m ≤ 1099511627000) {c : Int} (hc : 0 ≤ c ∧ c < n) {s : ByteArray} (hs : s.size ≤ 12) {S : Acc → Prop} (hcl : Cl n P c S) (hS : ∀ i, f + (nbucket s : Int) * 13 ≤ i → i < f + (nbucket s : Int) * 13 + 13 → S (i, false)) :
    Calls Try.prog 30 #[.pointer (some ⟨d, 0, none⟩), .int .i64 c, .string s] w fun e w' => (∃ x y, e = .returned (.tuple #[.int .i64 x, .int .i64 y]) ∧ AtF (T (nbucket s)) s 4 x ∧ FreeF (T (nbucket s)) 4 y) ∧ ArP L w' a ws n (m + 12) P ∧ Keeps L w w' := by
  have hbl := nbucket_lt s
  have hbd := hA.bd
  have HP := Lib.hid (show Calls Try.prog 33 #[.string s, .int .i64 1] w fun e w' => e = .returned (.agg #[.int .i64 (headW s 1), .int .i64 (firstW s), .int .i64 (secondW s)]) ∧ Below w.heap.size w w' from pack_calls s hs 1 (by omega) w)
  have HBU := Lib.hid (fun W => bucket_calls s W)
  go_enter Try.func30, Try.ntmps30
  go_wp2_with (first
    | (go_at_call 33; refine HP.out.mono ?_; rintro e w1 ⟨rfl, hB1⟩)
    | (go_at_call 32; refine (HBU.out _).mono ?_; rintro e w2 ⟨rfl, hB2⟩))
  have hw2 : Below w.heap.size w w2 := bel_then hB1 hB2
  have hA2 := hA.below hw2
  have hbd2 := hA2.bd
  generalize ho : Obj.cells #[Value.int IntKind.i64 (headW s 1), Value.int IntKind.i64 (firstW s), Value.int IntKind.i64 (secondW s)] 71 = O
  have hD2 : DAt L w2 d a f := h.keep (Keeps.sub (Keeps.ofBelow hw2) fun b hb => hbd b hb)
  have hD3 : DAt (ins L w2.heap.size) (w2.alloc O) d a f := ⟨ins.old hD2.1, (hD2.keep ((Keeps.refl _ w2).alloc hbd2 O)).2⟩
  have hA3 := hA2.allocIns O
  have hX3 : Blk (w2.alloc O) w2.heap.size 71 #[.int .i64 (headW s 1), .int .i64 (firstW s), .int .i64 (secondW s)] := by subst ho; exact Blk.new _ _ _
  have HK3 := Lib.hid (((Keeps.ofBelow hw2).sub fun b (hb : L b) => hbd b hb).alloc hbd2 O)
  generalize w2.alloc O = w3 at *
  generalize hgq : w2.heap.size = q at *
  have hT0 := Lib.hid hT
  generalize hbu : nbucket s = b at *
  clear hB1 hB2 hw2 hA2 hbd2 hD2 h hA hT
  go_loopw [6, 7, 16] (fun at_ free i wr => ∃ (k : Nat) (x y : Int), at_ = .int .i64 x ∧ free = .int .i64 y ∧ i = .int .i64 k ∧ k ≤ 4 ∧ AtF (T b) s k x ∧ FreeF (T b) k y ∧ ArP (ins L q) wr a ws n (m + 3 * k) P ∧ Blk wr q 71 #[.int .i64 (headW s 1), .int .i64 (firstW s), .int .i64 (secondW s)] ∧ DAt (ins L q) wr d a f ∧ Keeps L w wr) (fun at_ free i _ => 4 - (intOf i).toNat)
  case atStart => exact ⟨0, -1, -1, rfl, rfl, rfl, by omega, .inr ⟨rfl, fun k v hk => absurd hk (by omega)⟩, .inr ⟨rfl, fun k hk => absurd hk (by omega)⟩, hA3, hX3, hD3, HK3.out⟩
  case round =>
    obtain ⟨k, x, y, rfl, rfl, rfl, hk, hat, hfr, hAr, hXr, hDr, hKr⟩ := hrel
    have HAT := Lib.hid hat
    have HFR := Lib.hid hfr
    clear hat hfr hA3 hX3 hD3 HK3
    by_cases hp : k < 4
    · have h1 : (k : Int) < 4 := by omega
      have HG := Lib.hid (get_slot hDr hAr hT0.out (by omega) hc hbl hp hcl hS)
      have HX := Lib.hid hXr
      have HD := Lib.hid hDr
      have HK := Lib.hid hKr
      clear hAr hXr hDr hKr
      have z0 : wr.cell? ⟨q, 0, none⟩ = some (.int .i64 (headW s 1)) := HX.out.cell 0
      go_wp2_with (fail)
      refine HG.out.mono ?_
      rintro e w4 ⟨rfl, hA4, hK4⟩
      generalize ho2 : Obj.cells #[Value.int IntKind.i64 (sW0 (T b k)), Value.int IntKind.i64 (sW1 (T b k)), Value.int IntKind.i64 (sW2 (T b k))] 71 = O2
      have hX4 := (hK4.blk HX.out (ins.new L q)).alloc O2
      have hZ4 : Blk (w4.alloc O2) w4.heap.size 71 #[.int .i64 (sW0 (T b k)), .int .i64 (sW1 (T b k)), .int .i64 (sW2 (T b k))] := by subst ho2; exact Blk.new _ _ _
      have z0 := hX4.cell 0
      have z1 := hX4.cell 1
      have z2 := hX4.cell 2
      have t0 := hZ4.cell 0
      have t1 := hZ4.cell 1
      have t2 := hZ4.cell 2
      have HX4 := Lib.hid hX4
      have HZ4 := Lib.hid hZ4
      clear hX4 hZ4
      have hx : ∀ e, T b k = some e → EntOk e := fun e he => (hT0.out.ok b k e hbl hp he).1
      have hsm := same_sW hx hs
      have hnu := num_sW hx
      have hA5 := hA4.alloc O2
      have hbd5 := hA5.bd
      have HK5 := Lib.hid (hK4.alloc hA4.bd O2)
      go_wp2_with (fail)
      refine (same_calls _ _ _ _ _ _ _).mono ?_
      rintro e w5 ⟨rfl, hB5⟩
      generalize w4.alloc O2 = w4' at *
      generalize (!(sW0 (T b k) % 2147483648 == 0) && (sW0 (T b k) / 2147483648 == headW s 1 / 2147483648) && (sW1 (T b k) == firstW s) && (sW2 (T b k) == secondW s)) = sb at *
      have hA6 := Lib.hid (hA5.below hB5)
      have hK6 := Lib.hid (HK5.out.trans ((Keeps.ofBelow hB5).sub fun j hj => hbd5 j hj))
      have u0 := (HZ4.out.of_heap (hB5.block _ HZ4.out.lt)).cell 0
      have u1 := (HZ4.out.of_heap (hB5.block _ HZ4.out.lt)).cell 1
      have u2 := (HZ4.out.of_heap (hB5.block _ HZ4.out.lt)).cell 2
      clear t0 t1 t2 z0 z1 z2 hA4 hK4 hA5 hbd5 ho2 hB5
      have HSN := Lib.hid (fun W => snum_calls (sW0 (T b k)) (sW1 (T b k)) (sW2 (T b k)) W)
      have hcase : (sb = true ∧ (∃ v, T b k = some (s, v)) ∧ ¬ sW0 (T b k) % 2147483648 = 0) ∨ (sb = false ∧ (∀ v, T b k ≠ some (s, v)) ∧ T b k ≠ none ∧ ¬ sW0 (T b k) % 2147483648 = 0) ∨ (sb = false ∧ (∀ v, T b k ≠ some (s, v)) ∧ T b k = none ∧ sW0 (T b k) % 2147483648 = 0) := by
        rcases htk : T b k with _ | e
        · rw [htk] at hnu hsm
          refine .inr (.inr ⟨?_, fun v h => (by cases h), rfl, (hnu : sW0 none % 2147483648 = 0)⟩)
          cases sb
          · rfl
          · obtain ⟨v, hv⟩ := hsm.1 rfl
            cases hv
        · have hv := (hx e htk).2
          rw [htk] at hnu hsm
          have hne : ¬ sW0 (some e) % 2147483648 = 0 := by rw [hnu]; simp only [numOf]; omega
          cases sb
          · refine .inr (.inl ⟨rfl, fun v h => ?_, (fun h => by cases h), hne⟩)
            have := hsm.2 ⟨v, h⟩
            cases this
          · exact .inl ⟨rfl, hsm.1 rfl, hne⟩
      have hK5b := hK6
      have hb6 : ∀ j, ins L q j → j < w5.heap.size := hA6.out.bd
      clear hsm hnu hK6
      generalize sW0 (T b k) = h0 at *
      generalize sW1 (T b k) = h1' at *
      generalize sW2 (T b k) = h2' at *
      generalize hz : h0 % 2147483648 = z at *
      rcases hcase with ⟨rfl, ⟨v, hv⟩, hz0⟩ | ⟨rfl, hv, hn, hz0⟩ | ⟨rfl, hv, hn, rfl⟩
      · have HAT2 := Lib.hid (AtF.yes hv)
        have HFR2 := Lib.hid (HFR.out.keep (.inr (by rw [hv]; exact fun h => by cases h)))
        have hz1 : (z == 0) = false := by simpa using hz0
        go_wp2_with (go_at_call 35; refine (HSN.out _).mono ?_; rintro e w7 ⟨rfl, hB7⟩)
        go_roundw
        case rel => exact ⟨k + 1, k, y, rfl, rfl, by first | rfl | (congr 1; omega), by omega, HAT2.out, HFR2.out, (hA6.out.below hB7).mono (by omega), (hK5b.trans (Keeps.ofBelow hB7 |>.sub hb6)).blk HX.out (ins.new L q), HD.out.keep (hK5b.trans (Keeps.ofBelow hB7 |>.sub hb6)), HK.out.trans ((hK5b.trans (Keeps.ofBelow hB7 |>.sub hb6)).sub fun _ => ins.old)⟩
        case measure =>
          simp only [intOf]
          omega
      · have HAT2 := Lib.hid (HAT.out.no hv)
        have HFR2 := Lib.hid (HFR.out.keep (.inr hn))
        have hz1 : (z == 0) = false := by simpa using hz0
        go_wp2_with (go_at_call 35; refine (HSN.out _).mono ?_; rintro e w7 ⟨rfl, hB7⟩)
        go_roundw
        case rel => exact ⟨k + 1, x, y, rfl, rfl, by first | rfl | (congr 1; omega), by omega, HAT2.out, HFR2.out, (hA6.out.below hB7).mono (by omega), (hK5b.trans (Keeps.ofBelow hB7 |>.sub hb6)).blk HX.out (ins.new L q), HD.out.keep (hK5b.trans (Keeps.ofBelow hB7 |>.sub hb6)), HK.out.trans ((hK5b.trans (Keeps.ofBelow hB7 |>.sub hb6)).sub fun _ => ins.old)⟩
        case measure =>
          simp only [intOf]
          omega
      · have HAT2 := Lib.hid (HAT.out.no hv)
        by_cases hy : y < 0
        · have HFR2 := Lib.hid (FreeF.yes hn)
          go_wp2_with (go_at_call 35; refine (HSN.out _).mono ?_; rintro e w7 ⟨rfl, hB7⟩)
          go_roundw
          case rel => exact ⟨k + 1, x, k, rfl, rfl, by first | rfl | (congr 1; omega), by omega, HAT2.out, HFR2.out, (hA6.out.below hB7).mono (by omega), (hK5b.trans (Keeps.ofBelow hB7 |>.sub hb6)).blk HX.out (ins.new L q), HD.out.keep (hK5b.trans (Keeps.ofBelow hB7 |>.sub hb6)), HK.out.trans ((hK5b.trans (Keeps.ofBelow hB7 |>.sub hb6)).sub fun _ => ins.old)⟩
          case measure =>
            simp only [intOf]
            omega
        · have HFR2 := Lib.hid (HFR.out.keep (.inl hy))
          go_wp2_with (go_at_call 35; refine (HSN.out _).mono ?_; rintro e w7 ⟨rfl, hB7⟩)
          go_roundw
          case rel => exact ⟨k + 1, x, y, rfl, rfl, by first | rfl | (congr 1; omega), by omega, HAT2.out, HFR2.out, (hA6.out.below hB7).mono (by omega), (hK5b.trans (Keeps.ofBelow hB7 |>.sub hb6)).blk HX.out (ins.new L q), HD.out.keep (hK5b.trans (Keeps.ofBelow hB7 |>.sub hb6)), HK.out.trans ((hK5b.trans (Keeps.ofBelow hB7 |>.sub hb6)).sub fun _ => ins.old)⟩
          case measure =>
            simp only [intOf]
            omega
    · have e : k = 4 := by omega
      subst e
      go_wp2_with (fail)
      go_ret2
      subst hbu
      exact ⟨⟨x, y, rfl, HAT.out, HFR.out⟩, hAr.sub fun _ => ins.old, hKr⟩
end
end Go.Proofs.Ytkbajjpdngfhbaa
