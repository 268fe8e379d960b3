
/- law7: what a call of RadixActs answers, whatever its arguments. -/
import Derived.Test.YtacjpchcaknacaaRadPg
import Derived.Test.YtacjpchcaknacaaLawRad
namespace Go.Proofs.Ytacjpchcaknacaa
open Go.RowKit
set_option maxHeartbeats 1000000

theorem vsArr_set (g : Int → Int) {p v : Int} (h : 0 ≤ p ∧ p < 16) : (vsArr g).setIfInBounds p.toNat (.int .i64 v) = vsArr (upd g p v) := by
  obtain ⟨k, rfl⟩ : ∃ k : Nat, p = k := ⟨p.toNat, by omega⟩
  apply Array.ext_getElem?
  intro i
  rw [Array.getElem?_setIfInBounds]
  by_cases hi : i < 16
  · rw [vsArr_at (upd g k v) hi]
    by_cases e : i = k
    · subst e
      rw [if_pos (by omega), if_pos (by simp [vsArr, hi])]
      simp [upd]
    · rw [if_neg (by omega), vsArr_at g hi]
      unfold upd
      rw [if_neg (by omega)]
  · have h1 : (vsArr g)[i]? = none := by simp [vsArr]; omega
    have h2 : (vsArr (upd g k v))[i]? = none := by simp [vsArr]; omega
    rw [h2]
    split
    · omega
    · exact h1

section
variable {L : Nat → Prop} {w : World} {a x : Nat} {ws : List Int} {n m : Nat} {P : List (List Acc) → Prop} {f : Int} {g : Int → Int}
theorem rSet_neg (h : ArP L w a ws n m P) (hx : RadAt L w x a f) (c p v : Int) (h0 : 0 ≤ c ∧ c < n) (hv : v < 0) :
    Calls Try.prog 37 #[.pointer (some ⟨x, 0, none⟩), .int .i64 c, .int .i64 p, .int .i64 v] w fun e w' => e = .returned (.int .i64 701) ∧ w = w' := by
  have hco := Lib.hid (cores_p h)
  have q0 := hx.2.cell 0
  clear h hx
  go_enter Try.func37, Try.ntmps37
  go_wp2_with (go_at_call 51; refine hco.out.mono ?_; rintro e w' ⟨rfl, rfl⟩)
  go_ret
  exact ⟨rfl, rfl⟩
theorem rCut_may {k : Int} (hk : (k != 0) = true) (c p : Int) (hmy : Calls Try.prog 61 #[.pointer (some ⟨x, 0, none⟩), .int .i64 c, .int .i64 p, .int .i64 17] w fun e w' => e = .returned (.int .i64 k) ∧ w = w') :
    Calls Try.prog 39 #[.pointer (some ⟨x, 0, none⟩), .int .i64 c, .int .i64 p] w fun e w' => e = .returned (.int .i64 k) ∧ w = w' := by
  have hmy := Lib.hid hmy
  go_enter Try.func39, Try.ntmps39
  go_wp2_with (go_at_call 61; refine hmy.out.mono ?_; rintro e w' ⟨rfl, rfl⟩)
  go_ret
  exact ⟨rfl, rfl⟩
theorem rPages_bad (hx : RadAt L w x a f) (h : ArP L w a ws n m P) (c : Int) (h0 : c < 0 ∨ (n : Int) ≤ c) :
    Calls Try.prog 42 #[.pointer (some ⟨x, 0, none⟩), .int .i64 c] w fun e w' => e = .returned (.slice none 0 0) ∧ w = w' := by
  have hmy := Lib.hid (may_core hx h c 0 1 h0)
  clear hx h
  go_enter Try.func42, Try.ntmps42
  go_wp2_with (go_at_call 61; refine hmy.out.mono ?_; rintro e w' ⟨rfl, rfl⟩)
  go_ret
  exact ⟨rfl, rfl⟩

theorem pages_bad (hx : RadAt L w x a f) (h : ArP L w a ws n m P) (c : Int) (h0 : c < 0 ∨ (n : Int) ≤ c) (gv : Nat) :
    Calls Try.prog 40 #[.pointer (some ⟨x, 0, none⟩), .int .i64 c, .slice (some ⟨gv, 0, none⟩) 16 16, .bool true] w fun e w' => e = .returned (.bool true) ∧ ArP L w' a ws n m P ∧ Keeps L w w' := by
  have HP := Lib.hid (fun W (hx : RadAt L W x a f) (h : ArP L W a ws n m P) => rPages_bad hx h c h0)
  have HS := Lib.hid (fun W => same_ints [] (.slice none 0 0) (.slice none 0 0) W ⟨rfl, none, 0, rfl, Nat.le_refl _, fun h => absurd h (by simp)⟩ ⟨rfl, none, 0, rfl, Nat.le_refl _, fun h => absurd h (by simp)⟩ (by simp))
  have HX := Lib.hid hx
  have HA := Lib.hid h
  clear hx h
  go_enter Try.func40, Try.ntmps40
  go_wp2
  go_loopw [9, 10] (fun v i wr => v = .slice none 0 0 ∧ i = .int .i64 0 ∧ wr = w) (fun _ _ _ => 0)
  case atStart => exact ⟨rfl, rfl, rfl⟩
  case round =>
    obtain ⟨rfl, rfl, rfl⟩ := hrel
    go_wp2_with (fail)
    refine (HP.out _ HX.out HA.out).mono ?_
    rintro e w' ⟨rfl, rfl⟩
    go_wp2_with (go_at_call 65; refine (HS.out _).mono ?_; rintro e w6 ⟨rfl, d6, rfl⟩)
    have hA6 : ArP (lo L (.slice none 0 0)) (wr.drewN d6) a ws n m P := by rw [lo_nil]; exact HA.out.drewN d6
    refine (spoil_ints (xs := []) (base := (wr.drewN d6).heap.size) (World.ownsRow_nil _ _ _ _) (by omega) HA.out.bd hA6).mono ?_
    rintro e w7 ⟨rfl, hP7, hK7⟩
    have hx7 := HX.out.keep hK7.undrewN
    go_wp2_with (fail)
    refine (HP.out _ hx7 hP7).mono ?_
    rintro e w' ⟨rfl, rfl⟩
    go_wp2_with (go_at_call 65; refine (HS.out _).mono ?_; rintro e w6 ⟨rfl, d8, rfl⟩)
    go_ret
    exact ⟨rfl, hP7.drewN d8, hK7.undrewN.drewN d8⟩
end

section
variable {L : Nat → Prop} {w : World} {a x : Nat} {ws : List Int} {m : Nat} {g : Int → Int}
/-- The state of a radix over three cores. -/
def RadS (L : Nat → Prop) (w : World) (x a : Nat) (f : Int) (m : Nat) (g : Int → Int) : Prop := RadAt L w x a f ∧ (∀ p, 0 ≤ p → p < 16 → 0 ≤ g p) ∧ ∃ ws, Rx ws f g ∧ ArP L w a ws 3 m (fun _ => True)
def badC (c : Int) : Prop := c < 0 ∨ 2 < c
def farP (p l : Int) : Prop := p < 0 ∨ l ≤ p
open Classical in
noncomputable def codeOf (bad far : Prop) : Int := if bad then 701 else if far then 700 else 0
open Classical in
theorem set_gen {f : Int} (h : RadS L w x a f m g) (hm : m ≤ 1099511600000) (c p v : Int) :
    Calls Try.prog 37 #[.pointer (some ⟨x, 0, none⟩), .int .i64 c, .int .i64 p, .int .i64 v] w fun e w' => e = .returned (.int .i64 (codeOf (badC c ∨ v < 0) (farP p 16))) ∧ RadS L w' x a f (m + 48) (if ¬ (badC c ∨ v < 0) ∧ ¬ farP p 16 then upd g p v else g) ∧ Keeps L w w' := by
  obtain ⟨hx, hg, ws, hr, hP⟩ := h
  unfold codeOf
  have same : RadS L w x a f (m + 48) g := ⟨hx, hg, ws, hr, hP.mono (by omega)⟩
  by_cases hb : badC c
  · rw [if_pos (.inl hb), if_neg (fun h => h.1 (.inl hb))]
    refine (rSet_may (k := 701) rfl hP hx c p v (by unfold badC at hb; omega) (may_core hx hP c p 16 (by unfold badC at hb; omega))).mono ?_
    rintro e w' ⟨rfl, rfl⟩
    exact ⟨rfl, same, Keeps.refl _ _⟩
  have h0 : 0 ≤ c ∧ c < ((3 : Nat) : Int) := by unfold badC at hb; omega
  by_cases hv : v < 0
  · rw [if_pos (.inr hv), if_neg (fun h => h.1 (.inr hv))]
    refine (rSet_neg hP hx c p v h0 hv).mono ?_
    rintro e w' ⟨rfl, rfl⟩
    exact ⟨rfl, same, Keeps.refl _ _⟩
  have hbv : ¬ (badC c ∨ v < 0) := fun h => h.elim hb hv
  rw [if_neg hbv]
  by_cases hf : farP p 16
  · rw [if_pos hf, if_neg (fun h => h.2 hf)]
    refine (rSet_may (k := 700) rfl hP hx c p v (by omega) (may_page hx hP c p 16 h0 (by unfold farP at hf; omega))).mono ?_
    rintro e w' ⟨rfl, rfl⟩
    exact ⟨rfl, same, Keeps.refl _ _⟩
  · rw [if_neg hf, if_pos ⟨hbv, hf⟩]
    have hp : 0 ≤ p ∧ p < 16 := by unfold farP at hf; omega
    refine (rSet_ok hx hP (by omega) hr c p v h0 hp (by omega) (Cl.true_ _ _ _)).mono ?_
    rintro e w' ⟨rfl, ws', hl', hr', hP', hK'⟩
    exact ⟨rfl, ⟨hx.keep hK', fun q q0 q1 => by unfold upd; split; omega; exact hg q q0 q1, ws', hr', hP'.mono (by omega)⟩, hK'⟩
open Classical in
theorem get_gen {f : Int} (h : RadS L w x a f m g) (hm : m ≤ 1099511600000) (c p : Int) :
    Calls Try.prog 38 #[.pointer (some ⟨x, 0, none⟩), .int .i64 c, .int .i64 p] w fun e w' => e = .returned (.tuple #[.int .i64 (if ¬ badC c ∧ ¬ farP p 16 then g p else 0), .int .i64 (codeOf (badC c) (farP p 16))]) ∧ RadS L w' x a f (m + 48) g ∧ Keeps L w w' := by
  obtain ⟨hx, hg, ws, hr, hP⟩ := h
  unfold codeOf
  have same : RadS L w x a f (m + 48) g := ⟨hx, hg, ws, hr, hP.mono (by omega)⟩
  by_cases hb : badC c
  · rw [if_pos hb, if_neg (fun h => h.1 hb)]
    refine (rGet_err (k := 701) rfl c p (may_core hx hP c p 16 (by unfold badC at hb; omega))).mono ?_
    rintro e w' ⟨rfl, rfl⟩
    exact ⟨rfl, same, Keeps.refl _ _⟩
  have h0 : 0 ≤ c ∧ c < ((3 : Nat) : Int) := by unfold badC at hb; omega
  rw [if_neg hb]
  by_cases hf : farP p 16
  · rw [if_pos hf, if_neg (fun h => h.2 hf)]
    refine (rGet_err (k := 700) rfl c p (may_page hx hP c p 16 h0 (by unfold farP at hf; omega))).mono ?_
    rintro e w' ⟨rfl, rfl⟩
    exact ⟨rfl, same, Keeps.refl _ _⟩
  · rw [if_neg hf, if_pos ⟨hb, hf⟩]
    have hp : 0 ≤ p ∧ p < 16 := by unfold farP at hf; omega
    refine (rGet_ok hx hP (by omega) hr c p h0 hp (Cl.true_ _ _ _)).mono ?_
    rintro e w' ⟨rfl, hP', hK'⟩
    exact ⟨rfl, ⟨hx.keep hK', hg, ws, hr, hP'.mono (by omega)⟩, hK'⟩
open Classical in
theorem cut_gen {f : Int} (h : RadS L w x a f m g) (hm : m ≤ 1099511600000) (c p : Int) :
    Calls Try.prog 39 #[.pointer (some ⟨x, 0, none⟩), .int .i64 c, .int .i64 p] w fun e w' => e = .returned (.int .i64 (codeOf (badC c) (farP p 17))) ∧ RadS L w' x a f (m + 48) (if ¬ badC c ∧ ¬ farP p 17 then cutf g p 16 else g) ∧ Keeps L w w' := by
  obtain ⟨hx, hg, ws, hr, hP⟩ := h
  unfold codeOf
  have same : RadS L w x a f (m + 48) g := ⟨hx, hg, ws, hr, hP.mono (by omega)⟩
  by_cases hb : badC c
  · rw [if_pos hb, if_neg (fun h => h.1 hb)]
    refine (rCut_may (k := 701) rfl c p (may_core hx hP c p 17 (by unfold badC at hb; omega))).mono ?_
    rintro e w' ⟨rfl, rfl⟩
    exact ⟨rfl, same, Keeps.refl _ _⟩
  have h0 : 0 ≤ c ∧ c < ((3 : Nat) : Int) := by unfold badC at hb; omega
  rw [if_neg hb]
  by_cases hf : farP p 17
  · rw [if_pos hf, if_neg (fun h => h.2 hf)]
    refine (rCut_may (k := 700) rfl c p (may_page hx hP c p 17 h0 (by unfold farP at hf; omega))).mono ?_
    rintro e w' ⟨rfl, rfl⟩
    exact ⟨rfl, same, Keeps.refl _ _⟩
  · rw [if_neg hf, if_pos ⟨hb, hf⟩]
    have hp : 0 ≤ p ∧ p ≤ 16 := by unfold farP at hf; omega
    refine (rCut_ok hx hP (by omega) hr hg c p h0 hp (Cl.true_ _ _ _)).mono ?_
    rintro e w' ⟨rfl, ws', hl', hr', hP', hK'⟩
    exact ⟨rfl, ⟨hx.keep hK', fun q q0 q1 => by unfold cutf; split; exact Int.le_refl _; exact hg q q0 q1, ws', hr', hP'⟩, hK'⟩
end
end Go.Proofs.Ytacjpchcaknacaa
