
/- dir: Find, Insert, Remove. -/
import Derived.Test.YtkbajjpdngfhbaaDirFind
import Derived.Test.YtkbajjpdngfhbaaDirMay
namespace Go.Proofs.Ytkbajjpdngfhbaa
open Go.RowKit
set_option maxHeartbeats 1000000
section
variable {L : Nat → Prop} {w : World} {a d : Nat} {ws : List Int} {n m : Nat} {P : List (List Acc) → Prop} {f : Int} {T : Nat → Nat → Option Ent}
theorem may_b (h : DAt L w d a f) (hA : ArP L w a ws n m P) (c : Int) (l : List ByteArray) (hl : l.length ≤ 1000) (cap : Nat) :
    Calls Try.prog 29 #[.pointer (some ⟨d, 0, none⟩), .int .i64 c, .slice (some ⟨w.heap.size, 0, none⟩) l.length cap] (w.alloc (.cells (l.map Value.string).toArray 9)) fun e w' => e = .returned (.int .i64 (mayE n c l)) ∧ DAt L w' d a f ∧ ArP L w' a ws n m P ∧ Keeps L w w' := by
  have hbd := hA.bd
  have hA1 := hA.alloc (.cells (l.map Value.string).toArray 9)
  have hbd1 := hA1.bd
  have hK1 := (Keeps.refl L w).alloc hbd (.cells (l.map Value.string).toArray 9)
  have hD1 := h.keep hK1
  refine (dmay_calls hD1 hA1 c l _ cap hl (Blk.new _ _ _)).mono ?_
  rintro e w' ⟨rfl, hB⟩
  have hk := (Keeps.ofBelow hB).sub fun j hj => hbd1 j hj
  exact ⟨rfl, hD1.keep hk, hA1.below hB, hK1.trans hk⟩
theorem may1 (h : DAt L w d a f) (hA : ArP L w a ws n m P) (c : Int) (s : ByteArray) {r : Int} (hr : mayE n c [s] = r) :
    Calls Try.prog 29 #[.pointer (some ⟨d, 0, none⟩), .int .i64 c, .slice (some ⟨w.heap.size, 0, none⟩) 1 1] (w.alloc (.cells #[.string s] 9)) fun e w' => e = .returned (.int .i64 r) ∧ DAt L w' d a f ∧ ArP L w' a ws n m P ∧ Keeps L w w' := hr ▸ may_b h hA c [s] (by simp) 1
theorem may2 (h : DAt L w d a f) (hA : ArP L w a ws n m P) (c : Int) (s t : ByteArray) {r : Int} (hr : mayE n c [s, t] = r) :
    Calls Try.prog 29 #[.pointer (some ⟨d, 0, none⟩), .int .i64 c, .slice (some ⟨w.heap.size, 0, none⟩) 2 2] (w.alloc (.cells #[.string s, .string t] 9)) fun e w' => e = .returned (.int .i64 r) ∧ DAt L w' d a f ∧ ArP L w' a ws n m P ∧ Keeps L w w' := hr ▸ may_b h hA c [s, t] (by simp) 2
theorem mayE_core {n : Nat} {c : Int} {l : List ByteArray} (h : mayE n c l = 0) : (0 ≤ c ∧ c < (n : Int)) ∧ allOk l = true := by
  unfold mayE at h
  by_cases q : (0 ≤ c ∧ c < (n : Int)) ∧ allOk l = true
  · exact q
  · rw [if_neg q] at h; cases h
theorem mayE_or (n : Nat) (c : Int) (l : List ByteArray) : mayE n c l = 0 ∨ mayE n c l = 900 := by
  unfold mayE
  split
  · exact .inl rfl
  · exact .inr rfl
theorem allOk1 {s : ByteArray} (h : allOk [s] = true) : ncheck s = 0 := by
  unfold allOk at h
  simpa using h
theorem allOk2 {s t : ByteArray} (h : allOk [s, t] = true) : ncheck s = 0 ∧ ncheck t = 0 := by
  unfold allOk at h
  simpa using h
theorem find_b (h : DAt L w d a f) (hA : ArP L w a ws n m P) (hT : Tab ws f T) (hm : m ≤ 1099511627000) {c : Int} (hc : 0 ≤ c ∧ c < n) {s : ByteArray} (hs : s.size ≤ 12) {S : Acc → Prop} (hcl : Cl n P c S) (hS : ∀ i, f + (nbucket s : Int) * 13 ≤ i → i < f + (nbucket s : Int) * 13 + 13 → S (i, false)) :
    Calls Try.prog 30 #[.pointer (some ⟨d, 0, none⟩), .int .i64 c, .string s] w fun e w' => (∃ x y, e = .returned (.tuple #[.int .i64 x, .int .i64 y]) ∧ AtF (T (nbucket s)) s 4 x ∧ FreeF (T (nbucket s)) 4 y) ∧ DAt L w' d a f ∧ ArP L w' a ws n (m + 12) P ∧ Keeps L w w' := by
  refine (find_calls h hA hT hm hc hs hcl hS).mono ?_
  rintro e w' ⟨h1, h2, h3⟩
  exact ⟨h1, h.keep h3, h2, h3⟩
/-- What Find tells. -/
def FindR (B : Nat → Option Ent) (s : ByteArray) (r e : Int) : Prop := (∃ k v, k < 4 ∧ B k = some (s, v) ∧ r = (v : Int) ∧ e = 0) ∨ ((∀ k v, k < 4 → B k ≠ some (s, v)) ∧ r = 0 ∧ e = 903)
set_option maxRecDepth 1000000 in
theorem Find_err (h : DAt L w d a f) (hA : ArP L w a ws n m P) {c : Int} {s : ByteArray} (hc : mayE n c [s] = 900) :
    Calls Try.prog 14 #[.pointer (some ⟨d, 0, none⟩), .int .i64 c, .string s] w fun e w' => e = .returned (.tuple #[.int .i64 0, .int .i64 900]) ∧ DAt L w' d a f ∧ ArP L w' a ws n m P ∧ Keeps L w w' := by
  have H := Lib.hid (may1 h hA c s hc)
  clear h hA
  go_enter Try.func14, Try.ntmps14
  go_wp2_with (fail)
  refine H.out.mono ?_
  rintro e w1 ⟨rfl, hD, hA, hK⟩
  go_wp2_with (fail)
  go_ret2
  exact ⟨rfl, hD, hA, hK⟩
set_option maxRecDepth 1000000 in
theorem Find_ok (h : DAt L w d a f) (hA : ArP L w a ws n m P) (hT : Tab ws f T) (hm : m ≤ 1099511620000) {c : Int} {s : ByteArray} (hc : mayE n c [s] = 0) {S : Acc → Prop} (hcl : Cl n P c S) (hS : ∀ i, f + (nbucket s : Int) * 13 ≤ i → i < f + (nbucket s : Int) * 13 + 13 → S (i, false)) :
    Calls Try.prog 14 #[.pointer (some ⟨d, 0, none⟩), .int .i64 c, .string s] w fun e w' => (∃ x y, e = .returned (.tuple #[.int .i64 x, .int .i64 y]) ∧ FindR (T (nbucket s)) s x y) ∧ DAt L w' d a f ∧ ArP L w' a ws n (m + 15) P ∧ Keeps L w w' := by
  obtain ⟨hc1, hok⟩ := mayE_core hc
  have hs := ncheck_size (allOk1 hok)
  have hbl := nbucket_lt s
  have HT := Lib.hid hT
  have H := Lib.hid (may1 h hA c s hc)
  clear h hA hT hok hc
  go_enter Try.func14, Try.ntmps14
  go_wp2_with (fail)
  refine H.out.mono ?_
  rintro e w1 ⟨rfl, hD1, hA1, hK1⟩
  go_wp2_with (fail)
  refine (find_b hD1 hA1 HT.out (by omega) hc1 hs hcl hS).mono ?_
  rintro e w2 ⟨⟨x, y, rfl, hat, hfr⟩, hD2, hA2, hK2⟩
  have HK2 := Lib.hid (hK1.trans hK2)
  clear hD1 hA1 hK1 hK2 hfr
  rcases hat with ⟨k, v, hk, rfl, hv⟩ | ⟨rfl, hv⟩
  · have hk0 : ¬ (k : Int) < 0 := by omega
    have HF := Lib.hid (show FindR (T (nbucket s)) s v 0 from .inl ⟨k, v, hk, hv, rfl, rfl⟩)
    have hE := (HT.out.ok _ k _ hbl hk hv).1
    have hvn : sW0 (T (nbucket s) k) % 2147483648 = (v : Int) := by rw [hv]; exact num_sW (x := some (s, v)) (fun e he => by cases he; exact hE)
    clear hv
    go_wp2_with (go_at_call 32; refine (bucket_calls s _).mono ?_; rintro e w3 ⟨rfl, hB3⟩)
    have hbd2 := hA2.bd
    have hk3 := (Keeps.ofBelow hB3).sub fun j hj => hbd2 j hj
    refine (get_slot (hD2.keep hk3) (hA2.below hB3) HT.out (by omega) hc1 hbl hk hcl hS).mono ?_
    rintro e w4 ⟨rfl, hA4, hK4⟩
    have hbd4 := hA4.bd
    have HS := Lib.hid (snum_calls (sW0 (T (nbucket s) k)) (sW1 (T (nbucket s) k)) (sW2 (T (nbucket s) k)) w4)
    rw [hvn] at HS
    go_wp2_with (go_at_call 35; refine HS.out.mono ?_; rintro e w5 ⟨rfl, hB5⟩)
    have hk5 := (Keeps.ofBelow hB5).sub fun j hj => hbd4 j hj
    go_ret2
    exact ⟨⟨v, 0, rfl, HF.out⟩, hD2.keep ((hk3.trans hK4).trans hk5), (hA4.below hB5).mono (by omega), HK2.out.trans ((hk3.trans hK4).trans hk5)⟩
  · have HF := Lib.hid (show FindR (T (nbucket s)) s 0 903 from .inr ⟨hv, rfl, rfl⟩)
    clear hv
    go_wp2_with (fail)
    go_ret2
    exact ⟨⟨0, 903, rfl, HF.out⟩, hD2, hA2.mono (by omega), HK2.out⟩

theorem put_b (h : DAt L w d a f) (hA : ArP L w a ws n m P) (hT : Tab ws f T) (hm : m ≤ 1099511627000) {c : Int} {b k : Nat} (hc : 0 ≤ c ∧ c < n) (hb : b < 8) (hk : k < 4) {S : Acc → Prop} (hcl : Cl n P c S) (hS : ∀ i, f + (b : Int) * 13 ≤ i → i < f + (b : Int) * 13 + 13 → S (i, true)) (x : Option Ent) {v0 v1 v2 : Int} (h0 : v0 = sW0 x) (h1 : v1 = sW1 x) (h2 : v2 = sW2 x)
    (hx : ∀ e, x = some e → EntOk e ∧ nbucket e.1 = b) (hn : ∀ e, x = some e → ∀ k' e', k' < 4 → k' ≠ k → T b k' = some e' → e.1 ≠ e'.1) :
    Calls Try.prog 31 #[.pointer (some ⟨d, 0, none⟩), .int .i64 c, .int .i64 b, .int .i64 k, .agg #[.int .i64 v0, .int .i64 v1, .int .i64 v2]] w fun e w' => e = .returned (.tuple #[]) ∧ ∃ ws', Tab ws' f (updS T b k x) ∧ DAt L w' d a f ∧ ArP L w' a ws' n (m + 5) P ∧ Keeps L w w' := by
  subst h0 h1 h2
  refine (put_calls h hA (by omega) c b k hc (by omega) (by omega) hT.len.2 hcl hS _ _ _).mono ?_
  rintro e w' ⟨rfl, ws', hl, hr, hA', hK'⟩
  exact ⟨rfl, ws', hT.set hb hk hl hr hx hn, h.keep hK', hA', hK'⟩
/-- What Insert tells and does. -/
def InsR (T : Nat → Nat → Option Ent) (s : ByteArray) (v : Nat) (e : Int) (T' : Nat → Nat → Option Ent) : Prop :=
  ((∃ k u, k < 4 ∧ T (nbucket s) k = some (s, u)) ∧ e = 901 ∧ T' = T) ∨
  ((∀ k u, k < 4 → T (nbucket s) k ≠ some (s, u)) ∧ (∀ k, k < 4 → T (nbucket s) k ≠ none) ∧ e = 902 ∧ T' = T) ∨
  ((∀ k u, k < 4 → T (nbucket s) k ≠ some (s, u)) ∧ ∃ k, k < 4 ∧ T (nbucket s) k = none ∧ e = 0 ∧ T' = updS T (nbucket s) k (some (s, v)))
set_option maxRecDepth 1000000 in
theorem Insert_err (h : DAt L w d a f) (hA : ArP L w a ws n m P) {c : Int} {s : ByteArray} {v : Int} (hc : mayE n c [s] = 900) :
    Calls Try.prog 10 #[.pointer (some ⟨d, 0, none⟩), .int .i64 c, .string s, .int .i64 v] w fun e w' => e = .returned (.int .i64 900) ∧ DAt L w' d a f ∧ ArP L w' a ws n m P ∧ Keeps L w w' := by
  have H := Lib.hid (may1 h hA c s hc)
  clear h hA
  go_enter Try.func10, Try.ntmps10
  go_wp2_with (fail)
  refine H.out.mono ?_
  rintro e w1 ⟨rfl, hD, hA, hK⟩
  go_wp2_with (fail)
  go_ret
  exact ⟨rfl, hD, hA, hK⟩
set_option maxRecDepth 1000000 in
theorem Insert_num (h : DAt L w d a f) (hA : ArP L w a ws n m P) {c : Int} {s : ByteArray} {v : Int} (hc : mayE n c [s] = 0) (hv : v < 1 ∨ 2147483648 ≤ v) :
    Calls Try.prog 10 #[.pointer (some ⟨d, 0, none⟩), .int .i64 c, .string s, .int .i64 v] w fun e w' => e = .returned (.int .i64 900) ∧ DAt L w' d a f ∧ ArP L w' a ws n m P ∧ Keeps L w w' := by
  have H := Lib.hid (may1 h hA c s hc)
  clear h hA
  have hv2 : v < 1 ∨ (¬ v < 1 ∧ 2147483648 ≤ v) := by omega
  clear hv
  rcases hv2 with hv | ⟨hv, hv2⟩
  · go_enter Try.func10, Try.ntmps10
    go_wp2_with (fail)
    refine H.out.mono ?_
    rintro e w1 ⟨rfl, hD, hA, hK⟩
    go_wp2_with (fail)
    go_ret
    exact ⟨rfl, hD, hA, hK⟩
  · go_enter Try.func10, Try.ntmps10
    go_wp2_with (fail)
    refine H.out.mono ?_
    rintro e w1 ⟨rfl, hD, hA, hK⟩
    go_wp2_with (fail)
    go_ret
    exact ⟨rfl, hD, hA, hK⟩
set_option maxRecDepth 1000000 in
theorem Insert_ok (h : DAt L w d a f) (hA : ArP L w a ws n m P) (hT : Tab ws f T) (hm : m ≤ 1099511620000) {c : Int} {s : ByteArray} {v : Nat} (hc : mayE n c [s] = 0) (hv1 : 1 ≤ v) (hv2 : v < 2147483648) {S : Acc → Prop} (hcl : Cl n P c S) (hS : ∀ i bb, f + (nbucket s : Int) * 13 ≤ i → i < f + (nbucket s : Int) * 13 + 13 → S (i, bb)) :
    Calls Try.prog 10 #[.pointer (some ⟨d, 0, none⟩), .int .i64 c, .string s, .int .i64 v] w fun e w' => ∃ r ws' T', e = .returned (.int .i64 r) ∧ InsR T s v r T' ∧ Tab ws' f T' ∧ DAt L w' d a f ∧ ArP L w' a ws' n (m + 17) P ∧ Keeps L w w' := by
  obtain ⟨hc1, hok⟩ := mayE_core hc
  have hnc := allOk1 hok
  have hs := ncheck_size hnc
  have hbl := nbucket_lt s
  have HT := Lib.hid hT
  have H := Lib.hid (may1 h hA c s hc)
  clear h hA hT hok hc
  obtain ⟨z, hz⟩ : ∃ z : Int, (v : Int) = z := ⟨_, rfl⟩
  have hv3 : ¬ z < 1 := by omega
  have hv4 : ¬ (2147483648 : Int) ≤ z := by omega
  have HPK := Lib.hid (fun W => pack_calls s hs v hv2 W)
  rw [hz] at HPK
  rw [hz]
  have HV := Lib.hid hv1
  have HV2 := Lib.hid hv2
  clear hz hv1 hv2
  go_enter Try.func10, Try.ntmps10
  go_wp2_with (fail)
  refine H.out.mono ?_
  rintro e w1 ⟨rfl, hD1, hA1, hK1⟩
  go_wp2_with (fail)
  refine (find_b hD1 hA1 HT.out (by omega) hc1 hs hcl (fun i h1 h2 => hS i false h1 h2)).mono ?_
  rintro e w2 ⟨⟨x, y, rfl, hat, hfr⟩, hD2, hA2, hK2⟩
  have HK2 := Lib.hid (hK1.trans hK2)
  clear hD1 hA1 hK1 hK2
  rcases hat with ⟨k, u, hk, rfl, hu⟩ | ⟨rfl, hu⟩
  · have hk0 : (0 : Int) ≤ (k : Int) := by omega
    have HF := Lib.hid (show InsR T s v 901 T from .inl ⟨⟨k, u, hk, hu⟩, rfl, rfl⟩)
    clear hu hfr
    go_wp2_with (fail)
    go_ret
    exact ⟨901, ws, T, rfl, HF.out, HT.out, hD2, hA2.mono (by omega), HK2.out⟩
  · rcases hfr with ⟨k, hk, rfl, hk2⟩ | ⟨rfl, hk2⟩
    · have hk0 : ¬ (k : Int) < 0 := by omega
      have HF := Lib.hid (show InsR T s v 0 (updS T (nbucket s) k (some (s, v))) from .inr (.inr ⟨fun k u hk => hu k u hk, k, hk, hk2, rfl, rfl⟩))
      have HX := Lib.hid (show ∀ e, some (s, v) = some e → EntOk e ∧ nbucket e.1 = nbucket s from fun e he => by cases he; exact ⟨⟨hnc, HV.out, HV2.out⟩, rfl⟩)
      have HN := Lib.hid (show ∀ e, some (s, v) = some e → ∀ k' e', k' < 4 → k' ≠ k → T (nbucket s) k' = some e' → e.1 ≠ e'.1 from fun e he k' e' hk' _ hT' hne => by cases he; obtain ⟨e1, e2⟩ := e'; simp only at hne; subst hne; exact hu k' e2 hk' hT')
      clear hu hk2
      go_wp2_with (go_at_call 32; refine (bucket_calls s _).mono ?_; rintro e w3 ⟨rfl, hB3⟩)
      have hbd2 := hA2.bd
      have hk3 := (Keeps.ofBelow hB3).sub fun j hj => hbd2 j hj
      have hD3 := hD2.keep hk3
      have hA3 := hA2.below hB3
      have hbd3 := hA3.bd
      clear hA2 hD2
      go_wp2_with (go_at_call 33; refine (HPK.out _).mono ?_; rintro e w4 ⟨rfl, hB4⟩)
      have hk4 := (Keeps.ofBelow hB4).sub fun j hj => hbd3 j hj
      have HP := Lib.hid (put_b (hD3.keep hk4) (hA3.below hB4) HT.out (by omega) hc1 hbl hk hcl (fun i h1 h2 => hS i true h1 h2) (some (s, v)) rfl rfl rfl HX.out HN.out)
      go_wp2_with (go_at_call 31; refine HP.out.mono ?_; rintro e w5 ⟨rfl, ws5, hT5, hD5, hA5, hK5⟩)
      go_ret
      exact ⟨0, ws5, _, rfl, HF.out, hT5, hD5, hA5.mono (by omega), ((HK2.out.trans hk3).trans hk4).trans hK5⟩
    · have HF := Lib.hid (show InsR T s v 902 T from .inr (.inl ⟨fun k u hk => hu k u hk, hk2, rfl, rfl⟩))
      clear hu hk2
      go_wp2_with (fail)
      go_ret
      exact ⟨902, ws, T, rfl, HF.out, HT.out, hD2, hA2.mono (by omega), HK2.out⟩
/-- What Remove tells and does. -/
def RemR (T : Nat → Nat → Option Ent) (s : ByteArray) (e : Int) (T' : Nat → Nat → Option Ent) : Prop :=
  (∃ k u, k < 4 ∧ T (nbucket s) k = some (s, u) ∧ e = 0 ∧ T' = updS T (nbucket s) k none) ∨
  ((∀ k u, k < 4 → T (nbucket s) k ≠ some (s, u)) ∧ e = 903 ∧ T' = T)
set_option maxRecDepth 1000000 in
theorem Remove_err (h : DAt L w d a f) (hA : ArP L w a ws n m P) {c : Int} {s : ByteArray} (hc : mayE n c [s] = 900) :
    Calls Try.prog 12 #[.pointer (some ⟨d, 0, none⟩), .int .i64 c, .string s] w fun e w' => e = .returned (.int .i64 900) ∧ DAt L w' d a f ∧ ArP L w' a ws n m P ∧ Keeps L w w' := by
  have H := Lib.hid (may1 h hA c s hc)
  clear h hA
  go_enter Try.func12, Try.ntmps12
  go_wp2_with (fail)
  refine H.out.mono ?_
  rintro e w1 ⟨rfl, hD, hA, hK⟩
  go_wp2_with (fail)
  go_ret
  exact ⟨rfl, hD, hA, hK⟩
set_option maxRecDepth 1000000 in
theorem Remove_ok (h : DAt L w d a f) (hA : ArP L w a ws n m P) (hT : Tab ws f T) (hm : m ≤ 1099511620000) {c : Int} {s : ByteArray} (hc : mayE n c [s] = 0) {S : Acc → Prop} (hcl : Cl n P c S) (hS : ∀ i bb, f + (nbucket s : Int) * 13 ≤ i → i < f + (nbucket s : Int) * 13 + 13 → S (i, bb)) :
    Calls Try.prog 12 #[.pointer (some ⟨d, 0, none⟩), .int .i64 c, .string s] w fun e w' => ∃ r ws' T', e = .returned (.int .i64 r) ∧ RemR T s r T' ∧ Tab ws' f T' ∧ DAt L w' d a f ∧ ArP L w' a ws' n (m + 17) P ∧ Keeps L w w' := by
  obtain ⟨hc1, hok⟩ := mayE_core hc
  have hnc := allOk1 hok
  have hs := ncheck_size hnc
  have hbl := nbucket_lt s
  have HT := Lib.hid hT
  have H := Lib.hid (may1 h hA c s hc)
  clear h hA hT hok hc
  go_enter Try.func12, Try.ntmps12
  go_wp2_with (fail)
  refine H.out.mono ?_
  rintro e w1 ⟨rfl, hD1, hA1, hK1⟩
  go_wp2_with (fail)
  refine (find_b hD1 hA1 HT.out (by omega) hc1 hs hcl (fun i h1 h2 => hS i false h1 h2)).mono ?_
  rintro e w2 ⟨⟨x, y, rfl, hat, hfr⟩, hD2, hA2, hK2⟩
  have HK2 := Lib.hid (hK1.trans hK2)
  clear hD1 hA1 hK1 hK2 hfr
  rcases hat with ⟨k, u, hk, rfl, hu⟩ | ⟨rfl, hu⟩
  · have hk0 : ¬ (k : Int) < 0 := by omega
    have HF := Lib.hid (show RemR T s 0 (updS T (nbucket s) k none) from .inl ⟨k, u, hk, hu, rfl, rfl⟩)
    clear hu
    go_wp2_with (go_at_call 32; refine (bucket_calls s _).mono ?_; rintro e w3 ⟨rfl, hB3⟩)
    have hbd2 := hA2.bd
    have hk3 := (Keeps.ofBelow hB3).sub fun j hj => hbd2 j hj
    have hD3 := hD2.keep hk3
    have hA3 := hA2.below hB3
    have HP := Lib.hid (put_b hD3 hA3 HT.out (by omega) hc1 hbl hk hcl (fun i h1 h2 => hS i true h1 h2) none rfl rfl rfl (fun e he => by cases he) (fun e he => by cases he))
    clear hA2 hD2 hD3 hA3
    go_wp2_with (go_at_call 31; refine HP.out.mono ?_; rintro e w5 ⟨rfl, ws5, hT5, hD5, hA5, hK5⟩)
    go_ret
    exact ⟨0, ws5, _, rfl, HF.out, hT5, hD5, hA5.mono (by omega), (HK2.out.trans hk3).trans hK5⟩
  · have HF := Lib.hid (show RemR T s 903 T from .inr ⟨fun k u hk => hu k u hk, rfl, rfl⟩)
    clear hu
    go_wp2_with (fail)
    go_ret
    exact ⟨903, ws, T, rfl, HF.out, HT.out, hD2, hA2.mono (by omega), HK2.out⟩
end
end Go.Proofs.Ytkbajjpdngfhbaa
