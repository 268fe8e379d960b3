
/- ref0: Decimal of small numbers. -/
import Derived.Test.YtkbajjpdngfhbaaLawDa
import Derived.Test.YtkbajjpdngfhbaaOut
namespace Go.Proofs.Ytkbajjpdngfhbaa
open Go.RowKit
set_option maxHeartbeats 1000000
/-- The decimal digits: none of 0; a number's own: 0 has one. -/
def dig : Nat → Nat → List Nat
  | 0, _ => []
  | b + 1, n => if n = 0 then [] else dig b (n / 10) ++ [n % 10]
def dgs (n : Nat) : List Nat := if n = 0 then [0] else dig 20 n
def lenV : Value → Nat
  | .slice _ n _ => n
  | _ => 0
def encD (l : List Nat) : List Value := l.map fun b => Value.int .u8 ((48 + b : Nat) : Int)
theorem encD_one (l : List Nat) : ∀ u ∈ encD l, u.oneCell' = true := by
  intro u hu
  obtain ⟨b, _, rfl⟩ := List.mem_map.1 hu
  rfl
/-- The string of some digits. -/
def strD (l : List Nat) : ByteArray := ⟨(l.map fun b => UInt8.ofNat (48 + b)).toArray⟩
theorem own_reads {w : World} {base n cap : Nat} {A : Option Addr} {e : TypeId} {xs : List Value} (h : w.ownsRow base e 1 (.slice A n cap) n xs) : Reads w w.heap.size 1 A n xs := by
  refine ⟨h.1, fun hn => ?_⟩
  rcases h.2 with ⟨h0, _⟩ | ⟨g, c, cur, hv, hb, hh, _⟩
  · cases h0; omega
  · have hA : A = some ⟨g, 0, none⟩ := by injection hv
    refine ⟨⟨g, 0, none⟩, hA, Blk.lt (show Blk w g _ cur from hh), fun j u hu => ?_⟩
    exact h.cells (g := g) (by rw [hA]; rfl) j u hu
theorem info_byteD : ∃ i z, Try.prog.info? 5 = some i ∧ i.zero = some z ∧ i.size = 1 ∧ i.bytes = 1 ∧ z.cells.size = 1 := by
  obtain ⟨i0, hi, hz0, hz1, hz2⟩ := info_parts info_byte
  exact ⟨i0, _, hi, hz0, hz1, hz2, rfl⟩
theorem dig_succ (b n : Nat) : dig (b + 1) n = if n = 0 then [] else dig b (n / 10) ++ [n % 10] := rfl
theorem dig_zero : ∀ b, dig b 0 = []
  | 0 => rfl
  | b + 1 => by unfold dig; rw [if_pos rfl]
theorem cv_digits {w : World} {base cap : Nat} {A : Option Addr} {l : List Nat} (hl : l ≠ []) (hd : ∀ b ∈ l, b < 10) (h : w.ownsRow base 5 1 (.slice A l.length cap) l.length (encD l)) : (convert 83 9 (.slice A l.length cap)).run Try.prog w = .ok (.string (strD l)) w := by
  rcases h.2 with ⟨h0, h1⟩ | ⟨g, c, cur, hv, hb, hh, _⟩
  · exact absurd (List.length_eq_zero_iff.1 h1) hl
  · have hA : A = some ⟨g, 0, none⟩ := by injection hv
    subst hA
    have hc := run_convert_bytes_back (P := Try.prog) w 83 9 5 ⟨g, 0, none⟩ cap (l.map fun b => UInt8.ofNat (48 + b)) Try.underlying83 Try.underlying5 Try.underlying9 (fun j hj => by
      have hj' : j < l.length := by simpa using hj
      have := h.cells (g := g) rfl j (Value.int .u8 ((48 + l[j] : Nat) : Int)) (by unfold encD; rw [List.getElem?_map, List.getElem?_eq_getElem hj']; rfl)
      rw [this]
      have hb := hd l[j] (List.getElem_mem hj')
      simp only [List.getElem_map]
      rw [UInt8.toNat_ofNat', Nat.mod_eq_of_lt (by omega)])
    rw [List.length_map] at hc
    exact hc
theorem dig_lt : ∀ b n, ∀ d ∈ dig b n, d < 10
  | 0, _, d, h => by cases h
  | b + 1, n, d, h => by
    unfold dig at h
    by_cases hn : n = 0
    · rw [if_pos hn] at h; cases h
    · rw [if_neg hn, List.mem_append, List.mem_singleton] at h
      rcases h with h | rfl
      · exact dig_lt b _ d h
      · exact Nat.mod_lt _ (by omega)
theorem dgs_lt (n : Nat) : ∀ d ∈ dgs n, d < 10 := by
  intro d h
  unfold dgs at h
  by_cases hn : n = 0
  · rw [if_pos hn, List.mem_singleton] at h; omega
  · rw [if_neg hn] at h
    exact dig_lt 20 n d h
set_option maxRecDepth 1000000 in
theorem decimal_calls (x : Nat) (hx : x < 1000) (w : World) :
    Calls Try.prog 20 #[.int .i64 x] w fun e w' => e = .returned (.string (strD (dgs x))) ∧ Below w.heap.size w w' := by
  obtain ⟨z, hz⟩ : ∃ z : Int, (x : Int) = z := ⟨_, rfl⟩
  have hz0 : ¬ z < 0 := by omega
  have hzw : IntKind.u64.wrap z = z := by rw [IntKind.wrap_u64]; omega
  obtain ⟨i0, dz, hi, hy0, hy1, hy2, hy3⟩ := info_byteD
  rw [hz]
  go_enter Try.func20, Try.ntmps20
  go_wp2_with (fail)
  go_loopw [4, 3] (fun v q wr => ∃ (k : Nat) (l : List Nat) (b : Nat), q = .int .u64 k ∧ k < 1000 ∧ l.length ≤ 40 - 2 * b ∧ b ≤ 20 ∧ k < 10 ^ b ∧ ((l = [] ∧ k = x ∧ v = .slice none 0 0) ∨ (l ≠ [] ∧ dig b k ++ l = dgs x)) ∧ (∃ A cap, v = .slice A l.length cap) ∧ wr.ownsRow w.heap.size 5 1 v l.length (encD l) ∧ Below w.heap.size w wr) (fun v q _ => 2 * (intOf q).toNat + (if lenV v = 0 then 1 else 0))
  case atStart => exact ⟨x, [], 20, by rw [hz], hx, by simp, by omega, Nat.lt_of_lt_of_le hx (by decide), .inl ⟨rfl, rfl, rfl⟩, ⟨none, 0, rfl⟩, World.ownsRow_nil _ _ _ _, Below.refl _ _⟩
  case round =>
    obtain ⟨k, l, b, rfl, hk, hll, hb, hkb, hrel, ⟨A, cap, rfl⟩, hown, hBr⟩ := hrel
    have HO := Lib.hid hown
    have HBR := Lib.hid hBr
    clear hown hBr
    by_cases hgo : 0 < k ∨ l.length = 0
    · obtain ⟨y, hy⟩ : ∃ y : Int, (k : Int) = y := ⟨_, rfl⟩
      have hyn : 0 ≤ y := by omega
      have hbase := HBR.out.size
      have OWN0 := Lib.hid (show (wr.alloc (.cells #[.int .u8 (48 + y % 10)] 5)).ownsRow w.heap.size 5 1 (.slice (some ⟨wr.heap.size, 0, none⟩) 1 1) 1 [.int .u8 (48 + y % 10)] from
        ⟨rfl, .inr ⟨wr.heap.size, 1, #[.int .u8 (48 + y % 10)], rfl, hbase, heap_alloc_new wr _, Nat.le_refl _, by decide, rfl, rfl⟩⟩)
      have HRD := Lib.hid ((own_reads HO.out).alloc (Nat.le_refl _) (Obj.cells #[.int .u8 (48 + y % 10)] 5))
      rw [hy]
      have HY := Lib.hid hy
      have HGO := Lib.hid hgo
      have hll2 : l.length ≤ 40 := by omega
      have hsp : l ≠ [] ∧ 0 < y ∨ (l = [] ∧ A = none ∧ cap = 0) := by
        by_cases q : l = []
        · refine .inr ⟨q, ?_⟩
          rcases hrel with ⟨_, _, h⟩ | ⟨h, _⟩
          · injection h with h1 h2 h3
            exact ⟨h1, h3⟩
          · exact absurd q h
        · refine .inl ⟨q, ?_⟩
          rcases hgo with h | h
          · omega
          · exact absurd (List.length_eq_zero_iff.1 h) q
      have hq10 : IntKind.u64.wrap (y.tdiv 10) = ((k / 10 : Nat) : Int) := by
        rw [← hy, Int.tdiv_eq_ediv_of_nonneg (by omega), IntKind.wrap_u64]
        omega
      have HQ10 := Lib.hid hq10
      have hdig : (48 + y % 10 : Int) = ((48 + k % 10 : Nat) : Int) := by omega
      have HDG := Lib.hid hdig
      clear hy hgo hq10 hdig
      have HREL := Lib.hid hrel
      clear hrel
      rcases hsp with ⟨hsp0, hsp⟩ | ⟨rfl, rfl, rfl⟩
      · go_wp2_with (first | (at_builtin; refine wpList_append_any _ rfl (.tmp 25) (.tmp 26) 83 rfl w.heap.size 5 i0 dz 1 1 Try.underlying83 hi hy0 hy1 hy2 hy3 (by omega) (.slice (some ⟨wr.heap.size, 0, none⟩) 1 1) 1 _ rfl OWN0.out wr.heap.size A l.length cap (encD l) rfl HRD.out (encD_one l) (by simp only [maxLen]; omega) (by omega) (by simp; omega) ?_; intro v1 w1 hown1 hg1 hat1))
        go_roundw
        case rel =>
          have hk0 : k ≠ 0 := by have := HY.out; omega
          obtain ⟨b, rfl⟩ : ∃ b', b = b' + 1 := ⟨b - 1, by
            rcases Nat.eq_zero_or_pos b with h | h
            · subst h; omega
            · omega⟩
          obtain ⟨g1, c1, rfl, _, _⟩ := hown1.form (by omega)
          have hdd : dig (b + 1) k ++ l = dgs x := by
            rcases HREL.out with ⟨h, _⟩ | ⟨_, h⟩
            · exact absurd h hsp0
            · exact h
          refine ⟨k / 10, (k % 10) :: l, b, by rw [HQ10.out], by omega, by simp; omega, by omega, ?_, .inr ⟨by simp, ?_⟩, ⟨_, _, by rw [List.length_cons, Nat.add_comm]⟩, ?_, (HBR.out.alloc HBR.out.size _).grown hg1 (by simp; omega) fun g hg => ?_⟩
          · rw [Nat.pow_succ] at hkb
            omega
          · rw [← hdd, dig_succ, if_neg hk0]
            simp
          · rw [HDG.out] at hown1
            rw [List.length_cons, Nat.add_comm l.length 1]
            exact hown1
          · have : wr.heap.size = g := by simpa [Value.ownBlock] using hg
            have := HBR.out.size
            omega
        case measure =>
          obtain ⟨g1, c1, rfl, _, _⟩ := hown1.form (by omega)
          have hl0 : l.length ≠ 0 := fun h => hsp0 (List.length_eq_zero_iff.1 h)
          have hk0 : k ≠ 0 := by have := HY.out; omega
          rw [HQ10.out, ← HY.out]
          simp only [intOf, lenV]
          have h1l : ¬ 1 + l.length = 0 := by omega
          simp only [h1l, hl0, if_false]
          omega
      · have hkx : k = x := by
          rcases HREL.out with ⟨_, h, _⟩ | ⟨h, _⟩
          · exact h
          · exact absurd rfl h
        have hfin : dig 19 (k / 10) ++ [k % 10] = dgs x := by
          subst hkx
          unfold dgs
          by_cases h0 : k = 0
          · rw [if_pos h0, h0, show (0 : Nat) / 10 = 0 by rfl, dig_zero]
            rfl
          · rw [if_neg h0, dig_succ 19 k, if_neg h0]
        have h19 : k / 10 < 10 ^ 19 := by
          have : (1000 : Nat) ≤ 10 ^ 19 := by decide
          omega
        have HFIN := Lib.hid hfin
        clear hfin hkx
        by_cases hy1' : 0 < y
        · go_wp2_with (fail)
          go_roundw
          case rel =>
            have HO0 := OWN0.out
            rw [HDG.out] at HO0
            refine ⟨k / 10, [k % 10], 19, by rw [HQ10.out], by omega, by show 1 ≤ 40 - 2 * 19; omega, by omega, h19, .inr ⟨by simp, HFIN.out⟩, ⟨_, _, rfl⟩, ?_, ?_⟩
            · rw [HDG.out]; exact HO0
            · exact HBR.out.alloc HBR.out.size _
          case measure =>
            have h := HY.out
            have h3 : y.toNat = k := by omega
            have h4 : 0 < k := by omega
            rw [HQ10.out]
            simp only [intOf, lenV, h3]
            simp
            omega
        · have y0 : y = 0 := by omega
          have k0 : k = 0 := by have := HY.out; omega
          subst y0 k0
          go_wp2_with (fail)
          go_roundw
          case rel =>
            refine ⟨0, [0], 19, rfl, by omega, by show 1 ≤ 40 - 2 * 19; omega, by omega, h19, .inr ⟨by simp, HFIN.out⟩, ⟨_, _, rfl⟩, OWN0.out, HBR.out.alloc HBR.out.size _⟩
          case measure =>
            simp [intOf, lenV]
    · have hk0 : k = 0 := by omega
      have hl0 : l.length ≠ 0 := by omega
      subst hk0
      have hln : l ≠ [] := fun h => hl0 (by rw [h]; rfl)
      have hdd : l = dgs x := by
        rcases hrel with ⟨h, _⟩ | ⟨_, h⟩
        · exact absurd h hln
        · rw [dig_zero] at h
          exact h
      have hcv := cv_digits hln (by rw [hdd]; exact dgs_lt x) HO.out
      have hl1 : ((l.length : Int) == 0) = false := beq_eq_false_iff_ne.2 (by omega)
      have hl2 : 0 < l.length := by omega
      have HDD := Lib.hid hdd
      clear hdd hrel
      go_wp2_with (fail)
      go_ret
      rw [← HDD.out]
      exact ⟨rfl, HBR.out⟩
end Go.Proofs.Ytkbajjpdngfhbaa
