
/- Arena: New; Fits; what refuses. -/
import Derived.Test.YtkbajjpdngfhbaaArOps
namespace Go.Proofs.Ytkbajjpdngfhbaa
open Go.RowKit
set_option maxHeartbeats 400000

theorem run_make_rowN {P : Program} (t e : TypeId) (i : TypeInfo) (z : Value) (ht : P.underlying t = some (.slice e)) (hi : P.info? e = some i) (hz : i.zero = some z)
    (kl kc : IntKind) (n c : Nat) (hnc : n ≤ c) (hbytes : i.bytes * c ≤ 281474976710656) (h63 : c ≤ 9223372036854775807) (w : World) :
    (Instr.makeSlice t (.int kl (n : Int)) (.int kc (c : Int))).run P w = .ok (.slice (some ⟨w.heap.size, 0, none⟩) n c) (w.alloc (.cells (madeCells z.cells (c * i.size)) e)) := by
  have hb : (i.bytes : Int) * (c : Int) ≤ 281474976710656 := by
    have h : ((i.bytes * c : Nat) : Int) ≤ 281474976710656 := by omega
    rwa [Int.natCast_mul] at h
  have hr := run_make (P := P) w t e i z ht hi hz kl kc n c (by omega) (by omega) hb (by omega)
  simp only [Int.toNat_natCast] at hr
  exact hr
theorem madeCells_one (v : Value) (n : Nat) : madeCells #[v] n = (List.replicate n v).toArray := by
  apply Array.ext
  · simp [madeCells]
  · intro i h1 h2
    simp [madeCells, Nat.mod_one]

theorem info_int : (Try.prog.info? 3).map (fun i => (i.zero, i.size, i.bytes)) = some (some (.int .i64 0), 1, 8) := by kernel_rfl
theorem info_anys : (Try.prog.info? 85).map (fun i => (i.zero, i.size, i.bytes)) = some (some (.slice none 0 0), 1, 24) := by kernel_rfl

section
variable {L : Nat → Prop} {w : World} {a bw bt : Nat} {vs : List Value} {ws : List Int} {ts : List (List Acc)}

/-- What three new blocks make. -/
theorem new_in {W : World} {a bw bt n k : Nat} (hb : Bd L W) (ha : ¬ L a) (hw : ¬ L bw) (ht : ¬ L bt) (hn : n ≤ 65536) (hk : k ≤ 8)
    (ba : Blk W a 88 #[.slice (some ⟨bw, 0, none⟩) n n, .slice (some ⟨bt, 0, none⟩) k k]) (b1 : Blk W bw 3 (List.replicate n (Value.int .i64 0)).toArray) (b2 : Blk W bt 85 (List.replicate k (Value.slice none 0 0)).toArray) :
    ArAt L W a (List.replicate n 0) (List.replicate k []) := by
  have get : ∀ c, c < k → (List.replicate k (Value.slice none 0 0)).getD c undef = .slice none 0 0 := fun c hc => by simp [List.getD, hc]
  refine ⟨bw, bt, List.replicate k (.slice none 0 0), hb, ha, hw, ht, ?_, ?_, b2, by simp, ?_, ?_, ?_, by simpa using hn, by simpa using hk⟩
  · simpa using ba
  · simpa using b1
  · intro c hc
    simp only [List.length_replicate] at hc
    rw [get c hc]
    have : (List.replicate k ([] : List Acc)).getD c [] = [] := by simp [List.getD, hc]
    rw [this]
    exact World.ownsRow_nil _ _ _ _
  · intro c hc b hb
    simp only [List.length_replicate] at hc
    rw [get c hc] at hb; cases hb
  · intro c c' hc _ _ b hb
    simp only [List.length_replicate] at hc
    rw [get c hc] at hb; cases hb

theorem new_ok (hb : Bd L w) (n k : Int) (h0 : 1 ≤ n) (h1 : n ≤ 65536) (h2 : 1 ≤ k) (h3 : k ≤ 8) :
    Calls Try.prog 27 #[.int .i64 n, .int .i64 k] w fun e w' => ∃ a, e = .returned (.tuple #[.pointer (some ⟨a, 0, none⟩), .int .i64 0]) ∧
      ArAt L w' a (List.replicate n.toNat 0) (List.replicate k.toNat []) ∧ Keeps L w w' := by
  obtain ⟨n, rfl⟩ := Int.eq_ofNat_of_zero_le (show 0 ≤ n by omega)
  obtain ⟨k, rfl⟩ := Int.eq_ofNat_of_zero_le (show 0 ≤ k by omega)
  obtain ⟨i1, hi1, hz10, hz11, hz12⟩ := info_parts info_int
  obtain ⟨i2, hi2, hz20, hz21, hz22⟩ := info_parts info_anys
  have hm1 := run_make_rowN (P := Try.prog) 52 3 i1 _ Try.underlying52 hi1 hz10 .i64 .i64 n n (Nat.le_refl _) (by rw [hz12]; omega) (by omega)
  have hm2 := run_make_rowN (P := Try.prog) 86 85 i2 _ Try.underlying86 hi2 hz20 .i64 .i64 k k (Nat.le_refl _) (by rw [hz22]; omega) (by omega)
  simp only [hz11, hz21, Nat.mul_one, Value.cells, madeCells_one] at hm1 hm2
  have e0 : ((n : Int) < 1) = False := by simp; omega
  have HM1 := Lib.hid hm1
  have HM2 := Lib.hid hm2
  clear hm1 hm2 hi1 hi2 hz10 hz11 hz12 hz20 hz21 hz22 e0
  go_enter Try.func27, Try.ntmps27
  go_wp2
  have hm1 := HM1.out
  have hm2 := HM2.out
  go_region
  all_goals go_wp2
  all_goals clear hm1 hm2 HM1 HM2
  · go_ret2
    refine ⟨_, rfl, ?_, ?_⟩
    · simp only [Int.toNat_natCast]
      refine (new_in (W := ((w.alloc (Obj.cells (Array.replicate n (Value.int IntKind.i64 0)) 3)).alloc (Obj.cells (Array.replicate k (Value.slice none 0 0)) 85)).alloc (Obj.cells #[Value.slice (some ⟨w.heap.size, 0, none⟩) n n, Value.slice (some ⟨w.heap.size + 1, 0, none⟩) k k] 88)) (bw := w.heap.size) (bt := w.heap.size + 1)
        (((hb.alloc _).alloc _).alloc _) (hb.ge (by omega)) hb.new (hb.ge (by omega)) (by omega) (by omega) ?_ ?_ ?_).drew
      · exact Blk.newAt _ _ _ (by simp)
      · rw [List.toArray_replicate]; exact ((Blk.new w _ _).alloc _).alloc _
      · rw [List.toArray_replicate]; exact (Blk.newAt (w.alloc _) _ _ (by simp)).alloc _
    · exact (((((Keeps.refl L w).alloc hb _).alloc (hb.alloc _) _).alloc ((hb.alloc _).alloc _) _).drew)
  · go_ret2
    refine ⟨_, rfl, ?_, ?_⟩
    · simp only [Int.toNat_natCast]
      refine (new_in (W := ((w.alloc (Obj.cells (Array.replicate k (Value.slice none 0 0)) 85)).alloc (Obj.cells (Array.replicate n (Value.int IntKind.i64 0)) 3)).alloc (Obj.cells #[Value.slice (some ⟨w.heap.size + 1, 0, none⟩) n n, Value.slice (some ⟨w.heap.size, 0, none⟩) k k] 88)) (bw := w.heap.size + 1) (bt := w.heap.size)
        (((hb.alloc _).alloc _).alloc _) (hb.ge (by omega)) (hb.ge (by omega)) hb.new (by omega) (by omega) ?_ ?_ ?_).drew
      · exact Blk.newAt _ _ _ (by simp)
      · rw [List.toArray_replicate]; exact (Blk.newAt (w.alloc _) _ _ (by simp)).alloc _
      · rw [List.toArray_replicate]; exact ((Blk.new w _ _).alloc _).alloc _
    · exact (((((Keeps.refl L w).alloc hb _).alloc (hb.alloc _) _).alloc ((hb.alloc _).alloc _) _).drew)

theorem new_err (w : World) (n k : Int) (h : n < 1 ∨ 65536 < n ∨ k < 1 ∨ 8 < k) :
    Calls Try.prog 27 #[.int .i64 n, .int .i64 k] w fun e w' => e = .returned (.tuple #[.pointer none, .int .i64 200]) ∧ w = w' := by
  by_cases a1 : n < 1
  · go_enter Try.func27, Try.ntmps27; go_wp2; go_ret2; exact ⟨rfl, rfl⟩
  · have b1 : 1 ≤ n := by omega
    by_cases a2 : 65536 < n
    · go_enter Try.func27, Try.ntmps27; go_wp2; go_ret2; exact ⟨rfl, rfl⟩
    · have b2 : n ≤ 65536 := by omega
      by_cases a3 : k < 1
      · go_enter Try.func27, Try.ntmps27; go_wp2; go_ret2; exact ⟨rfl, rfl⟩
      · have b3 : 1 ≤ k := by omega
        have a4 : 8 < k := by omega
        go_enter Try.func27, Try.ntmps27; go_wp2; go_ret2; exact ⟨rfl, rfl⟩

theorem fits_yes (h : ArAt L w a ws ts) (f n : Int) (h0 : 0 ≤ f) (h1 : 0 ≤ n) (h2 : f + n ≤ ws.length) :
    Calls Try.prog 47 #[.pointer (some ⟨a, 0, none⟩), .int .i64 f, .int .i64 n] w fun e w' => e = .returned (.bool true) ∧ w = w' := by
  have hl := h.wsl
  obtain ⟨bw, bt, vs, h⟩ := h
  have c0 := h.c0
  clear h
  have e1 : f ≤ ws.length := by omega
  have e2 : n ≤ ws.length - f := by omega
  go_enter Try.func47, Try.ntmps47
  go_wp2
  go_ret
  exact ⟨by simp, rfl⟩

theorem fits_no (h : ArAt L w a ws ts) (f n : Int) (hx : -9223372036854775808 ≤ f ∧ f ≤ 9223372036854775807) (hc : f < 0 ∨ n < 0 ∨ (ws.length : Int) < f ∨ (ws.length : Int) - f < n) :
    Calls Try.prog 47 #[.pointer (some ⟨a, 0, none⟩), .int .i64 f, .int .i64 n] w fun e w' => e = .returned (.bool false) ∧ w = w' := by
  have hl := h.wsl
  obtain ⟨bw, bt, vs, h⟩ := h
  have c0 := h.c0
  clear h
  by_cases a1 : f < 0
  · have a1' : ¬ 0 ≤ f := by omega
    go_enter Try.func47, Try.ntmps47; go_wp2; go_ret; exact ⟨rfl, rfl⟩
  · have b1 : 0 ≤ f := by omega
    by_cases a2 : n < 0
    · have a2' : ¬ 0 ≤ n := by omega
      go_enter Try.func47, Try.ntmps47; go_wp2; go_ret; exact ⟨rfl, rfl⟩
    · have b2 : 0 ≤ n := by omega
      by_cases a3 : (ws.length : Int) < f
      · have a3' : ¬ f ≤ ws.length := by omega
        go_enter Try.func47, Try.ntmps47; go_wp2; go_ret; exact ⟨rfl, rfl⟩
      · have b3 : f ≤ ws.length := by omega
        have a4 : (ws.length : Int) - f < n := by omega
        have a4' : ¬ n ≤ ws.length - f := by omega
        go_enter Try.func47, Try.ntmps47; go_wp2; go_ret; exact ⟨rfl, rfl⟩

end

/-! ### What refuses: the code of 'place', 'core' is handed on. -/
section
variable {p : Value} {c i k : Int} {w : World}
theorem load_err (hk : (k != 0) = true) (hp : Calls Try.prog 67 #[p, .int .i64 c, .int .i64 i] w fun e w' => e = .returned (.int .i64 k) ∧ w = w') :
    Calls Try.prog 59 #[p, .int .i64 c, .int .i64 i] w fun e w' => e = .returned (.tuple #[.int .i64 0, .int .i64 k]) ∧ w = w' := by
  have hp := Lib.hid hp
  go_enter Try.func59, Try.ntmps59
  go_wp2_with (go_at_call 67; refine hp.out.mono ?_; rintro e w' ⟨rfl, rfl⟩)
  go_ret2
  exact ⟨rfl, rfl⟩
theorem store_err (v : Value) (hk : (k != 0) = true) (hp : Calls Try.prog 67 #[p, .int .i64 c, .int .i64 i] w fun e w' => e = .returned (.int .i64 k) ∧ w = w') :
    Calls Try.prog 57 #[p, .int .i64 c, .int .i64 i, v] w fun e w' => e = .returned (.int .i64 k) ∧ w = w' := by
  have hp := Lib.hid hp
  go_enter Try.func57, Try.ntmps57
  go_wp2_with (go_at_call 67; refine hp.out.mono ?_; rintro e w' ⟨rfl, rfl⟩)
  go_ret
  exact ⟨rfl, rfl⟩
theorem add_err (v : Value) (hk : (k != 0) = true) (hp : Calls Try.prog 67 #[p, .int .i64 c, .int .i64 i] w fun e w' => e = .returned (.int .i64 k) ∧ w = w') :
    Calls Try.prog 54 #[p, .int .i64 c, .int .i64 i, v] w fun e w' => e = .returned (.tuple #[.int .i64 0, .int .i64 k]) ∧ w = w' := by
  have hp := Lib.hid hp
  go_enter Try.func54, Try.ntmps54
  go_wp2_with (go_at_call 67; refine hp.out.mono ?_; rintro e w' ⟨rfl, rfl⟩)
  go_ret2
  exact ⟨rfl, rfl⟩
theorem clear_err (hk : (k != 0) = true) (hp : Calls Try.prog 46 #[p, .int .i64 c] w fun e w' => e = .returned (.int .i64 k) ∧ w = w') :
    Calls Try.prog 23 #[p, .int .i64 c] w fun e w' => e = .returned (.int .i64 k) ∧ w = w' := by
  have hp := Lib.hid hp
  go_enter Try.func23, Try.ntmps23
  go_wp2_with (go_at_call 46; refine hp.out.mono ?_; rintro e w' ⟨rfl, rfl⟩)
  go_ret
  exact ⟨rfl, rfl⟩
theorem trace_err (hk : (k != 0) = true) (hp : Calls Try.prog 46 #[p, .int .i64 c] w fun e w' => e = .returned (.int .i64 k) ∧ w = w') :
    Calls Try.prog 25 #[p, .int .i64 c] w fun e w' => e = .returned (.slice none 0 0) ∧ w = w' := by
  have hp := Lib.hid hp
  go_enter Try.func25, Try.ntmps25
  go_wp2_with (go_at_call 46; refine hp.out.mono ?_; rintro e w' ⟨rfl, rfl⟩)
  go_ret
  exact ⟨rfl, rfl⟩
theorem num_calls (k : Int) (w : World) : Calls Try.prog 11 #[.int .i64 k] w fun e w' => e = .returned (.int .i64 k) ∧ w = w' := by
  go_enter Try.func11, Try.ntmps11
  go_wp2
  go_ret
  exact ⟨rfl, rfl⟩
end
end Go.Proofs.Ytkbajjpdngfhbaa
