
/- Arena: core, place, note. -/
import Derived.Test.YtkbajjpdngfhbaaArDef
namespace Go.Proofs.Ytkbajjpdngfhbaa
open Go.RowKit
set_option maxHeartbeats 400000

theorem info_any : (Try.prog.info? 20).map (fun i => (i.zero, i.size, i.bytes)) = some (some .nilIface, 1, 16) := by kernel_rfl

section
variable {L : Nat → Prop} {w : World} {a bw bt : Nat} {vs : List Value} {ws : List Int} {ts : List (List Acc)}

theorem ArIn.c0 (h : ArIn L w a bw bt vs ws ts) : w.cell? ⟨a, 0, none⟩ = some (.slice (some ⟨bw, 0, none⟩) ws.length ws.length) := by rw [h.ba.cell]; rfl
theorem ArIn.c1 (h : ArIn L w a bw bt vs ws ts) : w.cell? ⟨a, 1, none⟩ = some (.slice (some ⟨bt, 0, none⟩) ts.length ts.length) := by rw [h.ba.cell]; rfl
theorem ArIn.cw (h : ArIn L w a bw bt vs ws ts) {i : Nat} (hi : i < ws.length) : w.cell? ⟨bw, i, none⟩ = some (.int .i64 (ws.getD i 0)) := by
  rw [h.bws.cell]; simp [hi, List.getD]
theorem ArIn.ct (h : ArIn L w a bw bt vs ws ts) {c : Nat} (hc : c < ts.length) : w.cell? ⟨bt, c, none⟩ = some (vs.getD c undef) := by
  rw [h.bts.cell]; simp [h.vl, hc, List.getD]

theorem core_nil (c : Int) (w : World) : Calls Try.prog 46 #[.pointer none, .int .i64 c] w fun e w' => e = .returned (.int .i64 1) ∧ w = w' := by
  go_enter Try.func46, Try.ntmps46
  go_wp2
  go_ret
  exact ⟨rfl, rfl⟩

theorem core_ok (h : ArAt L w a ws ts) (c : Int) (h0 : 0 ≤ c) (h1 : c < ts.length) :
    Calls Try.prog 46 #[.pointer (some ⟨a, 0, none⟩), .int .i64 c] w fun e w' => e = .returned (.int .i64 0) ∧ w = w' := by
  obtain ⟨bw, bt, vs, h⟩ := h
  have c1 := h.c1
  have hl := h.tsl
  clear h
  go_enter Try.func46, Try.ntmps46
  go_wp2
  go_ret
  exact ⟨rfl, rfl⟩

theorem core_err (h : ArAt L w a ws ts) (c : Int) (hc : c < 0 ∨ ts.length ≤ c) :
    Calls Try.prog 46 #[.pointer (some ⟨a, 0, none⟩), .int .i64 c] w fun e w' => e = .returned (.int .i64 202) ∧ w = w' := by
  obtain ⟨bw, bt, vs, h⟩ := h
  have c1 := h.c1
  have hl := h.tsl
  clear h
  rcases hc with hc | hc
  · go_enter Try.func46, Try.ntmps46
    go_wp2
    go_ret
    exact ⟨rfl, rfl⟩
  · have h0 : 0 ≤ c := by omega
    go_enter Try.func46, Try.ntmps46
    go_wp2
    go_ret
    exact ⟨rfl, rfl⟩

theorem place_ok (h : ArAt L w a ws ts) (c i : Int) (h0 : 0 ≤ c) (h1 : c < ts.length) (h2 : 0 ≤ i) (h3 : i < ws.length) :
    Calls Try.prog 67 #[.pointer (some ⟨a, 0, none⟩), .int .i64 c, .int .i64 i] w fun e w' => e = .returned (.int .i64 0) ∧ w = w' := by
  have hc := core_ok h c h0 h1
  have hc' := Lib.hid hc
  clear hc
  obtain ⟨bw, bt, vs, h⟩ := h
  have c0 := h.c0
  have hl := h.wsl
  clear h
  go_enter Try.func67, Try.ntmps67
  go_wp2_with (go_at_call 46; refine hc'.out.mono ?_; rintro e w' ⟨rfl, rfl⟩)
  go_ret
  exact ⟨rfl, rfl⟩

theorem place_core (h : ArAt L w a ws ts) (c i : Int) (hc : c < 0 ∨ ts.length ≤ c) :
    Calls Try.prog 67 #[.pointer (some ⟨a, 0, none⟩), .int .i64 c, .int .i64 i] w fun e w' => e = .returned (.int .i64 202) ∧ w = w' := by
  have hc := Lib.hid (core_err h c hc)
  clear h
  go_enter Try.func67, Try.ntmps67
  go_wp2_with (go_at_call 46; refine hc.out.mono ?_; rintro e w' ⟨rfl, rfl⟩)
  go_ret
  exact ⟨rfl, rfl⟩

theorem place_nil (c i : Int) (w : World) :
    Calls Try.prog 67 #[.pointer none, .int .i64 c, .int .i64 i] w fun e w' => e = .returned (.int .i64 1) ∧ w = w' := by
  go_enter Try.func67, Try.ntmps67
  go_wp2_with (go_at_call 46; refine (core_nil c w).mono ?_; rintro e w' ⟨rfl, rfl⟩)
  go_ret
  exact ⟨rfl, rfl⟩

theorem place_word (h : ArAt L w a ws ts) (c i : Int) (h0 : 0 ≤ c) (h1 : c < ts.length) (hi : i < 0 ∨ ws.length ≤ i) :
    Calls Try.prog 67 #[.pointer (some ⟨a, 0, none⟩), .int .i64 c, .int .i64 i] w fun e w' => e = .returned (.int .i64 201) ∧ w = w' := by
  have hc := core_ok h c h0 h1
  have hc' := Lib.hid hc
  clear hc
  obtain ⟨bw, bt, vs, h⟩ := h
  have c0 := h.c0
  have hl := h.wsl
  clear h
  rcases hi with hi | hi
  · go_enter Try.func67, Try.ntmps67
    go_wp2_with (go_at_call 46; refine hc'.out.mono ?_; rintro e w' ⟨rfl, rfl⟩)
    go_ret
    exact ⟨rfl, rfl⟩
  · have hi0 : 0 ≤ i := by omega
    go_enter Try.func67, Try.ntmps67
    go_wp2_with (go_at_call 46; refine hc'.out.mono ?_; rintro e w' ⟨rfl, rfl⟩)
    go_ret
    exact ⟨rfl, rfl⟩

end
end Go.Proofs.Ytkbajjpdngfhbaa
