
/- arena.Peek; refs: New, Inc, Dec, Global, Epoch. -/
import Derived.Test.YtokldnmhhhaalaaRefs2
namespace Go.Proofs.Ytokldnmhhhaalaa
open Go.RowKit
set_option maxHeartbeats 1000000

section
variable {L : Nat → Prop} {w : World} {a x : Nat} {ws : List Int} {n m : Nat} {P : List (List Acc) → Prop} {f o : Int} {T : Int → Int → Int}

theorem peek_p (h : ArP L w a ws n m P) {i r : Int} (h1 : 0 ≤ i ∧ i < ws.length) (hr : rd ws i = r) :
    Calls Try.prog 51 #[.pointer (some ⟨a, 0, none⟩), .int .i64 i] w fun e w' => e = .returned (.int .i64 r) ∧ ∃ d, w' = w.drewN d := by
  obtain ⟨ts, g1, g2, g3, bw, bt, vs, h⟩ := h
  have c0 := h.c0
  have cw := h.cwI h1.1 h1.2
  rw [hr] at cw
  have hl := h.wsl
  have h10 := h1.1
  have h11 := h1.2
  clear h g1 g2 g3 hr
  go_enter Try.func51, Try.ntmps51
  go_wp2
  go_ret
  exact ⟨rfl, 0, rfl⟩

theorem rinc_calls {c j k : Int} {Q : World → Prop} (h : Calls Try.prog 42 #[.pointer (some ⟨x, 0, none⟩), .int .i64 c, .int .i64 j, .int .i64 1] w fun e w' => e = .returned (.int .i64 k) ∧ Q w') :
    Calls Try.prog 15 #[.pointer (some ⟨x, 0, none⟩), .int .i64 c, .int .i64 j] w fun e w' => e = .returned (.int .i64 k) ∧ Q w' := by
  have H := Lib.hid h
  clear h
  go_enter Try.func15, Try.ntmps15
  go_wp2_with (fail)
  refine H.out.mono ?_
  rintro e w4 ⟨rfl, hq⟩
  go_wp2
  go_ret
  exact ⟨rfl, hq⟩
theorem rdec_calls {c j k : Int} {Q : World → Prop} (h : Calls Try.prog 42 #[.pointer (some ⟨x, 0, none⟩), .int .i64 c, .int .i64 j, .int .i64 (-1)] w fun e w' => e = .returned (.int .i64 k) ∧ Q w') :
    Calls Try.prog 14 #[.pointer (some ⟨x, 0, none⟩), .int .i64 c, .int .i64 j] w fun e w' => e = .returned (.int .i64 k) ∧ Q w' := by
  have H := Lib.hid h
  clear h
  go_enter Try.func14, Try.ntmps14
  go_wp2_with (fail)
  refine H.out.mono ?_
  rintro e w4 ⟨rfl, hq⟩
  go_wp2
  go_ret
  exact ⟨rfl, hq⟩

theorem rGlobal_ok (h : RcAt L w x a f o) (hA : ArP L w a ws n m P) (hM : Mx ws f n o T) (j : Int) (hj : 0 ≤ j ∧ j < o) :
    Calls Try.prog 17 #[.pointer (some ⟨x, 0, none⟩), .int .i64 j] w fun e w' => e = .returned (.tuple #[.int .i64 (T n j), .int .i64 0]) ∧ ∃ d, w' = w.drewN d := by
  have q0 := h.2.1.cell 0
  have q2 := h.2.1.cell 2
  have HG := Lib.hid (fun d => rglobal_calls (w := w.drewN d) (L := L) (x := x) (a := a) (f := f) (o := o) ⟨h.1, h.2.1, h.2.2⟩ (hA.drewN d) j hj)
  have hr := hM.at_ (n : Int) j (by omega) (by omega) hj.1 (by omega)
  have hin := hM.in_ (r := (n : Int)) (by omega) (by omega) hj.1 (by omega)
  have HP := Lib.hid (fun d => peek_p (hA.drewN d) hin hr)
  have hj0 := hj.1
  have hj1 : ¬ j < 0 := by omega
  have hj2 : ¬ o ≤ j := by omega
  clear h hA hM hr hin
  go_enter Try.func17, Try.ntmps17
  go_wp2
  go_region_held3 (fun w' => w'.cell? ⟨x, 0, none⟩ = some (.pointer (some ⟨a, 0, none⟩))) (first | exact q0)
    ((first
      | (go_at_call 48; refine (HG.out _).mono ?_; rintro e w' ⟨rfl, d, rfl⟩)
      | (go_at_call 51; refine (HP.out _).mono ?_; rintro e w' ⟨rfl, d2, rfl⟩)))
  go_wp2
  go_ret2
  exact ⟨rfl, _, rfl⟩
theorem rGlobal_obj (h : RcAt L w x a f o) (j : Int) (hj : j < 0 ∨ o ≤ j) :
    Calls Try.prog 17 #[.pointer (some ⟨x, 0, none⟩), .int .i64 j] w fun e w' => e = .returned (.tuple #[.int .i64 0, .int .i64 601]) ∧ w = w' := by
  have q2 := h.2.1.cell 2
  clear h
  have hj2 : j < 0 ∨ (¬ j < 0 ∧ o ≤ j) := by omega
  rcases hj2 with hj | ⟨hj0, hj⟩
  · go_enter Try.func17, Try.ntmps17
    go_wp2
    go_ret2
    exact ⟨rfl, rfl⟩
  · go_enter Try.func17, Try.ntmps17
    go_wp2
    go_ret2
    exact ⟨rfl, rfl⟩
theorem rEpoch_ok (h : RcAt L w x a f o) (hA : ArP L w a ws n m P) (hM : Mx ws f n o T) :
    Calls Try.prog 20 #[.pointer (some ⟨x, 0, none⟩)] w fun e w' => e = .returned (.int .i64 (T n o)) ∧ ∃ d, w' = w.drewN d := by
  have q0 := h.2.1.cell 0
  have HG := Lib.hid (fun d => repoch_calls (w := w.drewN d) (L := L) (x := x) (a := a) (f := f) (o := o) ⟨h.1, h.2.1, h.2.2⟩ (hA.drewN d))
  have ho := h.2.2.2
  have hr := hM.at_ (n : Int) o (by omega) (by omega) (by omega) (by omega)
  have hin := hM.in_ (r := (n : Int)) (i := o) (by omega) (by omega) (by omega) (by omega)
  have HP := Lib.hid (fun d => peek_p (hA.drewN d) hin hr)
  clear h hA hM hr hin
  go_enter Try.func20, Try.ntmps20
  go_wp2
  go_region_held3 (fun w' => w'.cell? ⟨x, 0, none⟩ = some (.pointer (some ⟨a, 0, none⟩))) (first | exact q0)
    ((first
      | (go_at_call 52; refine (HG.out _).mono ?_; rintro e w' ⟨rfl, d, rfl⟩)
      | (go_at_call 51; refine (HP.out _).mono ?_; rintro e w' ⟨rfl, d2, rfl⟩)))
  go_wp2
  go_ret
  exact ⟨rfl, _, rfl⟩

set_option maxRecDepth 100000 in
theorem rnew_ok {N : Nat} (h : ArP L w a (List.replicate N 0) n m P) (f o : Int) (hf : 0 ≤ f) (ho : 1 ≤ o ∧ o ≤ 60) (hn0 : 1 ≤ n) (hl : f + (o + 2) * ((n : Int) + 2) ≤ N) :
    Calls Try.prog 13 #[.pointer (some ⟨a, 0, none⟩), .int .i64 f, .int .i64 o] w fun e w' => ∃ x, e = .returned (.tuple #[.pointer (some ⟨x, 0, none⟩), .int .i64 0]) ∧
      RcAt (ins L x) w' x a f o ∧ ¬ L x ∧ w.heap.size ≤ x ∧ ArP (ins L x) w' a (List.replicate N 0) n m P ∧ Keeps L w w' := by
  have hwl := h.wsl
  have hnl := h.tsl
  simp only [List.length_replicate] at hwl
  have hV := row_bd (show (0 : Int) ≤ (n : Int) + 2 by omega) (Int.le_refl _) ho
  have HCO := Lib.hid (fun W (h : ArP L W a (List.replicate N 0) n m P) => cores_p h)
  have hfi := Lib.hid (fits_yes_p h f ((o + 2) * ((n : Int) + 2)) hf (by rw [Int.mul_comm]; exact hV.1) (by simpa using hl))
  rw [Int.mul_comm] at hV
  have hv0 := hV.1
  generalize hVV : (o + 2) * ((n : Int) + 2) = V at *
  have HA := Lib.hid h
  clear h hV
  have hf' : ¬ f < 0 := by omega
  have ho' : ¬ o < 1 := by omega
  have ho2 : ¬ 64 < o := by omega
  have e1 : IntKind.i64.wrap V = V := IntWalk.i64_in _ (by omega)
  go_enter Try.func13, Try.ntmps13
  go_wp2_with (first
    | (go_at_call 40; refine (HCO.out _ HA.out).mono ?_; rintro e w' ⟨rfl, rfl⟩)
    | (go_at_call 39; refine hfi.out.mono ?_; rintro e w' ⟨rfl, rfl⟩))
  clear e1
  go_loopw [39] (fun i wr => ∃ t : Int, i = .int .i64 t ∧ 0 ≤ t ∧ t ≤ V ∧ ArP L wr a (List.replicate N 0) n m P ∧ Keeps L w wr) (fun i _ => (V - intOf i).toNat)
  case atStart => exact ⟨0, rfl, by omega, by omega, HA.out, Keeps.refl _ _⟩
  case round =>
    obtain ⟨t, rfl, ht0, ht1, hA, hK⟩ := hrel
    by_cases hlt : t < V
    · have e1 : IntKind.i64.wrap (f + t) = f + t := IntWalk.i64_in _ (by omega)
      go_wp2_with (fail)
      refine (poke_p (ws' := List.replicate N 0) hA (i := f + t) (v := 0) ⟨by omega, by simp; omega⟩ (wr_rd (rd_rep _ _) ⟨by omega, by simp; omega⟩)).mono ?_
      rintro e w4 ⟨rfl, hA4, hK4⟩
      clear e1
      go_wp2_with (fail)
      go_roundw
      case rel => exact ⟨t + 1, by go_num, by omega, by omega, hA4, hK.trans hK4⟩
      case measure => simp [intOf]; omega
    · go_wp2
      go_ret2
      exact ⟨_, rfl, ⟨ins.new _ _, Blk.new _ _ _, ⟨hf, by omega⟩, ho⟩, hA.bd.new, hK.size, hA.allocIns _, hK.alloc hA.bd _⟩
end
end Go.Proofs.Ytokldnmhhhaalaa
