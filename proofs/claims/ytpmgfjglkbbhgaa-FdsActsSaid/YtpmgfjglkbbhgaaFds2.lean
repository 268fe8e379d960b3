
/- fds: New, List. -/
import Derived.Test.YtpmgfjglkbbhgaaFds
import Derived.Maps.AppendAt
import Derived.Deep.AppendLies
namespace Go.Proofs.Ytpmgfjglkbbhgaa
open Go.RowKit
set_option maxHeartbeats 400000

section
variable {L : Nat → Prop} {w : World} {a x : Nat} {ws : List Int} {n m : Nat} {P : List (List Acc) → Prop} {f : Int}

theorem fds_new_ok (h : ArP L w a ws n m P) (f : Int) (hf : 0 ≤ f) (hl : f + 4 * n ≤ ws.length) (hz : Zeros ws f (4 * n)) :
    Calls Try.prog 37 #[.pointer (some ⟨a, 0, none⟩), .int .i64 f] w fun e w' => ∃ x, e = .returned (.tuple #[.pointer (some ⟨x, 0, none⟩), .int .i64 0]) ∧
      FdsAt (ins L x) w' x a f ∧ ¬ L x ∧ w.heap.size ≤ x ∧ ArP (ins L x) w' a ws n m P ∧ Keeps L w w' := by
  have hwl := h.wsl
  have hnl := h.tsl
  have hco := fun W (h : ArP L W a ws n m P) => cores_p h
  have HCO := Lib.hid hco
  clear hco
  have hfi := Lib.hid (fits_yes_p h f (4 * n) hf (by omega) (by omega))
  have HZ := Lib.hid hz
  have HA := Lib.hid h
  clear h hz
  have hf' : ¬ f < 0 := by omega
  go_enter Try.func37, Try.ntmps37
  go_wp2_with (first
    | (go_at_call 31; refine (HCO.out _ HA.out).mono ?_; rintro e w' ⟨rfl, rfl⟩)
    | (go_at_call 48; refine hfi.out.mono ?_; rintro e w' ⟨rfl, rfl⟩))
  go_loopw [25] (fun i wr => ∃ k : Nat, i = .int .i64 k ∧ k ≤ 4 * n ∧ ArP L wr a ws n m P ∧ Keeps L w wr) (fun i _ => 4 * n - (intOf i).toNat)
  case atStart => exact ⟨0, rfl, Nat.zero_le _, HA.out, Keeps.refl _ _⟩
  case round =>
    obtain ⟨k, rfl, hk, hA, hK⟩ := hrel
    by_cases hlt : k < 4 * n
    · go_wp2_with (go_at_call 49; refine (poke_p (ws' := ws) hA ⟨by omega, by omega⟩ (wr_rd (HZ.out _ (by omega) (by omega)) ⟨by omega, by omega⟩)).mono ?_; rintro e w4 ⟨rfl, hA4, hK4⟩)
      go_roundw
      case rel => exact ⟨k + 1, by go_num, by omega, hA4, hK.trans hK4⟩
      case measure => simp [intOf]; omega
    · go_wp2
      go_ret2
      exact ⟨_, rfl, ⟨ins.new _ _, Blk.new _ _ _⟩, hA.bd.new, hK.size, hA.allocIns _, hK.alloc hA.bd _⟩

/-- What a list tells of the first k words. -/
def descs (ws : List Int) (b c : Int) : Nat → List (List Value)
  | 0 => []
  | k + 1 => if rd ws (b + k) = 0 then descs ws b c k else descs ws b c k ++ [[.int .i64 c, .int .i64 k, .int .i64 (rd ws (b + k))]]

theorem desc_info : ∃ i z, Try.prog.info? 101 = some i ∧ i.zero = some z ∧ i.size = 3 ∧ i.bytes = 24 ∧ z.cells.size = 3 := by
  have h : ((Try.prog.info? 101).map fun i => (i.size, i.bytes, i.zero.map (·.cells.size))) = some (3, 24, some 3) := by kernel_rfl
  rcases hi : Try.prog.info? 101 with _ | i
  · rw [hi] at h; cases h
  · rw [hi] at h
    have h := Option.some.inj h
    have h1 : i.size = 3 := congrArg (·.1) h
    have h2 : i.bytes = 24 := congrArg (·.2.1) h
    have h3 : i.zero.map (·.cells.size) = some 3 := congrArg (·.2.2) h
    rcases hz : i.zero with _ | z
    · rw [hz] at h3; cases h3
    · rw [hz] at h3
      exact ⟨i, z, rfl, hz, h1, h2, Option.some.inj h3⟩
theorem descs_le (ws : List Int) (b c : Int) (k : Nat) : (descs ws b c k).length ≤ k := by
  induction k with
  | zero => exact Nat.le_refl _
  | succ k ih =>
    unfold descs
    split
    · omega
    · simp; omega
theorem own_ge {w : World} {base : Nat} {e : TypeId} {size n g : Nat} {v : Value} {xs : List Value} (h : w.ownsRow base e size v n xs) (hg : v.ownBlock = some g) : base ≤ g := by
  rcases h.2 with ⟨rfl, _⟩ | ⟨g', cap, cur, rfl, hb, _, _⟩
  · simp [Value.ownBlock] at hg
  · have : g' = g := by simpa [Value.ownBlock] using hg
    omega

theorem list_err (hx : FdsAt L w x a f) (h : ArP L w a ws n m P) (c : Int) (hc : c < 0 ∨ (n : Int) ≤ c) :
    Calls Try.prog 40 #[.pointer (some ⟨x, 0, none⟩), .int .i64 c] w fun e w' => e = .returned (.slice none 0 0) ∧ w = w' := by
  have hco := Lib.hid (fcore_err hx h c hc)
  clear hx h
  go_enter Try.func40, Try.ntmps40
  go_wp2_with (go_at_call 53; refine hco.out.mono ?_; rintro e w' ⟨rfl, rfl⟩)
  go_ret
  exact ⟨rfl, rfl⟩

set_option maxRecDepth 100000 in
theorem list_ok (hx : FdsAt L w x a f) (h : ArP L w a ws n m P) (hm : m ≤ 1099511627770) (c : Int) (h0 : 0 ≤ c ∧ c < n) (hf : 0 ≤ f) (hl : f + 4 * n ≤ ws.length) (hc : Cl n P c (fdSet f c)) :
    Calls Try.prog 40 #[.pointer (some ⟨x, 0, none⟩), .int .i64 c] w fun e w' => ∃ v, e = .returned v ∧ w'.ownsRow w.heap.size 101 3 v (descs ws (f + c * 4) c 4).length (descs ws (f + c * 4) c 4).flatten ∧
      ArP (lo L v) w' a ws n (m + 4) P ∧ Keeps L w w' := by
  have hco := Lib.hid (fcore_ok hx h c h0)
  have hwl := h.wsl
  have hnl := h.tsl
  have HX := Lib.hid hx
  have HA := Lib.hid h
  have HC := Lib.hid hc
  have hc8 : 0 ≤ c ∧ c < 8 := by omega
  have hf8 : 0 ≤ f ∧ f ≤ 65536 := by omega
  clear hx h hc
  go_enter Try.func40, Try.ntmps40
  go_wp2_with (go_at_call 53; refine hco.out.mono ?_; rintro e w' ⟨rfl, rfl⟩)
  go_loopw [5, 13] (fun v i wr => ∃ k : Nat, i = .int .i64 k ∧ k ≤ 4 ∧ FdsAt L wr x a f ∧ wr.ownsRow w.heap.size 101 3 v (descs ws (f + c * 4) c k).length (descs ws (f + c * 4) c k).flatten ∧
    ArP (lo L v) wr a ws n (m + k) P ∧ Keeps L w wr) (fun _ i _ => 4 - (intOf i).toNat)
  case atStart => exact ⟨0, rfl, Nat.zero_le _, HX.out, World.ownsRow_nil _ _ _ _, by rw [lo_nil]; exact HA.out, Keeps.refl _ _⟩
  case round =>
    obtain ⟨k, rfl, hk, hx, hown, hA, hK⟩ := hrel
    have k0 : (0 : Int) ≤ (k : Int) := by omega
    have q0 := hx.2.cell 0
    have q1 := hx.2.cell 1
    have hxl := hx.1
    have HX2 := Lib.hid hx
    have HO := Lib.hid hown
    have hlx : ∀ v, lo L v x := fun _ => .inl hxl
    clear hx hown
    by_cases hkj : k < 4
    · have k4 : (k : Int) < 4 := by omega
      have HD := Lib.hid (show descs ws (f + c * 4) c (k + 1) = if rd ws (f + c * 4 + k) = 0 then descs ws (f + c * 4) c k else descs ws (f + c * 4) c k ++ [[.int .i64 c, .int .i64 k, .int .i64 (rd ws (f + c * 4 + k))]] from rfl)
      have HL := Lib.hid (descs_le ws (f + c * 4) c k)
      generalize hv : rd ws (f + c * 4 + (k : Int)) = r at *
      have HV := Lib.hid hv
      clear hv
      by_cases hr0 : r = 0
      · have HD := Lib.hid (HD.out.trans (if_pos hr0))
        subst hr0
        go_wp2
        go_region_held3 (fun w' => w'.cell? ⟨x, 0, none⟩ = some (.pointer (some ⟨a, 0, none⟩)) ∧ w'.cell? ⟨x, 1, none⟩ = some (.int .i64 f)) (first | exact ⟨q0, q1⟩ | exact ⟨hK9.cellOf (hlx _) q0, hK9.cellOf (hlx _) q1⟩)
          ((first
            | (go_at_call 54; refine (fplace_calls (by exact q1) c _ hf8 hc8 ⟨k0, k4⟩).mono ?_; rintro e w' ⟨rfl, rfl⟩)
            | (go_at_call 17; refine (load_p (r := 0) hA.drew (by omega) h0 ⟨by omega, by omega⟩ HV.out HC.out (by unfold fdSet; omega)).mono ?_; rintro e w4 ⟨rfl, hA4, hK9⟩)))
        go_wp2
        go_roundw
        case rel =>
          refine ⟨k + 1, by go_num, by omega, HX2.out.keep (hK9.undrew.sub fun _ h => .inl h), ?_, hA4.mono (by omega), hK.trans (hK9.undrew.sub fun _ h => .inl h)⟩
          rw [HD.out]
          exact own_keep HO.out hK9.undrew
        case measure => simp [intOf]; omega
      · have HD := Lib.hid (HD.out.trans (if_neg hr0))
        have hr1 : (r == 0) = false := by simpa using hr0
        obtain ⟨di, dz, hi, hz0, hz1, hz2, hz3⟩ := desc_info
        go_wp2
        go_region_held3 (fun w' => w'.cell? ⟨x, 0, none⟩ = some (.pointer (some ⟨a, 0, none⟩)) ∧ w'.cell? ⟨x, 1, none⟩ = some (.int .i64 f)) (first | exact ⟨q0, q1⟩ | exact ⟨hK9.cellOf (hlx _) q0, hK9.cellOf (hlx _) q1⟩)
          ((first
            | (go_at_call 54; refine (fplace_calls (by exact q1) c _ hf8 hc8 ⟨k0, k4⟩).mono ?_; rintro e w' ⟨rfl, rfl⟩)
            | (go_at_call 17; refine (load_p (r := r) hA.drew (by omega) h0 ⟨by omega, by omega⟩ HV.out HC.out (by unfold fdSet; omega)).mono ?_; rintro e w4 ⟨rfl, hA4, hK9⟩)))
        have HO4 := Lib.hid (own_keep HO.out hK9.undrew)
        have hK4 := Lib.hid (hK.trans (hK9.undrew.sub fun _ h => .inl h))
        have HX4 := Lib.hid (HX2.out.keep (hK9.undrew.sub fun _ h => .inl h))
        clear q0 q1 hK9 HO HX2 hK
        have hlen : (descs ws (f + c * 4) c k).length ≤ 3 := by have := HL.out; omega
        go_wp2_with (first | (at_builtin; refine wpList_append_lies _ rfl (.tmp 31) (.tmp 36) 71 rfl w.heap.size 101 di dz 3 24 Try.underlying71 hi hz0 hz1 hz2 hz3 (by omega) u5 _ _ rfl (HO4.out.alloc (Obj.cells #[.int .i64 c, .int .i64 k, .int .i64 r] 101)) ⟨w4.heap.size, 0, none⟩ 1 1 [.int .i64 c, .int .i64 k, .int .i64 r] rfl rfl (World.news_of_block (heap_alloc_new _ _)) (by intro u hu; simp at hu; rcases hu with rfl | rfl | rfl <;> rfl) (by decide) (by simp only [maxLen]; omega) (by omega) (by have := hK4.out.size; simp; omega) _ rfl ?_; intro g cap w5 hown hgrow hat hlt))
        go_roundw
        case rel =>
          have hKb : Keeps L (w4.alloc (Obj.cells #[.int .i64 c, .int .i64 k, .int .i64 r] 101)) w5 :=
            (Keeps.refl L _).grown hgrow ((hA4.bd.sub fun _ h => .inl h).alloc _) fun g hg hl => by
              have := own_ge HO4.out hg
              have := HA.out.bd g hl
              omega
          have hKa := (hK4.out.alloc (hA4.bd.sub fun _ h => .inl h) (Obj.cells #[.int .i64 c, .int .i64 k, .int .i64 r] 101)).trans hKb
          refine ⟨k + 1, by go_num, by omega, ⟨hxl, hKb.blk (Blk.alloc HX4.out.2 _) hxl⟩, ?_, ((hA4.lo_alloc _).grown hgrow ?_).mono (by omega), hKa⟩
          · rw [HD.out]
            simpa using hown
          · intro g' hg'
            have : g = g' := by simpa [Value.ownBlock] using hg'
            subst this
            exact ⟨hat.imp id (fun h => Nat.le_of_eq h.symm), hlt⟩
        case measure => simp [intOf]; omega
    · have k4 : ¬ (k : Int) < 4 := by omega
      have h4 : k = 4 := by omega
      go_wp2
      go_ret
      subst h4
      exact ⟨_, rfl, HO.out, hA, hK⟩
end
end Go.Proofs.Ytpmgfjglkbbhgaa
