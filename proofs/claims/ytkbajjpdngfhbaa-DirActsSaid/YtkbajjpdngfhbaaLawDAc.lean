
/- DirActs: the walk. -/
import Derived.Test.YtkbajjpdngfhbaaMdQ
namespace Go.Proofs.Ytkbajjpdngfhbaa
open Go.RowKit
set_option maxHeartbeats 8000000
set_option hygiene false in
macro "da_open" : tactic => `(tactic| (
  have HA2 := Lib.hid (HA.out.box hL (.cells #[.int .i64 kd, .int .i64 co, .int .i64 nu, .string nm, .string tn] 32))
  have hX : Blk (wr.alloc (.cells #[.int .i64 kd, .int .i64 co, .int .i64 nu, .string nm, .string tn] 32)) wr.heap.size 32 #[.int .i64 kd, .int .i64 co, .int .i64 nu, .string nm, .string tn] := Blk.new _ _ _
  have HX2 := Lib.hid hX
  have hL2 : ∀ b, b < w.heap.size → ins L wr.heap.size b := fun b hb => .inl (hL b hb)
  have hLd2 : ins L wr.heap.size d := .inl hLd
  clear hX
  go_wp2_with (fail)))
set_option hygiene false in
macro "da_cells" : tactic => `(tactic| (
  have c0 := hX3.cell 0
  have c1 := hX3.cell 1
  have c2 := hX3.cell 2
  have c3 := hX3.cell 3
  have c4 := hX3.cell 4))
set_option hygiene false in
macro "da_act" : tactic => `(tactic| (
  unfold actV at HC
  have HA3 := Lib.hid hA3
  clear hX3 hA3 hi3 hS3 hK3 HX2
  go_wp2_with (go_at_call 11; refine (num_calls _ _).mono ?_; rintro e w' ⟨rfl, rfl⟩)
  refine HC.out.mono ?_
  rintro e w4 ⟨rfl, M4, hp4, hr4, ha4⟩
  obtain ⟨v4, hA4⟩ := HA3.out.act hL2 hLd2 hmbw hdm ha4 hr4
  have HA4 := Lib.hid ((hA4.fin hp4 hLd).mono (show 600 * k + 100 ≤ 600 * k + 200 by omega))
  clear hA4 ha4 hr4 hp4 HC HA3 c0 c1 c2 c3 c4))
set_option hygiene false in
macro "da_tail" : tactic => `(tactic| (
  have hl4 := HA4.out.ds.len32
  have b0 := HA4.out.mdl.cell 0
  obtain ⟨_, A4, cap4, rfl, _⟩ := Sl.ofOwn HA4.out.own
  go_wp2_with (fail)
  refine (list_d HA4.out.ds (by omega) ((k : Int) % 4) (S := fun _ => True) (Cl.true_ _ _ _) (fun _ _ _ => trivial)).mono ?_
  rintro e w5 ⟨v9, D9, rfl, hl9, hown9, hS9, hK9⟩
  have hD9 := HA4.out.same (by omega) (by omega) hl9
  rw [hD9] at hown9
  have b5 := (hK9.blk HA4.out.mdl (.inl (.inr rfl))).cell 0
  have HO4 := Lib.hid (own_keep HA4.out.own hK9)
  have HO9 := Lib.hid hown9
  have HS9 := Lib.hid hS9
  have HK9 := Lib.hid hK9
  clear hl9 hD9 hown9 hS9 hK9 b0
  go_wp2_with (fail)
  refine (same_ents M4 v9 _ _ (Sl.ofOwn HO9.out) (Sl.ofOwn HO4.out) (by omega)).mono ?_
  rintro e w' ⟨rfl, k1, rfl⟩
  clear b5
  go_wp2_with (fail)
  refine (spoil_ents (base := w4.heap.size) (v := v9) (D := M4) (w := w5.drewN k1) HO9.out (by omega)).mono ?_
  rintro e w6 ⟨rfl, hK6⟩
  have HA6 := Lib.hid (HA4.out.list hL (W1 := w5.drewN k1) HO9.out (HK9.out.drewN k1) (HS9.out.drewN k1) hK6 hLd)
  clear hK6
  go_wp2_with (fail)
  go_roundw
  case rel => exact ⟨k + 1, _, M4, by first | rfl | (congr 1; omega), by omega, by omega, HA6.out.mono (by omega)⟩
  case measure =>
    simp only [intOf]
    omega))
set_option maxRecDepth 1000000 in
theorem dacts_walk (w : World) {A : Option Addr} {len cap : Nat} {F : Nat → Nat → Int} {S T : Nat → ByteArray} (hx : ActsS w A len cap F S T) :
    Calls Try.prog 3 #[.slice A len cap] w fun e w' => e = .returned (.bool true) ∧ Below w.heap.size w w' := by
  have hle := hx.len_le
  have HX := Lib.hid hx
  clear hx
  go_enter Try.func3, Try.ntmps3
  go_wp2_with (fail)
  refine (made_d w (P := fun _ => True) trivial).mono ?_
  rintro e w1 ⟨a, d, rfl, hge, hS, hB1⟩
  have hwd : d < w1.heap.size := hS.bd d (.inr rfl)
  have hA0 : AL w (w1.alloc (.cells #[.slice none 0 0] 30)) (ins (fun b => b < w.heap.size) d) w1.heap.size d a 0 (.slice none 0 0) [] [] :=
    ⟨Blk.new _ _ _, World.ownsRow_nil _ _ _ _, by rw [lo_nil]; exact hS.allocIns _, List.Pairwise.nil, bel_then hB1 (below_alloc _ _)⟩
  have HA := Lib.hid hA0
  have hL : ∀ b, b < w.heap.size → ins (fun b => b < w.heap.size) d b := fun b hb => .inl hb
  have hLd : ins (fun b => b < w.heap.size) d d := .inr rfl
  have hmbw : ¬ w1.heap.size < w.heap.size := by have := hB1.size; omega
  have hdm : d ≠ w1.heap.size := by omega
  clear hA0 hS hB1 hge hwd
  go_wp2_with (fail)
  generalize ins (fun b => b < w.heap.size) d = L at *
  generalize w1.alloc (.cells #[.slice none 0 0] 30) = w2 at *
  generalize w1.heap.size = mb at *
  go_loopw [7] (fun i wr => ∃ (k : Nat) (v : Value) (M : List Ent), i = .int .i64 k ∧ k ≤ len ∧ k ≤ 120 ∧ AL w wr L mb d a (600 * k) v M M) (fun i _ => len - (intOf i).toNat)
  case atStart => exact ⟨0, _, _, rfl, by omega, by omega, HA.out⟩
  case round =>
    clear HA
    obtain ⟨k, v, M, rfl, hk, hk1, hA⟩ := hrel
    have HA := Lib.hid hA
    clear hA
    by_cases hboth : k < len ∧ k < 120
    · obtain ⟨hlt, hlt2⟩ := hboth
      have hlt3 : (k : Int) < 120 := by omega
      have hk0 : (0 : Int) ≤ (k : Int) := by omega
      obtain ⟨g, off, rfl, hc⟩ := HX.out.2.at_ hlt HA.out.bel
      have q0 := hc 0 (by omega)
      have q1 := hc 1 (by omega)
      have q2 := hc 2 (by omega)
      have q3 := hc 3 (by omega)
      have q4 := hc 4 (by omega)
      have hr0 := HX.out.1 k hlt 0 (by omega)
      rw [Nat.add_zero] at q0
      rw [← Nat.add_assoc] at q1 q2 q3 q4
      simp only [actC] at q0 q1 q2 q3 q4
      clear hc
      generalize F k 0 = kd at *
      generalize F k 1 = co at *
      generalize F k 2 = nu at *
      generalize S k = nm at *
      generalize T k = tn at *
      have hsp : kd < 5 ∨ (¬ kd < 5 ∧ kd < 7) ∨ (¬ kd < 5 ∧ ¬ kd < 7 ∧ kd < 9) ∨ (¬ kd < 5 ∧ ¬ kd < 7 ∧ ¬ kd < 9 ∧ kd < 11) ∨ (¬ kd < 5 ∧ ¬ kd < 7 ∧ ¬ kd < 9 ∧ ¬ kd < 11) := by omega
      rcases hsp with h5 | ⟨h5, h7⟩ | ⟨h5, h7, h9⟩ | ⟨h5, h7, h9, h11⟩ | ⟨h5, h7, h9, h11⟩
      · da_open
        refine (insert_d HA2.out.ds (by omega) co nm nu (S := fun _ => True) (Cl.true_ _ _ _) (fun _ _ _ _ => trivial)).mono ?_
        rintro e w3 ⟨r, D3, rfl, hi3, hS3, hK3⟩
        have hX3 := hK3.blk HX2.out (.inl (.inl (.inr rfl)))
        have hA3 := HA2.out.call hL2 hK3 hS3
        da_cells
        have HC := Lib.hid (act_ins hA3.md (by have := HA.out.ds.len32; omega) HA.out.ez HA.out.rise (tn := tn) h5 hi3)
        da_act
        da_tail
      · da_open
        refine (remove_d HA2.out.ds (by omega) co nm (S := fun _ => True) (Cl.true_ _ _ _) (fun _ _ _ _ => trivial)).mono ?_
        rintro e w3 ⟨r, D3, rfl, hi3, hS3, hK3⟩
        have hX3 := hK3.blk HX2.out (.inl (.inl (.inr rfl)))
        have hA3 := HA2.out.call hL2 hK3 hS3
        da_cells
        have HC := Lib.hid (act_rem hA3.md (by have := HA.out.ds.len32; omega) HA.out.ez HA.out.rise HA.out.ds.uniq (num := nu) (tn := tn) (show ¬ kd < 5 by omega) h7 hi3)
        da_act
        da_tail
      · da_open
        refine (move_d HA2.out.ds (by omega) co nm tn (S := fun _ => True) (Cl.true_ _ _ _) (fun _ _ _ => trivial)).mono ?_
        rintro e w3 ⟨r, D3, rfl, hi3, hS3, hK3⟩
        have hX3 := hK3.blk HX2.out (.inl (.inl (.inr rfl)))
        have hA3 := HA2.out.call hL2 hK3 hS3
        da_cells
        have HC := Lib.hid (act_mov hA3.md (by have := HA.out.ds.len32; omega) HA.out.ez HA.out.rise HA.out.ds.uniq (fun b hb => HA.out.ds.cnt4 hb) (num := nu) (show kd = 7 ∨ kd = 8 by omega) hi3)
        da_act
        da_tail
      · da_open
        refine (find_d HA2.out.ds (by omega) co nm (S := fun _ => True) (Cl.true_ _ _ _) (fun _ _ _ => trivial)).mono ?_
        rintro e w3 ⟨y, r, rfl, hi3, hS3, hK3⟩
        have hX3 := hK3.blk HX2.out (.inl (.inl (.inr rfl)))
        have hA3 := HA2.out.call hL2 hK3 hS3
        da_cells
        have HC := Lib.hid (act_fnd hA3.md (by have := HA.out.ds.len32; omega) HA.out.ez HA.out.rise HA.out.ds.uniq (num := nu) (tn := tn) (show 9 ≤ kd by omega) hi3)
        da_act
        da_tail
      · da_open
        refine (list_d HA2.out.ds (by omega) 4 (S := fun _ => True) (Cl.true_ _ _ _) (fun _ _ _ => trivial)).mono ?_
        rintro e w3 ⟨v3, D3, rfl, hi3, hown3, hS3, hK3⟩
        have hD3 : D3 = [] := by
          rcases hi3 with ⟨_, h⟩ | ⟨h, _⟩
          · exact h
          · rw [mayE_core4 _ (by omega)] at h; cases h
        subst hD3
        obtain ⟨_, A3, cap3, rfl, _⟩ := Sl.ofOwn hown3
        have HA3 := Lib.hid (HA2.out.look hL2 hLd2 hK3 hS3)
        have HX3 := Lib.hid (hK3.blk HX2.out (.inl (.inl (.inr rfl))))
        clear hi3 hown3 hS3 hK3
        go_wp2_with (fail)
        refine (list_d HA3.out.ds (by omega) (-1) (S := fun _ => True) (Cl.true_ _ _ _) (fun _ _ _ => trivial)).mono ?_
        rintro e w4 ⟨v3, D3, rfl, hi3, hown3, hS3, hK3⟩
        have hD3 : D3 = [] := by
          rcases hi3 with ⟨_, h⟩ | ⟨h, _⟩
          · exact h
          · rw [mayE_core4 _ (by omega)] at h; cases h
        subst hD3
        obtain ⟨_, A3, cap3, rfl, _⟩ := Sl.ofOwn hown3
        have hA4 := HA3.out.look hL2 hLd2 hK3 hS3
        have c0 := (hK3.blk HX3.out (.inl (.inl (.inr rfl)))).cell 0
        clear hi3 hown3 hS3 hK3
        obtain ⟨M4, v4, HA4⟩ : ∃ M4 v4, Hid (AL w w4 L mb d a (600 * k + 200) v4 M4 M4) := ⟨_, _, Lib.hid (hA4.fin (List.Perm.refl _) hLd)⟩
        clear hA4 HA3 HX2 HX3
        da_tail
    · have hor : ¬ (k : Int) < (len : Int) ∨ ((k : Int) < (len : Int) ∧ ¬ (k : Int) < 120) := by omega
      clear hboth
      rcases hor with hlt1 | ⟨hlt1, hlt3⟩
      all_goals (
        have HLI := Lib.hid (fun j => list_d (HA.out.ds.drewN j) (by omega) 0 (S := fun _ => True) (Cl.true_ _ _ _) (fun _ _ _ => trivial))
        have hl4 := HA.out.ds.len32
        have b0 := HA.out.mdl.cell 0
        obtain ⟨_, A4, cap4, rfl, _⟩ := Sl.ofOwn HA.out.own
        go_wp2_with (fail)
        go_region_held3 (fun w' => w'.cell? ⟨mb, 0, none⟩ = some (.slice A4 M.length cap4)) (first | exact b0 | exact b5 | exact b7)
          ((first
            | (go_at_call 15; refine (HLI.out _).mono ?_; rintro e w5 ⟨v9, D9, rfl, hl9, hown9, hS9, hK9⟩; have hD9 := HA.out.same (by omega) (by omega) hl9; rw [hD9] at hown9; have b5 := (hK9.undrewN.blk HA.out.mdl (.inl (.inr rfl))).cell 0; have hmb5 := (hK9.undrewN.blk HA.out.mdl (.inl (.inr rfl))).lt; have HO4 := Lib.hid (own_keep HA.out.own hK9.undrewN); have HO9 := Lib.hid hown9; have HB5 := Lib.hid (HA.out.bel.trans (hK9.undrewN.below fun b hb => .inl (.inl (hL b hb)))); clear hl9 hD9 hown9 hS9 hK9)
            | (go_at_call 17; refine (same_ents M v9 _ _ (Sl.ofOwn HO9.out) (Sl.ofOwn HO4.out) (by omega)).mono ?_; rintro e w' ⟨rfl, k1, rfl⟩)
            | (go_at_call 19; refine (awake_d _).mono ?_; rintro e w7 ⟨rfl, hB7⟩; have b7 := (Keeps.ofBelow hB7).cellOf hmb5 b5)))
        go_wp2_with (fail)
        go_ret
        exact ⟨rfl, bel_then (bel_then HB5.out (((Keeps.refl (fun b => b < w5.heap.size) w5).drewN k1).below fun _ h => h)) hB7⟩)
end Go.Proofs.Ytkbajjpdngfhbaa
