/- The document's file system: entries, under the invariant. (Printed in part by genheld.py.) -/
import Derived.Test.YtenlffhoinialaaMDoA
import Derived.Test.YtenlffhoinialaaMRBelow
namespace Go.Proofs.Ytenlffhoinialaa
open Go.RowKit
set_option maxHeartbeats 4000000
attribute [local go_sem ↓] Go.wp_at_zero Go.wp_at_succ
theorem Inv.en_at {S : St} (h : Inv S) {i k : Nat} (hi : i < S.inodes.length) (hk : k < S.ne i) : ncheck (S.enm i k) = 0 ∧ S.enu i k ≠ 1 ∧ ∃ j, j < S.inodes.length ∧ atF S (S.enu i k) = (j : Int) ∧ S.num j = S.enu i k := by
  have hm := Inv.ino_mem hi
  have hk : k < (S.ino i).ents.length := hk
  have he : (S.ino i).ents.getD k (ByteArray.empty, 0) ∈ (S.ino i).ents := getD_mem hk
  obtain ⟨h1, y, hy, h2⟩ := h.goal _ hm _ he
  obtain ⟨j, hj, e1, e2⟩ := h.firstIx_mem hy
  refine ⟨h.nam _ hm _ he, h1, j, hj, ?_, ?_⟩
  · unfold atF St.enu; rw [← h2, e2]; rfl
  · unfold St.num St.enu; rw [e1]; exact h2
theorem Inv.e_rise {S : St} (h : Inv S) {i k : Nat} (hi : i < S.inodes.length) (hk : k + 1 < S.ne i) : nlt (S.enm i k) (S.enm i (k + 1)) = true := by
  have hk : k + 1 < (S.ino i).ents.length := hk
  have := List.pairwise_iff_getElem.1 (h.up _ (Inv.ino_mem hi)) k (k + 1) (by omega) hk (by omega)
  unfold St.enm
  rw [getD_get hk, getD_get (by omega : k < _)]
  exact this
theorem ncheck_size {s : ByteArray} (h : ncheck s = 0) : s.size ≤ 12 := by
  rcases Nat.lt_or_ge 12 s.size with q | q
  · unfold ncheck at h; rw [if_pos q] at h; cases h
  · exact q
theorem below_drewN (w : World) (d : Nat) : Below w.heap.size w (w.drewN d) := ⟨rfl, rfl, rfl, Nat.le_refl _, fun _ _ => rfl⟩
theorem below_drew1 (w : World) : Below w.heap.size w w.drew := ⟨rfl, rfl, rfl, Nat.le_refl _, fun _ _ => rfl⟩
def intsV (xs : List Int) : Array Value := (xs.map (Value.int .i64)).toArray
theorem intsV_at {xs : List Int} {i : Nat} (h : i < xs.length) : (intsV xs)[i]? = some (.int .i64 (xs.getD i 0)) := by
  rw [getD_get h]
  unfold intsV
  simp [h]
theorem intsV_set (xs : List Int) (i : Nat) (x : Int) : (intsV xs).setIfInBounds i (.int .i64 x) = intsV (xs.set i x) := by
  unfold intsV
  rw [List.setIfInBounds_toArray, ← List.map_set]
def zero8 : Array Value := intsV (List.replicate 8 0)
set_option maxRecDepth 1000000 in
theorem rentries_calls {w : World} {iv ov mv : Value} {ev : Nat → Value} {S : St} (hS : StM w iv ov mv ev S) (hI : Inv S) {i0 : Nat} (hi0 : i0 < S.inodes.length) :
    Calls Try.prog 58 #[.agg #[iv, ov, mv], .agg #[.int .i64 (S.num i0), .bool (S.dir i0), ev i0, .string (S.dat i0)]] w fun e w' => SomeB e ∧ Below w.heap.size w w' := by
  obtain ⟨A, cap, rfl⟩ := hS.ino.form
  obtain ⟨MA, mcap, rfl⟩ := hS.mad.form
  obtain ⟨OA, ocap, rfl⟩ := hS.opn.form
  have HEN := Lib.hid (fun k (hk : k < S.ne i0) => hI.en_at hi0 hk)
  have HER := Lib.hid (fun k (hk : k + 1 < S.ne i0) => hI.e_rise hi0 hk)
  have hne : S.ne i0 ≤ 32 := hI.en (Inv.ino_mem hi0)
  have hni := hI.ni
  have HAT := Lib.hid (fun (W : World) (hW : StM W (.slice A S.inodes.length cap) (.slice OA S.opens.length ocap) (.slice MA S.made.length mcap) ev S) (x : Int) => At_calls hW (by omega : S.inodes.length ≤ 1000) x)
  have HE := Lib.hid (hS.ent i0 hi0)
  have HS := Lib.hid hS
  obtain ⟨EA, ecap, hev⟩ := HE.out.form
  rw [hev] at HE ⊢
  obtain ⟨ne, hnn⟩ : ∃ n, S.ne i0 = n := ⟨_, rfl⟩
  rw [hnn] at HEN HER HE hne ⊢
  generalize S.opens.length = no at *
  generalize S.made.length = nm_ at *
  generalize S.inodes.length = ni at *
  generalize S.num i0 = xnum at *
  generalize S.dir i0 = xdir at *
  generalize S.dat i0 = xdat at *
  clear hS hI hev hnn
  obtain ⟨j0_, hj, hy0, hy1, hy2⟩ := info_parts info_int1
  have hmk : ∀ W : World, (Instr.makeSlice 24 (.int .i64 8) (.int .i64 8)).run Try.prog W = .ok (.slice (some ⟨W.heap.size, 0, none⟩) 8 8) (W.alloc (.cells zero8 3)) := by
    intro W
    have h := run_make_rowN (P := Try.prog) (w := W) 24 3 j0_ _ Try.underlying24 hj hy0 .i64 .i64 8 8 (Nat.le_refl _) (by rw [hy2]; omega) (by omega)
    simp only [hy1, Nat.mul_one, Value.cells, madeCells_one] at h
    exact h
  have hmk := hmk ((w.alloc (.cells #[.slice A ni cap, .slice OA no ocap, .slice MA nm_ mcap] 26)).alloc (.cells #[.int .i64 xnum, .bool xdir, .slice EA ne ecap, .string xdat] 56))
  clear hj hy0 hy1 hy2
  go_enter Try.func58, Try.ntmps58
  go_wp2_with (fail)
  clear hmk
  have HB0 := Lib.hid (show Below w.heap.size w (((w.alloc (.cells #[.slice A ni cap, .slice OA no ocap, .slice MA nm_ mcap] 26)).alloc (.cells #[.int .i64 xnum, .bool xdir, .slice EA ne ecap, .string xdat] 56)).alloc (.cells zero8 3)) from (((Below.refl _ _).alloc (Nat.le_refl _) _).alloc (by simp) _).alloc (by simp; omega) _)
  have HP0 := Lib.hid (((Blk.new w 26 #[.slice A ni cap, .slice OA no ocap, .slice MA nm_ mcap]).alloc (.cells #[.int .i64 xnum, .bool xdir, .slice EA ne ecap, .string xdat] 56)).alloc (.cells zero8 3))
  have HX0 := Lib.hid ((Blk.newAt (w.alloc (.cells #[.slice A ni cap, .slice OA no ocap, .slice MA nm_ mcap] 26)) 56 #[.int .i64 xnum, .bool xdir, .slice EA ne ecap, .string xdat] (n := w.heap.size + 1) (by simp)).alloc (.cells zero8 3))
  have HM0 := Lib.hid (Blk.newAt ((w.alloc (.cells #[.slice A ni cap, .slice OA no ocap, .slice MA nm_ mcap] 26)).alloc (.cells #[.int .i64 xnum, .bool xdir, .slice EA ne ecap, .string xdat] 56)) 3 zero8 (n := w.heap.size + 1 + 1) (by simp))
  obtain ⟨p, hp⟩ : ∃ p, p = w.heap.size := ⟨_, rfl⟩
  have HP := Lib.hid hp
  rw [← hp] at HB0 HP0 HX0 HM0 ⊢
  clear hp
  generalize (((w.alloc (.cells #[.slice A ni cap, .slice OA no ocap, .slice MA nm_ mcap] 26)).alloc (.cells #[.int .i64 xnum, .bool xdir, .slice EA ne ecap, .string xdat] 56)).alloc (.cells zero8 3)) = W0 at *
  go_loopw [6] (fun i wr => ∃ (k : Nat) (xs : List Int), i = .int .i64 k ∧ k ≤ ne ∧ xs.length = 8 ∧ (∀ x ∈ xs, 0 ≤ x ∧ x ≤ (k : Int)) ∧ Below p w wr ∧ Blk wr p 26 #[.slice A ni cap, .slice OA no ocap, .slice MA nm_ mcap] ∧ Blk wr (p + 1) 56 #[.int .i64 xnum, .bool xdir, .slice EA ne ecap, .string xdat] ∧ Blk wr (p + 1 + 1) 3 (intsV xs)) (fun i _ => ne - (intOf i).toNat)
  case atStart => exact ⟨0, List.replicate 8 0, rfl, by omega, rfl, (fun x hx => by rw [List.mem_replicate] at hx; omega), HB0.out, HP0.out, HX0.out, HM0.out⟩
  case round =>
    obtain ⟨k, xs, rfl, hk, hxl, hxb, hb, hpb, hxb2, hmb⟩ := hrel
    have HB := Lib.hid hb
    have HPB := Lib.hid hpb
    have HXB := Lib.hid hxb2
    have HMB := Lib.hid hmb
    have HXS := Lib.hid hxb
    have HXL := Lib.hid hxl
    have c2 : wr.cell? ⟨p + 1, 2, none⟩ = some (.slice EA ne ecap) := hxb2.cell 2
    clear hb hpb hxb2 hmb hxb hxl
    by_cases hq : k < ne
    · have HEP := Lib.hid (HE.out.keep (by rw [← HP.out]; exact HB.out))
      have HSR := Lib.hid (HS.out.keep (by rw [← HP.out]; exact HB.out))
      obtain ⟨_, hcap, eg, eoff, rfl, hcell⟩ := HEP.out.at_ hq
      have q0 : wr.cell? ⟨eg, eoff + k * 2, none⟩ = some (.string (S.enm i0 k)) := hcell 0 (by omega)
      have q1 : wr.cell? ⟨eg, eoff + k * 2 + 1, none⟩ = some (.int .i64 (S.enu i0 k)) := hcell 1 (by omega)
      have hq1 : (k : Int) < ne := by omega
      obtain ⟨g0, g1, i, hi, g2, -⟩ := HEN.out k hq
      have HNC := Lib.hid g0
      have HNS := Lib.hid (ncheck_size g0)
      have HCA := Lib.hid (fun W hW => by have := HAT.out W hW (S.enu i0 k); rwa [g2] at this)
      have HLT := Lib.hid (show ∀ j, k = j + 1 → nlt (S.enm i0 j) (S.enm i0 k) = true ∧ (S.enm i0 j).size ≤ 12 from fun j e => by subst e; exact ⟨HER.out j hq, ncheck_size (HEN.out j (by omega)).1⟩)
      clear hcell g0 g2
      go_upto_region 6 with (fail)
      have HX := Lib.hid (Blk.new wr 58 #[.string (S.enm i0 k), .int .i64 (S.enu i0 k)])
      have HPX := Lib.hid (HPB.out.alloc (.cells #[.string (S.enm i0 k), .int .i64 (S.enu i0 k)] 58))
      have HXX := Lib.hid (HXB.out.alloc (.cells #[.string (S.enm i0 k), .int .i64 (S.enu i0 k)] 58))
      have HMX := Lib.hid (HMB.out.alloc (.cells #[.string (S.enm i0 k), .int .i64 (S.enu i0 k)] 58))
      have HBX := Lib.hid (below_alloc wr (.cells #[.string (S.enm i0 k), .int .i64 (S.enu i0 k)] 58))
      have HSW := Lib.hid (HSR.out.keep HBX.out)
      have HENT := Lib.hid (HEP.out.keep HBX.out)
      have HPL := Lib.hid HPB.out.lt
      obtain ⟨nm, hnm⟩ : ∃ s, S.enm i0 k = s := ⟨_, rfl⟩
      obtain ⟨y, hy⟩ : ∃ s, S.enu i0 k = s := ⟨_, rfl⟩
      rw [hnm] at HX HPX HXX HMX HBX HSW HENT HNC HNS HLT
      rw [hy] at HX HPX HXX HMX HBX HSW HENT HCA g1
      rw [hnm, hy]
      clear q0 q1 c2 hnm hy HSR HEP HPB HXB HMB
      have HCK := Lib.hid (fun W => by have := rcheck_any nm W; rwa [HNC.out] at this)
      have y1 : (y == 1) = false := by rw [beq_eq_false_iff_ne]; exact g1
      obtain ⟨eb, heb⟩ : ∃ eb, eb = wr.heap.size := ⟨_, rfl⟩
      have HEB := Lib.hid heb
      rw [← heb] at HX ⊢
      clear heb
      obtain ⟨W1, hW1⟩ : ∃ W1, W1 = wr.alloc (.cells #[.string nm, .int .i64 y] 58) := ⟨_, rfl⟩
      rw [← hW1] at HX HPX HXX HMX HBX HSW HENT ⊢
      clear hW1
      have e0 : W1.cell? ⟨eb, 0, none⟩ = some (.string nm) := HX.out.cell 0
      have e1 : W1.cell? ⟨eb, 1, none⟩ = some (.int .i64 y) := HX.out.cell 1
      have p0 : W1.cell? ⟨p, 0, none⟩ = some (.slice A ni cap) := HPX.out.cell 0
      have p1 : W1.cell? ⟨p, 1, none⟩ = some (.slice OA no ocap) := HPX.out.cell 1
      have p2 : W1.cell? ⟨p, 2, none⟩ = some (.slice MA nm_ mcap) := HPX.out.cell 2
      have hilt : ¬ (i : Int) < 0 := by omega
      go_cut [54] (fun s wx => s = .bool false ∧ Below W1.heap.size W1 wx)
      case first =>
        by_cases hk0 : 0 < k
        · obtain ⟨j, rfl⟩ : ∃ j, k = j + 1 := ⟨k - 1, by omega⟩
          obtain ⟨-, -, g', off', e, hcell⟩ := HENT.out.at_ (i := j) (by omega)
          injection e with e
          injection e with e1_ e2_
          subst e1_ e2_
          have p0_ : W1.cell? ⟨eg, eoff + j * 2, none⟩ = some (.string (S.enm i0 j)) := hcell 0 (by omega)
          have x2 : W1.cell? ⟨p + 1, 2, none⟩ = some (.slice (some ⟨eg, eoff, none⟩) ne ecap) := HXX.out.cell 2
          obtain ⟨hl1, hl2⟩ := HLT.out j rfl
          clear hcell HLT
          obtain ⟨pm, hpm⟩ : ∃ s, S.enm i0 j = s := ⟨_, rfl⟩
          rw [hpm] at p0_ hl1 hl2
          have HBL := Lib.hid (fun W => by have := rbelow_calls pm nm (by omega) (by have := HNS.out; omega) W; rwa [hl1] at this)
          clear hpm hl1 hl2
          have ej : IntKind.i64.wrap ((j : Int) + 1 - 1) = (j : Int) := by rw [IntWalk.i64_in _ (by omega)]; omega
          have ej2 : IntKind.i64.wrap (j : Int) = (j : Int) := IntWalk.i64_in _ (by omega)
          have ej3 : (0 : Int) ≤ (j : Int) := by omega
          have ej4 : (j : Int) < (ne : Int) := by omega
          have ej5 : (0 : Int) < (j : Int) + 1 := by omega
          have hS0 := And.intro e0 (And.intro e1 (And.intro p0 (And.intro p1 (And.intro p2 (And.intro x2 p0_)))))
          refine wp_region_held_drew (S := fun w' => w'.cell? ⟨eb, 0, none⟩ = some (.string nm) ∧ w'.cell? ⟨eb, 1, none⟩ = some (.int .i64 y) ∧ w'.cell? ⟨p, 0, none⟩ = some (.slice A ni cap) ∧ w'.cell? ⟨p, 1, none⟩ = some (.slice OA no ocap) ∧ w'.cell? ⟨p, 2, none⟩ = some (.slice MA nm_ mcap) ∧ w'.cell? ⟨p + 1, 2, none⟩ = some (.slice (some ⟨eg, eoff, none⟩) ne ecap) ∧ w'.cell? ⟨eg, eoff + j * 2, none⟩ = some (.string pm)) (by kernel_rfl) (hS0) (fun hHeld => ?_)
          refine wpAnyH_take (i := 0) (oi := ⟨some 22, _, _, _, _, _⟩) (v := .pointer (some ⟨eb, 0, none⟩)) rfl (by kernel_rfl) (by kernel_rfl) (by kernel_rfl) (fun _ _ _ h => h) (Or.inl ⟨by kernel_rfl, fun w hSw => by go_simp⟩) (by assumption) ?_
          simp only [Act.put, lTA, lC0, lCS]
          refine wpAnyH_take (i := 1) (oi := ⟨some 23, _, _, _, _, _⟩) (v := .string nm) rfl (by kernel_rfl) (by kernel_rfl) (by kernel_rfl) (fun _ _ _ h => h) (Or.inl ⟨by kernel_rfl, fun w hSw => by go_simp⟩) (by assumption) ?_
          simp only [Act.put, lTA, lC0, lCS]
          refine wpAnyH_ready (rs := [2]) (by kernel_rfl) (by simp) ?_
          refine AllReadyH.cons rfl (fun K hK => ?_) AllReadyH.nil
          go_simp
          refine (HCK.out _).mono ?_
          rintro e w2 ⟨rfl, d, rfl⟩
          show K _ _
          refine hK.out _ _ (hHeld) (fun hHeld => ?_)
          clear hK K
          refine wpAnyH_take (i := 3) (oi := ⟨some 25, _, _, _, _, _⟩) (v := .bool false) rfl (by kernel_rfl) (by kernel_rfl) (by kernel_rfl) (fun _ _ _ h => h) (Or.inl ⟨by kernel_rfl, fun w hSw => by go_simp⟩) (by assumption) ?_
          simp only [Act.put, lTA, lC0, lCS]
          refine wpAnyH_take (i := 4) (oi := ⟨some 26, _, _, _, _, _⟩) (v := .bool false) rfl (by kernel_rfl) (by kernel_rfl) (by kernel_rfl) (fun _ _ _ h => h) (Or.inl ⟨by kernel_rfl, fun w hSw => by go_simp⟩) (by assumption) ?_
          simp only [Act.put, lTA, lC0, lCS]
          refine wpAnyH_take (i := 5) (oi := ⟨some 27, _, _, _, _, _⟩) (v := .int .i64 (j + 1)) rfl (by kernel_rfl) (by kernel_rfl) (by kernel_rfl) (fun _ _ _ h => h) (Or.inl ⟨by kernel_rfl, fun w hSw => by go_simp⟩) (by assumption) ?_
          simp only [Act.put, lTA, lC0, lCS]
          refine wpAnyH_take (i := 6) (oi := ⟨some 28, _, _, _, _, _⟩) (v := .bool true) rfl (by kernel_rfl) (by kernel_rfl) (by kernel_rfl) (fun _ _ _ h => h) (Or.inl ⟨by kernel_rfl, fun w hSw => by go_simp⟩) (by assumption) ?_
          simp only [Act.put, lTA, lC0, lCS]
          refine wpAnyH_take (i := 7) (oi := ⟨some 29, _, _, _, _, _⟩) (v := .bool true) rfl (by kernel_rfl) (by kernel_rfl) (by kernel_rfl) (fun _ _ _ h => h) (Or.inl ⟨by kernel_rfl, fun w hSw => by go_simp⟩) (by assumption) ?_
          simp only [Act.put, lTA, lC0, lCS]
          refine wpAnyH_take (i := 8) (oi := ⟨some 30, _, _, _, _, _⟩) (v := .pointer (some ⟨p + 1, 2, none⟩)) rfl (by kernel_rfl) (by kernel_rfl) (by kernel_rfl) (fun _ _ _ h => h) (Or.inl ⟨by kernel_rfl, fun w hSw => by go_simp⟩) (by assumption) ?_
          simp only [Act.put, lTA, lC0, lCS]
          refine wpAnyH_take (i := 9) (oi := ⟨some 31, _, _, _, _, _⟩) (v := .slice (some ⟨eg, eoff, none⟩) ne ecap) rfl (by kernel_rfl) (by kernel_rfl) (by kernel_rfl) (fun _ _ _ h => h) (Or.inl ⟨by kernel_rfl, fun w hSw => by go_simp⟩) (by assumption) ?_
          simp only [Act.put, lTA, lC0, lCS]
          refine wpAnyH_take (i := 10) (oi := ⟨some 32, _, _, _, _, _⟩) (v := .int .i64 (j + 1)) rfl (by kernel_rfl) (by kernel_rfl) (by kernel_rfl) (fun _ _ _ h => h) (Or.inl ⟨by kernel_rfl, fun w hSw => by go_simp⟩) (by assumption) ?_
          simp only [Act.put, lTA, lC0, lCS]
          refine wpAnyH_take (i := 11) (oi := ⟨some 33, _, _, _, _, _⟩) (v := .int .i64 j) rfl (by kernel_rfl) (by kernel_rfl) (by kernel_rfl) (fun _ _ _ h => h) (Or.inl ⟨by kernel_rfl, fun w hSw => by go_simp⟩) (by assumption) ?_
          simp only [Act.put, lTA, lC0, lCS]
          refine wpAnyH_take (i := 12) (oi := ⟨some 34, _, _, _, _, _⟩) (v := .pointer (some ⟨eg, eoff + j * 2, none⟩)) rfl (by kernel_rfl) (by kernel_rfl) (by kernel_rfl) (fun _ _ _ h => h) (Or.inl ⟨by kernel_rfl, fun w hSw => by go_simp⟩) (by assumption) ?_
          simp only [Act.put, lTA, lC0, lCS]
          refine wpAnyH_take (i := 13) (oi := ⟨some 35, _, _, _, _, _⟩) (v := .pointer (some ⟨eg, eoff + j * 2, none⟩)) rfl (by kernel_rfl) (by kernel_rfl) (by kernel_rfl) (fun _ _ _ h => h) (Or.inl ⟨by kernel_rfl, fun w hSw => by go_simp⟩) (by assumption) ?_
          simp only [Act.put, lTA, lC0, lCS]
          refine wpAnyH_take (i := 14) (oi := ⟨some 36, _, _, _, _, _⟩) (v := .string pm) rfl (by kernel_rfl) (by kernel_rfl) (by kernel_rfl) (fun _ _ _ h => h) (Or.inl ⟨by kernel_rfl, fun w hSw => by go_simp⟩) (by assumption) ?_
          simp only [Act.put, lTA, lC0, lCS]
          refine wpAnyH_take (i := 15) (oi := ⟨some 37, _, _, _, _, _⟩) (v := .pointer (some ⟨eb, 0, none⟩)) rfl (by kernel_rfl) (by kernel_rfl) (by kernel_rfl) (fun _ _ _ h => h) (Or.inl ⟨by kernel_rfl, fun w hSw => by go_simp⟩) (by assumption) ?_
          simp only [Act.put, lTA, lC0, lCS]
          refine wpAnyH_take (i := 16) (oi := ⟨some 38, _, _, _, _, _⟩) (v := .string nm) rfl (by kernel_rfl) (by kernel_rfl) (by kernel_rfl) (fun _ _ _ h => h) (Or.inl ⟨by kernel_rfl, fun w hSw => by go_simp⟩) (by assumption) ?_
          simp only [Act.put, lTA, lC0, lCS]
          refine wpAnyH_ready (rs := [17]) (by kernel_rfl) (by simp) ?_
          refine AllReadyH.cons rfl (fun K hK => ?_) AllReadyH.nil
          go_simp
          refine (HBL.out _).mono ?_
          rintro e w3 ⟨rfl, d3, rfl⟩
          show K _ _
          refine hK.out _ _ (hHeld) (fun hHeld => ?_)
          clear hK K
          refine wpAnyH_take (i := 18) (oi := ⟨some 40, _, _, _, _, _⟩) (v := .bool false) rfl (by kernel_rfl) (by kernel_rfl) (by kernel_rfl) (fun _ _ _ h => h) (Or.inl ⟨by kernel_rfl, fun w hSw => by go_simp⟩) (by assumption) ?_
          simp only [Act.put, lTA, lC0, lCS]
          refine wpAnyH_take (i := 19) (oi := ⟨some 41, _, _, _, _, _⟩) (v := .bool false) rfl (by kernel_rfl) (by kernel_rfl) (by kernel_rfl) (fun _ _ _ h => h) (Or.inl ⟨by kernel_rfl, fun w hSw => by go_simp⟩) (by assumption) ?_
          simp only [Act.put, lTA, lC0, lCS]
          refine wpAnyH_take (i := 20) (oi := ⟨some 42, _, _, _, _, _⟩) (v := .bool false) rfl (by kernel_rfl) (by kernel_rfl) (by kernel_rfl) (fun _ _ _ h => h) (Or.inl ⟨by kernel_rfl, fun w hSw => by go_simp⟩) (by assumption) ?_
          simp only [Act.put, lTA, lC0, lCS]
          refine wpAnyH_take (i := 21) (oi := ⟨some 43, _, _, _, _, _⟩) (v := .bool false) rfl (by kernel_rfl) (by kernel_rfl) (by kernel_rfl) (fun _ _ _ h => h) (Or.inl ⟨by kernel_rfl, fun w hSw => by go_simp⟩) (by assumption) ?_
          simp only [Act.put, lTA, lC0, lCS]
          refine wpAnyH_take (i := 22) (oi := ⟨some 44, _, _, _, _, _⟩) (v := .pointer (some ⟨eb, 1, none⟩)) rfl (by kernel_rfl) (by kernel_rfl) (by kernel_rfl) (fun _ _ _ h => h) (Or.inl ⟨by kernel_rfl, fun w hSw => by go_simp⟩) (by assumption) ?_
          simp only [Act.put, lTA, lC0, lCS]
          refine wpAnyH_take (i := 23) (oi := ⟨some 45, _, _, _, _, _⟩) (v := .int .i64 y) rfl (by kernel_rfl) (by kernel_rfl) (by kernel_rfl) (fun _ _ _ h => h) (Or.inl ⟨by kernel_rfl, fun w hSw => by go_simp⟩) (by assumption) ?_
          simp only [Act.put, lTA, lC0, lCS]
          refine wpAnyH_take (i := 24) (oi := ⟨some 46, _, _, _, _, _⟩) (v := .bool false) rfl (by kernel_rfl) (by kernel_rfl) (by kernel_rfl) (fun _ _ _ h => h) (Or.inl ⟨by kernel_rfl, fun w hSw => by go_simp⟩) (by assumption) ?_
          simp only [Act.put, lTA, lC0, lCS]
          refine wpAnyH_take (i := 25) (oi := ⟨some 47, _, _, _, _, _⟩) (v := .bool false) rfl (by kernel_rfl) (by kernel_rfl) (by kernel_rfl) (fun _ _ _ h => h) (Or.inl ⟨by kernel_rfl, fun w hSw => by go_simp⟩) (by assumption) ?_
          simp only [Act.put, lTA, lC0, lCS]
          refine wpAnyH_take (i := 26) (oi := ⟨some 48, _, _, _, _, _⟩) (v := .bool false) rfl (by kernel_rfl) (by kernel_rfl) (by kernel_rfl) (fun _ _ _ h => h) (Or.inl ⟨by kernel_rfl, fun w hSw => by go_simp⟩) (by assumption) ?_
          simp only [Act.put, lTA, lC0, lCS]
          refine wpAnyH_take (i := 27) (oi := ⟨some 49, _, _, _, _, _⟩) (v := .agg #[.slice A ni cap, .slice OA no ocap, .slice MA nm_ mcap]) rfl (by kernel_rfl) (by kernel_rfl) (by kernel_rfl) (fun _ _ _ h => h) (Or.inl ⟨by kernel_rfl, fun w hSw => by go_simp⟩) (by assumption) ?_
          simp only [Act.put, lTA, lC0, lCS]
          refine wpAnyH_take (i := 28) (oi := ⟨some 50, _, _, _, _, _⟩) (v := .pointer (some ⟨eb, 1, none⟩)) rfl (by kernel_rfl) (by kernel_rfl) (by kernel_rfl) (fun _ _ _ h => h) (Or.inl ⟨by kernel_rfl, fun w hSw => by go_simp⟩) (by assumption) ?_
          simp only [Act.put, lTA, lC0, lCS]
          refine wpAnyH_take (i := 29) (oi := ⟨some 51, _, _, _, _, _⟩) (v := .int .i64 y) rfl (by kernel_rfl) (by kernel_rfl) (by kernel_rfl) (fun _ _ _ h => h) (Or.inl ⟨by kernel_rfl, fun w hSw => by go_simp⟩) (by assumption) ?_
          simp only [Act.put, lTA, lC0, lCS]
          refine wpAnyH_ready (rs := [30]) (by kernel_rfl) (by simp) ?_
          refine AllReadyH.cons rfl (fun K hK => ?_) AllReadyH.nil
          go_simp
          refine (HCA.out _ (HSW.out.keep (show Below W1.heap.size W1 (W1.drewN (1 + d + d3)) from ⟨rfl, rfl, rfl, Nat.le_refl _, fun _ _ => rfl⟩))).mono ?_
          rintro e w4 ⟨rfl, hB4⟩
          show K _ _
          refine hK.out _ _ (⟨(hB4.cell (World.block_lt_of_cell? _ _ hHeld.1)).trans hHeld.1, (hB4.cell (World.block_lt_of_cell? _ _ hHeld.2.1)).trans hHeld.2.1, (hB4.cell (World.block_lt_of_cell? _ _ hHeld.2.2.1)).trans hHeld.2.2.1, (hB4.cell (World.block_lt_of_cell? _ _ hHeld.2.2.2.1)).trans hHeld.2.2.2.1, (hB4.cell (World.block_lt_of_cell? _ _ hHeld.2.2.2.2.1)).trans hHeld.2.2.2.2.1, (hB4.cell (World.block_lt_of_cell? _ _ hHeld.2.2.2.2.2.1)).trans hHeld.2.2.2.2.2.1, (hB4.cell (World.block_lt_of_cell? _ _ hHeld.2.2.2.2.2.2)).trans hHeld.2.2.2.2.2.2⟩) (fun hHeld => ?_)
          clear hK K
          refine wpAnyH_take (i := 31) (oi := ⟨some 53, _, _, _, _, _⟩) (v := .bool false) rfl (by kernel_rfl) (by kernel_rfl) (by kernel_rfl) (fun _ _ _ h => h) (Or.inl ⟨by kernel_rfl, fun w hSw => by go_simp⟩) (by assumption) ?_
          simp only [Act.put, lTA, lC0, lCS]
          refine wpAnyH_take (i := 32) (oi := ⟨some 54, _, _, _, _, _⟩) (v := .bool false) rfl (by kernel_rfl) (by kernel_rfl) (by kernel_rfl) (fun _ _ _ h => h) (Or.inl ⟨by kernel_rfl, fun w hSw => by go_simp⟩) (by assumption) ?_
          simp only [Act.put, lTA, lC0, lCS]
          refine wpAnyH_done (by kernel_rfl) ?_ _
          go_wp2_with (fail)
          go_meet
          case rel => exact ⟨rfl, Below.trans (b := W1.drewN (1 + d + d3)) ⟨rfl, rfl, rfl, Nat.le_refl _, fun _ _ => rfl⟩ hB4⟩
        · obtain rfl : k = 0 := by omega
          have hS0 := And.intro e0 (And.intro e1 (And.intro p0 (And.intro p1 p2)))
          refine wp_region_held_drew (S := fun w' => w'.cell? ⟨eb, 0, none⟩ = some (.string nm) ∧ w'.cell? ⟨eb, 1, none⟩ = some (.int .i64 y) ∧ w'.cell? ⟨p, 0, none⟩ = some (.slice A ni cap) ∧ w'.cell? ⟨p, 1, none⟩ = some (.slice OA no ocap) ∧ w'.cell? ⟨p, 2, none⟩ = some (.slice MA nm_ mcap)) (by kernel_rfl) (hS0) (fun hHeld => ?_)
          refine wpAnyH_take (i := 0) (oi := ⟨some 22, _, _, _, _, _⟩) (v := .pointer (some ⟨eb, 0, none⟩)) rfl (by kernel_rfl) (by kernel_rfl) (by kernel_rfl) (fun _ _ _ h => h) (Or.inl ⟨by kernel_rfl, fun w hSw => by go_simp⟩) (by assumption) ?_
          simp only [Act.put, lTA, lC0, lCS]
          refine wpAnyH_take (i := 1) (oi := ⟨some 23, _, _, _, _, _⟩) (v := .string nm) rfl (by kernel_rfl) (by kernel_rfl) (by kernel_rfl) (fun _ _ _ h => h) (Or.inl ⟨by kernel_rfl, fun w hSw => by go_simp⟩) (by assumption) ?_
          simp only [Act.put, lTA, lC0, lCS]
          refine wpAnyH_ready (rs := [2]) (by kernel_rfl) (by simp) ?_
          refine AllReadyH.cons rfl (fun K hK => ?_) AllReadyH.nil
          go_simp
          refine (HCK.out _).mono ?_
          rintro e w2 ⟨rfl, d, rfl⟩
          show K _ _
          refine hK.out _ _ (hHeld) (fun hHeld => ?_)
          clear hK K
          refine wpAnyH_take (i := 3) (oi := ⟨some 25, _, _, _, _, _⟩) (v := .bool false) rfl (by kernel_rfl) (by kernel_rfl) (by kernel_rfl) (fun _ _ _ h => h) (Or.inl ⟨by kernel_rfl, fun w hSw => by go_simp⟩) (by assumption) ?_
          simp only [Act.put, lTA, lC0, lCS]
          refine wpAnyH_take (i := 4) (oi := ⟨some 26, _, _, _, _, _⟩) (v := .bool false) rfl (by kernel_rfl) (by kernel_rfl) (by kernel_rfl) (fun _ _ _ h => h) (Or.inl ⟨by kernel_rfl, fun w hSw => by go_simp⟩) (by assumption) ?_
          simp only [Act.put, lTA, lC0, lCS]
          refine wpAnyH_take (i := 5) (oi := ⟨some 27, _, _, _, _, _⟩) (v := .int .i64 0) rfl (by kernel_rfl) (by kernel_rfl) (by kernel_rfl) (fun _ _ _ h => h) (Or.inl ⟨by kernel_rfl, fun w hSw => by go_simp⟩) (by assumption) ?_
          simp only [Act.put, lTA, lC0, lCS]
          refine wpAnyH_take (i := 6) (oi := ⟨some 28, _, _, _, _, _⟩) (v := .bool false) rfl (by kernel_rfl) (by kernel_rfl) (by kernel_rfl) (fun _ _ _ h => h) (Or.inl ⟨by kernel_rfl, fun w hSw => by go_simp⟩) (by assumption) ?_
          simp only [Act.put, lTA, lC0, lCS]
          refine wpAnyH_take (i := 7) (oi := ⟨some 29, _, _, _, _, _⟩) (v := .bool false) rfl (by kernel_rfl) (by kernel_rfl) (by kernel_rfl) (fun _ _ _ h => h) (Or.inl ⟨by kernel_rfl, fun w hSw => by go_simp⟩) (by assumption) ?_
          simp only [Act.put, lTA, lC0, lCS]
          refine wpAnyH_take (i := 8) (oi := ⟨some 30, _, _, _, _, _⟩) (v := undef) rfl (by kernel_rfl) (by kernel_rfl) (by kernel_rfl) (fun _ _ _ h => h) (Or.inr ⟨by kernel_rfl, rfl⟩) (by assumption) ?_
          simp only [Act.put, lTA, lC0, lCS]
          refine wpAnyH_take (i := 9) (oi := ⟨some 31, _, _, _, _, _⟩) (v := undef) rfl (by kernel_rfl) (by kernel_rfl) (by kernel_rfl) (fun _ _ _ h => h) (Or.inr ⟨by kernel_rfl, rfl⟩) (by assumption) ?_
          simp only [Act.put, lTA, lC0, lCS]
          refine wpAnyH_take (i := 10) (oi := ⟨some 32, _, _, _, _, _⟩) (v := undef) rfl (by kernel_rfl) (by kernel_rfl) (by kernel_rfl) (fun _ _ _ h => h) (Or.inr ⟨by kernel_rfl, rfl⟩) (by assumption) ?_
          simp only [Act.put, lTA, lC0, lCS]
          refine wpAnyH_take (i := 11) (oi := ⟨some 33, _, _, _, _, _⟩) (v := undef) rfl (by kernel_rfl) (by kernel_rfl) (by kernel_rfl) (fun _ _ _ h => h) (Or.inr ⟨by kernel_rfl, rfl⟩) (by assumption) ?_
          simp only [Act.put, lTA, lC0, lCS]
          refine wpAnyH_take (i := 12) (oi := ⟨some 34, _, _, _, _, _⟩) (v := undef) rfl (by kernel_rfl) (by kernel_rfl) (by kernel_rfl) (fun _ _ _ h => h) (Or.inr ⟨by kernel_rfl, rfl⟩) (by assumption) ?_
          simp only [Act.put, lTA, lC0, lCS]
          refine wpAnyH_take (i := 13) (oi := ⟨some 35, _, _, _, _, _⟩) (v := undef) rfl (by kernel_rfl) (by kernel_rfl) (by kernel_rfl) (fun _ _ _ h => h) (Or.inr ⟨by kernel_rfl, rfl⟩) (by assumption) ?_
          simp only [Act.put, lTA, lC0, lCS]
          refine wpAnyH_take (i := 14) (oi := ⟨some 36, _, _, _, _, _⟩) (v := undef) rfl (by kernel_rfl) (by kernel_rfl) (by kernel_rfl) (fun _ _ _ h => h) (Or.inr ⟨by kernel_rfl, rfl⟩) (by assumption) ?_
          simp only [Act.put, lTA, lC0, lCS]
          refine wpAnyH_take (i := 15) (oi := ⟨some 37, _, _, _, _, _⟩) (v := undef) rfl (by kernel_rfl) (by kernel_rfl) (by kernel_rfl) (fun _ _ _ h => h) (Or.inr ⟨by kernel_rfl, rfl⟩) (by assumption) ?_
          simp only [Act.put, lTA, lC0, lCS]
          refine wpAnyH_take (i := 16) (oi := ⟨some 38, _, _, _, _, _⟩) (v := undef) rfl (by kernel_rfl) (by kernel_rfl) (by kernel_rfl) (fun _ _ _ h => h) (Or.inr ⟨by kernel_rfl, rfl⟩) (by assumption) ?_
          simp only [Act.put, lTA, lC0, lCS]
          refine wpAnyH_take (i := 17) (oi := ⟨some 39, _, _, _, _, _⟩) (v := undef) rfl (by kernel_rfl) (by kernel_rfl) (by kernel_rfl) (fun _ _ _ h => h) (Or.inr ⟨by kernel_rfl, rfl⟩) (by assumption) ?_
          simp only [Act.put, lTA, lC0, lCS]
          refine wpAnyH_take (i := 18) (oi := ⟨some 40, _, _, _, _, _⟩) (v := undef) rfl (by kernel_rfl) (by kernel_rfl) (by kernel_rfl) (fun _ _ _ h => h) (Or.inr ⟨by kernel_rfl, rfl⟩) (by assumption) ?_
          simp only [Act.put, lTA, lC0, lCS]
          refine wpAnyH_take (i := 19) (oi := ⟨some 41, _, _, _, _, _⟩) (v := .bool false) rfl (by kernel_rfl) (by kernel_rfl) (by kernel_rfl) (fun _ _ _ h => h) (Or.inl ⟨by kernel_rfl, fun w hSw => by go_simp⟩) (by assumption) ?_
          simp only [Act.put, lTA, lC0, lCS]
          refine wpAnyH_take (i := 20) (oi := ⟨some 42, _, _, _, _, _⟩) (v := .bool false) rfl (by kernel_rfl) (by kernel_rfl) (by kernel_rfl) (fun _ _ _ h => h) (Or.inl ⟨by kernel_rfl, fun w hSw => by go_simp⟩) (by assumption) ?_
          simp only [Act.put, lTA, lC0, lCS]
          refine wpAnyH_take (i := 21) (oi := ⟨some 43, _, _, _, _, _⟩) (v := .bool false) rfl (by kernel_rfl) (by kernel_rfl) (by kernel_rfl) (fun _ _ _ h => h) (Or.inl ⟨by kernel_rfl, fun w hSw => by go_simp⟩) (by assumption) ?_
          simp only [Act.put, lTA, lC0, lCS]
          refine wpAnyH_take (i := 22) (oi := ⟨some 44, _, _, _, _, _⟩) (v := .pointer (some ⟨eb, 1, none⟩)) rfl (by kernel_rfl) (by kernel_rfl) (by kernel_rfl) (fun _ _ _ h => h) (Or.inl ⟨by kernel_rfl, fun w hSw => by go_simp⟩) (by assumption) ?_
          simp only [Act.put, lTA, lC0, lCS]
          refine wpAnyH_take (i := 23) (oi := ⟨some 45, _, _, _, _, _⟩) (v := .int .i64 y) rfl (by kernel_rfl) (by kernel_rfl) (by kernel_rfl) (fun _ _ _ h => h) (Or.inl ⟨by kernel_rfl, fun w hSw => by go_simp⟩) (by assumption) ?_
          simp only [Act.put, lTA, lC0, lCS]
          refine wpAnyH_take (i := 24) (oi := ⟨some 46, _, _, _, _, _⟩) (v := .bool false) rfl (by kernel_rfl) (by kernel_rfl) (by kernel_rfl) (fun _ _ _ h => h) (Or.inl ⟨by kernel_rfl, fun w hSw => by go_simp⟩) (by assumption) ?_
          simp only [Act.put, lTA, lC0, lCS]
          refine wpAnyH_take (i := 25) (oi := ⟨some 47, _, _, _, _, _⟩) (v := .bool false) rfl (by kernel_rfl) (by kernel_rfl) (by kernel_rfl) (fun _ _ _ h => h) (Or.inl ⟨by kernel_rfl, fun w hSw => by go_simp⟩) (by assumption) ?_
          simp only [Act.put, lTA, lC0, lCS]
          refine wpAnyH_take (i := 26) (oi := ⟨some 48, _, _, _, _, _⟩) (v := .bool false) rfl (by kernel_rfl) (by kernel_rfl) (by kernel_rfl) (fun _ _ _ h => h) (Or.inl ⟨by kernel_rfl, fun w hSw => by go_simp⟩) (by assumption) ?_
          simp only [Act.put, lTA, lC0, lCS]
          refine wpAnyH_take (i := 27) (oi := ⟨some 49, _, _, _, _, _⟩) (v := .agg #[.slice A ni cap, .slice OA no ocap, .slice MA nm_ mcap]) rfl (by kernel_rfl) (by kernel_rfl) (by kernel_rfl) (fun _ _ _ h => h) (Or.inl ⟨by kernel_rfl, fun w hSw => by go_simp⟩) (by assumption) ?_
          simp only [Act.put, lTA, lC0, lCS]
          refine wpAnyH_take (i := 28) (oi := ⟨some 50, _, _, _, _, _⟩) (v := .pointer (some ⟨eb, 1, none⟩)) rfl (by kernel_rfl) (by kernel_rfl) (by kernel_rfl) (fun _ _ _ h => h) (Or.inl ⟨by kernel_rfl, fun w hSw => by go_simp⟩) (by assumption) ?_
          simp only [Act.put, lTA, lC0, lCS]
          refine wpAnyH_take (i := 29) (oi := ⟨some 51, _, _, _, _, _⟩) (v := .int .i64 y) rfl (by kernel_rfl) (by kernel_rfl) (by kernel_rfl) (fun _ _ _ h => h) (Or.inl ⟨by kernel_rfl, fun w hSw => by go_simp⟩) (by assumption) ?_
          simp only [Act.put, lTA, lC0, lCS]
          refine wpAnyH_ready (rs := [30]) (by kernel_rfl) (by simp) ?_
          refine AllReadyH.cons rfl (fun K hK => ?_) AllReadyH.nil
          go_simp
          refine (HCA.out _ (HSW.out.keep (show Below W1.heap.size W1 (W1.drewN (1 + d)) from ⟨rfl, rfl, rfl, Nat.le_refl _, fun _ _ => rfl⟩))).mono ?_
          rintro e w4 ⟨rfl, hB4⟩
          show K _ _
          refine hK.out _ _ (⟨(hB4.cell (World.block_lt_of_cell? _ _ hHeld.1)).trans hHeld.1, (hB4.cell (World.block_lt_of_cell? _ _ hHeld.2.1)).trans hHeld.2.1, (hB4.cell (World.block_lt_of_cell? _ _ hHeld.2.2.1)).trans hHeld.2.2.1, (hB4.cell (World.block_lt_of_cell? _ _ hHeld.2.2.2.1)).trans hHeld.2.2.2.1, (hB4.cell (World.block_lt_of_cell? _ _ hHeld.2.2.2.2)).trans hHeld.2.2.2.2⟩) (fun hHeld => ?_)
          clear hK K
          refine wpAnyH_take (i := 31) (oi := ⟨some 53, _, _, _, _, _⟩) (v := .bool false) rfl (by kernel_rfl) (by kernel_rfl) (by kernel_rfl) (fun _ _ _ h => h) (Or.inl ⟨by kernel_rfl, fun w hSw => by go_simp⟩) (by assumption) ?_
          simp only [Act.put, lTA, lC0, lCS]
          refine wpAnyH_take (i := 32) (oi := ⟨some 54, _, _, _, _, _⟩) (v := .bool false) rfl (by kernel_rfl) (by kernel_rfl) (by kernel_rfl) (fun _ _ _ h => h) (Or.inl ⟨by kernel_rfl, fun w hSw => by go_simp⟩) (by assumption) ?_
          simp only [Act.put, lTA, lC0, lCS]
          refine wpAnyH_done (by kernel_rfl) ?_ _
          go_wp2_with (fail)
          go_meet
          case rel => exact ⟨rfl, Below.trans (b := W1.drewN (1 + d)) ⟨rfl, rfl, rfl, Nat.le_refl _, fun _ _ => rfl⟩ hB4⟩
      case rest =>
        obtain ⟨rfl, hbc⟩ := hcut
        have HBC := Lib.hid (HBX.out.trans (hbc.mono HBX.out.size))
        have HXc := Lib.hid (HX.out.below hbc)
        have HPc := Lib.hid (HPX.out.below hbc)
        have HXXc := Lib.hid (HXX.out.below hbc)
        have HMc := Lib.hid (HMX.out.below hbc)
        have HBW := Lib.hid (HB.out.trans (HBC.out.mono (Nat.le_of_lt HPL.out)))
        have HBU := Lib.hid (fun W => rbucket_calls nm (by have := HNS.out; omega) W)
        have hbl := nbucket_lt nm
        clear e0 e1 p0 p1 p2 hbc HX HPX HXX HMX HBX HSW HENT HCA HCK HLT
        have e0 : wc.cell? ⟨eb, 0, none⟩ = some (.string nm) := HXc.out.cell 0
        generalize nbucket nm = bq at *
        go_upto_region 9 with (go_at_call 85; refine (HBU.out _).mono ?_; rintro e w5 ⟨rfl, d5, rfl⟩)
        have HX5 := Lib.hid (show Blk (wc.drewN d5) eb 58 _ from HXc.out)
        have HP5 := Lib.hid (show Blk (wc.drewN d5) p 26 _ from HPc.out)
        have HXX5 := Lib.hid (show Blk (wc.drewN d5) (p + 1) 56 _ from HXXc.out)
        have HM5 := Lib.hid (show Blk (wc.drewN d5) (p + 1 + 1) 3 _ from HMc.out)
        have HB5 := Lib.hid (show Below p w (wc.drewN d5) from HBW.out.trans ⟨rfl, rfl, rfl, Nat.le_refl _, fun _ _ => rfl⟩)
        clear e0 HXc HPc HXXc HMc HBW HBC
        generalize wc.drewN d5 = w6 at *
        have hbx : bq < xs.length := by rw [HXL.out]; exact hbl
        have hxm := HXS.out _ (getD_mem (d := 0) hbx)
        have HX1 := Lib.hid (show ∀ x ∈ xs.set bq (xs.getD bq 0 + 1), 0 ≤ x ∧ x ≤ ((k + 1 : Nat) : Int) from fun x hx => by
          rcases List.mem_or_eq_of_mem_set hx with q | q
          · have := HXS.out x q; omega
          · omega)
        have HX2 := Lib.hid (show (xs.set bq (xs.getD bq 0 + 1)).length = 8 by rw [List.length_set]; exact HXL.out)
        have HM6 := Lib.hid (show Blk (w6.setCell ⟨p + 1 + 1, bq, none⟩ (.int .i64 (xs.getD bq 0 + 1))) (p + 1 + 1) 3 (intsV (xs.set bq (xs.getD bq 0 + 1))) by rw [← intsV_set]; exact HM5.out.set_ bq _)
        have HP6 := Lib.hid (HP5.out.far (p := ⟨p + 1 + 1, bq, none⟩) (by show p ≠ p + 1 + 1; omega) (.int .i64 (xs.getD bq 0 + 1)))
        have HXX6 := Lib.hid (HXX5.out.far (p := ⟨p + 1 + 1, bq, none⟩) (by show p + 1 ≠ p + 1 + 1; omega) (.int .i64 (xs.getD bq 0 + 1)))
        have HB6 := Lib.hid (HB5.out.setCell (p := ⟨p + 1 + 1, bq, none⟩) (by show p ≤ p + 1 + 1; omega) (.int .i64 (xs.getD bq 0 + 1)))
        have m0 : w6.cell? ⟨p + 1 + 1, bq, none⟩ = some (.int .i64 (xs.getD bq 0)) := (HM5.out.cell bq).trans (intsV_at hbx)
        have mf := HM5.out.frozen bq
        have hb8 : (bq : Int) < 8 := by omega
        generalize xs.getD bq 0 = mx at *
        by_cases h4 : 4 < mx + 1
        · go_wp2_with (fail)
          go_ret
          exact ⟨⟨_, rfl⟩, by rw [← HP.out]; exact HB6.out⟩
        · go_wp2_with (fail)
          go_roundw
          case rel => exact ⟨k + 1, _, by go_num, by omega, HX2.out, HX1.out, HB6.out, HP6.out, HXX6.out, HM6.out⟩
          case measure =>
            simp only [intOf]
            omega
    · have e : k = ne := by omega
      subst e
      go_wp2_with (fail)
      go_ret
      exact ⟨⟨_, rfl⟩, by rw [← HP.out]; exact HB.out⟩
end Go.Proofs.Ytenlffhoinialaa
