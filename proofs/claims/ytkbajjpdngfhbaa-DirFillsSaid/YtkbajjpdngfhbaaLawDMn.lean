
/- DirMany: the walk. -/
import Derived.Test.YtkbajjpdngfhbaaLawDMv
import Derived.Test.YtkbajjpdngfhbaaDec
namespace Go.Proofs.Ytkbajjpdngfhbaa
open Go.RowKit
set_option maxHeartbeats 4000000
def nmM (x : Nat) : ByteArray := ⟨#[109]⟩ ++ strD (dgs x)
def und (s : ByteArray) : Nat := (s.data.toList.drop 1).foldl (fun a b => 10 * a + (b.toNat - 48)) 0
theorem tabM : ((List.range 400).all fun x => ncheck (nmM x) == 0 && und (nmM x) == x) = true := by kernel_rfl
theorem nmM_ok {x : Nat} (hx : x < 400) : ncheck (nmM x) = 0 := by
  have := List.all_eq_true.1 tabM x (List.mem_range.2 hx)
  simp only [Bool.and_eq_true, beq_iff_eq] at this
  exact this.1
theorem nmM_und {x : Nat} (hx : x < 400) : und (nmM x) = x := by
  have := List.all_eq_true.1 tabM x (List.mem_range.2 hx)
  simp only [Bool.and_eq_true, beq_iff_eq] at this
  exact this.2
theorem nmM_inj {x y : Nat} (hx : x < 400) (hy : y < 400) (h : nmM x = nmM y) : x = y := by
  rw [← nmM_und hx, h, nmM_und hy]
def fillC (D : List Ent) : Array Value := ((List.range 8).map fun b => Value.int .i64 ((cntB D b : Nat) : Int)).toArray
theorem fillC_at (D : List Ent) {b : Nat} (hb : b < 8) : (fillC D)[b]? = some (.int .i64 ((cntB D b : Nat) : Int)) := by
  unfold fillC
  simp [hb]
theorem cntB_cons (D : List Ent) (e : Ent) (b : Nat) : cntB (e :: D) b = cntB D b + if nbucket e.1 = b then 1 else 0 := by
  unfold cntB
  rw [List.filter_cons]
  by_cases h : nbucket e.1 = b
  · simp [h]
  · simp [h]
theorem fillC_set (D : List Ent) (e : Ent) : (fillC D).setIfInBounds (nbucket e.1) (.int .i64 ((cntB D (nbucket e.1) + 1 : Nat) : Int)) = fillC (e :: D) := by
  apply Array.ext_getElem?
  intro i
  rw [Array.getElem?_setIfInBounds]
  have hsz : (fillC D).size = 8 := by simp [fillC]
  have hb := nbucket_lt e.1
  by_cases h : nbucket e.1 = i
  · subst h
    rw [if_pos rfl, if_pos (by omega), fillC_at _ hb, cntB_cons, if_pos rfl]
  · rw [if_neg h]
    by_cases hi : i < 8
    · rw [fillC_at _ hi, fillC_at _ hi, cntB_cons, if_neg h, Nat.add_zero]
    · rw [Array.getElem?_eq_none (by omega), Array.getElem?_eq_none (by simp [fillC]; omega)]
theorem fillC_nil : fillC [] = (List.replicate 8 (Value.int .i64 0)).toArray := by rfl
theorem make_fill (W : World) : (Instr.makeSlice 52 (.int .i64 8) (.int .i64 8)).run Try.prog W = .ok (.slice (some ⟨W.heap.size, 0, none⟩) 8 8) (W.alloc (.cells (fillC []) 3)) := by
  obtain ⟨i0, hi, hz0, hz1, hz2⟩ := info_parts info_int
  have h := run_make_rowN (P := Try.prog) 52 3 i0 _ Try.underlying52 hi hz0 .i64 .i64 8 8 (Nat.le_refl _) (by rw [hz2]; omega) (by omega) W
  simp only [hz1, Nat.mul_one, Value.cells, madeCells_one] at h
  exact h
theorem nmM_size (x : Nat) : (nmM x).size = 1 + (strD (dgs x)).size := by
  unfold nmM
  rw [ByteArray.size_append]
  rfl
/-- The entries are names of numbers. -/
def NumD (u i : Nat) (D : List Ent) : Prop := ∀ e ∈ D, ∃ y, y < i ∧ e.1 = nmM (u + y)
set_option maxRecDepth 1000000 in
theorem many_walk (w : World) (v : Int) (_ : (Lit.int .i64 v).wf = true) (gone : Int) (_ : (Lit.int .i64 gone).wf = true) :
    Calls Try.prog 6 #[.int .i64 v, .int .i64 gone] w fun e w' => e = .returned (.bool true) ∧ Below w.heap.size w w' := by
  obtain ⟨u, hu, hul⟩ : ∃ u : Nat, v % 256 = u ∧ u < 256 := ⟨(v % 256).toNat, by omega, by omega⟩
  go_enter Try.func6, Try.ntmps6
  go_wp2_with (fail)
  refine (awake_d w).mono ?_
  rintro e w0 ⟨rfl, hB0⟩
  have HB0 := Lib.hid hB0
  clear hB0
  go_wp2_with (fail)
  refine (made_d w0 (P := fun _ => True) trivial).mono ?_
  rintro e w1 ⟨a, d, rfl, hge, hS, hB1⟩
  have HB := Lib.hid (bel_then HB0.out hB1)
  have HS := Lib.hid hS
  clear hB1 hS
  have hmk := make_fill w1
  have hS2 := HS.out.allocIns (.cells (fillC []) 3)
  have hF2 : Blk (w1.alloc (.cells (fillC []) 3)) w1.heap.size 3 (fillC []) := Blk.new _ _ _
  have hB2 : Below w.heap.size w (w1.alloc (.cells (fillC []) 3)) := bel_then HB.out (below_alloc _ _)
  have hlt : ∀ b, b < w.heap.size → ins (ins (fun b => b < w0.heap.size) d) w1.heap.size b := fun b hb => .inl (.inl (Nat.lt_of_lt_of_le hb HB0.out.size))
  have hdg : d ≠ w1.heap.size := fun e => by have := HS.out.bd d (.inr rfl); omega
  have hgw : w.heap.size ≤ w1.heap.size := HB.out.size
  go_wp2_with (fail)
  generalize w1.alloc (.cells (fillC []) 3) = w2 at *
  generalize w1.heap.size = g at *
  have HS2 := Lib.hid hS2
  have HF2 := Lib.hid hF2
  have HB2 := Lib.hid hB2
  clear hS2 hF2 hB2 HS HB hmk
  generalize hL : ins (ins (fun b => b < w0.heap.size) d) g = L at *
  have hLg : L g := by rw [← hL]; exact .inr rfl
  clear hL
  go_loopw [8, 10] (fun many i wr => ∃ (k : Nat) (D : List Ent), i = .int .i64 k ∧ k ≤ 120 ∧ many = .int .i64 D.length ∧ D.length ≤ k ∧ NumD u k D ∧ Blk wr g 3 (fillC D) ∧ DS L wr d a 0 4 (100 * k) (fun _ => True) D ∧ Below w.heap.size w wr) (fun _ i _ => 120 - (intOf i).toNat)
  case atStart => exact ⟨0, [], rfl, by omega, rfl, by simp, (fun e he => by cases he), HF2.out, HS2.out, HB2.out⟩
  case round =>
    obtain ⟨k, D, rfl, hk, rfl, hDl, hN, hF, hS, hBr⟩ := hrel
    clear HS2 HF2 HB2
    have HN := Lib.hid hN
    have HF := Lib.hid hF
    have HS := Lib.hid hS
    have HBR := Lib.hid hBr
    clear hN hF hS hBr
    by_cases hp : k < 120
    · have hp1 : (k : Int) < 120 := by omega
      have ex : IntKind.i64.wrap ((k : Int) + (u : Int)) = ((u + k : Nat) : Int) := by rw [IntWalk.i64_in _ (by omega)]; omega
      have hx4 : u + k < 400 := by omega
      have hck := nmM_ok hx4
      have HDC := Lib.hid (fun W => decimal_calls (u + k) (by omega) W)
      have hsz := ncheck_size hck
      have HRB := Lib.hid (fun W => rbucket_calls (nmM (u + k)) (by omega) W)
      have hnew : ∀ q, (nmM (u + k), q) ∉ D := fun q hq => by
        obtain ⟨y, hy, he⟩ := HN.out _ hq
        have := nmM_inj hx4 (by omega) he
        omega
      have hcc : ¬ 9223372036854775807 < 1 + (strD (dgs (u + k))).size := by
        rw [← nmM_size]; omega
      have HNEW := Lib.hid hnew
      have HCK := Lib.hid hck
      clear hnew hck hsz
      go_wp2_with (fail)
      refine (HDC.out _).mono ?_
      rintro e w3 ⟨rfl, hB3⟩
      go_wp2_with (fail)
      refine (HRB.out _).mono ?_
      rintro e w4 ⟨rfl, k4, rfl⟩
      have hS3 := (HS.out.below hB3).drewN k4
      have hF3 : Blk (w3.drewN k4) g 3 (fillC D) := Blk.of_heap (hB3.block _ HF.out.lt) HF.out
      have HB3 := Lib.hid (HBR.out.trans ((((Keeps.ofBelow hB3).drewN k4).below fun _ h => h).mono HBR.out.size))
      generalize w3.drewN k4 = w5 at *
      have hm1 := mayE_one (n := 4) (c := (k : Int) % 4) (by omega) (by omega) HCK.out
      have HINS := Lib.hid (insert_d hS3 (by omega) ((k : Int) % 4) (nmM (u + k)) ((k : Int) + 1) (S := fun _ => True) (Cl.true_ _ _ _) (fun _ _ _ _ => trivial))
      have HM1 := Lib.hid hm1
      have HF3 := Lib.hid hF3
      have hbl := nbucket_lt (nmM (u + k))
      clear hS3 hF3 hB3 hm1
      go_wp2_with (fail)
      refine HINS.out.mono ?_
      rintro e w6 ⟨r, D6, rfl, hi6, hS6, hK6⟩
      have hF6 := hK6.blk HF3.out hLg
      have hc6 := hF6.cell (nbucket (nmM (u + k)))
      rw [fillC_at D hbl] at hc6
      have hf6 := hF6.frozen (nbucket (nmM (u + k)))
      have HB6 := Lib.hid (HB3.out.trans (hK6.below hlt))
      have HF6 := Lib.hid hF6
      have HS6 := Lib.hid hS6
      clear hF6 hK6 hS6
      by_cases hcnt : cntB D (nbucket (nmM (u + k))) < 4
      · obtain ⟨rfl, rfl⟩ := hi6.new HM1.out (by omega) (by omega) HNEW.out hcnt
        have HFS := Lib.hid (fillC_set D (nmM (u + k), ((k : Int) + 1).toNat))
        generalize hbq : nbucket (nmM (u + k)) = b at *
        generalize hcq : cntB D b = cn at *
        have hcnt2 : (cn : Int) < 4 := by omega
        have hcn1 : IntKind.i64.wrap ((cn : Int) + 1) = ((cn + 1 : Nat) : Int) := by rw [IntWalk.i64_in _ (by omega)]; omega
        have hb8 : (b : Int) < 8 := by omega
        go_wp2_with (fail)
        go_region_held3 (fun w' => w'.cell? ⟨g, b, none⟩ = some (.int .i64 cn)) (first | exact hc6) ((first | (go_at_call 11; refine (num_calls _ _).mono ?_; rintro e w' ⟨rfl, rfl⟩)))
        go_wp2_with (fail)
        go_roundw
        case rel =>
          have hv : ((cn : Int) + 1) = ((cn + 1 : Nat) : Int) := by omega
          refine ⟨k + 1, (nmM (u + k), ((k : Int) + 1).toNat) :: D, by first | rfl | (congr 1; omega), by omega, by rw [List.length_cons]; first | rfl | (congr 1; omega), by rw [List.length_cons]; omega, ?_, ?_, ((HS6.out.setCell (p := ⟨g, b, none⟩) hLg hdg _).drew).mono (by omega), ((Keeps.ofBelow (HB6.out.setCell hgw _)).drew).below fun _ h => h⟩
          · intro e he
            rcases List.mem_cons.1 he with rfl | he
            · exact ⟨k, by omega, rfl⟩
            · obtain ⟨y, hy, h⟩ := HN.out e he
              exact ⟨y, by omega, h⟩
          · rw [hv]
            exact (HF6.out.set_ b _).cast HFS.out
        case measure =>
          simp only [intOf]
          omega
      · obtain ⟨rfl, hDD⟩ := hi6.full HM1.out (by omega) (by omega) HNEW.out (by omega)
        rw [hDD] at HS6
        clear hDD hi6
        generalize hbq : nbucket (nmM (u + k)) = b at *
        generalize hcq : cntB D b = cn at *
        have hcnt2 : ¬ (cn : Int) < 4 := by omega
        have hb8 : (b : Int) < 8 := by omega
        go_wp2_with (fail)
        go_region_held3 (fun w' => w'.cell? ⟨g, b, none⟩ = some (.int .i64 cn)) (first | exact hc6) ((first | (go_at_call 11; refine (num_calls _ _).mono ?_; rintro e w' ⟨rfl, rfl⟩)))
        go_wp2_with (fail)
        go_roundw
        case rel =>
          refine ⟨k + 1, D, by first | rfl | (congr 1; omega), by omega, rfl, by omega, ?_, HF6.out, HS6.out.drew.mono (by omega), ((Keeps.ofBelow HB6.out).drew).below fun _ h => h⟩
          intro e he
          obtain ⟨y, hy, h⟩ := HN.out e he
          exact ⟨y, by omega, h⟩
        case measure =>
          simp only [intOf]
          omega
    · have hp1 : ¬ (k : Int) < 120 := by omega
      have hk1 : k = 120 := by omega
      go_wp2_with (fail)
      refine (list_d HS.out (by omega) (gone % 4) (S := fun _ => True) (Cl.true_ _ _ _) (fun _ _ _ => trivial)).mono ?_
      rintro e w3 ⟨vv, D3, rfl, hl3, hown, hS3, hK3⟩
      obtain ⟨hp3, hr3⟩ : D3.Perm D ∧ Rise D3 := by
        rcases hl3 with ⟨h, _⟩ | ⟨_, h⟩
        · rw [mayE_ok (by omega) (by omega) (fun s hs => by cases hs)] at h; cases h
        · exact h
      have hlen := hp3.length_eq
      have HB3 := Lib.hid (HBR.out.trans (hK3.below hlt))
      obtain ⟨A, cap, rfl, hcl⟩ : ∃ A cap, vv = .slice A D3.length cap ∧ D3.length ≤ cap := by
        obtain ⟨_, A, cap, h, h2, _⟩ := Sl.ofOwn hown
        exact ⟨A, cap, h, h2⟩
      obtain ⟨bs, hbs⟩ : ∃ bs, wr.heap.size = bs := ⟨_, rfl⟩
      rw [hbs] at hown
      have HO := Lib.hid hown
      have HS3 := Lib.hid (hS3.perm hp3.symm)
      have HB := Lib.hid hr3
      clear hl3 hown hS3 hK3 hp3 hr3
      have hbn : ((D3.length : Int) != (D.length : Int)) = false := by rw [hlen]; simp
      go_wp2_with (fail)
      go_loopw [15] (fun i ws => ∃ (j : Nat) (E : List Ent), i = .int .i64 j ∧ j ≤ D3.length ∧ E.Perm (D3.drop j) ∧ ws.ownsRow bs 54 2 (.slice A D3.length cap) D3.length (D3.flatMap encE) ∧ DS (lo L (.slice A D3.length cap)) ws d a 0 4 (13000 + 200 * j) (fun _ => True) E ∧ Below w.heap.size w ws) (fun i _ => D3.length - (intOf i).toNat)
      case atStart => exact ⟨0, D3, rfl, by omega, .refl _, HO.out, HS3.out.mono (by omega), HB3.out⟩
      case round =>
        obtain ⟨j, E, rfl, hj, hpe, hown, hS, hBw⟩ := hrel
        clear HO HS3 HB3
        have HBW := Lib.hid hBw
        have HS4 := Lib.hid hS
        have HO := Lib.hid hown
        have HPE := Lib.hid hpe
        clear hBw hS hown hpe
        by_cases hj1 : j < D3.length
        · have hj2 : (j : Int) < (D.length : Int) := by omega
          have hj3 : (j : Int) < (D3.length : Int) := by omega
          have hlt2 : ∀ b, b < w.heap.size → lo L (.slice A D3.length cap) b := fun b hb => .inl (hlt b hb)
          have HMEM := Lib.hid (show (D3[j].1, D3[j].2) ∈ E from HPE.out.mem_iff.2 (by rw [List.drop_eq_getElem_cons hj1]; exact List.mem_cons_self))
          have HDR := Lib.hid (show E.Perm (D3[j] :: D3.drop (j + 1)) from by rw [← List.drop_eq_getElem_cons hj1]; exact HPE.out)
          have hok := HS4.out.ok HMEM.out
          have hm0 := mayE_one (n := 4) (c := (j : Int) % 4) (by omega) (by omega) hok.1
          have HM0 := Lib.hid hm0
          obtain ⟨ea, eb⟩ := encE_at D3 j hj1
          have HEA := Lib.hid ea
          have HEB := Lib.hid eb
          have HSL := Lib.hid (fun (W : World) (h : W.ownsRow bs 54 2 (.slice A D3.length cap) D3.length (D3.flatMap encE)) => (Sl.ofOwn h))
          clear hok hm0 ea eb
          obtain ⟨_, A', cap', hae, _, hcf⟩ := HSL.out _ HO.out
          cases hae
          obtain ⟨g9, off, rfl, hcell⟩ := hcf (by omega)
          have q1 := hcell _ _ HEA.out
          generalize hn1 : D3[j].1 = s1 at *
          generalize hn2 : D3[j].2 = v1 at *
          clear hcell hcf
          have HF := Lib.hid (find_d HS4.out (by omega) ((j : Int) % 4) s1 (S := fun _ => True) (Cl.true_ _ _ _) (fun _ _ _ => trivial))
          go_wp2_with (fail)
          refine HF.out.mono ?_
          rintro e w4 ⟨x, y, rfl, hfd, hS5, hK5⟩
          obtain ⟨rfl, rfl⟩ := hfd.yes HM0.out HS4.out.uniq HMEM.out
          have HO5 := Lib.hid (own_keep HO.out hK5)
          have HB5 := Lib.hid (HBW.out.trans (hK5.below hlt2))
          have HR5 := Lib.hid (remove_d hS5 (by omega) ((j : Int) % 4) s1 (S := fun _ => True) (Cl.true_ _ _ _) (fun _ _ _ _ => trivial))
          have HU5 := Lib.hid hS5.uniq
          clear hfd hS5 hK5 HF
          obtain ⟨_, A', cap', hae, _, hcf⟩ := HSL.out _ HO5.out
          cases hae
          obtain ⟨g8, off8, hgg, hcell⟩ := hcf (by omega)
          cases hgg
          have q5 := hcell _ _ HEA.out
          clear hcell hcf q1
          go_wp2_with (fail)
          refine HR5.out.mono ?_
          rintro e w5 ⟨r, E6, rfl, hrm, hS6, hK6⟩
          obtain ⟨rfl, hp6⟩ := hrm.yes HM0.out HU5.out HMEM.out
          have HO6 := Lib.hid (own_keep HO5.out hK6)
          have HB6 := Lib.hid (HB5.out.trans (hK6.below hlt2))
          have HS6 := Lib.hid hS6
          have HP6 := Lib.hid hp6
          obtain ⟨_, A', cap', hae, _, hcf⟩ := HSL.out _ HO6.out
          cases hae
          obtain ⟨g7, off7, hgg, hcell⟩ := hcf (by omega)
          cases hgg
          have q6 : w5.cell? ⟨g9, off + j * 2 + 1, none⟩ = _ := hcell _ _ HEB.out
          clear hcell hcf q5 hrm hS6 hK6 hp6 HR5
          go_wp2_with (go_at_call 11; refine (num_calls _ _).mono ?_; rintro e w' ⟨rfl, rfl⟩)
          go_roundw
          case rel =>
            refine ⟨j + 1, E6, by first | rfl | (congr 1; omega), by omega, ?_, HO6.out, HS6.out.mono (by omega), HB6.out⟩
            have hd : D3[j] = (s1, v1) := Prod.ext hn1 hn2
            have := HP6.out.symm.trans HDR.out
            rw [hd] at this
            exact (List.perm_cons _).1 this
          case measure =>
            simp only [intOf]
            omega
        · have hj2 : ¬ (j : Int) < (D.length : Int) := by omega
          have hE : E = [] := by
            have := HPE.out
            rw [List.drop_eq_nil_of_le (by omega)] at this
            exact this.eq_nil
          subst hE
          go_wp2_with (fail)
          refine (list_d HS4.out (by omega) 0 (S := fun _ => True) (Cl.true_ _ _ _) (fun _ _ _ => trivial)).mono ?_
          rintro e w9 ⟨v9, D9, rfl, hl9, hown9, _, hK9⟩
          have hD9 : D9 = [] := by
            rcases hl9 with ⟨_, h⟩ | ⟨_, h, _⟩
            · exact h
            · exact h.eq_nil
          subst hD9
          obtain ⟨_, A9, cap9, rfl, _, _⟩ := Sl.ofOwn hown9
          have HB9 := Lib.hid (HBW.out.trans (hK9.below (fun b hb => .inl (hlt b hb))))
          clear hl9 hown9 hK9
          go_wp2_with (fail)
          go_ret
          exact ⟨rfl, HB9.out⟩
end Go.Proofs.Ytkbajjpdngfhbaa
