
/- LockActs: the walk. -/
import Derived.Test.YtacjpchcaknacaaLPlain
import Derived.Test.YtacjpchcaknacaaActs
import Derived.Deep.DeepCutAuto
import Derived.Deep.CutBlock
namespace Go.Proofs.Ytacjpchcaknacaa
open Go.RowKit
set_option maxHeartbeats 4000000

/-- What an act of a kind answers, whatever its arguments. -/
def Sw (L : Nat → Prop) (w0 w' : World) (a : Nat) (ws : List Int) (ts : List (List Acc)) (cl : Nat) (c i q : Int) (bb : Bool) (v : Int) (s : Bool) (f : Int) : Prop :=
  Keeps L w0 w' ∧ ((bb = true ∧ v = 0 ∧ s = false ∧ f = 500 ∧ ArAt L w' a ws ts) ∨ (bb = false ∧ v = pU cl (rd ws i) ∧ s = pS cl (rd ws i) q ∧ f = pG cl (rd ws i) c ∧ Acted L w' a ws cl c i))
section
variable {L : Nat → Prop} {w : World} {a : Nat} {ws : List Int} {ts : List (List Acc)} (h : ArAt L w a ws ts) (hl : ts.length = 3) (hw : ws.length = 4) (hz : ∀ d, 0 ≤ d → tr ts d = []) {c i : Int} (q : Int) {bb : Bool} (hb : bb = decide ((c < 0 ∨ 2 < c) ∨ (i < 0 ∨ 3 < i)))
include h hl hw hb
theorem place_any (hbb : bb = true) : ∃ k : Int, (k == 0) = false ∧ (k == 1) = false ∧ Calls Try.prog 52 #[.pointer (some ⟨a, 0, none⟩), .int .i64 c, .int .i64 i] w fun e w' => e = .returned (.int .i64 k) ∧ w = w' := by
  subst hbb
  have hx : (c < 0 ∨ 2 < c) ∨ (i < 0 ∨ 3 < i) := by simpa using hb.symm
  by_cases hc : c < 0 ∨ 2 < c
  · exact ⟨202, rfl, rfl, place_core h c i (by omega)⟩
  · exact ⟨201, rfl, rfl, place_word h c i (by omega) (by omega) (by omega)⟩
omit h hl in
theorem place_in (hbb : bb = false) : (0 ≤ c ∧ c < 3) ∧ (0 ≤ i ∧ i < ws.length) := by
  subst hbb
  have hx : ¬ ((c < 0 ∨ 2 < c) ∨ (i < 0 ∨ 3 < i)) := by simpa using hb.symm
  omega
include hz
theorem lk_try : Calls Try.prog 19 #[.pointer (some ⟨a, 0, none⟩), .int .i64 c, .int .i64 i] w fun e w' => ∃ s f, e = .returned (.tuple #[.bool s, .int .i64 f]) ∧ Sw L w w' a ws ts 0 c i q bb 0 s f := by
  rcases Bool.eq_false_or_eq_true bb with hbb | hbb
  · obtain ⟨k, k0, k1, hp⟩ := place_any h hl hw hb hbb
    exact (try_err k0 k1 hp).mono fun e w' ⟨h1, h2⟩ => ⟨_, _, h1, h2 ▸ Keeps.refl _ _, .inl ⟨hbb, rfl, rfl, rfl, h2 ▸ h⟩⟩
  · obtain ⟨hc, hi⟩ := place_in hw hb hbb
    exact (try_gen h hl hz hc hi).mono fun e w' ⟨h1, h2, h3⟩ => ⟨_, _, h1, h3, .inr ⟨hbb, rfl, rfl, rfl, h2⟩⟩
theorem lk_unlock : Calls Try.prog 17 #[.pointer (some ⟨a, 0, none⟩), .int .i64 c, .int .i64 i] w fun e w' => ∃ f, e = .returned (.int .i64 f) ∧ Sw L w w' a ws ts 1 c i q bb 0 false f := by
  rcases Bool.eq_false_or_eq_true bb with hbb | hbb
  · obtain ⟨k, k0, k1, hp⟩ := place_any h hl hw hb hbb
    exact (unlock_err k0 k1 hp).mono fun e w' ⟨h1, h2⟩ => ⟨_, h1, h2 ▸ Keeps.refl _ _, .inl ⟨hbb, rfl, rfl, rfl, h2 ▸ h⟩⟩
  · obtain ⟨hc, hi⟩ := place_in hw hb hbb
    exact (unlock_gen h hl hz hc hi).mono fun e w' ⟨h1, h2, h3⟩ => ⟨_, h1, h3, .inr ⟨hbb, rfl, rfl, rfl, h2⟩⟩
theorem lk_holder : Calls Try.prog 20 #[.pointer (some ⟨a, 0, none⟩), .int .i64 c, .int .i64 i] w fun e w' => ∃ v f, e = .returned (.tuple #[.int .i64 v, .int .i64 f]) ∧ Sw L w w' a ws ts 2 c i q bb v false f := by
  rcases Bool.eq_false_or_eq_true bb with hbb | hbb
  · obtain ⟨k, k0, k1, hp⟩ := place_any h hl hw hb hbb
    exact (holder_err k0 k1 hp).mono fun e w' ⟨h1, h2⟩ => ⟨_, _, h1, h2 ▸ Keeps.refl _ _, .inl ⟨hbb, rfl, rfl, rfl, h2 ▸ h⟩⟩
  · obtain ⟨hc, hi⟩ := place_in hw hb hbb
    exact (holder_gen h hl hz hc hi).mono fun e w' ⟨h1, h2, h3⟩ => ⟨_, _, h1, h3, .inr ⟨hbb, rfl, rfl, rfl, h2⟩⟩
theorem lk_begin : Calls Try.prog 23 #[.pointer (some ⟨a, 0, none⟩), .int .i64 c, .int .i64 i] w fun e w' => ∃ v s f, e = .returned (.tuple #[.int .i64 v, .bool s, .int .i64 f]) ∧ Sw L w w' a ws ts 3 c i q bb v s f := by
  rcases Bool.eq_false_or_eq_true bb with hbb | hbb
  · obtain ⟨k, k0, k1, hp⟩ := place_any h hl hw hb hbb
    exact (begin_err k0 k1 hp).mono fun e w' ⟨h1, h2⟩ => ⟨_, _, _, h1, h2 ▸ Keeps.refl _ _, .inl ⟨hbb, rfl, rfl, rfl, h2 ▸ h⟩⟩
  · obtain ⟨hc, hi⟩ := place_in hw hb hbb
    exact (begin_gen h hl hz hc hi).mono fun e w' ⟨h1, h2, h3⟩ => ⟨_, _, _, h1, h3, .inr ⟨hbb, rfl, rfl, rfl, h2⟩⟩
theorem lk_same : Calls Try.prog 25 #[.pointer (some ⟨a, 0, none⟩), .int .i64 c, .int .i64 i, .int .i64 q] w fun e w' => ∃ s f, e = .returned (.tuple #[.bool s, .int .i64 f]) ∧ Sw L w w' a ws ts 4 c i q bb 0 s f := by
  rcases Bool.eq_false_or_eq_true bb with hbb | hbb
  · obtain ⟨k, k0, k1, hp⟩ := place_any h hl hw hb hbb
    exact (same_err q k0 k1 hp).mono fun e w' ⟨h1, h2⟩ => ⟨_, _, h1, h2 ▸ Keeps.refl _ _, .inl ⟨hbb, rfl, rfl, rfl, h2 ▸ h⟩⟩
  · obtain ⟨hc, hi⟩ := place_in hw hb hbb
    exact (same_gen h hl hz hc hi q).mono fun e w' ⟨h1, h2, h3⟩ => ⟨_, _, h1, h3, .inr ⟨hbb, rfl, rfl, rfl, h2⟩⟩
theorem lk_turn : Calls Try.prog 21 #[.pointer (some ⟨a, 0, none⟩), .int .i64 c, .int .i64 i] w fun e w' => ∃ f, e = .returned (.int .i64 f) ∧ Sw L w w' a ws ts 5 c i q bb 0 false f := by
  rcases Bool.eq_false_or_eq_true bb with hbb | hbb
  · obtain ⟨k, k0, k1, hp⟩ := place_any h hl hw hb hbb
    exact (turn_err k0 k1 hp).mono fun e w' ⟨h1, h2⟩ => ⟨_, h1, h2 ▸ Keeps.refl _ _, .inl ⟨hbb, rfl, rfl, rfl, h2 ▸ h⟩⟩
  · obtain ⟨hc, hi⟩ := place_in hw hb hbb
    exact (turn_gen h hl hz hc hi).mono fun e w' ⟨h1, h2, h3⟩ => ⟨_, h1, h3, .inr ⟨hbb, rfl, rfl, rfl, h2⟩⟩
end

/-- The locks' words and the plain words are the same. -/
structure LkAt (L : Nat → Prop) (w wr : World) (a gv : Nat) : Prop where
  keeps : Below w.heap.size w wr
  rest : ∃ ws ts, ws.length = 4 ∧ ts.length = 3 ∧ Short 2 ts ∧ Blk wr gv 3 (ints ws) ∧ ArAt L wr a ws ts

theorem tr_set {ts : List (List Acc)} {c d : Nat} (hc : c < ts.length) : tr (ts.set c []) (d : Int) = if d = c then [] else tr ts (d : Int) := by
  unfold tr
  by_cases e : d = c
  · subst e; simp [List.getD, hc]
  · simp [List.getD, Ne.symm e, e]

set_option maxRecDepth 100000 in
theorem lacts_walk (w : World) {A : Option Addr} {len cap : Nat} {F : Nat → Nat → Int} (hx : Acts w A len cap 4 F) :
    Calls Try.prog 6 #[.slice A len cap] w fun e w' => e = .returned (.bool true) ∧ Below w.heap.size w w' := by
  have hle := hx.len_le
  have HX := Lib.hid hx
  clear hx
  go_enter Try.func6, Try.ntmps6
  go_wp2_with (fail)
  refine (new_to (ws := [0, 0, 0, 0]) (ts := [[], [], []]) (Bd.below w) (by omega) (by omega) rfl rfl).mono ?_
  rintro e w2 ⟨a, rfl, hA, hK⟩
  go_wp2_with (go_at_call 18; refine (num_calls _ _).mono ?_; rintro e w' ⟨rfl, rfl⟩)
  have HST := Lib.hid (show LkAt (ins (fun b => b < w.heap.size) w2.heap.size) w (w2.alloc (Obj.cells #[.int .i64 0, .int .i64 0, .int .i64 0, .int .i64 0] 3)) a w2.heap.size from
    ⟨(hK.below fun _ h => h).alloc hK.size _, [0, 0, 0, 0], [[], [], []], rfl, rfl, by intro t ht; simp at ht; simp [ht], Blk.new w2 _ _, hA.allocIns _⟩)
  have LL := Lib.hid (show ∀ b, b < w.heap.size → ins (fun b => b < w.heap.size) w2.heap.size b from fun b h => ins.old h)
  have LG := Lib.hid (show ins (fun b => b < w.heap.size) w2.heap.size w2.heap.size from ins.new _ _)
  have hgv := hK.size
  clear hA hK
  generalize ins (fun b => b < w.heap.size) w2.heap.size = L at *
  generalize w2.heap.size = gv at *
  go_loopw [6] (fun i wr => ∃ k : Nat, i = .int .i64 k ∧ k ≤ len ∧ k ≤ 200 ∧ LkAt L w wr a gv) (fun i _ => len - (intOf i).toNat)
  case atStart => exact ⟨0, rfl, by omega, by omega, HST.out⟩
  case round =>
    clear HST
    obtain ⟨k, rfl, hk, hk1, hbel, ws, ts, hw4, ht3, hsh, hb, hA⟩ := hrel
    have HW4 := Lib.hid hw4
    have HT3 := Lib.hid ht3
    have HBE := Lib.hid hbel
    have HBK := Lib.hid hb
    have HAA := Lib.hid hA
    clear hw4 ht3 hb hA
    by_cases hboth : k < len ∧ k < 200
    · obtain ⟨hlt, hlt2⟩ := hboth
      obtain ⟨gg, off, rfl, hcell⟩ := HX.out.at_ hlt hbel
      have q0 : wr.cell? ⟨gg, off + k * 4, none⟩ = some (.int .i64 (F k 0)) := (hcell 0 (by omega)).1
      have q1 : wr.cell? ⟨gg, off + k * 4 + 1, none⟩ = some (.int .i64 (F k 1)) := (hcell 1 (by omega)).1
      have q2 : wr.cell? ⟨gg, off + k * 4 + 2, none⟩ = some (.int .i64 (F k 2)) := (hcell 2 (by omega)).1
      have q3 : wr.cell? ⟨gg, off + k * 4 + 3, none⟩ = some (.int .i64 (F k 3)) := (hcell 3 (by omega)).1
      clear hcell hbel
      generalize F k 0 = K at *
      generalize F k 1 = C at *
      generalize F k 2 = I at *
      generalize F k 3 = V at *
      have hlt3 : (k : Int) < 200 := by omega
      obtain ⟨wo, rfl⟩ : ∃ wo : World, wo = wr := ⟨_, rfl⟩
      obtain ⟨bb, hbb⟩ : ∃ bb : Bool, bb = decide ((C < 0 ∨ 2 < C) ∨ (I < 0 ∨ 3 < I)) := ⟨_, rfl⟩
      have HBB := Lib.hid hbb
      clear hbb
      obtain ⟨sb, hsb⟩ : ∃ sb, sb = wo.heap.size := ⟨_, rfl⟩
      have HL2 := Lib.hid (show ∀ b, L b → ins L sb b from fun b h => ins.old h)
      have HLS := Lib.hid (show ins L sb sb from ins.new _ _)
      have HC := Lib.hid (show ∃ ts', ts'.length = 3 ∧ (∀ d : Nat, d < 0 → tr ts' (d : Int) = []) ∧ ArAt (ins L sb) (wo.alloc (Obj.cells #[.int .i64 K, .int .i64 C, .int .i64 I, .int .i64 V] 43)) a ws ts' ∧ Blk (wo.alloc (Obj.cells #[.int .i64 K, .int .i64 C, .int .i64 I, .int .i64 V] 43)) sb 43 #[.int .i64 K, .int .i64 C, .int .i64 I, .int .i64 V] ∧ Keeps L wo (wo.alloc (Obj.cells #[.int .i64 K, .int .i64 C, .int .i64 I, .int .i64 V] 43)) from by
        subst hsb
        exact ⟨ts, HT3.out, fun d hd => absurd hd (by omega), HAA.out.allocIns _, Blk.new _ _ _, (Keeps.refl L wo).alloc HAA.out.bd _⟩)
      go_wp2_with (fail)
      rw [← hsb]
      clear hsb
      go_loopw [8] (fun i wq => ∃ c : Nat, i = .int .i64 c ∧ c ≤ 3 ∧ ∃ ts', ts'.length = 3 ∧ (∀ d : Nat, d < c → tr ts' (d : Int) = []) ∧ ArAt (ins L sb) wq a ws ts' ∧ Blk wq sb 43 #[.int .i64 K, .int .i64 C, .int .i64 I, .int .i64 V] ∧ Keeps L wo wq) (fun i _ => 3 - (intOf i).toNat)
      case atStart => exact ⟨0, rfl, by omega, HC.out⟩
      case round =>
        clear HC
        obtain ⟨c, rfl, hc, ts', htl, hz, hAe, hBs, hKe⟩ := hrel
        have HTL := Lib.hid htl
        have HZ0 := Lib.hid hz
        have HAE := Lib.hid hAe
        have HBS := Lib.hid hBs
        have HKE := Lib.hid hKe
        clear htl hz hAe hBs hKe
        by_cases hc3 : c < 3
        · have hc4 : (c : Int) < 3 := by omega
          go_wp2_with (fail)
          refine (clear_to HAE.out (c := (c : Int)) (by have := HTL.out; omega) rfl).mono ?_
          rintro e w4 ⟨rfl, hA4, hK4⟩
          rw [Int.toNat_natCast] at hA4
          go_wp2_with (fail)
          go_roundw
          case rel =>
            refine ⟨c + 1, by go_num, by omega, ts'.set c [], by simpa using HTL.out, fun d hd => ?_, hA4, hK4.blk HBS.out HLS.out, HKE.out.trans (hK4.sub HL2.out)⟩
            rw [tr_set (by have := HTL.out; omega)]
            by_cases e : d = c
            · rw [if_pos e]
            · rw [if_neg e]; exact HZ0.out d (by omega)
          case measure => simp [intOf]; omega
        · have hc4 : ¬ (c : Int) < 3 := by omega
          have HZ := Lib.hid (show ∀ d : Int, 0 ≤ d → tr ts' d = [] by
            intro d hd
            obtain ⟨d, rfl⟩ := Int.eq_ofNat_of_zero_le hd
            by_cases e : d < c
            · exact HZ0.out d e
            · unfold tr
              have := HTL.out
              rw [List.getD_eq_getElem?_getD, List.getElem?_eq_none (by simp; omega)]
              rfl)
          have d0 := HBS.out.cell 0
          have d1 := HBS.out.cell 1
          have d2 := HBS.out.cell 2
          have d3 := HBS.out.cell 3
          clear hc hc3 HZ0 q0 q1 q2 q3
          go_upto_region 13 with (fail)
          clear hc4
          go_cut [9] (fun s wx => s = .bool bb ∧ wx = wr)
          case first =>
            have hcs : C < 0 ∨ (¬ C < 0 ∧ 2 < C) ∨ (¬ C < 0 ∧ ¬ 2 < C ∧ I < 0) ∨ (¬ C < 0 ∧ ¬ 2 < C ∧ ¬ I < 0 ∧ 3 < I) ∨ (¬ C < 0 ∧ ¬ 2 < C ∧ ¬ I < 0 ∧ ¬ 3 < I) := by omega
            rcases hcs with h1 | ⟨h1, h2⟩ | ⟨h1, h2, h3⟩ | ⟨h1, h2, h3, h4⟩ | ⟨h1, h2, h3, h4⟩
            · go_wp2_with (fail)
              go_meet
              case rel => exact ⟨congrArg Value.bool (by rw [HBB.out]; simp [h1]), rfl⟩
            · go_wp2_with (fail)
              go_meet
              case rel => exact ⟨congrArg Value.bool (by rw [HBB.out]; simp [h2]), rfl⟩
            · go_wp2_with (fail)
              go_meet
              case rel => exact ⟨congrArg Value.bool (by rw [HBB.out]; simp [h3]), rfl⟩
            · go_wp2_with (fail)
              go_meet
              case rel => exact ⟨congrArg Value.bool (by rw [HBB.out]; simp [h4]), rfl⟩
            · go_wp2_with (fail)
              go_meet
              case rel => exact ⟨congrArg Value.bool (by rw [HBB.out]; simp [h1, h2, h3, h4]), rfl⟩
          case rest =>
            obtain ⟨rfl, hwc⟩ := hcut
            have hwd := hwc.symm
            clear hwc
            subst hwd
            have hkind : (K = 0 ∨ K = 1) ∨ (K = 2 ∨ K = 3) ∨ K = 4 ∨ K = 5 ∨ K = 6 ∨ (K ≠ 0 ∧ K ≠ 1 ∧ K ≠ 2 ∧ K ≠ 3 ∧ K ≠ 4 ∧ K ≠ 5 ∧ K ≠ 6) := by omega
            go_upto_block 4 with fail
            go_cut [10, 11, 12] (fun s10 s11 s12 wx => ∃ (v : Int) (s : Bool) (f : Int), s10 = .int .i64 v ∧ s11 = .bool s ∧ s12 = .int .i64 f ∧ Sw (ins L sb) wr wx a ws ts' (cls K) C I V bb v s f)
            case first =>
              rcases hkind with (hk | hk) | (hk | hk) | hk | hk | hk | hk
              · as_aux_lemma =>
                subst hk
                have HCL := Lib.hid (show cls 0 = 0 from rfl)
                have HKK := Lib.hid (lk_try HAE.out HTL.out HW4.out HZ.out V HBB.out)
                go_wp2_with (fail)
                refine HKK.out.mono ?_
                rintro e w4 ⟨s, f, rfl, hsw⟩
                have HSW := Lib.hid hsw
                clear hsw
                go_wp2_with (go_at_call 18; refine (num_calls _ _).mono ?_; rintro e w' ⟨rfl, rfl⟩)
                go_meet
                case rel => exact ⟨0, s, f, rfl, rfl, rfl, by rw [HCL.out]; exact HSW.out⟩
              · as_aux_lemma =>
                subst hk
                have HCL := Lib.hid (show cls 1 = 0 from rfl)
                have HKK := Lib.hid (lk_try HAE.out HTL.out HW4.out HZ.out V HBB.out)
                go_wp2_with (fail)
                refine HKK.out.mono ?_
                rintro e w4 ⟨s, f, rfl, hsw⟩
                have HSW := Lib.hid hsw
                clear hsw
                go_wp2_with (go_at_call 18; refine (num_calls _ _).mono ?_; rintro e w' ⟨rfl, rfl⟩)
                go_meet
                case rel => exact ⟨0, s, f, rfl, rfl, rfl, by rw [HCL.out]; exact HSW.out⟩
              · as_aux_lemma =>
                subst hk
                have HCL := Lib.hid (show cls 2 = 1 from rfl)
                have HKK := Lib.hid (lk_unlock HAE.out HTL.out HW4.out HZ.out V HBB.out)
                go_wp2_with (fail)
                refine HKK.out.mono ?_
                rintro e w4 ⟨f, rfl, hsw⟩
                have HSW := Lib.hid hsw
                clear hsw
                go_wp2_with (go_at_call 18; refine (num_calls _ _).mono ?_; rintro e w' ⟨rfl, rfl⟩)
                go_meet
                case rel => exact ⟨0, false, f, rfl, rfl, rfl, by rw [HCL.out]; exact HSW.out⟩
              · as_aux_lemma =>
                subst hk
                have HCL := Lib.hid (show cls 3 = 1 from rfl)
                have HKK := Lib.hid (lk_unlock HAE.out HTL.out HW4.out HZ.out V HBB.out)
                go_wp2_with (fail)
                refine HKK.out.mono ?_
                rintro e w4 ⟨f, rfl, hsw⟩
                have HSW := Lib.hid hsw
                clear hsw
                go_wp2_with (go_at_call 18; refine (num_calls _ _).mono ?_; rintro e w' ⟨rfl, rfl⟩)
                go_meet
                case rel => exact ⟨0, false, f, rfl, rfl, rfl, by rw [HCL.out]; exact HSW.out⟩
              · as_aux_lemma =>
                subst hk
                have HCL := Lib.hid (show cls 4 = 2 from rfl)
                have HKK := Lib.hid (lk_holder HAE.out HTL.out HW4.out HZ.out V HBB.out)
                go_wp2_with (fail)
                refine HKK.out.mono ?_
                rintro e w4 ⟨v, f, rfl, hsw⟩
                have HSW := Lib.hid hsw
                clear hsw
                go_wp2_with (go_at_call 18; refine (num_calls _ _).mono ?_; rintro e w' ⟨rfl, rfl⟩)
                go_meet
                case rel => exact ⟨v, false, f, rfl, rfl, rfl, by rw [HCL.out]; exact HSW.out⟩
              · as_aux_lemma =>
                subst hk
                have HCL := Lib.hid (show cls 5 = 3 from rfl)
                have HKK := Lib.hid (lk_begin HAE.out HTL.out HW4.out HZ.out V HBB.out)
                go_wp2_with (fail)
                refine HKK.out.mono ?_
                rintro e w4 ⟨v, s, f, rfl, hsw⟩
                have HSW := Lib.hid hsw
                clear hsw
                go_wp2_with (go_at_call 18; refine (num_calls _ _).mono ?_; rintro e w' ⟨rfl, rfl⟩)
                go_meet
                case rel => exact ⟨v, s, f, rfl, rfl, rfl, by rw [HCL.out]; exact HSW.out⟩
              · as_aux_lemma =>
                subst hk
                have HCL := Lib.hid (show cls 6 = 4 from rfl)
                have HKK := Lib.hid (lk_same HAE.out HTL.out HW4.out HZ.out V HBB.out)
                go_wp2_with (fail)
                refine HKK.out.mono ?_
                rintro e w4 ⟨s, f, rfl, hsw⟩
                have HSW := Lib.hid hsw
                clear hsw
                go_wp2_with (go_at_call 18; refine (num_calls _ _).mono ?_; rintro e w' ⟨rfl, rfl⟩)
                go_meet
                case rel => exact ⟨0, s, f, rfl, rfl, rfl, by rw [HCL.out]; exact HSW.out⟩
              · as_aux_lemma =>
                obtain ⟨n0, n1, n2, n3, n4, n5, n6⟩ := hk
                have HCL := Lib.hid (show cls K = 5 by unfold cls; rw [if_neg (by omega), if_neg (by omega), if_neg n4, if_neg n5, if_neg n6])
                have b0 : (K == 0) = false := by simpa using n0
                have b1 : (K == 1) = false := by simpa using n1
                have b2 : (K == 2) = false := by simpa using n2
                have b3 : (K == 3) = false := by simpa using n3
                have b4 : (K == 4) = false := by simpa using n4
                have b5 : (K == 5) = false := by simpa using n5
                have b6 : (K == 6) = false := by simpa using n6
                clear n0 n1 n2 n3 n4 n5 n6
                have HKK := Lib.hid (lk_turn HAE.out HTL.out HW4.out HZ.out V HBB.out)
                go_wp2_with (fail)
                refine HKK.out.mono ?_
                rintro e w4 ⟨f, rfl, hsw⟩
                have HSW := Lib.hid hsw
                clear hsw
                go_wp2_with (go_at_call 18; refine (num_calls _ _).mono ?_; rintro e w' ⟨rfl, rfl⟩)
                go_meet
                case rel => exact ⟨0, false, f, rfl, rfl, rfl, by rw [HCL.out]; exact HSW.out⟩
            case rest =>
              clear hkind d0 d1 d2 d3
              obtain ⟨v, s, f, rfl, rfl, rfl, hKW, hSW⟩ := hcut
              have hKL := HKE.out.trans (hKW.sub HL2.out)
              have HKL := Lib.hid hKL
              have hb2 := hKL.blk HBK.out LG.out
              have HB2 := Lib.hid hb2
              have hs2 := hKW.blk HBS.out HLS.out
              have d0 := hs2.cell 0
              have d1 := hs2.cell 1
              have d2 := hs2.cell 2
              have d3 := hs2.cell 3
              have HBEL := Lib.hid (HBE.out.trans (hKL.below LL.out))
              have HS2 := Lib.hid hs2
              have HNE := Lib.hid (show sb ≠ gv from hs2.ne_ hb2 (by decide))
              clear hKL hb2 hs2 hKW
              rcases Bool.eq_false_or_eq_true bb with hbt | hbt
              · as_aux_lemma =>
                rcases hSW with ⟨_, rfl, rfl, rfl, hAw⟩ | ⟨hbf, _⟩
                rotate_left
                · rw [hbt] at hbf; cases hbf
                subst hbt
                have HAW := Lib.hid hAw
                clear hAw
                go_wp2_with (go_at_call 18; refine (num_calls _ _).mono ?_; rintro e w' ⟨rfl, rfl⟩)
                go_roundw
                case rel => exact ⟨k + 1, by go_num, by omega, by omega, HBEL.out, ws, ts', HW4.out, HTL.out, (fun t ht => by
                  obtain ⟨j, hj, rfl⟩ := List.getElem_of_mem ht
                  have := HZ.out j (by omega)
                  unfold tr at this
                  simp [List.getD, hj] at this
                  simp [this]), HB2.out, HAW.out.sub HL2.out⟩
                case measure => simp [intOf]; omega
              · as_aux_lemma =>
                rcases hSW with ⟨hbf, _⟩ | ⟨_, hv, hs, hf, ts2, ht2, hsh2, htr2, hA2⟩
                · rw [hbt] at hbf; cases hbf
                obtain ⟨hci, hii⟩ := place_in HW4.out HBB.out hbt
                subst hbt
                obtain ⟨xx, hxx⟩ : ∃ xx, rd ws I = xx := ⟨_, rfl⟩
                rw [hxx] at hv hs hf htr2 hA2
                have HXX := Lib.hid hxx
                have HA2 := Lib.hid hA2
                have HT2 := Lib.hid ht2
                have HTR2 := Lib.hid htr2
                have HSH2 := Lib.hid hsh2
                have HPL := Lib.hid (plain_calls gv ws C I V xx wc HB2.out hii hci HW4.out hxx K)
                clear hA2 ht2 htr2 hsh2 hxx
                subst hv hs hf
                generalize pU (cls K) xx = pu at *
                generalize pS (cls K) xx V = ps at *
                generalize pG (cls K) xx C = pg at *
                generalize pW (cls K) xx C = pw at *
                generalize pT (cls K) I xx C = pt at *
                go_wp2_with (fail)
                refine HPL.out.mono ?_
                rintro e w5 ⟨sv, rfl, hb5, hsl5, hk5⟩
                have hA5 : ArAt (ins L sb) w5 a (Proofs.Ytacjpchcaknacaa.wr ws I pw) ts2 := HA2.out.move (fun b hb => Nat.lt_of_lt_of_le (HA2.out.bd b hb) hk5.size) (fun _ hb _ => hb) (fun b hlt hn => hk5.block b ⟨hlt, fun e => hn (e ▸ ins.old LG.out)⟩)
                have hB5 : Below w.heap.size w w5 := HBEL.out.trans (hk5.below fun b hb => ⟨Nat.lt_of_lt_of_le hb HBEL.out.size, by omega⟩)
                have hs5 := hk5.blk HS2.out ⟨HS2.out.lt, HNE.out⟩
                have e1 := hs5.cell 1
                have HA5 := Lib.hid hA5
                have HB5 := Lib.hid hb5
                have HBE5 := Lib.hid hB5
                clear hb5 hA5 hB5 hk5 hs5 d0 d1 d2 d3
                have hrm : Room ts2 := Room.of HSH2.out (by omega)
                have htt := HSH2.out.at_ (c := C)
                rw [HTR2.out] at htt
                go_wp2_with (fail)
                refine (trace_to HA5.out hrm (c := C) (by have := HT2.out; omega) HTR2.out).mono ?_
                rintro e w6 ⟨v6, rfl, hown6, hB6⟩
                have HB6 := Lib.hid hB6
                go_wp2_with (fail)
                refine (same_true pt v6 sv w6 (Sl.ofOwn hown6) (hsl5.below hB6) (by omega)).mono ?_
                rintro e w7 ⟨rfl, d7, rfl⟩
                go_wp2_with (fail)
                go_roundw
                case rel => exact ⟨k + 1, by go_num, by omega, by omega, ⟨(bel_then HBE5.out HB6.out).os, (bel_then HBE5.out HB6.out).tape, (bel_then HBE5.out HB6.out).output, (bel_then HBE5.out HB6.out).size, (bel_then HBE5.out HB6.out).block⟩, Proofs.Ytacjpchcaknacaa.wr ws I pw, ts2, by simpa using HW4.out, HT2.out, HSH2.out, Blk.of_heap (HB6.out.block gv HB5.out.lt) HB5.out, ((HA5.out.below HB6.out).drewN d7).sub HL2.out⟩
                case measure => simp [intOf]; omega
    · have hex : ¬ k < len ∨ (k < len ∧ ¬ ((k : Int) < 200)) := by omega
      have HS := Lib.hid (show ∃ ts', ts'.length = 3 ∧ Short 2 ts' ∧ ArAt L wr a ws ts' ∧ Blk wr gv 3 (ints ws) ∧ Below w.heap.size w wr from ⟨ts, HT3.out, hsh, HAA.out, HBK.out, HBE.out⟩)
      clear hboth hbel hsh HBE HBK HAA HT3
      rcases hex with h1 | ⟨h1, h2⟩
      all_goals (
        go_wp2_with (fail)
        go_loopw [28] (fun i wr => ∃ c : Nat, i = .int .i64 c ∧ c ≤ 4 ∧ ∃ ts', ts'.length = 3 ∧ Short (2 + c) ts' ∧ ArAt L wr a ws ts' ∧ Blk wr gv 3 (ints ws) ∧ Below w.heap.size w wr) (fun i _ => 4 - (intOf i).toNat)
        case atStart => exact ⟨0, rfl, by omega, HS.out⟩
        case round =>
          clear HS
          obtain ⟨c, rfl, hc, ts', htl, hsh, hA, hb, hB⟩ := hrel
          have HTL := Lib.hid htl
          have HB := Lib.hid hb
          have HBB := Lib.hid hB
          clear htl hb hB
          by_cases hc4 : c < 4
          · have hc5 : (c : Int) < 4 := by omega
            go_wp2_with (fail)
            refine (load_to hA (Room.of hsh (by omega)) (c := 0) (i := (c : Int)) (by have := HTL.out; omega) (by have := HW4.out; omega) rfl rfl).mono ?_
            rintro e w4 ⟨rfl, hA4, hK4⟩
            have hb4 := hK4.blk HB.out LG.out
            have q4 := hb4.intAt (i := (c : Int)) (by have := HW4.out; omega)
            rw [Int.toNat_natCast] at q4
            generalize rd ws (c : Int) = x4 at *
            have HB4 := Lib.hid hb4
            clear hb4
            go_wp2_with (go_at_call 18; refine (num_calls _ _).mono ?_; rintro e w' ⟨rfl, rfl⟩)
            go_roundw
            case rel => exact ⟨c + 1, by go_num, by omega, _, by simpa using HTL.out, hsh.noted _, hA4, HB4.out, HBB.out.trans (hK4.below LL.out)⟩
            case measure => simp [intOf]; omega
          · have hc5 : ¬ (c : Int) < 4 := by omega
            go_wp2_with (fail)
            refine (awake5 _).mono ?_
            rintro e w4 ⟨rfl, hB4⟩
            go_wp2_with (fail)
            go_ret
            exact ⟨rfl, bel_then HBB.out hB4⟩)
end Go.Proofs.Ytacjpchcaknacaa
