
/- law6: the model's list; counts. -/
import Derived.Test.YtokldnmhhhaalaaMdlP
import Derived.Test.YtokldnmhhhaalaaRefs8
import Derived.Maps.AppendAt
import Derived.Deep.AppendLies
namespace Go.Proofs.Ytokldnmhhhaalaa
open Go.RowKit
set_option maxHeartbeats 1000000

theorem MdAt.below {w wr : World} {B : Mb} {n o : Nat} {M : Md} (h : MdAt w B n o M) (hb : Below w.heap.size w wr) : MdAt wr B n o M := by
  refine h.move fun x hx => hb.block x ?_
  rcases hx with rfl | rfl | rfl | rfl | rfl | rfl | rfl | rfl | ⟨c, hc, rfl⟩
  · exact h.hd.lt
  · exact h.pa.lt
  · exact Blk.lt h.gl
  · exact Blk.lt h.mfl
  · exact Blk.lt h.madded
  · exact Blk.lt h.mzero
  · exact Blk.lt h.mever
  · exact Blk.lt h.mdead
  · exact Blk.lt (h.rw c hc)

set_option maxRecDepth 100000 in
theorem mlist_calls {w : World} {B : Mb} {n o : Nat} {M : Md} (h : MdAt w B n o M) (ho : o ≤ 60) :
    Calls Try.prog 24 #[.pointer (some ⟨B.b, 0, none⟩)] w fun e w' => ∃ v, e = .returned v ∧ w'.ownsRow w.heap.size 3 1 v (mdeads M o).length ((mdeads M o).map (Value.int .i64)) ∧ Below w.heap.size w w' := by
  obtain ⟨i0, hi, hz0, hz1, hz2⟩ := info_parts info_int
  have H := Lib.hid (fun (wr : World) (hb : Below w.heap.size w wr) => h.below hb)
  clear h
  go_enter Try.func24, Try.ntmps24
  go_wp2
  go_loopw [3, 4] (fun v i wr => ∃ k : Nat, i = .int .i64 k ∧ k ≤ o ∧ wr.ownsRow w.heap.size 3 1 v (mdeads M k).length ((mdeads M k).map (Value.int .i64)) ∧ Below w.heap.size w wr) (fun _ i _ => o - (intOf i).toNat)
  case atStart => exact ⟨0, rfl, by omega, World.ownsRow_nil _ _ _ _, Below.refl _ _⟩
  case round =>
    obtain ⟨k, rfl, hk, hown, hB⟩ := hrel
    have hM := H.out _ hB
    have HO := Lib.hid hown
    have HB := Lib.hid hB
    have h6 : wr.cell? ⟨B.b, 6, none⟩ = some (.slice (some ⟨B.bd, 0, none⟩) o o) := hM.c_ 6
    by_cases hlt : k < o
    · have hk0 : (0 : Int) ≤ (k : Int) := by omega
      have hk1 : (k : Int) < (o : Int) := by omega
      have cd := hM.cbd hlt
      have HD := Lib.hid (show mdeads M (k + 1) = if M.dead k = true then mdeads M k ++ [(k : Int)] else mdeads M k from rfl)
      have HL := Lib.hid (mdeads_le M k)
      clear hown hB hM
      generalize M.dead k = d at *
      cases d
      · have HD2 := Lib.hid (show mdeads M (k + 1) = mdeads M k by rw [HD.out]; rfl)
        go_wp2_with (fail)
        go_roundw
        case rel => exact ⟨k + 1, by go_num, by omega, by rw [HD2.out]; exact HO.out, HB.out⟩
        case measure => simp [intOf]; omega
      · have HD2 := Lib.hid (show mdeads M (k + 1) = mdeads M k ++ [(k : Int)] by rw [HD.out]; rfl)
        have hlen : (mdeads M k).length ≤ 60 := by have := HL.out; omega
        go_wp2_with (first | (at_builtin; refine wpList_append_lies _ rfl (.tmp 21) (.tmp 23) 22 rfl w.heap.size 3 i0 _ 1 8 Try.underlying22 hi hz0 hz1 hz2 rfl (by omega) u3 _ _ rfl (HO.out.alloc (Obj.cells #[.int .i64 k] 3)) ⟨wr.heap.size, 0, none⟩ 1 1 [.int .i64 k] rfl rfl (World.news_of_block (heap_alloc_new _ _)) (by intro u hu; simp at hu; subst hu; rfl) (by decide) (by simp only [maxLen]; omega) (by omega) (by have := HB.out.size; simp; omega) _ rfl ?_; intro g cap w5 hown hgrow hat hlt2))
        go_roundw
        case rel =>
          refine ⟨k + 1, by go_num, by omega, ?_, (HB.out.alloc HB.out.size _).grown hgrow (by have := HB.out.size; simp; omega) fun g' hg' => own_ge8 HO.out hg'⟩
          rw [HD2.out]
          simpa using hown
        case measure => simp [intOf]; omega
    · obtain rfl : k = o := by omega
      have hk1 : ¬ (k : Int) < (k : Int) := by omega
      clear hown hB hM
      go_wp2_with (fail)
      go_ret
      exact ⟨_, rfl, HO.out, HB.out⟩

/-- A walk's words of both. -/
structure RM (L : Nat → Prop) (w : World) (x a n m : Nat) (o : Nat) (B : Mb) (i : Int) (T : Int → Int → Int) (M : Md) : Prop where
  rs : RS L w x a 0 o n m T
  ok : TOk T n o i
  md : MdAt w B n o M
  ag : Agr T M n o

set_option maxRecDepth 100000 in
theorem counts_calls {L : Nat → Prop} {w : World} {x a n m o : Nat} {B : Mb} {i : Int} {T : Int → Int → Int} {M : Md} (h : RM L w x a n m o B i T M) :
    Calls Try.prog 25 #[.pointer (some ⟨x, 0, none⟩), .pointer (some ⟨B.b, 0, none⟩), .int .i64 n] w fun e w' => e = .returned (.bool true) ∧ ∃ d, w' = w.drewN d := by
  have H := Lib.hid h
  have hn := h.rs.n_
  have ho := h.rs.o_
  clear h
  go_enter Try.func25, Try.ntmps25
  go_wp2
  go_loopw [7] (fun i wr => ∃ j : Nat, i = .int .i64 j ∧ j ≤ o ∧ ∃ d, wr = w.drewN d) (fun i _ => o - (intOf i).toNat)
  case atStart => exact ⟨0, rfl, by omega, 0, rfl⟩
  case round =>
    obtain ⟨j, rfl, hj, d, rfl⟩ := hrel
    have hM := H.out.md
    have h1 : w.cell? ⟨B.b, 1, none⟩ = some (.slice (some ⟨B.bg, 0, none⟩) o o) := hM.c_ 1
    have h0 : w.cell? ⟨B.b, 0, none⟩ = some (.slice (some ⟨B.bp, 0, none⟩) n n) := hM.c_ 0
    by_cases hlt : j < o
    · have hj0 : (0 : Int) ≤ (j : Int) := by omega
      have hj1 : (j : Int) < (o : Int) := by omega
      have cg := hM.cg hlt
      have HSM := Lib.hid (fun k hk => H.out.ag.msum hlt k hk)
      have HSB := Lib.hid (fun k hk => H.out.ok.sum_bd (j := (j : Int)) ⟨hj0, hj1⟩ k hk)
      have HGB := Lib.hid (H.out.ok.glob j hj0 hj1)
      have HPB := Lib.hid (fun (c : Nat) (hc : c < n) => H.out.ok.part c j (by omega) (by omega) hj0 hj1)
      have HPA := Lib.hid (fun (c : Nat) (hc : c < n) => H.out.ag.part c j hc hlt)
      have i0 := H.out.ok.i0
      clear hM
      go_wp2_with (fail)
      go_loopw [8, 9] (fun s c wr => ∃ k : Nat, c = .int .i64 k ∧ k ≤ n ∧ s = .int .i64 (msum M j k) ∧ ∃ d, wr = w.drewN d) (fun _ c _ => n - (intOf c).toNat)
      case atStart => exact ⟨0, rfl, by omega, rfl, _, rfl⟩
      case round =>
        obtain ⟨k, rfl, hk, rfl, d2, rfl⟩ := hrel
        by_cases hkn : k < n
        · have hk0 : (0 : Int) ≤ (k : Int) := by omega
          have hk1 : (k : Int) < (n : Int) := by omega
          have cp := H.out.md.cp hkn
          have cr := H.out.md.cr hkn hlt
          have HS1 := Lib.hid (show msum M j k + M.parts k j = msum M j (k + 1) from rfl)
          have b1 : -1000000 ≤ msum M j k ∧ msum M j k ≤ 1000000 := by
            have e1 := HSM.out k hk
            have e2 := HSB.out k hk
            have e3 := HGB.out
            omega
          have b2 : -1000 ≤ M.parts k j ∧ M.parts k j ≤ 1000 := by
            have e1 := HPA.out k hkn
            have e2 := HPB.out k hkn
            omega
          generalize M.parts k j = p at *
          generalize msum M j k = s at *
          have e1 : IntKind.i64.wrap (s + p) = s + p := IntWalk.i64_in _ (by omega)
          go_wp2_with (fail)
          go_roundw
          case rel => exact ⟨k + 1, by go_num, by omega, by rw [HS1.out], _, rfl⟩
          case measure => simp [intOf]; omega
        · obtain rfl : k = n := by omega
          have hk1 : ¬ (k : Int) < (k : Int) := by omega
          have HG := Lib.hid (fun d => rsGlobalV (H.out.rs.drewN d) (j : Int) ⟨hj0, hj1⟩ (v := M.glob j) (H.out.ag.glob j hlt).symm)
          have HT := Lib.hid (fun d => rsTotalV (H.out.rs.drewN d) H.out.ok (j : Int) ⟨hj0, hj1⟩ (v := msum M j k) (HSM.out k hk).symm)
          generalize msum M j k = s at *
          generalize M.glob j = g at *
          go_wp2_with (go_at_call 19; refine (num_calls _ _).mono ?_; rintro e w' ⟨rfl, rfl⟩)
          refine (HG.out _).mono ?_
          rintro e w4 ⟨rfl, d4, rfl⟩
          go_wp2_with (go_at_call 19; refine (num_calls _ _).mono ?_; rintro e w' ⟨rfl, rfl⟩)
          refine (HT.out _).mono ?_
          rintro e w5 ⟨rfl, d5, rfl⟩
          go_wp2_with (go_at_call 19; refine (num_calls _ _).mono ?_; rintro e w' ⟨rfl, rfl⟩)
          go_roundw
          case rel => exact ⟨j + 1, by go_num, by omega, _, rfl⟩
          case measure => simp [intOf]; omega
    · have hj1 : ¬ (j : Int) < (o : Int) := by omega
      clear hM
      go_wp2_with (fail)
      go_ret
      exact ⟨rfl, _, rfl⟩
end Go.Proofs.Ytokldnmhhhaalaa
