
/- law7: pages. -/
import Derived.Test.YtacjpchcaknacaaRadix
import Derived.Test.YtacjpchcaknacaaSpoil
namespace Go.Proofs.Ytacjpchcaknacaa
open Go.RowKit
set_option maxHeartbeats 1000000

def vsArr (g : Int → Int) : Array Value := ((List.range 16).map fun p : Nat => Value.int .i64 (g p)).toArray
theorem vsArr_at (g : Int → Int) {k : Nat} (hk : k < 16) : (vsArr g)[k]? = some (.int .i64 (g k)) := by simp [vsArr, hk]

section
variable {L : Nat → Prop} {w : World} {a x gv : Nat} {ws : List Int} {n m : Nat} {P : List (List Acc) → Prop} {f : Int} {g : Int → Int}

set_option maxRecDepth 100000 in
theorem pages_ok (hx : RadAt L w x a f) (h : ArP L w a ws n m P) (hm : m ≤ 1099511600000) (hr : Rx ws f g) (hgv : L gv) (hb : Blk w gv 3 (vsArr g)) (c : Int) (h0 : 0 ≤ c ∧ c < n) (hc : ∀ p, 0 ≤ p → p < 16 → Cl n P c (rdSet f p)) :
    Calls Try.prog 40 #[.pointer (some ⟨x, 0, none⟩), .int .i64 c, .slice (some ⟨gv, 0, none⟩) 16 16, .bool false] w fun e w' => e = .returned (.bool true) ∧ ArP L w' a ws n (m + 64) P ∧ Keeps L w w' := by
  have HX := Lib.hid hx
  have HC := Lib.hid hc
  have HA := Lib.hid h
  have HR := Lib.hid hr
  have HB := Lib.hid hb
  have HGV := Lib.hid hgv
  obtain ⟨di, hi, hz0, hz1, hz2⟩ := info_parts info_int7
  clear hx h hc hr hb hgv
  go_enter Try.func40, Try.ntmps40
  go_wp2
  go_loopw [9, 10] (fun v i wr => ∃ k : Nat, i = .int .i64 k ∧ k ≤ 16 ∧ wr.ownsRow w.heap.size 3 1 v (pgs g k).length ((pgs g k).map (Value.int .i64)) ∧
    ArP (lo L v) wr a ws n m P ∧ Keeps L w wr) (fun _ i _ => 16 - (intOf i).toNat)
  case atStart => exact ⟨0, rfl, Nat.zero_le _, World.ownsRow_nil _ _ _ _, by rw [lo_nil]; exact HA.out, Keeps.refl _ _⟩
  case round =>
    obtain ⟨k, rfl, hk, hown, hA, hK⟩ := hrel
    have HO := Lib.hid hown
    have HK := Lib.hid hK
    by_cases hlt : k < 16
    · have hlt' : (k : Int) < 16 := by omega
      have q1 : wr.cell? ⟨gv, k, none⟩ = _ := ((hK.blk HB.out HGV.out).cell k).trans (vsArr_at g hlt)
      clear hown hK
      have HD := Lib.hid (show pgs g (k + 1) = if g k = 0 then pgs g k else pgs g k ++ [(k : Int)] from rfl)
      have hlen : (pgs g k).length ≤ 15 := by have := pgs_le g k; omega
      generalize hv : g (k : Int) = v at *
      clear hv
      by_cases hv0 : v = 0
      · have hv1 : (v != 0) = false := by simpa using hv0
        have HD := Lib.hid (HD.out.trans (if_pos hv0))
        go_wp2
        go_roundw
        case rel =>
          refine ⟨k + 1, by go_num, by omega, ?_, hA, HK.out⟩
          rw [HD.out]
          exact HO.out
        case measure => simp [intOf]; omega
      · have hv1 : (v != 0) = true := by simpa using hv0
        have HD := Lib.hid (HD.out.trans (if_neg hv0))
        go_wp2_with (first
          | (at_builtin; refine wpList_append_lies _ rfl (.tmp 27) (.tmp 29) 22 rfl w.heap.size 3 di (.int .i64 0) 1 8 Try.underlying22 hi hz0 hz1 hz2 rfl (by omega) u9 _ _ rfl (HO.out.alloc (Obj.cells #[.int .i64 k] 3)) ⟨wr.heap.size, 0, none⟩ 1 1 [.int .i64 k] rfl rfl (World.news_of_block (heap_alloc_new _ _)) (by intro u hu; simp at hu; subst hu; rfl) (by decide) (by simp only [maxLen]; omega) (by omega) (by have := HK.out.size; simp; omega) _ rfl ?_; intro g2 cap w5 hown hgrow hat hlt2))
        go_roundw
        case rel =>
          have hKb : Keeps L (wr.alloc (Obj.cells #[.int .i64 k] 3)) w5 :=
            (Keeps.refl L _).grown hgrow ((hA.bd.sub fun _ h => .inl h).alloc _) fun g hg hl => by
              have := own_ge7 HO.out hg
              have := HA.out.bd g hl
              omega
          have hKa := (HK.out.alloc (hA.bd.sub fun _ h => .inl h) (Obj.cells #[.int .i64 k] 3)).trans hKb
          refine ⟨k + 1, by go_num, by omega, ?_, (hA.lo_alloc _).grown hgrow ?_, hKa⟩
          · rw [HD.out]
            simpa using hown
          · intro g' hg'
            have : g2 = g' := by simpa [Value.ownBlock] using hg'
            subst this
            exact ⟨hat.imp id (fun h => Nat.le_of_eq h.symm), hlt2⟩
        case measure => simp [intOf]; omega
    · have hlt' : ¬ (k : Int) < 16 := by omega
      have h16 : k = 16 := by omega
      have HO := Lib.hid (show wr.ownsRow w.heap.size 3 1 u9 (pgs g 16).length ((pgs g 16).map (Value.int .i64)) by rw [← h16]; exact HO.out)
      have hle := pgs_le g 16
      clear hown hK
      have hx2 : RadAt (lo L u9) wr x a f := ⟨.inl HX.out.1, HK.out.blk HX.out.2 HX.out.1⟩
      go_wp2_with (fail)
      refine (rPages_ok hx2 hA (by omega) HR.out c h0 HC.out).mono ?_
      rintro e w5 ⟨v5, rfl, hown5, hP5, hK5⟩
      have hx5 := hx2.keep hK5
      have HO5 := Lib.hid (own_keep HO.out hK5)
      have hs := Lib.hid (same_ints (pgs g 16) v5 u9 w5 (by simpa using Sl.ofOwn hown5) (by simpa using Sl.ofOwn HO5.out) (by omega))
      have hsp := Lib.hid (fun d => spoil_ints (w := w5.drewN d) (L := lo L u9) (v := v5) hown5 (by omega) hA.bd (hP5.drewN d))
      go_wp2_with (go_at_call 65; refine hs.out.mono ?_; rintro e w6 ⟨rfl, d6, rfl⟩)
      refine (hsp.out d6).mono ?_
      rintro e w7 ⟨rfl, hP7, hK7⟩
      have hK57 := hK5.trans (hK7.undrewN)
      have hx7 := hx5.keep hK7.undrewN
      clear hs hsp hP5
      go_wp2_with (fail)
      refine (rPages_ok hx7 hP7 (by omega) HR.out c h0 HC.out).mono ?_
      rintro e w8 ⟨v8, rfl, hown8, hP8, hK8⟩
      have HO8 := Lib.hid (own_keep (own_keep HO5.out hK7.undrewN) hK8)
      have hs := Lib.hid (same_ints (pgs g 16) v8 u9 w8 (by simpa using Sl.ofOwn hown8) (by simpa using Sl.ofOwn HO8.out) (by omega))
      go_wp2_with (go_at_call 65; refine hs.out.mono ?_; rintro e w9 ⟨rfl, d9, rfl⟩)
      go_ret
      exact ⟨rfl, ((hP8.sub fun _ h => .inl (.inl h)).drewN d9).mono (by omega), HK.out.trans (((hK57.trans hK8).drewN d9).sub fun _ h => .inl h)⟩
end
end Go.Proofs.Ytacjpchcaknacaa
