
/- refs: the calls over the whole state; Total, Dead. -/
import Derived.Test.YtokldnmhhhaalaaRefsT
import Derived.Test.YtokldnmhhhaalaaOut
import Derived.Maps.AppendAt
import Derived.Deep.AppendLies
namespace Go.Proofs.Ytokldnmhhhaalaa
open Go.RowKit
set_option maxHeartbeats 1000000

section
variable {L : Nat → Prop} {w : World} {a x : Nat} {n m : Nat} {f o : Int} {T : Int → Int → Int}

theorem RS.sub {L' : Nat → Prop} (h : RS L w x a f o n m T) (hs : ∀ b, L' b → L b) (hx : L' x) : RS L' w x a f o n m T :=
  ⟨⟨hx, h.rc.2⟩, by obtain ⟨ws, h1, h2⟩ := h.ar; exact ⟨ws, h1, h2.sub hs⟩⟩
theorem RS.alloc (h : RS L w x a f o n m T) (ob : Obj) : RS L (w.alloc ob) x a f o n m T :=
  ⟨⟨h.rc.1, h.rc.2.1.alloc ob, h.rc.2.2⟩, by obtain ⟨ws, h1, h2⟩ := h.ar; exact ⟨ws, h1, h2.alloc ob⟩⟩

theorem rsInc {i : Int} (h : RS L w x a f o n m T) (hm : m ≤ 1099511600000) (hT : TOk T n o i) (c j : Int) (hc : 0 ≤ c ∧ c < n) (hj : 0 ≤ j ∧ j < o) :
    Calls Try.prog 15 #[.pointer (some ⟨x, 0, none⟩), .int .i64 c, .int .i64 j] w fun e w' => e = .returned (.int .i64 0) ∧ (RS L w' x a f o n (m + 3) (cntT T o c j (T c j + 1)) ∧ Keeps L w w') := by
  obtain ⟨ws, hM, hA⟩ := h.ar
  have hb := hT.part c j hc.1 hc.2 hj.1 hj.2
  have h0 := hT.i0
  obtain ⟨c', rfl⟩ := Int.eq_ofNat_of_zero_le hc.1
  refine rinc_calls ((rcount_ok (S := fun _ => True) h.rc hA (by omega) hM (c' : Int) j 1 hc hj (v := T c' j + 1) (by unfold wrap64; omega) (hT.ever c' (by omega)) (fun _ _ => trivial) (Cl.true_ _ _ _)).mono ?_)
  rintro e w' ⟨rfl, ws', hM', hA', hK⟩
  exact ⟨rfl, h.keep hK ⟨ws', hM', hA'⟩, hK⟩
theorem rsDec {i : Int} (h : RS L w x a f o n m T) (hm : m ≤ 1099511600000) (hT : TOk T n o i) (c j : Int) (hc : 0 ≤ c ∧ c < n) (hj : 0 ≤ j ∧ j < o) :
    Calls Try.prog 14 #[.pointer (some ⟨x, 0, none⟩), .int .i64 c, .int .i64 j] w fun e w' => e = .returned (.int .i64 0) ∧ (RS L w' x a f o n (m + 3) (cntT T o c j (T c j + -1)) ∧ Keeps L w w') := by
  obtain ⟨ws, hM, hA⟩ := h.ar
  have hb := hT.part c j hc.1 hc.2 hj.1 hj.2
  have h0 := hT.i0
  obtain ⟨c', rfl⟩ := Int.eq_ofNat_of_zero_le hc.1
  refine rdec_calls ((rcount_ok (S := fun _ => True) h.rc hA (by omega) hM (c' : Int) j (-1) hc hj (v := T c' j + -1) (by unfold wrap64; omega) (hT.ever c' (by omega)) (fun _ _ => trivial) (Cl.true_ _ _ _)).mono ?_)
  rintro e w' ⟨rfl, ws', hM', hA', hK⟩
  exact ⟨rfl, h.keep hK ⟨ws', hM', hA'⟩, hK⟩
theorem rsInc_core (h : RS L w x a f o n m T) (c j : Int) (hc : c < 0 ∨ (n : Int) ≤ c) :
    Calls Try.prog 15 #[.pointer (some ⟨x, 0, none⟩), .int .i64 c, .int .i64 j] w fun e w' => e = .returned (.int .i64 600) ∧ w = w' := by
  obtain ⟨ws, hM, hA⟩ := h.ar
  exact rinc_calls (rcount_err h.rc hA c j 1 hc)
theorem rsDec_core (h : RS L w x a f o n m T) (c j : Int) (hc : c < 0 ∨ (n : Int) ≤ c) :
    Calls Try.prog 14 #[.pointer (some ⟨x, 0, none⟩), .int .i64 c, .int .i64 j] w fun e w' => e = .returned (.int .i64 600) ∧ w = w' := by
  obtain ⟨ws, hM, hA⟩ := h.ar
  exact rdec_calls (rcount_err h.rc hA c j (-1) hc)
theorem rsInc_obj (h : RS L w x a f o n m T) (c j : Int) (hc : 0 ≤ c ∧ c < n) (hj : j < 0 ∨ o ≤ j) :
    Calls Try.prog 15 #[.pointer (some ⟨x, 0, none⟩), .int .i64 c, .int .i64 j] w fun e w' => e = .returned (.int .i64 601) ∧ w = w' := by
  obtain ⟨ws, hM, hA⟩ := h.ar
  exact rinc_calls (rcount_obj h.rc hA c j 1 hc hj)
theorem rsDec_obj (h : RS L w x a f o n m T) (c j : Int) (hc : 0 ≤ c ∧ c < n) (hj : j < 0 ∨ o ≤ j) :
    Calls Try.prog 14 #[.pointer (some ⟨x, 0, none⟩), .int .i64 c, .int .i64 j] w fun e w' => e = .returned (.int .i64 601) ∧ w = w' := by
  obtain ⟨ws, hM, hA⟩ := h.ar
  exact rdec_calls (rcount_obj h.rc hA c j (-1) hc hj)
theorem rsFlush {i : Int} (h : RS L w x a f o n m T) (hm : m ≤ 1099511500000) (hT : TOk T n o i) (c : Int) (hc : 0 ≤ c ∧ c < n) :
    Calls Try.prog 16 #[.pointer (some ⟨x, 0, none⟩), .int .i64 c] w fun e w' => e = .returned (.int .i64 0) ∧ RS L w' x a f o n (m + 1000) (flushT T n o c) ∧ Keeps L w w' := by
  have h0 := hT.i0
  have ho := h.o_
  refine (rFlush_ok h hm c hc hT.ever (by have := hT.ep; omega) hT.kn (fun j j0 j1 => by have h1 := hT.part c j hc.1 hc.2 j0 j1; have h2 := hT.glob j j0 j1; omega)).mono ?_
  rintro e w' ⟨rfl, T', hS, hF, hK⟩
  exact ⟨rfl, hS.congr fun r i r0 _ _ _ => hF.eq hc ho.1 r i r0, hK⟩
theorem rsGlobalN (h : RS L w x a f o n m T) (j : Int) (hj : 0 ≤ j ∧ j < o) :
    Calls Try.prog 17 #[.pointer (some ⟨x, 0, none⟩), .int .i64 j] w fun e w' => e = .returned (.tuple #[.int .i64 (T n j), .int .i64 0]) ∧ ∃ d, w' = w.drewN d := by
  obtain ⟨ws, hM, hA⟩ := h.ar
  exact rGlobal_ok h.rc hA hM j hj
theorem rsEpochN (h : RS L w x a f o n m T) :
    Calls Try.prog 20 #[.pointer (some ⟨x, 0, none⟩)] w fun e w' => e = .returned (.int .i64 (T n o)) ∧ ∃ d, w' = w.drewN d := by
  obtain ⟨ws, hM, hA⟩ := h.ar
  exact rEpoch_ok h.rc hA hM

set_option maxRecDepth 100000 in
theorem rsTotal {i : Int} (h : RS L w x a f o n m T) (hT : TOk T n o i) (j : Int) (hj : 0 ≤ j ∧ j < o) :
    Calls Try.prog 18 #[.pointer (some ⟨x, 0, none⟩), .int .i64 j] w fun e w' => e = .returned (.tuple #[.int .i64 (T n j + sumP T j n), .int .i64 0]) ∧ ∃ d, w' = w.drewN d := by
  have hn := h.n_
  have ho := h.o_
  have HG := Lib.hid (rsGlobalN h j hj)
  have HH := Lib.hid h
  have hg := hT.glob j hj.1 hj.2
  have hi0 := hT.i0
  have HSB := Lib.hid (fun k => hT.sum_bd hj k)
  have HPB := Lib.hid (fun (r : Nat) (hr : r < n) => hT.part r j (by omega) (by omega) hj.1 hj.2)
  have q0 := h.q0
  have HCO := Lib.hid (fun d => rsCores (h.drewN d))
  clear h hT
  generalize hgv : T (n : Int) j = g at *
  clear hgv
  go_enter Try.func18, Try.ntmps18
  go_wp2_with (first
    | (go_at_call 17; refine HG.out.mono ?_; rintro e w' ⟨rfl, d, rfl⟩)
    | (go_at_call 40; refine (HCO.out _).mono ?_; rintro e w' ⟨rfl, rfl⟩))
  clear q0 HCO HG
  go_loopw [6, 23] (fun s i wr => ∃ k : Nat, i = .int .i64 k ∧ k ≤ n ∧ s = .int .i64 (g + sumP T j k) ∧ ∃ d, wr = w.drewN d) (fun _ i _ => n - (intOf i).toNat)
  case atStart => exact ⟨0, rfl, by omega, by show _ = Value.int .i64 (g + 0); rw [Int.add_zero], _, rfl⟩
  case round =>
    obtain ⟨k, rfl, hk, rfl, d, rfl⟩ := hrel
    by_cases hlt : k < n
    · have hlt' : (k : Int) < (n : Int) := by omega
      have hS := HH.out.drewN d
      have hB := hS.base (r := (k : Int)) (by omega) (by omega)
      have HR := Lib.hid (fun (d : Nat) => rsRow (HH.out.drewN d) (c := (k : Int)) ⟨by omega, by omega⟩ rfl)
      have hPC := Lib.hid (⟨by omega, by omega, by omega, by omega, rfl⟩ : Pl f o n (k : Int) j (f + (k : Int) * (o + 2) + j))
      have HPK := Lib.hid (fun (d : Nat) => rsPeek (HH.out.drewN d) hPC.out rfl)
      generalize f + (k : Int) * (o + 2) = B at *
      have e1 : IntKind.i64.wrap (B + j) = B + j := IntWalk.i64_in _ (by omega)
      have q0 := hS.q0
      have hsb := HSB.out k hk
      have hpb := HPB.out k hlt
      have HSUM := Lib.hid (show sumP T j k + T k j = sumP T j (k + 1) from rfl)
      clear hS
      generalize sumP T j k = s at *
      generalize hv : T (k : Int) j = v at *
      clear hv
      have e2 : IntKind.i64.wrap (g + s + v) = g + s + v := IntWalk.i64_in _ (by omega)
      go_wp2
      go_region_held3 (fun w' => w'.cell? ⟨x, 0, none⟩ = some (.pointer (some ⟨a, 0, none⟩))) (first | exact q0)
        ((first
          | (go_at_call 45; refine (HR.out _).mono ?_; rintro e w' ⟨rfl, d2, rfl⟩)
          | (go_at_call 51; refine (HPK.out _).mono ?_; rintro e w' ⟨rfl, d3, rfl⟩)))
      clear e1
      go_wp2
      go_roundw
      case rel => exact ⟨k + 1, by go_num, by omega, by rw [← HSUM.out, Int.add_assoc], _, rfl⟩
      case measure => simp [intOf]; omega
    · obtain rfl : k = n := by omega
      have hlt' : ¬ (k : Int) < (k : Int) := by omega
      go_wp2
      go_ret2
      exact ⟨rfl, _, rfl⟩

theorem own_drewN {w : World} {base : Nat} {e : TypeId} {size n : Nat} {v : Value} {xs : List Value} (h : w.ownsRow base e size v n xs) (d : Nat) : (w.drewN d).ownsRow base e size v n xs := h
theorem own_ge8 {w : World} {base : Nat} {e : TypeId} {size n g : Nat} {v : Value} {xs : List Value} (h : w.ownsRow base e size v n xs) (hg : v.ownBlock = some g) : base ≤ g := by
  rcases h.2 with ⟨rfl, _⟩ | ⟨g', cap, cur, rfl, hb, _, _⟩
  · simp [Value.ownBlock] at hg
  · have : g' = g := by simpa [Value.ownBlock] using hg
    omega
theorem and4b (x : Int) : bits .and .i64 x 4 = x / 4 % 2 * 4 := and4 x
set_option maxRecDepth 100000 in
theorem rsDead (h : RS L w x a f o n m T) :
    Calls Try.prog 23 #[.pointer (some ⟨x, 0, none⟩)] w fun e w' => ∃ v, e = .returned v ∧ w'.ownsRow w.heap.size 3 1 v (deads T n o.toNat).length ((deads T n o.toNat).map (Value.int .i64)) ∧
      RS (lo L v) w' x a f o n m T ∧ Keeps L w w' := by
  have hn := h.n_
  have ho := h.o_
  have hlx := h.lx
  obtain ⟨i0, hi, hz0, hz1, hz2⟩ := info_parts info_int
  have q2 := h.q2
  have HH := Lib.hid h
  have HBD := Lib.hid (show Bd L w by obtain ⟨ws, h1, h2⟩ := h.ar; exact h2.bd)
  clear h
  go_enter Try.func23, Try.ntmps23
  go_wp2
  clear q2
  go_loopw [3, 11] (fun v i wr => ∃ k : Nat, i = .int .i64 k ∧ (k : Int) ≤ o ∧ wr.ownsRow w.heap.size 3 1 v (deads T n k).length ((deads T n k).map (Value.int .i64)) ∧
    RS (lo L v) wr x a f o n m T ∧ Keeps L w wr) (fun _ i _ => (o - intOf i).toNat)
  case atStart => exact ⟨0, rfl, by omega, World.ownsRow_nil _ _ _ _, by rw [lo_nil]; exact HH.out, Keeps.refl _ _⟩
  case round =>
    clear HH
    obtain ⟨k, rfl, hk, hown, hS, hK⟩ := hrel
    have HO := Lib.hid hown
    have HK := Lib.hid hK
    have HS := Lib.hid hS
    by_cases hlt : (k : Int) < o
    · have HKN := Lib.hid (fun (d : Nat) => rsKnown (HS.out.drewN d) (j := (k : Int)) ⟨by omega, hlt⟩ rfl)
      have hPK := Lib.hid (⟨by omega, by omega, by omega, by omega, rfl⟩ : Pl f o n ((n : Int) + 1) k (f + ((n : Int) + 1) * (o + 2) + k))
      have HPK := Lib.hid (fun (d : Nat) => rsPeek (HS.out.drewN d) hPK.out rfl)
      generalize f + ((n : Int) + 1) * (o + 2) = BK at *
      have q0 := hS.q0
      have HD := Lib.hid (show deads T n (k + 1) = if T ((n : Int) + 1) k / 4 % 2 = 0 then deads T n k else deads T n k ++ [(k : Int)] from rfl)
      have HL := Lib.hid (deads_le T n k)
      clear hown hS hK
      generalize hv : T ((n : Int) + 1) (k : Int) = kn at *
      clear hv
      have e4 := and4b kn
      by_cases hd : kn / 4 % 2 = 0
      · have HD := Lib.hid (HD.out.trans (if_pos hd))
        have hd1 : (kn / 4 % 2 * 4 != 0) = false := by rw [hd]; rfl
        clear hd
        go_upto_region 4 with (fail)
        go_region_held3 (fun w' => w'.cell? ⟨x, 0, none⟩ = some (.pointer (some ⟨a, 0, none⟩))) (first | exact q0)
          ((first
            | (go_at_call 49; refine (HKN.out _).mono ?_; rintro e w' ⟨rfl, d2, rfl⟩)
            | (go_at_call 51; refine (HPK.out _).mono ?_; rintro e w' ⟨rfl, d3, rfl⟩)))
        clear e4
        go_wp2
        go_roundw
        case rel =>
          refine ⟨k + 1, by go_num, by omega, ?_, HS.out.drewN _, HK.out.drewN _⟩
          rw [HD.out]
          exact HO.out
        case measure => simp [intOf]; omega
      · have HD := Lib.hid (HD.out.trans (if_neg hd))
        have hd1 : (kn / 4 % 2 * 4 != 0) = true := by simp; omega
        clear hd
        go_upto_region 4 with (fail)
        go_region_held3 (fun w' => w'.cell? ⟨x, 0, none⟩ = some (.pointer (some ⟨a, 0, none⟩))) (first | exact q0)
          ((first
            | (go_at_call 49; refine (HKN.out _).mono ?_; rintro e w' ⟨rfl, d2, rfl⟩)
            | (go_at_call 51; refine (HPK.out _).mono ?_; rintro e w' ⟨rfl, d3, rfl⟩)))
        clear e4
        clear q0 HKN HPK hPK
        have hlen : (deads T n k).length ≤ 60 := by have := HL.out; omega
        have HB0 := Lib.hid HBD.out
        go_wp2_with (first | (at_builtin; refine wpList_append_lies _ rfl (.tmp 24) (.tmp 26) 22 rfl w.heap.size 3 i0 _ 1 8 Try.underlying22 hi hz0 hz1 hz2 rfl (by omega) u3 _ _ rfl ((own_drewN HO.out _).alloc (Obj.cells #[.int .i64 k] 3)) ⟨wr.heap.size, 0, none⟩ 1 1 [.int .i64 k] rfl rfl (World.news_of_block (heap_alloc_new _ _)) (by intro u hu; simp at hu; subst hu; rfl) (by decide) (by simp only [maxLen]; omega) (by omega) (by have := HK.out.size; simp; omega) _ rfl ?_; intro g cap w5 hown hgrow hat hlt2))
        go_roundw
        case rel =>
          have hbdl : Bd (lo L u3) (wr.drewN (1 + d2 + d3)) := by obtain ⟨ws, h1, h2⟩ := (HS.out.drewN (1 + d2 + d3)).ar; exact h2.bd
          have hKb := ((Keeps.refl L (wr.drewN (1 + d2 + d3))).alloc (hbdl.sub fun _ h => .inl h) (Obj.cells #[.int .i64 k] 3)).grown hgrow ((hbdl.sub fun _ h => .inl h).alloc _) fun g hg hl => by
              have := own_ge8 HO.out hg
              have := HB0.out g hl
              omega
          have hKa := (HK.out.drewN (1 + d2 + d3)).trans hKb
          refine ⟨k + 1, by go_num, by omega, ?_, ?_, hKa⟩
          · rw [HD.out]
            simpa using hown
          · have hS2 := (HS.out.drewN (1 + d2 + d3)).alloc (Obj.cells #[.int .i64 k] 3)
            refine ⟨⟨.inl hlx, hKb.blk (HS.out.drewN (1 + d2 + d3)).rc.2.1 hlx, HS.out.rc.2.2⟩, ?_⟩
            obtain ⟨ws, h1, h2⟩ := hS2.ar
            refine ⟨ws, h1, h2.grown hgrow fun g' hg' => ?_⟩
            have : g = g' := by simpa [Value.ownBlock] using hg'
            subst this
            exact ⟨hat.imp id (fun h => Nat.le_of_eq h.symm), hlt2⟩
        case measure => simp [intOf]; omega
    · have hlt' : ¬ (k : Int) < o := hlt
      have HZ := Lib.hid (show k = o.toNat by omega)
      clear hown hS hK
      go_wp2
      go_ret
      rw [← HZ.out]
      exact ⟨_, rfl, HO.out, HS.out, HK.out⟩
end
end Go.Proofs.Ytokldnmhhhaalaa
