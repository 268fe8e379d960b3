
/- SameDescs, SpoilDescs; law12: listed. -/
import Derived.Test.YtpmgfjglkbbhgaaFds2
import Derived.Test.YtpmgfjglkbbhgaaSpoil
namespace Go.Proofs.Ytpmgfjglkbbhgaa
open Go.RowKit
set_option maxHeartbeats 1000000

/-- Triples of ints. -/
def D3 (xs : List (List Value)) : Prop := ∀ x ∈ xs, ∃ c d r : Int, x = [.int .i64 c, .int .i64 d, .int .i64 r]
theorem D3.nil : D3 [] := fun x h => by cases h
theorem D3.flen {xs : List (List Value)} (h : D3 xs) : xs.flatten.length = xs.length * 3 := by
  induction xs with
  | nil => rfl
  | cons x xs ih =>
    obtain ⟨c, d, r, rfl⟩ := h x (List.mem_cons_self ..)
    have := ih fun y hy => h y (List.mem_cons_of_mem _ hy)
    simp only [List.flatten_cons, List.length_append, List.length_cons, List.length_nil, this]
    omega
theorem D3.at_ {xs : List (List Value)} (h : D3 xs) {k : Nat} (hk : k < xs.length) : ∃ c d r : Int, xs.flatten[k * 3]? = some (.int .i64 c) ∧ xs.flatten[k * 3 + 1]? = some (.int .i64 d) ∧ xs.flatten[k * 3 + 2]? = some (.int .i64 r) := by
  induction xs generalizing k with
  | nil => simp at hk
  | cons x xs ih =>
    obtain ⟨c, d, r, rfl⟩ := h x (List.mem_cons_self ..)
    rcases k with _ | k
    · exact ⟨c, d, r, rfl, rfl, rfl⟩
    · obtain ⟨c', d', r', h1, h2, h3⟩ := ih (fun y hy => h y (List.mem_cons_of_mem _ hy)) (k := k) (by simpa using hk)
      have e1 : (k + 1) * 3 = k * 3 + 3 := by omega
      refine ⟨c', d', r', ?_, ?_, ?_⟩
      · rw [e1, List.flatten_cons, List.getElem?_append_right (by simp)]
        simpa using h1
      · rw [e1, show k * 3 + 3 + 1 = k * 3 + 1 + 3 by omega, List.flatten_cons, List.getElem?_append_right (by simp)]
        simpa using h2
      · rw [e1, show k * 3 + 3 + 2 = k * 3 + 2 + 3 by omega, List.flatten_cons, List.getElem?_append_right (by simp)]
        simpa using h3
theorem D3.descs (ws : List Int) (b c : Int) (k : Nat) : D3 (descs ws b c k) := by
  induction k with
  | zero => exact D3.nil
  | succ k ih =>
    unfold Go.Proofs.Ytpmgfjglkbbhgaa.descs
    split
    · exact ih
    · intro x hx
      rcases List.mem_append.1 hx with hx | hx
      · exact ih x hx
      · exact ⟨_, _, _, by simpa using hx⟩

set_option maxRecDepth 100000 in
theorem same_descs {xs : List (List Value)} (hd : D3 xs) (v v' : Value) (w : World) (h : Sl w 3 v xs.length xs.flatten) (h' : Sl w 3 v' xs.length xs.flatten) (hl : xs.length ≤ 1099511627776) :
    Calls Try.prog 55 #[v, v'] w fun e w' => e = .returned (.bool true) ∧ ∃ k, w' = w.drewN k := by
  obtain ⟨_, A, cap, rfl, hc, h⟩ := h
  obtain ⟨_, A', cap', rfl, hc', h'⟩ := h'
  have H := Lib.hid h
  have H' := Lib.hid h'
  have HD := Lib.hid hd
  clear h h' hd
  go_enter Try.func55, Try.ntmps55
  go_wp2
  go_loopw [5] (fun i wr => ∃ k : Nat, k ≤ xs.length ∧ i = .int .i64 k ∧ ∃ d, wr = w.drewN d) (fun i _ => xs.length - (intOf i).toNat)
  case atStart => exact ⟨0, Nat.zero_le _, rfl, 0, rfl⟩
  case round =>
    obtain ⟨k, hk, rfl, d, rfl⟩ := hrel
    by_cases hlt : k < xs.length
    · obtain ⟨g, off, rfl, hcell⟩ := H.out (by omega)
      obtain ⟨g', off', rfl, hcell'⟩ := H'.out (by omega)
      obtain ⟨c1, c2, c3, e1, e2, e3⟩ := HD.out.at_ hlt
      have q1 := hcell _ _ e1
      have q2 : w.cell? ⟨g, off + k * 3 + 1, none⟩ = _ := hcell _ _ e2
      have q3 : w.cell? ⟨g, off + k * 3 + 2, none⟩ = _ := hcell _ _ e3
      have q4 := hcell' _ _ e1
      have q5 : w.cell? ⟨g', off' + k * 3 + 1, none⟩ = _ := hcell' _ _ e2
      have q6 : w.cell? ⟨g', off' + k * 3 + 2, none⟩ = _ := hcell' _ _ e3
      clear hcell hcell' e1 e2 e3 H H' HD
      go_wp2
      go_quiet (fail)
      go_wp2
      go_roundw
      case rel => exact ⟨k + 1, by omega, by go_num, _, rfl⟩
      case measure => simp [intOf]; omega
    · go_wp2
      go_ret
      exact ⟨rfl, _, rfl⟩

/-- A row of ints of the call's own, at block g, of a type. -/
def OwnT (t : TypeId) (w : World) (g k : Nat) : Prop := ∃ cur : Array Value, Blk w g t cur ∧ k ≤ cur.size ∧ ∀ j, j < k → ∃ x : Int, cur[j]? = some (.int .i64 x)
theorem OwnT.cell {t : TypeId} {w : World} {g k : Nat} (h : OwnT t w g k) {j : Nat} (hj : j < k) : ∃ x : Int, w.cell? ⟨g, j, none⟩ = some (.int .i64 x) := by
  obtain ⟨cur, hb, _, hc⟩ := h
  obtain ⟨x, hx⟩ := hc j hj
  exact ⟨x, (hb.cell j).trans hx⟩
theorem OwnT.frozen {t : TypeId} {w : World} {g k : Nat} (h : OwnT t w g k) (j : Nat) : w.frozen? ⟨g, j, none⟩ = false := by
  obtain ⟨cur, hb, _⟩ := h
  exact hb.frozen j
theorem OwnT.set {t : TypeId} {w : World} {g k : Nat} (h : OwnT t w g k) {j : Nat} (hj : j < k) (x : Int) : OwnT t (w.setCell ⟨g, j, none⟩ (.int .i64 x)) g k := by
  obtain ⟨cur, hb, hs, hc⟩ := h
  refine ⟨_, hb.set_ j _, by simpa using hs, fun i hi => ?_⟩
  by_cases e : j = i
  · subst e
    exact ⟨x, by simp [show j < cur.size by omega]⟩
  · obtain ⟨y, hy⟩ := hc i hi
    exact ⟨y, by rw [Array.getElem?_setIfInBounds, if_neg e]; exact hy⟩

set_option maxRecDepth 100000 in
theorem spoil_descs {L : Nat → Prop} {w : World} {a base m n : Nat} {ws : List Int} {P : List (List Acc) → Prop} {xs : List (List Value)} {v : Value} (hd : D3 xs) (h : w.ownsRow base 101 3 v xs.length xs.flatten) (hk : xs.length ≤ 1099511627776) (hL : ∀ b, L b → b < base) (hA : ArP (lo L v) w a ws n m P) :
    Calls Try.prog 56 #[v] w fun e w' => e = .returned (.tuple #[]) ∧ ArP L w' a ws n m P ∧ Keeps L w w' := by
  have hlen := h.1
  rcases h.2 with ⟨rfl, hz⟩ | ⟨g, cap, cur, rfl, hb, hg, hnc, hcm, hcs, htake⟩
  · rw [lo_nil] at hA
    have HA := Lib.hid hA
    clear h hA
    go_enter Try.func56, Try.ntmps56
    go_wp2
    go_loopw [2] (fun i wr => i = .int .i64 0 ∧ wr = w) (fun _ _ => 0)
    case atStart => exact ⟨rfl, rfl⟩
    case round =>
      obtain ⟨rfl, rfl⟩ := hrel
      go_wp2
      go_end0
      exact ⟨rfl, HA.out, Keeps.refl _ _⟩
  · generalize hkk : xs.length = k at *
    have hl1 : lo L (.slice (some ⟨g, 0, none⟩) k cap) g := .inr rfl
    have hLg : ¬ L g := fun hl => by have := hL g hl; omega
    have HO : OwnT 101 w g (k * 3) := by
      refine ⟨cur, hg, by omega, fun j hj => ?_⟩
      obtain ⟨c1, c2, c3, e1, e2, e3⟩ := hd.at_ (k := j / 3) (by omega)
      have : ∃ x : Int, xs.flatten[j]? = some (.int .i64 x) := by
        rcases (show j % 3 = 0 ∨ j % 3 = 1 ∨ j % 3 = 2 by omega) with e | e | e
        · exact ⟨c1, by rw [← e1]; congr 1; omega⟩
        · exact ⟨c2, by rw [← e2]; congr 1; omega⟩
        · exact ⟨c3, by rw [← e3]; congr 1; omega⟩
      obtain ⟨x, hx⟩ := this
      rw [← htake, List.getElem?_take, if_pos hj] at hx
      exact ⟨x, by simpa using hx⟩
    have HA := Lib.hid hA
    clear h hA hg htake hlen hd hkk
    have HLS := Lib.hid (show ∀ b, L b → lo L (.slice (some ⟨g, 0, none⟩) k cap) b from fun _ h => .inl h)
    generalize lo L (.slice (some ⟨g, 0, none⟩) k cap) = L2 at *
    have HL2 := Lib.hid hl1
    have HLG := Lib.hid hLg
    clear hl1 hLg
    go_enter Try.func56, Try.ntmps56
    go_wp2
    go_loopw [2] (fun i wr => ∃ j : Nat, i = .int .i64 j ∧ j ≤ k ∧ OwnT 101 wr g (k * 3) ∧ ArP L2 wr a ws n m P ∧ Keeps L w wr) (fun i _ => k - (intOf i).toNat)
    case atStart => exact ⟨0, rfl, Nat.zero_le _, HO, HA.out, Keeps.refl _ _⟩
    case round =>
      clear HO
      obtain ⟨j, rfl, hj, ho, hA, hK⟩ := hrel
      have HO := Lib.hid ho
      by_cases hlt : j < k
      · obtain ⟨y, q1⟩ := ho.cell (j := j * 3 + 2) (by omega)
        have q2 := ho.frozen (j * 3 + 2)
        clear ho
        go_wp2
        go_roundw
        case rel => exact ⟨j + 1, by go_num, by omega, HO.out.set (by omega) _, hA.setCell HL2.out _, hK.setCell HLG.out _⟩
        case measure => simp [intOf]; omega
      · clear ho
        go_wp2
        go_end0
        exact ⟨rfl, hA.sub HLS.out, hK⟩

/-- What a core has. -/
def hasArr (ws : List Int) (b : Int) : Array Value := ((List.range 4).map fun p : Nat => Value.int .i64 (rd ws (b + p))).toArray
theorem hasArr_at (ws : List Int) (b : Int) {k : Nat} (hk : k < 4) : (hasArr ws b)[k]? = some (.int .i64 (rd ws (b + k))) := by simp [hasArr, hk]

section
variable {L : Nat → Prop} {w : World} {a x gv : Nat} {ws : List Int} {n m : Nat} {P : List (List Acc) → Prop} {f : Int}
set_option maxRecDepth 100000 in
theorem listed_ok (hx : FdsAt L w x a f) (h : ArP L w a ws n m P) (hm : m ≤ 1099511600000) (hgv : L gv) (c : Int) (hb : Blk w gv 3 (hasArr ws (f + c * 4))) (h0 : 0 ≤ c ∧ c < n) (hf : 0 ≤ f) (hl : f + 4 * n ≤ ws.length) (hc : Cl n P c (fdSet f c)) :
    Calls Try.prog 43 #[.pointer (some ⟨x, 0, none⟩), .slice (some ⟨gv, 0, none⟩) 4 4, .int .i64 c] w fun e w' => e = .returned (.bool true) ∧ ArP L w' a ws n (m + 8) P ∧ Keeps L w w' := by
  have HX := Lib.hid hx
  have HC := Lib.hid hc
  have HA := Lib.hid h
  have HB := Lib.hid hb
  have HGV := Lib.hid hgv
  have H0 := Lib.hid h0
  have HL := Lib.hid hl
  clear hx h hc hb hgv hl
  go_enter Try.func43, Try.ntmps43
  go_wp2
  go_loopw [7, 8] (fun v i wr => ∃ k : Nat, i = .int .i64 k ∧ k ≤ 4 ∧ wr.ownsRow w.heap.size 101 3 v (descs ws (f + c * 4) c k).length (descs ws (f + c * 4) c k).flatten ∧
    ArP (lo L v) wr a ws n m P ∧ Keeps L w wr) (fun _ i _ => 4 - (intOf i).toNat)
  case atStart => exact ⟨0, rfl, Nat.zero_le _, World.ownsRow_nil _ _ _ _, by rw [lo_nil]; exact HA.out, Keeps.refl _ _⟩
  case round =>
    obtain ⟨k, rfl, hk, hown, hA, hK⟩ := hrel
    have HO := Lib.hid hown
    have HK := Lib.hid hK
    by_cases hlt : k < 4
    · have hlt' : (k : Int) < 4 := by omega
      have q1 : wr.cell? ⟨gv, k, none⟩ = _ := ((hK.blk HB.out HGV.out).cell k).trans (hasArr_at ws (f + c * 4) hlt)
      clear hown hK
      have HD := Lib.hid (show descs ws (f + c * 4) c (k + 1) = if rd ws (f + c * 4 + k) = 0 then descs ws (f + c * 4) c k else descs ws (f + c * 4) c k ++ [[.int .i64 c, .int .i64 k, .int .i64 (rd ws (f + c * 4 + k))]] from rfl)
      have hlen : (descs ws (f + c * 4) c k).length ≤ 3 := by have := descs_le ws (f + c * 4) c k; omega
      generalize hv : rd ws (f + c * 4 + (k : Int)) = r at *
      clear hv
      by_cases hr0 : r = 0
      · have hr1 : (r != 0) = false := by simpa using hr0
        have HD := Lib.hid (HD.out.trans (if_pos hr0))
        go_wp2
        go_roundw
        case rel =>
          refine ⟨k + 1, by go_num, by omega, ?_, hA, HK.out⟩
          rw [HD.out]
          exact HO.out
        case measure => simp [intOf]; omega
      · have hr1 : (r != 0) = true := by simpa using hr0
        have HD := Lib.hid (HD.out.trans (if_neg hr0))
        obtain ⟨di, dz, hi, hz0, hz1, hz2, hz3⟩ := desc_info
        go_wp2_with (first | (at_builtin; refine wpList_append_lies _ rfl (.tmp 21) (.tmp 29) 71 rfl w.heap.size 101 di dz 3 24 Try.underlying71 hi hz0 hz1 hz2 hz3 (by omega) u7 _ _ rfl (HO.out.alloc (Obj.cells #[.int .i64 c, .int .i64 k, .int .i64 r] 101)) ⟨wr.heap.size, 0, none⟩ 1 1 [.int .i64 c, .int .i64 k, .int .i64 r] rfl rfl (World.news_of_block (heap_alloc_new _ _)) (by intro u hu; simp at hu; rcases hu with rfl | rfl | rfl <;> rfl) (by decide) (by simp only [maxLen]; omega) (by omega) (by have := HK.out.size; simp; omega) _ rfl ?_; intro g2 cap w5 hown hgrow hat hlt2))
        go_roundw
        case rel =>
          have hKb : Keeps L (wr.alloc (Obj.cells #[.int .i64 c, .int .i64 k, .int .i64 r] 101)) w5 :=
            (Keeps.refl L _).grown hgrow ((hA.bd.sub fun _ h => .inl h).alloc _) fun g hg hl => by
              have := own_ge HO.out hg
              have := HA.out.bd g hl
              omega
          have hKa := (HK.out.alloc (hA.bd.sub fun _ h => .inl h) (Obj.cells #[.int .i64 c, .int .i64 k, .int .i64 r] 101)).trans hKb
          refine ⟨k + 1, by go_num, by omega, ?_, (hA.lo_alloc _).grown hgrow ?_, hKa⟩
          · rw [HD.out]
            simpa using hown
          · intro g' hg'
            have : g2 = g' := by simpa [Value.ownBlock] using hg'
            subst this
            exact ⟨hat.imp id (fun h => Nat.le_of_eq h.symm), hlt2⟩
        case measure => simp [intOf]; omega
    · have hlt' : ¬ (k : Int) < 4 := by omega
      have h4 : k = 4 := by omega
      have HO := Lib.hid (show wr.ownsRow w.heap.size 101 3 u7 (descs ws (f + c * 4) c 4).length (descs ws (f + c * 4) c 4).flatten by rw [← h4]; exact HO.out)
      have hle := descs_le ws (f + c * 4) c 4
      have HD := Lib.hid (D3.descs ws (f + c * 4) c 4)
      clear hown hK
      have hx2 : FdsAt (lo L u7) wr x a f := ⟨.inl HX.out.1, HK.out.blk HX.out.2 HX.out.1⟩
      go_wp2_with (fail)
      refine (list_ok hx2 hA (by omega) c H0.out hf HL.out HC.out).mono ?_
      rintro e w5 ⟨v5, rfl, hown5, hP5, hK5⟩
      have hx5 := hx2.keep hK5
      have HO5 := Lib.hid (own_keep HO.out hK5)
      have hs := Lib.hid (same_descs HD.out v5 u7 w5 (Sl.ofOwn hown5) (Sl.ofOwn HO5.out) (by omega))
      have hsp := Lib.hid (fun d => spoil_descs (w := w5.drewN d) (L := lo L u7) (v := v5) HD.out hown5 (by omega) hA.bd (hP5.drewN d))
      go_wp2_with (go_at_call 55; refine hs.out.mono ?_; rintro e w6 ⟨rfl, d6, rfl⟩)
      refine (hsp.out d6).mono ?_
      rintro e w7 ⟨rfl, hP7, hK7⟩
      have hK57 := hK5.trans (hK7.undrewN)
      have hx7 := hx5.keep hK7.undrewN
      clear hs hsp hP5
      go_wp2_with (fail)
      refine (list_ok hx7 hP7 (by omega) c H0.out hf HL.out HC.out).mono ?_
      rintro e w8 ⟨v8, rfl, hown8, hP8, hK8⟩
      have HO8 := Lib.hid (own_keep (own_keep HO5.out hK7.undrewN) hK8)
      have hs := Lib.hid (same_descs HD.out v8 u7 w8 (Sl.ofOwn hown8) (Sl.ofOwn HO8.out) (by omega))
      go_wp2_with (go_at_call 55; refine hs.out.mono ?_; rintro e w9 ⟨rfl, d9, rfl⟩)
      go_ret
      exact ⟨rfl, ((hP8.sub fun _ h => .inl (.inl h)).drewN d9).mono (by omega), HK.out.trans (((hK57.trans hK8).drewN d9).sub fun _ h => .inl h)⟩
end
end Go.Proofs.Ytpmgfjglkbbhgaa
