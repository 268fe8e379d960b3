
/- law0: CopyAccesss, LendAccesss, KeptAccesss. -/
import Derived.Test.YtokldnmhhhaalaaTrc3
import Derived.Test.YtokldnmhhhaalaaAccs
namespace Go.Proofs.Ytokldnmhhhaalaa
open Go.RowKit
set_option maxHeartbeats 1000000

theorem accs_one (t : List Acc) : ∀ u ∈ encAccs t, u.oneCell' = true := by
  intro u hu
  obtain ⟨x, _, hx⟩ := List.mem_flatMap.1 hu
  rcases List.mem_cons.1 hx with rfl | hx
  · rfl
  · rcases List.mem_cons.1 hx with rfl | hx
    · rfl
    · cases hx
theorem info_acc2 : ∃ i z, Try.prog.info? 73 = some i ∧ i.zero = some z ∧ i.size = 2 ∧ i.bytes = 16 ∧ z.cells.size = 2 := by
  have h : ((Try.prog.info? 73).map fun i => (i.size, i.bytes, i.zero.map (·.cells.size))) = some (2, 16, some 2) := by kernel_rfl
  rcases hi : Try.prog.info? 73 with _ | i
  · rw [hi] at h; cases h
  · rw [hi] at h
    have h := Option.some.inj h
    have h1 : i.size = 2 := congrArg (·.1) h
    have h2 : i.bytes = 16 := congrArg (·.2.1) h
    have h3 : i.zero.map (·.cells.size) = some 2 := congrArg (·.2.2) h
    rcases hz : i.zero with _ | z
    · rw [hz] at h3; cases h3
    · rw [hz] at h3
      exact ⟨i, z, rfl, hz, h1, h2, Option.some.inj h3⟩
theorem Sl.reads {w : World} {size n : Nat} {A : Option Addr} {cap : Nat} {xs : List Value} (h : Sl w size (.slice A n cap) n xs) (hs : 0 < size) : Reads w w.heap.size size A n xs := by
  obtain ⟨h1, A', cap', he, _, h2⟩ := h
  cases he
  refine ⟨h1, fun hn => ?_⟩
  obtain ⟨g, off, rfl, hc⟩ := h2 hn
  have h0 : 0 < xs.length := by rw [h1]; exact Nat.mul_pos hn hs
  have := hc 0 xs[0] (by simp [h0])
  exact ⟨_, rfl, World.block_lt_of_cell? w _ this, fun j u hu => by rw [Addr.add_lit]; exact hc j u hu⟩

theorem copy_calls {w : World} {A : Option Addr} {len cap : Nat} (t : List Acc) (h : Sl w 2 (.slice A len cap) len (encAccs t)) (ht : t.length = len) (hl : t.length ≤ 8796093022208) :
    Calls Try.prog 54 #[.slice A len cap] w fun e w' => ∃ v, e = .returned v ∧ w'.ownsRow w.heap.size 73 2 v len (encAccs t) ∧ Below w.heap.size w w' := by
  obtain ⟨di, dz, hi, hz0, hz1, hz2, hz3⟩ := info_acc2
  have HR := Lib.hid (h.reads (by omega))
  have OWN0 := Lib.hid (show (w.alloc (.cells #[] 73)).ownsRow w.heap.size 73 2 (.slice (some ⟨w.heap.size, 0, none⟩) 0 0) 0 [] from
    ⟨rfl, .inr ⟨w.heap.size, 0, #[], rfl, Nat.le_refl _, heap_alloc_new w _, Nat.le_refl _, Nat.zero_le _, rfl, rfl⟩⟩)
  clear h
  go_enter Try.func54, Try.ntmps54
  go_wp2_with (first | (at_builtin; refine wpList_append_any _ rfl (.tmp 3) (.tmp 4) 54 rfl w.heap.size 73 di dz 2 16 Try.underlying54 hi hz0 hz1 hz2 hz3 (by omega) (.slice (some ⟨w.heap.size, 0, none⟩) 0 0) 0 [] rfl OWN0.out w.heap.size A len cap (encAccs t) rfl (HR.out.alloc (Nat.le_refl _) _) (accs_one t) (by simp only [maxLen]; omega) (by omega) (by simp) ?_; intro v1 w1 hown1 hg1 hat1))
  go_ret
  refine ⟨_, rfl, by simpa using hown1, ((Below.refl _ _).alloc (Nat.le_refl _) _).grown hg1 (by simp) fun g hg => ?_⟩
  have : w.heap.size = g := by simpa [Value.ownBlock] using hg
  omega
theorem own_cap {w : World} {base g n c size : Nat} {e : TypeId} {xs : List Value} (h : w.ownsRow base e size (.slice (some ⟨g, 0, none⟩) n c) n xs) : n ≤ c ∧ c ≤ 9223372036854775807 := by
  rcases h.2 with ⟨h, _⟩ | ⟨g', cap, cur, hv, _, _, h1, h2, _⟩
  · cases h
  · cases hv
    unfold maxLen at h2
    omega
def marks : List Value := [.int .i64 77777, .bool false, .int .i64 77777, .bool false]
set_option maxRecDepth 100000 in
theorem lend_calls {w : World} {A : Option Addr} {len cap : Nat} (t : List Acc) (h : Sl w 2 (.slice A len cap) len (encAccs t)) (ht : t.length = len) (hl : t.length ≤ 8796093021952) :
    Calls Try.prog 29 #[.slice A len cap] w fun e w' => ∃ g c, e = .returned (.slice (some ⟨g, 0, none⟩) len c) ∧ w'.ownsRow w.heap.size 73 2 (.slice (some ⟨g, 0, none⟩) (len + 2) c) (len + 2) (encAccs t ++ marks) ∧ Below w.heap.size w w' := by
  obtain ⟨di, dz, hi, hz0, hz1, hz2, hz3⟩ := info_acc2
  have HC := Lib.hid (copy_calls t h ht (by omega))
  clear h
  go_enter Try.func29, Try.ntmps29
  go_wp2_with (fail)
  refine HC.out.mono ?_
  rintro e w1 ⟨v, rfl, hown, hB⟩
  have HO := Lib.hid hown
  have HB := Lib.hid hB
  clear hown hB HC
  go_wp2_with (first | (at_builtin; refine wpList_append_lies _ rfl (.tmp 5) (.tmp 8) 54 rfl w.heap.size 73 di dz 2 16 Try.underlying54 hi hz0 hz1 hz2 hz3 (by omega) v _ _ rfl (HO.out.alloc (Obj.cells #[.int .i64 77777, .bool false, .int .i64 77777, .bool false] 73)) ⟨w1.heap.size, 0, none⟩ 2 2 [.int .i64 77777, .bool false, .int .i64 77777, .bool false] rfl rfl (World.news_of_block (heap_alloc_new _ _)) (accs_one [(77777, false), (77777, false)]) (by decide) (by simp only [maxLen]; omega) (by omega) (by have := HB.out.size; simp; omega) _ rfl ?_; intro g c2 w5 hown hgrow hat hlt; have hcp := own_cap hown; have HOW := Lib.hid hown; have HG := Lib.hid hgrow; clear hown hgrow hat hlt))
  go_ret
  have hs := HB.out.size
  refine ⟨g, c2, rfl, by simpa [marks] using HOW.out, (HB.out.alloc hs _).grown HG.out (by simp; omega) fun g' hg' => own_geT HO.out hg'⟩

/-- The lent row's parts. -/
theorem lent_sl {w : World} {base g n c : Nat} {e : TypeId} (t : List Acc) (ht : t.length = n) (h : w.ownsRow base e 2 (.slice (some ⟨g, 0, none⟩) (n + 2) c) (n + 2) (encAccs t ++ marks)) :
    Sl w 2 (.slice (some ⟨g, 0, none⟩) n c) n (encAccs t) := by
  have hc := own_cap h
  refine ⟨by rw [encAccs_length, ht], some ⟨g, 0, none⟩, c, rfl, by omega, fun _ => ⟨g, 0, rfl, fun j u hu => ?_⟩⟩
  have := h.cells (g := g) rfl j u (by rw [List.getElem?_append_left (List.getElem?_eq_some_iff.1 hu).1]; exact hu)
  rw [Addr.add_lit] at this
  exact this
theorem lent_mark {w : World} {base g n c : Nat} {e : TypeId} (t : List Acc) (ht : t.length = n) (h : w.ownsRow base e 2 (.slice (some ⟨g, 0, none⟩) (n + 2) c) (n + 2) (encAccs t ++ marks)) (j : Nat) (u : Value) (hj : marks[j]? = some u) : w.cell? ⟨g, n * 2 + j, none⟩ = some u := by
  have hl := encAccs_length t
  have := h.cells (g := g) rfl (n * 2 + j) u (by rw [List.getElem?_append_right (by omega), hl, ht, Nat.add_sub_cancel_left]; exact hj)
  rw [Addr.add_lit, Nat.zero_add] at this
  exact this
set_option maxRecDepth 100000 in
theorem kept_calls {w : World} {A : Option Addr} {len cap base g c : Nat} (t : List Acc) (h : Sl w 2 (.slice A len cap) len (encAccs t)) (ht : t.length = len) (hl : t.length ≤ 8796093022208) (ho : w.ownsRow base 73 2 (.slice (some ⟨g, 0, none⟩) (len + 2) c) (len + 2) (encAccs t ++ marks)) :
    Calls Try.prog 34 #[.slice (some ⟨g, 0, none⟩) len c, .slice A len cap] w fun e w' => e = .returned (.bool true) ∧ ∃ d, w' = w.drewN d := by
  have hcp := own_cap ho
  have q0 : w.cell? ⟨g, len * 2, none⟩ = _ := lent_mark t ht ho 0 _ rfl
  have q1 := lent_mark t ht ho 1 _ rfl
  have q2 := lent_mark t ht ho 2 _ rfl
  have q3 := lent_mark t ht ho 3 _ rfl
  have HS := Lib.hid (show Calls Try.prog 57 #[.slice (some ⟨g, 0, none⟩) len c, .slice A len cap] w fun e w' => e = .returned (.bool true) ∧ ∃ k, w' = w.drewN k by
    have h1 := lent_sl t ht ho
    subst ht
    exact same_trueL t _ _ w h1 h hl)
  have e1 : (len + 1) * 2 = len * 2 + 2 := by omega
  clear h ho
  rw [ht] at hl
  go_enter Try.func34, Try.ntmps34
  go_wp2_with (fail)
  refine HS.out.mono ?_
  rintro e w' ⟨rfl, d, rfl⟩
  go_wp2_with (fail)
  go_ret
  exact ⟨rfl, _, rfl⟩
end Go.Proofs.Ytokldnmhhhaalaa
