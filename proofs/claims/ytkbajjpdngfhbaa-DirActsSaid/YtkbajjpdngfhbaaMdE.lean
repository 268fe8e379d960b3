
/- law9: the model's act. -/
import Derived.Test.YtkbajjpdngfhbaaMdP
namespace Go.Proofs.Ytkbajjpdngfhbaa
open Go.RowKit
set_option maxHeartbeats 2000000
theorem DS.cnt4 {L : Nat → Prop} {w : World} {a d : Nat} {n m : Nat} {P : List (List Acc) → Prop} {f : Int} {D : List Ent} (h : DS L w d a f n m P D) {b : Nat} (hb : b < 8) : cntB D b ≤ 4 := by
  obtain ⟨ws, T, h1, h2, h3, h4⟩ := h
  rw [← cntB_perm h4, h3.cnt hb]
  rcases row_len (T b) with ⟨_, h⟩ | ⟨_, h⟩ <;> omega
theorem ok_ne {s : ByteArray} (h : ncheck s = 0) : (s.toList == (⟨#[]⟩ : ByteArray).toList) = false := by
  rw [beq_eq_false_iff_ne]
  intro e
  have : s = ⟨#[]⟩ := toList_inj e
  subst this
  have h8 : ncheck ⟨#[]⟩ = 800 := by kernel_rfl
  rw [h8] at h
  cases h
theorem fcnt_none {D : List Ent} (h : ∀ e ∈ D, ncheck e.1 = 0) (s : ByteArray) : fcnt D s ⟨#[]⟩ = cntB D (nbucket s) := by
  unfold fcnt cntB
  congr 1
  apply List.filter_congr
  intro e he
  rw [ok_ne (h e he)]
  rfl
theorem fcnt_other {D : List Ent} {s t : ByteArray} (h : nbucket t ≠ nbucket s) : fcnt D t s = cntB D (nbucket t) := by
  unfold fcnt cntB
  congr 1
  apply List.filter_congr
  intro e _
  by_cases q : e.1 = s
  · rw [q]
    have : (nbucket s == nbucket t) = false := beq_eq_false_iff_ne.2 (Ne.symm h)
    rw [this]
    simp
  · have : (e.1.toList == s.toList) = false := beq_eq_false_iff_ne.2 fun h => q (toList_inj h)
    rw [this]
    rfl
theorem fcnt_same {D : List Ent} {s t : ByteArray} {u : Nat} (hm : (s, u) ∈ D) (h : nbucket t = nbucket s) : fcnt D t s + 1 ≤ cntB D (nbucket t) := by
  unfold fcnt cntB
  induction D with
  | nil => cases hm
  | cons e D ih =>
    rw [List.filter_cons, List.filter_cons]
    rcases List.mem_cons.1 hm with rfl | hm
    · have h1 : (s.toList == s.toList) = true := by simp
      have h2 : (nbucket s == nbucket t) = true := by rw [h]; simp
      simp only [h1, h2, Bool.not_true, Bool.false_and, Bool.false_eq_true, if_false, if_true, List.length_cons]
      have : (D.filter fun e => !(e.1.toList == s.toList) && (nbucket e.1 == nbucket t)).length ≤ (D.filter fun e => nbucket e.1 == nbucket t).length := by
        rw [← List.filter_filter]
        exact List.length_filter_le _ _
      omega
    · have := ih hm
      by_cases q : (nbucket e.1 == nbucket t) = true
      · by_cases q2 : (e.1.toList == s.toList) = true
        · simp only [q, q2, Bool.not_true, Bool.false_and, Bool.false_eq_true, if_false, if_true, List.length_cons]
          omega
        · have q2 := Bool.eq_false_iff.2 q2
          simp only [q, q2, Bool.not_false, Bool.true_and, if_true, List.length_cons]
          omega
      · have q := Bool.eq_false_iff.2 q
        simp only [q, Bool.and_false, Bool.false_eq_true, if_false]
        exact this
def actV (kind core num : Int) (name tn : ByteArray) : Value := .agg #[.int .i64 kind, .int .i64 core, .int .i64 num, .string name, .string tn]
/-- What the model's act leaves. -/
def ActP (w w' : World) (mb : Nat) (D D' : List Ent) : Prop :=
  (D' = D ∧ Below w.heap.size w w') ∨ (∃ v', Blk w' mb 30 #[v'] ∧ w'.ownsRow w.heap.size 54 2 v' D'.length (D'.flatMap encE) ∧ Keeps (mOff w mb) w w')
theorem AtM.yes {D : List Ent} {s : ByteArray} {r : Int} (h : AtM D s r) {u : Nat} (hm : (s, u) ∈ D) : ∃ (k : Nat) (hk : k < D.length), r = (k : Int) ∧ D[k].1 = s := by
  rcases h with ⟨k, e, h1, h2, h3⟩ | ⟨_, h⟩
  · obtain ⟨hk, h4⟩ := List.getElem?_eq_some_iff.1 h2
    exact ⟨k, hk, h1, by rw [h4]; exact h3⟩
  · exact absurd rfl (h _ hm)
theorem AtM.no {D : List Ent} {s : ByteArray} {r : Int} (h : AtM D s r) (hn : ∀ u, (s, u) ∉ D) : r = -1 := by
  rcases h with ⟨k, e, h1, h2, h3⟩ | ⟨h, _⟩
  · have := List.mem_of_getElem? h2
    obtain ⟨e1, e2⟩ := e
    simp only at h3
    subst h3
    exact absurd this (hn e2)
  · exact h
theorem MdAt.drewN {w : World} {mb : Nat} {v : Value} {D : List Ent} (h : MdAt w mb v D) (k : Nat) : MdAt (w.drewN k) mb v D := h
theorem MdAt.below {w w' : World} {mb : Nat} {v : Value} {D : List Ent} (h : MdAt w mb v D) (hb : Below w.heap.size w w') : MdAt w' mb v D := ⟨blk_below hb h.1, h.2.below hb⟩
theorem mOff_trans {w W w' : World} {mb : Nat} (hb : Below w.heap.size w W) (hk : Keeps (mOff W mb) W w') : Keeps (mOff w mb) w w' := ((Keeps.ofBelow hb).sub fun _ h => h.1).trans (hk.sub fun _ h => ⟨Nat.lt_of_lt_of_le h.1 hb.size, h.2⟩)
theorem own_low {w : World} {b b' : Nat} {e : TypeId} {size k : Nat} {v : Value} {xs : List Value} (h : w.ownsRow b e size v k xs) (hb : b' ≤ b) : w.ownsRow b' e size v k xs := by
  refine ⟨h.1, ?_⟩
  rcases h.2 with h2 | ⟨g, cap, cur, hv, hg, rest⟩
  · exact .inl h2
  · exact .inr ⟨g, cap, cur, hv, by omega, rest⟩
theorem ok_size {D : List Ent} (h : ∀ e ∈ D, ncheck e.1 = 0) : ∀ e ∈ D, e.1.size ≤ 12 := fun e he => ncheck_size (h e he)
set_option maxRecDepth 1000000 in
theorem act_bad1 {w : World} {mb : Nat} {v : Value} {D : List Ent} (h : MdAt w mb v D) (hl : D.length ≤ 1000) (hz : ∀ e ∈ D, ncheck e.1 = 0) (kind core num : Int) (name tn : ByteArray) (hc : core < 0) :
    Calls Try.prog 16 #[.pointer (some ⟨mb, 0, none⟩), actV kind core num name tn] w fun r w' => r = .returned (.tuple #[.int .i64 0, .int .i64 900]) ∧ Below w.heap.size w w' := by
  unfold actV
  generalize ho : Obj.cells #[Value.int IntKind.i64 kind, Value.int IntKind.i64 core, Value.int IntKind.i64 num, Value.string name, Value.string tn] 32 = O
  have hX : Blk (w.alloc O) w.heap.size 32 #[.int .i64 kind, .int .i64 core, .int .i64 num, .string name, .string tn] := by subst ho; exact Blk.new _ _ _
  have x0 := hX.cell 0
  have x1 := hX.cell 1
  have x2 := hX.cell 2
  have x3 := hX.cell 3
  have x4 := hX.cell 4
  have HX := Lib.hid hX
  have HMB := Lib.hid h.1.lt
  have HM := Lib.hid (h.below (below_alloc w O))
  have HBL := Lib.hid (below_alloc w O)
  clear hX h
  go_enter Try.func16, Try.ntmps16
  go_wp2_with (fail)
  clear ho
  generalize w.alloc O = W1 at *
  go_ret2
  exact ⟨rfl, HBL.out⟩
set_option maxRecDepth 1000000 in
theorem act_bad2 {w : World} {mb : Nat} {v : Value} {D : List Ent} (h : MdAt w mb v D) (hl : D.length ≤ 1000) (hz : ∀ e ∈ D, ncheck e.1 = 0) (kind core num : Int) (name tn : ByteArray) (hc : ¬ core < 0) (hc' : (3 : Int) < core) :
    Calls Try.prog 16 #[.pointer (some ⟨mb, 0, none⟩), actV kind core num name tn] w fun r w' => r = .returned (.tuple #[.int .i64 0, .int .i64 900]) ∧ Below w.heap.size w w' := by
  unfold actV
  generalize ho : Obj.cells #[Value.int IntKind.i64 kind, Value.int IntKind.i64 core, Value.int IntKind.i64 num, Value.string name, Value.string tn] 32 = O
  have hX : Blk (w.alloc O) w.heap.size 32 #[.int .i64 kind, .int .i64 core, .int .i64 num, .string name, .string tn] := by subst ho; exact Blk.new _ _ _
  have x0 := hX.cell 0
  have x1 := hX.cell 1
  have x2 := hX.cell 2
  have x3 := hX.cell 3
  have x4 := hX.cell 4
  have HX := Lib.hid hX
  have HMB := Lib.hid h.1.lt
  have HM := Lib.hid (h.below (below_alloc w O))
  have HBL := Lib.hid (below_alloc w O)
  clear hX h
  go_enter Try.func16, Try.ntmps16
  go_wp2_with (fail)
  clear ho
  generalize w.alloc O = W1 at *
  go_ret2
  exact ⟨rfl, HBL.out⟩
set_option maxRecDepth 1000000 in
theorem act_bad3 {w : World} {mb : Nat} {v : Value} {D : List Ent} (h : MdAt w mb v D) (hl : D.length ≤ 1000) (hz : ∀ e ∈ D, ncheck e.1 = 0) (kind core num : Int) (name tn : ByteArray) (hc0 : 0 ≤ core) (hc1 : core < 4) (hn : ncheck name ≠ 0) :
    Calls Try.prog 16 #[.pointer (some ⟨mb, 0, none⟩), actV kind core num name tn] w fun r w' => r = .returned (.tuple #[.int .i64 0, .int .i64 900]) ∧ Below w.heap.size w w' := by
  have hc2 : ¬ core < 0 := by omega
  have hc3 : ¬ (3 : Int) < core := by omega
  unfold actV
  generalize ho : Obj.cells #[Value.int IntKind.i64 kind, Value.int IntKind.i64 core, Value.int IntKind.i64 num, Value.string name, Value.string tn] 32 = O
  have hX : Blk (w.alloc O) w.heap.size 32 #[.int .i64 kind, .int .i64 core, .int .i64 num, .string name, .string tn] := by subst ho; exact Blk.new _ _ _
  have x0 := hX.cell 0
  have x1 := hX.cell 1
  have x2 := hX.cell 2
  have x3 := hX.cell 3
  have x4 := hX.cell 4
  have HX := Lib.hid hX
  have HMB := Lib.hid h.1.lt
  have HM := Lib.hid (h.below (below_alloc w O))
  have HBL := Lib.hid (below_alloc w O)
  clear hX h
  have HCK := Lib.hid (fun W => rcheck_any name W)
  generalize ncheck name = cn at *
  go_enter Try.func16, Try.ntmps16
  go_wp2_with (fail)
  clear ho
  generalize w.alloc O = W1 at *
  refine (HCK.out _).mono ?_
  rintro e w' ⟨rfl, k1, rfl⟩
  go_wp2_with (fail)
  go_ret2
  exact ⟨rfl, ((Keeps.ofBelow HBL.out).drewN _).below fun _ h => h⟩
set_option maxRecDepth 1000000 in
theorem act_ins1 {w : World} {mb : Nat} {v : Value} {D : List Ent} (h : MdAt w mb v D) (hl : D.length ≤ 1000) (hz : ∀ e ∈ D, ncheck e.1 = 0) (kind core num : Int) (name tn : ByteArray) (hc0 : 0 ≤ core) (hc1 : core < 4) (hn : ncheck name = 0)(hk5 : kind < 5) (hv : num < 1) :
    Calls Try.prog 16 #[.pointer (some ⟨mb, 0, none⟩), actV kind core num name tn] w fun r w' => r = .returned (.tuple #[.int .i64 0, .int .i64 900]) ∧ Below w.heap.size w w' := by
  have hc2 : ¬ core < 0 := by omega
  have hc3 : ¬ (3 : Int) < core := by omega
  unfold actV
  generalize ho : Obj.cells #[Value.int IntKind.i64 kind, Value.int IntKind.i64 core, Value.int IntKind.i64 num, Value.string name, Value.string tn] 32 = O
  have hX : Blk (w.alloc O) w.heap.size 32 #[.int .i64 kind, .int .i64 core, .int .i64 num, .string name, .string tn] := by subst ho; exact Blk.new _ _ _
  have x0 := hX.cell 0
  have x1 := hX.cell 1
  have x2 := hX.cell 2
  have x3 := hX.cell 3
  have x4 := hX.cell 4
  have HX := Lib.hid hX
  have HMB := Lib.hid h.1.lt
  have HM := Lib.hid (h.below (below_alloc w O))
  have HBL := Lib.hid (below_alloc w O)
  clear hX h
  have HCK := Lib.hid (fun W => rcheck_any name W)
  rw [hn] at HCK
  go_enter Try.func16, Try.ntmps16
  go_wp2_with (fail)
  clear ho
  generalize w.alloc O = W1 at *
  refine (HCK.out _).mono ?_
  rintro e w' ⟨rfl, k1, rfl⟩
  go_wp2_with (fail)
  refine (mat_calls (HM.out.drewN k1) hl name).mono ?_
  rintro e w' ⟨⟨r, rfl, hat⟩, k2, rfl⟩
  rw [drewN2]
  go_wp2_with (fail)
  go_ret2
  exact ⟨rfl, ((Keeps.ofBelow HBL.out).drewN _).below fun _ h => h⟩
set_option maxRecDepth 1000000 in
theorem act_ins2 {w : World} {mb : Nat} {v : Value} {D : List Ent} (h : MdAt w mb v D) (hl : D.length ≤ 1000) (hz : ∀ e ∈ D, ncheck e.1 = 0) (kind core num : Int) (name tn : ByteArray) (hc0 : 0 ≤ core) (hc1 : core < 4) (hn : ncheck name = 0)(hk5 : kind < 5) (hv : ¬ num < 1) (hv2 : 2147483647 < num) :
    Calls Try.prog 16 #[.pointer (some ⟨mb, 0, none⟩), actV kind core num name tn] w fun r w' => r = .returned (.tuple #[.int .i64 0, .int .i64 900]) ∧ Below w.heap.size w w' := by
  have hc2 : ¬ core < 0 := by omega
  have hc3 : ¬ (3 : Int) < core := by omega
  unfold actV
  generalize ho : Obj.cells #[Value.int IntKind.i64 kind, Value.int IntKind.i64 core, Value.int IntKind.i64 num, Value.string name, Value.string tn] 32 = O
  have hX : Blk (w.alloc O) w.heap.size 32 #[.int .i64 kind, .int .i64 core, .int .i64 num, .string name, .string tn] := by subst ho; exact Blk.new _ _ _
  have x0 := hX.cell 0
  have x1 := hX.cell 1
  have x2 := hX.cell 2
  have x3 := hX.cell 3
  have x4 := hX.cell 4
  have HX := Lib.hid hX
  have HMB := Lib.hid h.1.lt
  have HM := Lib.hid (h.below (below_alloc w O))
  have HBL := Lib.hid (below_alloc w O)
  clear hX h
  have HCK := Lib.hid (fun W => rcheck_any name W)
  rw [hn] at HCK
  go_enter Try.func16, Try.ntmps16
  go_wp2_with (fail)
  clear ho
  generalize w.alloc O = W1 at *
  refine (HCK.out _).mono ?_
  rintro e w' ⟨rfl, k1, rfl⟩
  go_wp2_with (fail)
  refine (mat_calls (HM.out.drewN k1) hl name).mono ?_
  rintro e w' ⟨⟨r, rfl, hat⟩, k2, rfl⟩
  rw [drewN2]
  go_wp2_with (fail)
  go_ret2
  exact ⟨rfl, ((Keeps.ofBelow HBL.out).drewN _).below fun _ h => h⟩
set_option maxRecDepth 1000000 in
theorem act_ins3 {w : World} {mb : Nat} {v : Value} {D : List Ent} (h : MdAt w mb v D) (hl : D.length ≤ 1000) (hz : ∀ e ∈ D, ncheck e.1 = 0) (kind core num : Int) (name tn : ByteArray) (hc0 : 0 ≤ core) (hc1 : core < 4) (hn : ncheck name = 0)(hk5 : kind < 5) (hv : ¬ num < 1) (hv2 : ¬ 2147483647 < num) {u : Nat} (hm : (name, u) ∈ D) :
    Calls Try.prog 16 #[.pointer (some ⟨mb, 0, none⟩), actV kind core num name tn] w fun r w' => r = .returned (.tuple #[.int .i64 0, .int .i64 901]) ∧ Below w.heap.size w w' := by
  have hc2 : ¬ core < 0 := by omega
  have hc3 : ¬ (3 : Int) < core := by omega
  unfold actV
  generalize ho : Obj.cells #[Value.int IntKind.i64 kind, Value.int IntKind.i64 core, Value.int IntKind.i64 num, Value.string name, Value.string tn] 32 = O
  have hX : Blk (w.alloc O) w.heap.size 32 #[.int .i64 kind, .int .i64 core, .int .i64 num, .string name, .string tn] := by subst ho; exact Blk.new _ _ _
  have x0 := hX.cell 0
  have x1 := hX.cell 1
  have x2 := hX.cell 2
  have x3 := hX.cell 3
  have x4 := hX.cell 4
  have HX := Lib.hid hX
  have HMB := Lib.hid h.1.lt
  have HM := Lib.hid (h.below (below_alloc w O))
  have HBL := Lib.hid (below_alloc w O)
  clear hX h
  have HCK := Lib.hid (fun W => rcheck_any name W)
  rw [hn] at HCK
  go_enter Try.func16, Try.ntmps16
  go_wp2_with (fail)
  clear ho
  generalize w.alloc O = W1 at *
  refine (HCK.out _).mono ?_
  rintro e w' ⟨rfl, k1, rfl⟩
  go_wp2_with (fail)
  refine (mat_calls (HM.out.drewN k1) hl name).mono ?_
  rintro e w' ⟨⟨r, rfl, hat⟩, k2, rfl⟩
  rw [drewN2]
  obtain ⟨k, hk, rfl, hke⟩ := hat.yes hm
  have hk0 : (0 : Int) ≤ (k : Int) := by omega
  have hk1 : ¬ (k : Int) < 0 := by omega
  go_wp2_with (fail)
  go_ret2
  exact ⟨rfl, ((Keeps.ofBelow HBL.out).drewN _).below fun _ h => h⟩
set_option maxRecDepth 1000000 in
theorem act_ins4 {w : World} {mb : Nat} {v : Value} {D : List Ent} (h : MdAt w mb v D) (hl : D.length ≤ 1000) (hz : ∀ e ∈ D, ncheck e.1 = 0) (kind core num : Int) (name tn : ByteArray) (hc0 : 0 ≤ core) (hc1 : core < 4) (hn : ncheck name = 0)(hk5 : kind < 5) (hv : ¬ num < 1) (hv2 : ¬ 2147483647 < num) (hno : ∀ u, (name, u) ∉ D) (hf : 4 ≤ cntB D (nbucket name)) :
    Calls Try.prog 16 #[.pointer (some ⟨mb, 0, none⟩), actV kind core num name tn] w fun r w' => r = .returned (.tuple #[.int .i64 0, .int .i64 902]) ∧ Below w.heap.size w w' := by
  have hc2 : ¬ core < 0 := by omega
  have hc3 : ¬ (3 : Int) < core := by omega
  unfold actV
  generalize ho : Obj.cells #[Value.int IntKind.i64 kind, Value.int IntKind.i64 core, Value.int IntKind.i64 num, Value.string name, Value.string tn] 32 = O
  have hX : Blk (w.alloc O) w.heap.size 32 #[.int .i64 kind, .int .i64 core, .int .i64 num, .string name, .string tn] := by subst ho; exact Blk.new _ _ _
  have x0 := hX.cell 0
  have x1 := hX.cell 1
  have x2 := hX.cell 2
  have x3 := hX.cell 3
  have x4 := hX.cell 4
  have HX := Lib.hid hX
  have HMB := Lib.hid h.1.lt
  have HM := Lib.hid (h.below (below_alloc w O))
  have HBL := Lib.hid (below_alloc w O)
  clear hX h
  have HCK := Lib.hid (fun W => rcheck_any name W)
  rw [hn] at HCK
  go_enter Try.func16, Try.ntmps16
  go_wp2_with (fail)
  clear ho
  generalize w.alloc O = W1 at *
  refine (HCK.out _).mono ?_
  rintro e w' ⟨rfl, k1, rfl⟩
  go_wp2_with (fail)
  refine (mat_calls (HM.out.drewN k1) hl name).mono ?_
  rintro e w' ⟨⟨r, rfl, hat⟩, k2, rfl⟩
  rw [drewN2]
  obtain rfl := hat.no hno
  have HF := Lib.hid (mfull_calls (HM.out.drewN (k1 + k2)) hl (ok_size hz) name ⟨#[]⟩ (ncheck_size hn))
  rw [fcnt_none hz, decide_eq_true (by omega : (4 : Int) ≤ (cntB D (nbucket name) : Nat))] at HF
  go_wp2_with (fail)
  refine HF.out.mono ?_
  rintro e w' ⟨rfl, k3, rfl⟩
  go_wp2_with (fail)
  go_ret2
  exact ⟨rfl, ((Keeps.ofBelow HBL.out).drewN _).below fun _ h => h⟩
set_option maxRecDepth 1000000 in
theorem act_ins5 {w : World} {mb : Nat} {v : Value} {D : List Ent} (h : MdAt w mb v D) (hl : D.length ≤ 1000) (hz : ∀ e ∈ D, ncheck e.1 = 0) (kind core num : Int) (name tn : ByteArray) (hc0 : 0 ≤ core) (hc1 : core < 4) (hn : ncheck name = 0)(hk5 : kind < 5) (hv : ¬ num < 1) (hv2 : ¬ 2147483647 < num) (hno : ∀ u, (name, u) ∉ D) (hf : cntB D (nbucket name) < 4) :
    Calls Try.prog 16 #[.pointer (some ⟨mb, 0, none⟩), actV kind core num name tn] w fun r w' => r = .returned (.tuple #[.int .i64 0, .int .i64 0]) ∧ ActP w w' mb D (putF D (name, num.toNat)) := by
  have hc2 : ¬ core < 0 := by omega
  have hc3 : ¬ (3 : Int) < core := by omega
  unfold actV
  generalize ho : Obj.cells #[Value.int IntKind.i64 kind, Value.int IntKind.i64 core, Value.int IntKind.i64 num, Value.string name, Value.string tn] 32 = O
  have hX : Blk (w.alloc O) w.heap.size 32 #[.int .i64 kind, .int .i64 core, .int .i64 num, .string name, .string tn] := by subst ho; exact Blk.new _ _ _
  have x0 := hX.cell 0
  have x1 := hX.cell 1
  have x2 := hX.cell 2
  have x3 := hX.cell 3
  have x4 := hX.cell 4
  have HX := Lib.hid hX
  have HMB := Lib.hid h.1.lt
  have HM := Lib.hid (h.below (below_alloc w O))
  have HBL := Lib.hid (below_alloc w O)
  clear hX h
  have HCK := Lib.hid (fun W => rcheck_any name W)
  rw [hn] at HCK
  go_enter Try.func16, Try.ntmps16
  go_wp2_with (fail)
  clear ho
  generalize w.alloc O = W1 at *
  refine (HCK.out _).mono ?_
  rintro e w' ⟨rfl, k1, rfl⟩
  go_wp2_with (fail)
  refine (mat_calls (HM.out.drewN k1) hl name).mono ?_
  rintro e w' ⟨⟨r, rfl, hat⟩, k2, rfl⟩
  rw [drewN2]
  obtain rfl := hat.no hno
  have HF := Lib.hid (mfull_calls (HM.out.drewN (k1 + k2)) hl (ok_size hz) name ⟨#[]⟩ (ncheck_size hn))
  rw [fcnt_none hz, decide_eq_false (by omega : ¬ (4 : Int) ≤ (cntB D (nbucket name) : Nat))] at HF
  go_wp2_with (fail)
  refine HF.out.mono ?_
  rintro e w' ⟨rfl, k3, rfl⟩
  rw [drewN2]
  have hnum : (num.toNat : Int) = num := by omega
  have HP := mput_calls (HM.out.drewN (k1 + k2 + k3)) hl (ok_size hz) (name, num.toNat) (ncheck_size hn)
  simp only [hnum] at HP
  have HP := Lib.hid HP
  go_wp2_with (fail)
  refine HP.out.mono ?_
  rintro e w5 ⟨rfl, v', hb5, ho5, hk5'⟩
  go_wp2_with (fail)
  go_ret2
  have hBD : Below w.heap.size w (W1.drewN (k1 + k2 + k3)) := ((Keeps.ofBelow HBL.out).drewN _).below fun _ h => h
  exact ⟨rfl, .inr ⟨v', hb5, own_low ho5 (Nat.le_trans hBD.size (Nat.le_succ _)), mOff_trans hBD hk5'⟩⟩
set_option maxRecDepth 1000000 in
theorem act_rem1 {w : World} {mb : Nat} {v : Value} {D : List Ent} (h : MdAt w mb v D) (hl : D.length ≤ 1000) (hz : ∀ e ∈ D, ncheck e.1 = 0) (kind core num : Int) (name tn : ByteArray) (hc0 : 0 ≤ core) (hc1 : core < 4) (hn : ncheck name = 0)(hk5 : ¬ kind < 5) (hk7 : kind < 7) (hno : ∀ u, (name, u) ∉ D) :
    Calls Try.prog 16 #[.pointer (some ⟨mb, 0, none⟩), actV kind core num name tn] w fun r w' => r = .returned (.tuple #[.int .i64 0, .int .i64 903]) ∧ Below w.heap.size w w' := by
  have hc2 : ¬ core < 0 := by omega
  have hc3 : ¬ (3 : Int) < core := by omega
  have q7 : (kind == 7) = false := beq_eq_false_iff_ne.2 (by omega)
  have q8 : (kind == 8) = false := beq_eq_false_iff_ne.2 (by omega)
  unfold actV
  generalize ho : Obj.cells #[Value.int IntKind.i64 kind, Value.int IntKind.i64 core, Value.int IntKind.i64 num, Value.string name, Value.string tn] 32 = O
  have hX : Blk (w.alloc O) w.heap.size 32 #[.int .i64 kind, .int .i64 core, .int .i64 num, .string name, .string tn] := by subst ho; exact Blk.new _ _ _
  have x0 := hX.cell 0
  have x1 := hX.cell 1
  have x2 := hX.cell 2
  have x3 := hX.cell 3
  have x4 := hX.cell 4
  have HX := Lib.hid hX
  have HMB := Lib.hid h.1.lt
  have HM := Lib.hid (h.below (below_alloc w O))
  have HBL := Lib.hid (below_alloc w O)
  clear hX h
  have HCK := Lib.hid (fun W => rcheck_any name W)
  rw [hn] at HCK
  go_enter Try.func16, Try.ntmps16
  go_wp2_with (fail)
  clear ho
  generalize w.alloc O = W1 at *
  refine (HCK.out _).mono ?_
  rintro e w' ⟨rfl, k1, rfl⟩
  go_wp2_with (fail)
  refine (mat_calls (HM.out.drewN k1) hl name).mono ?_
  rintro e w' ⟨⟨r, rfl, hat⟩, k2, rfl⟩
  rw [drewN2]
  obtain rfl := hat.no hno
  go_wp2_with (fail)
  go_ret2
  exact ⟨rfl, ((Keeps.ofBelow HBL.out).drewN _).below fun _ h => h⟩
set_option maxRecDepth 1000000 in
theorem act_rem2 {w : World} {mb : Nat} {v : Value} {D : List Ent} (h : MdAt w mb v D) (hl : D.length ≤ 1000) (hz : ∀ e ∈ D, ncheck e.1 = 0) (kind core num : Int) (name tn : ByteArray) (hc0 : 0 ≤ core) (hc1 : core < 4) (hn : ncheck name = 0)(hk5 : ¬ kind < 5) (hk7 : kind < 7) {u : Nat} (hm : (name, u) ∈ D) :
    Calls Try.prog 16 #[.pointer (some ⟨mb, 0, none⟩), actV kind core num name tn] w fun r w' => r = .returned (.tuple #[.int .i64 0, .int .i64 0]) ∧ ∃ (k : Nat) (hk : k < D.length), D[k].1 = name ∧ ActP w w' mb D (dropT D k D.length) := by
  have hc2 : ¬ core < 0 := by omega
  have hc3 : ¬ (3 : Int) < core := by omega
  have q7 : (kind == 7) = false := beq_eq_false_iff_ne.2 (by omega)
  have q8 : (kind == 8) = false := beq_eq_false_iff_ne.2 (by omega)
  unfold actV
  generalize ho : Obj.cells #[Value.int IntKind.i64 kind, Value.int IntKind.i64 core, Value.int IntKind.i64 num, Value.string name, Value.string tn] 32 = O
  have hX : Blk (w.alloc O) w.heap.size 32 #[.int .i64 kind, .int .i64 core, .int .i64 num, .string name, .string tn] := by subst ho; exact Blk.new _ _ _
  have x0 := hX.cell 0
  have x1 := hX.cell 1
  have x2 := hX.cell 2
  have x3 := hX.cell 3
  have x4 := hX.cell 4
  have HX := Lib.hid hX
  have HMB := Lib.hid h.1.lt
  have HM := Lib.hid (h.below (below_alloc w O))
  have HBL := Lib.hid (below_alloc w O)
  clear hX h
  have HCK := Lib.hid (fun W => rcheck_any name W)
  rw [hn] at HCK
  go_enter Try.func16, Try.ntmps16
  go_wp2_with (fail)
  clear ho
  generalize w.alloc O = W1 at *
  refine (HCK.out _).mono ?_
  rintro e w' ⟨rfl, k1, rfl⟩
  go_wp2_with (fail)
  refine (mat_calls (HM.out.drewN k1) hl name).mono ?_
  rintro e w' ⟨⟨r, rfl, hat⟩, k2, rfl⟩
  rw [drewN2]
  obtain ⟨k, hk, rfl, hke⟩ := hat.yes hm
  have hk0 : (0 : Int) ≤ (k : Int) := by omega
  have hk1 : ¬ (k : Int) < 0 := by omega
  have HP := Lib.hid (mdrop_calls (HM.out.drewN (k1 + k2)) hl (k : Int))
  go_wp2_with (fail)
  refine HP.out.mono ?_
  rintro e w5 ⟨rfl, v', hb5, ho5, hk5'⟩
  go_wp2_with (fail)
  go_ret2
  have hBD : Below w.heap.size w (W1.drewN (k1 + k2)) := ((Keeps.ofBelow HBL.out).drewN _).below fun _ h => h
  exact ⟨rfl, k, hk, hke, .inr ⟨v', hb5, own_low ho5 hBD.size, mOff_trans hBD hk5'⟩⟩
set_option maxRecDepth 1000000 in
theorem act_fnd1 {w : World} {mb : Nat} {v : Value} {D : List Ent} (h : MdAt w mb v D) (hl : D.length ≤ 1000) (hz : ∀ e ∈ D, ncheck e.1 = 0) (kind core num : Int) (name tn : ByteArray) (hc0 : 0 ≤ core) (hc1 : core < 4) (hn : ncheck name = 0)(hk9 : 9 ≤ kind) (hno : ∀ u, (name, u) ∉ D) :
    Calls Try.prog 16 #[.pointer (some ⟨mb, 0, none⟩), actV kind core num name tn] w fun r w' => r = .returned (.tuple #[.int .i64 0, .int .i64 903]) ∧ Below w.heap.size w w' := by
  have hc2 : ¬ core < 0 := by omega
  have hc3 : ¬ (3 : Int) < core := by omega
  have hk5 : ¬ kind < 5 := by omega
  have hk7 : ¬ kind < 7 := by omega
  have q7 : (kind == 7) = false := beq_eq_false_iff_ne.2 (by omega)
  have q8 : (kind == 8) = false := beq_eq_false_iff_ne.2 (by omega)
  unfold actV
  generalize ho : Obj.cells #[Value.int IntKind.i64 kind, Value.int IntKind.i64 core, Value.int IntKind.i64 num, Value.string name, Value.string tn] 32 = O
  have hX : Blk (w.alloc O) w.heap.size 32 #[.int .i64 kind, .int .i64 core, .int .i64 num, .string name, .string tn] := by subst ho; exact Blk.new _ _ _
  have x0 := hX.cell 0
  have x1 := hX.cell 1
  have x2 := hX.cell 2
  have x3 := hX.cell 3
  have x4 := hX.cell 4
  have HX := Lib.hid hX
  have HMB := Lib.hid h.1.lt
  have HM := Lib.hid (h.below (below_alloc w O))
  have HBL := Lib.hid (below_alloc w O)
  clear hX h
  have HCK := Lib.hid (fun W => rcheck_any name W)
  rw [hn] at HCK
  go_enter Try.func16, Try.ntmps16
  go_wp2_with (fail)
  clear ho
  generalize w.alloc O = W1 at *
  refine (HCK.out _).mono ?_
  rintro e w' ⟨rfl, k1, rfl⟩
  go_wp2_with (fail)
  refine (mat_calls (HM.out.drewN k1) hl name).mono ?_
  rintro e w' ⟨⟨r, rfl, hat⟩, k2, rfl⟩
  rw [drewN2]
  obtain rfl := hat.no hno
  go_wp2_with (fail)
  go_ret2
  exact ⟨rfl, ((Keeps.ofBelow HBL.out).drewN _).below fun _ h => h⟩
set_option maxRecDepth 1000000 in
theorem act_fnd2 {w : World} {mb : Nat} {v : Value} {D : List Ent} (h : MdAt w mb v D) (hl : D.length ≤ 1000) (hz : ∀ e ∈ D, ncheck e.1 = 0) (kind core num : Int) (name tn : ByteArray) (hc0 : 0 ≤ core) (hc1 : core < 4) (hn : ncheck name = 0)(hk9 : 9 ≤ kind) {u : Nat} (hm : (name, u) ∈ D) :
    Calls Try.prog 16 #[.pointer (some ⟨mb, 0, none⟩), actV kind core num name tn] w fun r w' => ∃ (k : Nat) (hk : k < D.length), r = .returned (.tuple #[.int .i64 D[k].2, .int .i64 0]) ∧ D[k].1 = name ∧ Below w.heap.size w w' := by
  have hc2 : ¬ core < 0 := by omega
  have hc3 : ¬ (3 : Int) < core := by omega
  have hk5 : ¬ kind < 5 := by omega
  have hk7 : ¬ kind < 7 := by omega
  have q7 : (kind == 7) = false := beq_eq_false_iff_ne.2 (by omega)
  have q8 : (kind == 8) = false := beq_eq_false_iff_ne.2 (by omega)
  unfold actV
  generalize ho : Obj.cells #[Value.int IntKind.i64 kind, Value.int IntKind.i64 core, Value.int IntKind.i64 num, Value.string name, Value.string tn] 32 = O
  have hX : Blk (w.alloc O) w.heap.size 32 #[.int .i64 kind, .int .i64 core, .int .i64 num, .string name, .string tn] := by subst ho; exact Blk.new _ _ _
  have x0 := hX.cell 0
  have x1 := hX.cell 1
  have x2 := hX.cell 2
  have x3 := hX.cell 3
  have x4 := hX.cell 4
  have HX := Lib.hid hX
  have HMB := Lib.hid h.1.lt
  have HM := Lib.hid (h.below (below_alloc w O))
  have HBL := Lib.hid (below_alloc w O)
  clear hX h
  have HCK := Lib.hid (fun W => rcheck_any name W)
  rw [hn] at HCK
  go_enter Try.func16, Try.ntmps16
  go_wp2_with (fail)
  clear ho
  generalize w.alloc O = W1 at *
  refine (HCK.out _).mono ?_
  rintro e w' ⟨rfl, k1, rfl⟩
  go_wp2_with (fail)
  refine (mat_calls (HM.out.drewN k1) hl name).mono ?_
  rintro e w' ⟨⟨r, rfl, hat⟩, k2, rfl⟩
  rw [drewN2]
  obtain ⟨k, hk, rfl, hke⟩ := hat.yes hm
  have hk0 : (0 : Int) ≤ (k : Int) := by omega
  have hk1 : ¬ (k : Int) < 0 := by omega
  obtain ⟨_, A, cap, rfl, hcp, _⟩ := HM.out.2
  obtain ⟨g, off, rfl, q1, q2⟩ := HM.out.2.cells2 hk
  have c0 : W1.cell? ⟨mb, 0, none⟩ = some (.slice (some ⟨g, off, none⟩) D.length cap) := HM.out.1.cell 0
  have hkl : (k : Int) < (D.length : Int) := by omega
  obtain ⟨uv, huv⟩ : ∃ uv : Int, (D[k].2 : Int) = uv := ⟨_, rfl⟩
  rw [huv] at q2
  have HU := Lib.hid huv
  have HKE := Lib.hid hke
  clear q1 huv hke
  go_wp2_with (fail)
  go_ret2
  exact ⟨k, hk, by rw [HU.out]; rfl, HKE.out, ((Keeps.ofBelow HBL.out).drewN _).below fun _ h => h⟩
set_option maxRecDepth 1000000 in
theorem act_mov1 {w : World} {mb : Nat} {v : Value} {D : List Ent} (h : MdAt w mb v D) (hl : D.length ≤ 1000) (hz : ∀ e ∈ D, ncheck e.1 = 0) (kind core num : Int) (name tn : ByteArray) (hc0 : 0 ≤ core) (hc1 : core < 4) (hn : ncheck name = 0)(hk7 : kind = 7 ∨ kind = 8) (ht : ncheck tn ≠ 0) :
    Calls Try.prog 16 #[.pointer (some ⟨mb, 0, none⟩), actV kind core num name tn] w fun r w' => r = .returned (.tuple #[.int .i64 0, .int .i64 900]) ∧ Below w.heap.size w w' := by
  have hc2 : ¬ core < 0 := by omega
  have hc3 : ¬ (3 : Int) < core := by omega
  have hk5 : ¬ kind < 5 := by omega
  have hk78 : (kind == 7) = true ∨ ((kind == 7) = false ∧ (kind == 8) = true) := by rcases hk7 with rfl | rfl <;> simp
  unfold actV
  generalize ho : Obj.cells #[Value.int IntKind.i64 kind, Value.int IntKind.i64 core, Value.int IntKind.i64 num, Value.string name, Value.string tn] 32 = O
  have hX : Blk (w.alloc O) w.heap.size 32 #[.int .i64 kind, .int .i64 core, .int .i64 num, .string name, .string tn] := by subst ho; exact Blk.new _ _ _
  have x0 := hX.cell 0
  have x1 := hX.cell 1
  have x2 := hX.cell 2
  have x3 := hX.cell 3
  have x4 := hX.cell 4
  have HX := Lib.hid hX
  have HMB := Lib.hid h.1.lt
  have HM := Lib.hid (h.below (below_alloc w O))
  have HBL := Lib.hid (below_alloc w O)
  clear hX h
  have HCK := Lib.hid (fun W => rcheck_any name W)
  rw [hn] at HCK
  go_enter Try.func16, Try.ntmps16
  go_wp2_with (fail)
  clear ho
  generalize w.alloc O = W1 at *
  refine (HCK.out _).mono ?_
  rintro e w' ⟨rfl, k1, rfl⟩
  go_wp2_with (fail)
  refine (mat_calls (HM.out.drewN k1) hl name).mono ?_
  rintro e w' ⟨⟨r, rfl, hat⟩, k2, rfl⟩
  rw [drewN2]
  have HCT := Lib.hid (fun W => rcheck_any tn W)
  generalize ncheck tn = ct at *
  rcases hk78 with hk78 | ⟨hk78, hk8⟩
  all_goals (
    go_wp2_with (fail)
    refine (HCT.out _).mono ?_
    rintro e w' ⟨rfl, k3, rfl⟩
    go_wp2_with (fail)
    go_ret2
    exact ⟨rfl, ((Keeps.ofBelow HBL.out).drewN _).below fun _ h => h⟩)
set_option maxRecDepth 1000000 in
theorem act_mov2 {w : World} {mb : Nat} {v : Value} {D : List Ent} (h : MdAt w mb v D) (hl : D.length ≤ 1000) (hz : ∀ e ∈ D, ncheck e.1 = 0) (kind core num : Int) (name tn : ByteArray) (hc0 : 0 ≤ core) (hc1 : core < 4) (hn : ncheck name = 0)(hk7 : kind = 7 ∨ kind = 8) (ht : ncheck tn = 0) (hno : ∀ u, (name, u) ∉ D) :
    Calls Try.prog 16 #[.pointer (some ⟨mb, 0, none⟩), actV kind core num name tn] w fun r w' => r = .returned (.tuple #[.int .i64 0, .int .i64 903]) ∧ Below w.heap.size w w' := by
  have hc2 : ¬ core < 0 := by omega
  have hc3 : ¬ (3 : Int) < core := by omega
  have hk5 : ¬ kind < 5 := by omega
  have hk78 : (kind == 7) = true ∨ ((kind == 7) = false ∧ (kind == 8) = true) := by rcases hk7 with rfl | rfl <;> simp
  unfold actV
  generalize ho : Obj.cells #[Value.int IntKind.i64 kind, Value.int IntKind.i64 core, Value.int IntKind.i64 num, Value.string name, Value.string tn] 32 = O
  have hX : Blk (w.alloc O) w.heap.size 32 #[.int .i64 kind, .int .i64 core, .int .i64 num, .string name, .string tn] := by subst ho; exact Blk.new _ _ _
  have x0 := hX.cell 0
  have x1 := hX.cell 1
  have x2 := hX.cell 2
  have x3 := hX.cell 3
  have x4 := hX.cell 4
  have HX := Lib.hid hX
  have HMB := Lib.hid h.1.lt
  have HM := Lib.hid (h.below (below_alloc w O))
  have HBL := Lib.hid (below_alloc w O)
  clear hX h
  have HCK := Lib.hid (fun W => rcheck_any name W)
  rw [hn] at HCK
  go_enter Try.func16, Try.ntmps16
  go_wp2_with (fail)
  clear ho
  generalize w.alloc O = W1 at *
  refine (HCK.out _).mono ?_
  rintro e w' ⟨rfl, k1, rfl⟩
  go_wp2_with (fail)
  refine (mat_calls (HM.out.drewN k1) hl name).mono ?_
  rintro e w' ⟨⟨r, rfl, hat⟩, k2, rfl⟩
  rw [drewN2]
  have HCT := Lib.hid (fun W => rcheck_any tn W)
  rw [ht] at HCT
  obtain rfl := hat.no hno
  rcases hk78 with hk78 | ⟨hk78, hk8⟩
  all_goals (
    go_wp2_with (fail)
    refine (HCT.out _).mono ?_
    rintro e w' ⟨rfl, k3, rfl⟩
    rw [drewN2]
    go_wp2_with (fail)
    go_ret2
    exact ⟨rfl, ((Keeps.ofBelow HBL.out).drewN _).below fun _ h => h⟩)
set_option maxRecDepth 1000000 in
theorem act_mov3 {w : World} {mb : Nat} {v : Value} {D : List Ent} (h : MdAt w mb v D) (hl : D.length ≤ 1000) (hz : ∀ e ∈ D, ncheck e.1 = 0) (kind core num : Int) (name tn : ByteArray) (hc0 : 0 ≤ core) (hc1 : core < 4) (hn : ncheck name = 0)(hk7 : kind = 7 ∨ kind = 8) (ht : ncheck tn = 0) {u v : Nat} (hm : (name, u) ∈ D) (hm2 : (tn, v) ∈ D) :
    Calls Try.prog 16 #[.pointer (some ⟨mb, 0, none⟩), actV kind core num name tn] w fun r w' => r = .returned (.tuple #[.int .i64 0, .int .i64 901]) ∧ Below w.heap.size w w' := by
  have hc2 : ¬ core < 0 := by omega
  have hc3 : ¬ (3 : Int) < core := by omega
  have hk5 : ¬ kind < 5 := by omega
  have hk78 : (kind == 7) = true ∨ ((kind == 7) = false ∧ (kind == 8) = true) := by rcases hk7 with rfl | rfl <;> simp
  unfold actV
  generalize ho : Obj.cells #[Value.int IntKind.i64 kind, Value.int IntKind.i64 core, Value.int IntKind.i64 num, Value.string name, Value.string tn] 32 = O
  have hX : Blk (w.alloc O) w.heap.size 32 #[.int .i64 kind, .int .i64 core, .int .i64 num, .string name, .string tn] := by subst ho; exact Blk.new _ _ _
  have x0 := hX.cell 0
  have x1 := hX.cell 1
  have x2 := hX.cell 2
  have x3 := hX.cell 3
  have x4 := hX.cell 4
  have HX := Lib.hid hX
  have HMB := Lib.hid h.1.lt
  have HM := Lib.hid (h.below (below_alloc w O))
  have HBL := Lib.hid (below_alloc w O)
  clear hX h
  have HCK := Lib.hid (fun W => rcheck_any name W)
  rw [hn] at HCK
  go_enter Try.func16, Try.ntmps16
  go_wp2_with (fail)
  clear ho
  generalize w.alloc O = W1 at *
  refine (HCK.out _).mono ?_
  rintro e w' ⟨rfl, k1, rfl⟩
  go_wp2_with (fail)
  refine (mat_calls (HM.out.drewN k1) hl name).mono ?_
  rintro e w' ⟨⟨r, rfl, hat⟩, k2, rfl⟩
  rw [drewN2]
  have HCT := Lib.hid (fun W => rcheck_any tn W)
  rw [ht] at HCT
  obtain ⟨k, hk, rfl, hke⟩ := hat.yes hm
  have hk0 : (0 : Int) ≤ (k : Int) := by omega
  have hk1 : ¬ (k : Int) < 0 := by omega
  rcases hk78 with hk78 | ⟨hk78, hk8⟩
  all_goals (
    go_wp2_with (fail)
    refine (HCT.out _).mono ?_
    rintro e w' ⟨rfl, k3, rfl⟩
    rw [drewN2]
    go_wp2_with (fail)
    refine (mat_calls (HM.out.drewN (k1 + k2 + k3)) hl tn).mono ?_
    rintro e w' ⟨⟨r2, rfl, hat2⟩, k4, rfl⟩
    rw [drewN2]
    obtain ⟨kt, hkt, rfl, _⟩ := hat2.yes hm2
    have hkt0 : (0 : Int) ≤ (kt : Int) := by omega
    go_wp2_with (fail)
    go_ret2
    exact ⟨rfl, ((Keeps.ofBelow HBL.out).drewN _).below fun _ h => h⟩)
set_option maxRecDepth 1000000 in
theorem act_mov4 {w : World} {mb : Nat} {v : Value} {D : List Ent} (h : MdAt w mb v D) (hl : D.length ≤ 1000) (hz : ∀ e ∈ D, ncheck e.1 = 0) (kind core num : Int) (name tn : ByteArray) (hc0 : 0 ≤ core) (hc1 : core < 4) (hn : ncheck name = 0)(hk7 : kind = 7 ∨ kind = 8) (ht : ncheck tn = 0) {u : Nat} (hm : (name, u) ∈ D) (hno2 : ∀ v, (tn, v) ∉ D) (hf : 4 ≤ fcnt D tn name) :
    Calls Try.prog 16 #[.pointer (some ⟨mb, 0, none⟩), actV kind core num name tn] w fun r w' => r = .returned (.tuple #[.int .i64 0, .int .i64 902]) ∧ Below w.heap.size w w' := by
  have hc2 : ¬ core < 0 := by omega
  have hc3 : ¬ (3 : Int) < core := by omega
  have hk5 : ¬ kind < 5 := by omega
  have hk78 : (kind == 7) = true ∨ ((kind == 7) = false ∧ (kind == 8) = true) := by rcases hk7 with rfl | rfl <;> simp
  unfold actV
  generalize ho : Obj.cells #[Value.int IntKind.i64 kind, Value.int IntKind.i64 core, Value.int IntKind.i64 num, Value.string name, Value.string tn] 32 = O
  have hX : Blk (w.alloc O) w.heap.size 32 #[.int .i64 kind, .int .i64 core, .int .i64 num, .string name, .string tn] := by subst ho; exact Blk.new _ _ _
  have x0 := hX.cell 0
  have x1 := hX.cell 1
  have x2 := hX.cell 2
  have x3 := hX.cell 3
  have x4 := hX.cell 4
  have HX := Lib.hid hX
  have HMB := Lib.hid h.1.lt
  have HM := Lib.hid (h.below (below_alloc w O))
  have HBL := Lib.hid (below_alloc w O)
  clear hX h
  have HCK := Lib.hid (fun W => rcheck_any name W)
  rw [hn] at HCK
  go_enter Try.func16, Try.ntmps16
  go_wp2_with (fail)
  clear ho
  generalize w.alloc O = W1 at *
  refine (HCK.out _).mono ?_
  rintro e w' ⟨rfl, k1, rfl⟩
  go_wp2_with (fail)
  refine (mat_calls (HM.out.drewN k1) hl name).mono ?_
  rintro e w' ⟨⟨r, rfl, hat⟩, k2, rfl⟩
  rw [drewN2]
  have HCT := Lib.hid (fun W => rcheck_any tn W)
  rw [ht] at HCT
  obtain ⟨k, hk, rfl, hke⟩ := hat.yes hm
  have hk0 : (0 : Int) ≤ (k : Int) := by omega
  have hk1 : ¬ (k : Int) < 0 := by omega
  rcases hk78 with hk78 | ⟨hk78, hk8⟩
  all_goals (
    go_wp2_with (fail)
    refine (HCT.out _).mono ?_
    rintro e w' ⟨rfl, k3, rfl⟩
    rw [drewN2]
    go_wp2_with (fail)
    refine (mat_calls (HM.out.drewN (k1 + k2 + k3)) hl tn).mono ?_
    rintro e w' ⟨⟨r2, rfl, hat2⟩, k4, rfl⟩
    rw [drewN2]
    obtain rfl := hat2.no hno2
    have HF := Lib.hid (mfull_calls (HM.out.drewN (k1 + k2 + k3 + k4)) hl (ok_size hz) tn name (ncheck_size ht))
    rw [decide_eq_true (by omega : (4 : Int) ≤ (fcnt D tn name : Nat))] at HF
    go_wp2_with (fail)
    refine HF.out.mono ?_
    rintro e w' ⟨rfl, k5, rfl⟩
    rw [drewN2]
    go_wp2_with (fail)
    go_ret2
    exact ⟨rfl, ((Keeps.ofBelow HBL.out).drewN _).below fun _ h => h⟩)
set_option maxRecDepth 1000000 in
theorem act_mov5 {w : World} {mb : Nat} {v : Value} {D : List Ent} (h : MdAt w mb v D) (hl : D.length ≤ 1000) (hz : ∀ e ∈ D, ncheck e.1 = 0) (kind core num : Int) (name tn : ByteArray) (hc0 : 0 ≤ core) (hc1 : core < 4) (hn : ncheck name = 0)(hk7 : kind = 7 ∨ kind = 8) (ht : ncheck tn = 0) {u : Nat} (hm : (name, u) ∈ D) (hno2 : ∀ v, (tn, v) ∉ D) (hf : fcnt D tn name < 4) :
    Calls Try.prog 16 #[.pointer (some ⟨mb, 0, none⟩), actV kind core num name tn] w fun r w' => r = .returned (.tuple #[.int .i64 0, .int .i64 0]) ∧ ∃ (k : Nat) (hk : k < D.length), D[k].1 = name ∧ ActP w w' mb D (putF (dropT D k D.length) (tn, D[k].2)) := by
  have hc2 : ¬ core < 0 := by omega
  have hc3 : ¬ (3 : Int) < core := by omega
  have hk5 : ¬ kind < 5 := by omega
  have hk78 : (kind == 7) = true ∨ ((kind == 7) = false ∧ (kind == 8) = true) := by rcases hk7 with rfl | rfl <;> simp
  unfold actV
  generalize ho : Obj.cells #[Value.int IntKind.i64 kind, Value.int IntKind.i64 core, Value.int IntKind.i64 num, Value.string name, Value.string tn] 32 = O
  have hX : Blk (w.alloc O) w.heap.size 32 #[.int .i64 kind, .int .i64 core, .int .i64 num, .string name, .string tn] := by subst ho; exact Blk.new _ _ _
  have x0 := hX.cell 0
  have x1 := hX.cell 1
  have x2 := hX.cell 2
  have x3 := hX.cell 3
  have x4 := hX.cell 4
  have HX := Lib.hid hX
  have HMB := Lib.hid h.1.lt
  have HM := Lib.hid (h.below (below_alloc w O))
  have HBL := Lib.hid (below_alloc w O)
  clear hX h
  have HCK := Lib.hid (fun W => rcheck_any name W)
  rw [hn] at HCK
  go_enter Try.func16, Try.ntmps16
  go_wp2_with (fail)
  clear ho
  generalize w.alloc O = W1 at *
  refine (HCK.out _).mono ?_
  rintro e w' ⟨rfl, k1, rfl⟩
  go_wp2_with (fail)
  refine (mat_calls (HM.out.drewN k1) hl name).mono ?_
  rintro e w' ⟨⟨r, rfl, hat⟩, k2, rfl⟩
  rw [drewN2]
  have HCT := Lib.hid (fun W => rcheck_any tn W)
  rw [ht] at HCT
  obtain ⟨k, hk, rfl, hke⟩ := hat.yes hm
  have hk0 : (0 : Int) ≤ (k : Int) := by omega
  have hk1 : ¬ (k : Int) < 0 := by omega
  obtain ⟨_, A, cap, rfl, hcp, _⟩ := HM.out.2
  obtain ⟨g, off, rfl, q1, q2⟩ := HM.out.2.cells2 hk
  have c0 : W1.cell? ⟨mb, 0, none⟩ = some (.slice (some ⟨g, off, none⟩) D.length cap) := HM.out.1.cell 0
  have hkl : (k : Int) < (D.length : Int) := by omega
  obtain ⟨uv, huv⟩ : ∃ uv : Int, (D[k].2 : Int) = uv := ⟨_, rfl⟩
  rw [huv] at q2
  have HU := Lib.hid huv
  have HKE := Lib.hid hke
  have HDP := Lib.hid (dropF_perm D hk)
  clear q1 huv hke
  rcases hk78 with hk78 | ⟨hk78, hk8⟩
  all_goals (
    go_wp2_with (fail)
    refine (HCT.out _).mono ?_
    rintro e w' ⟨rfl, k3, rfl⟩
    rw [drewN2]
    go_wp2_with (fail)
    refine (mat_calls (HM.out.drewN (k1 + k2 + k3)) hl tn).mono ?_
    rintro e w' ⟨⟨r2, rfl, hat2⟩, k4, rfl⟩
    rw [drewN2]
    obtain rfl := hat2.no hno2
    have HF := Lib.hid (mfull_calls (HM.out.drewN (k1 + k2 + k3 + k4)) hl (ok_size hz) tn name (ncheck_size ht))
    rw [decide_eq_false (by omega : ¬ (4 : Int) ≤ (fcnt D tn name : Nat))] at HF
    go_wp2_with (fail)
    refine HF.out.mono ?_
    rintro e w' ⟨rfl, k5, rfl⟩
    rw [drewN2]
    have HP := Lib.hid (mdrop_calls (HM.out.drewN (k1 + k2 + k3 + k4 + k5)) hl (k : Int))
    go_wp2_with (fail)
    refine HP.out.mono ?_
    rintro e w5 ⟨rfl, v', hb5, ho5, hk5'⟩
    have hX5 : Blk w5 w.heap.size 32 #[.int .i64 kind, .int .i64 core, .int .i64 num, .string name, .string tn] := hk5'.blk HX.out ⟨HX.out.lt, (Nat.ne_of_gt HMB.out)⟩
    have y4 := hX5.cell 4
    have hBD : Below w.heap.size w (W1.drewN (k1 + k2 + k3 + k4 + k5)) := ((Keeps.ofBelow HBL.out).drewN _).below fun _ h => h
    have HK5 := Lib.hid (mOff_trans hBD hk5')
    have hz5 : ∀ e ∈ dropT D k D.length, ncheck e.1 = 0 := fun e he => hz e (HDP.out.mem_iff.2 (List.mem_cons_of_mem _ he))
    have hl5 : (dropT D k D.length).length ≤ 1000 := Nat.le_trans (dropT_le D k D.length) hl
    have HP5 := mput_calls (w := w5) (mb := mb) ⟨hb5, Sl.ofOwn ho5⟩ hl5 (ok_size hz5) (tn, D[k].2) (ncheck_size ht)
    simp only [HU.out] at HP5
    have HP5 := Lib.hid HP5
    have hs5 := HK5.out.size
    have hmb5 := hb5.lt
    clear hX5 ho5 hb5 hk5' hBD
    go_wp2_with (fail)
    refine HP5.out.mono ?_
    rintro e w6 ⟨rfl, v6, hb6, ho6, hk6⟩
    go_wp2_with (fail)
    go_ret2
    exact ⟨rfl, k, hk, HKE.out, .inr ⟨v6, hb6, own_low ho6 (Nat.le_trans hs5 (Nat.le_succ _)), HK5.out.trans (hk6.sub fun b hb => ⟨Nat.lt_of_lt_of_le hb.1 hs5, hb.2⟩)⟩⟩)
end Go.Proofs.Ytkbajjpdngfhbaa
