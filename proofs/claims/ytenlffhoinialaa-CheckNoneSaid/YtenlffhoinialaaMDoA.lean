/- The document's file system: a state in rows that may be written; Copy. The document's file system: open, entries, under the invariant. -/
import Derived.Test.YtenlffhoinialaaMDoF
import Derived.Test.YtenlffhoinialaaMCkEv
import Derived.Test.YtenlffhoinialaaMNPb
section
namespace Go.Proofs.Ytenlffhoinialaa
open Go.RowKit
set_option maxHeartbeats 2000000
attribute [local go_sem ↓] Go.wp_at_zero Go.wp_at_succ

/-- A state whose rows are new since base. -/
structure StV (w : World) (base : Nat) (iv ov mv : Value) (ev : Nat → Value) (S : St) : Prop where
  ino : RowT w base 56 4 iv S.inodes.length (inoC S ev)
  ent : ∀ i, i < S.inodes.length → RowT w base 58 2 (ev i) (S.ne i) (entC S i)
  opn : RowT w base 60 3 ov S.opens.length (opnC S)
  mad : RowT w base 3 1 mv S.made.length (madC S)
namespace StV
variable {w w' : World} {base : Nat} {iv ov mv : Value} {ev : Nat → Value} {S : St}
theorem stm (h : StV w base iv ov mv ev S) : StM w iv ov mv ev S := ⟨h.ino.at', fun i hi => (h.ent i hi).at', h.opn.at', h.mad.at'⟩
theorem below (h : StV w base iv ov mv ev S) (hb : Below w.heap.size w w') : StV w' base iv ov mv ev S := ⟨h.ino.below hb, fun i hi => (h.ent i hi).below hb, h.opn.below hb, h.mad.below hb⟩
theorem base_le {base' : Nat} (h : StV w base iv ov mv ev S) (hb : base' ≤ base) : StV w base' iv ov mv ev S := ⟨h.ino.base_le hb, fun i hi => (h.ent i hi).base_le hb, h.opn.base_le hb, h.mad.base_le hb⟩
theorem far (h : StV w base iv ov mv ev S) {g : Nat} {u : TypeId} {cs : Array Value} (hg : Blk w g u cs) (h1 : 56 ≠ u) (h2 : 58 ≠ u) (h3 : 60 ≠ u) (h4 : 3 ≠ u) (i : Nat) (x : Value) : StV (w.setCell ⟨g, i, none⟩ x) base iv ov mv ev S :=
  ⟨h.ino.far hg h1 i x, fun j hj => (h.ent j hj).far hg h2 i x, h.opn.far hg h3 i x, h.mad.far hg h4 i x⟩
end StV
/-! ### Rows as lists of what they hold -/
def encI (p : Ino × Value) : List Value := [.int .i64 p.1.num, .bool p.1.dir, p.2, .string p.1.data]
def encN (e : ByteArray × Int) : List Value := [.string e.1, .int .i64 e.2]
def encD (o : Int × Int × Int) : List Value := [.int .i64 o.1, .int .i64 o.2.1, .int .i64 o.2.2]
def encM (m : Int) : List Value := [.int .i64 m]
theorem encI_len (p : Ino × Value) : (encI p).length = 4 := rfl
theorem encN_len (e : ByteArray × Int) : (encN e).length = 2 := rfl
theorem encD_len (o : Int × Int × Int) : (encD o).length = 3 := rfl
theorem encM_len (m : Int) : (encM m).length = 1 := rfl
theorem encN_one (e : ByteArray × Int) : ∀ u ∈ encN e, u.oneCell' = true := by intro u hu; simp [encN] at hu; rcases hu with rfl | rfl <;> rfl
theorem encD_one (o : Int × Int × Int) : ∀ u ∈ encD o, u.oneCell' = true := by intro u hu; simp [encD] at hu; rcases hu with rfl | rfl | rfl <;> rfl
theorem encM_one (m : Int) : ∀ u ∈ encM m, u.oneCell' = true := by intro u hu; simp [encM] at hu; rcases hu with rfl; rfl
theorem getD_lt {A : Type} {l : List A} {i : Nat} {d : A} (h : i < l.length) : l.getD i d = l[i] := by
  rw [List.getD_eq_getElem?_getD, List.getElem?_eq_getElem h]; rfl
theorem cl_ent (S : St) (i : Nat) : CL encN (S.ino i).ents (entC S i) 2 := by
  intro k j hk hj
  have e : (S.ino i).ents.getD k (ByteArray.empty, 0) = (S.ino i).ents[k] := getD_lt hk
  have : j = 0 ∨ j = 1 := by omega
  rcases this with rfl | rfl
  · show some (Value.string _) = some (Value.string ((S.ino i).ents.getD k (ByteArray.empty, 0)).1); rw [e]
  · show some (Value.int .i64 _) = some (Value.int .i64 ((S.ino i).ents.getD k (ByteArray.empty, 0)).2); rw [e]
theorem cl_opn (S : St) : CL encD S.opens (opnC S) 3 := by
  intro k j hk hj
  have e : S.opens.getD k (0, 0, 0) = S.opens[k] := getD_lt hk
  have : j = 0 ∨ j = 1 ∨ j = 2 := by omega
  rcases this with rfl | rfl | rfl
  · show some (Value.int .i64 _) = some (Value.int .i64 (S.opens.getD k (0, 0, 0)).1); rw [e]
  · show some (Value.int .i64 _) = some (Value.int .i64 (S.opens.getD k (0, 0, 0)).2.1); rw [e]
  · show some (Value.int .i64 _) = some (Value.int .i64 (S.opens.getD k (0, 0, 0)).2.2); rw [e]
theorem cl_mad (S : St) : CL encM S.made (madC S) 1 := by
  intro k j hk hj
  have e : S.made.getD k 0 = S.made[k] := getD_lt hk
  obtain rfl : j = 0 := by omega
  show some (Value.int .i64 _) = some (Value.int .i64 (S.made.getD k 0)); rw [e]
theorem cl_ino (S : St) (L : List (Ino × Value)) (h : L.map (·.1) = S.inodes) : CL encI L (inoC S fun i => (L.getD i (noIno, .int .i64 0)).2) 4 := by
  intro k j hk hj
  have e : S.inodes.getD k noIno = L[k].1 := by
    have : k < S.inodes.length := by rw [← h]; simpa using hk
    rw [getD_lt this]
    simp only [← h, List.getElem_map]
  have e2 : L.getD k (noIno, .int .i64 0) = L[k] := getD_lt hk
  have : j = 0 ∨ j = 1 ∨ j = 2 ∨ j = 3 := by omega
  rcases this with rfl | rfl | rfl | rfl
  · show some (Value.int .i64 _) = some (Value.int .i64 (S.inodes.getD k noIno).num); rw [e]
  · show some (Value.bool _) = some (Value.bool (S.inodes.getD k noIno).dir); rw [e]
  · show some _ = some (L.getD k (noIno, .int .i64 0)).2; rw [e2]
  · show some (Value.string _) = some (Value.string (S.inodes.getD k noIno).data); rw [e]
theorem info_ino4 : (Try.prog.info? 56).map (fun i => (i.zero, i.size, i.bytes)) = some (some (.agg #[.int .i64 0, .bool false, .slice none 0 0, .string ⟨#[]⟩]), 4, 56) := by kernel_rfl
theorem info_ent2 : (Try.prog.info? 58).map (fun i => (i.zero, i.size, i.bytes)) = some (some (.agg #[.string ⟨#[]⟩, .int .i64 0]), 2, 24) := by kernel_rfl
theorem info_dsc3 : (Try.prog.info? 60).map (fun i => (i.zero, i.size, i.bytes)) = some (some (.agg #[.int .i64 0, .int .i64 0, .int .i64 0]), 3, 24) := by kernel_rfl
theorem info_int1 : (Try.prog.info? 3).map (fun i => (i.zero, i.size, i.bytes)) = some (some (.int .i64 0), 1, 8) := by kernel_rfl
/-- The inodes that are copied so far. -/
def CpyI (w : World) (base : Nat) (v : Value) (S : St) (k : Nat) : Prop :=
  ∃ L : List (Ino × Value), L.map (·.1) = S.inodes.take k ∧ w.ownsRow base 56 4 v L.length (L.flatMap encI) ∧ (∀ p ∈ L, p.2.oneCell' = true) ∧ ∀ i (hi : i < L.length), RowT w base 58 2 L[i].2 (S.ne i) (entC S i)
set_option maxRecDepth 1000000 in
theorem Copy_calls {w : World} {iv ov mv : Value} {ev : Nat → Value} {S : St} (hS : StM w iv ov mv ev S) (hs : S.small) :
    Calls Try.prog 64 #[.agg #[iv, ov, mv]] w fun e w' => ∃ iv' ov' mv' ev', e = .returned (.agg #[iv', ov', mv']) ∧ StV w' w.heap.size iv' ov' mv' ev' S ∧ Below w.heap.size w w' := by
  obtain ⟨i0, hi, hz0, hz1, hz2⟩ := info_parts info_ino4
  obtain ⟨j0, hj, hy0, hy1, hy2⟩ := info_parts info_ent2
  obtain ⟨d0_, hd, hx0, hx1, hx2⟩ := info_parts info_dsc3
  obtain ⟨m0_, hm, hw0, hw1, hw2⟩ := info_parts info_int1
  obtain ⟨A, cap, rfl⟩ := hS.ino.form
  have HS := Lib.hid hS
  have HSm := Lib.hid hs
  obtain ⟨n, hnn⟩ : ∃ n, S.inodes.length = n := ⟨_, rfl⟩
  have HNN := Lib.hid hnn
  have hn : n ≤ 1000 := hnn ▸ hs.ni
  rw [hnn] at HS ⊢
  clear hS hs hnn
  go_enter Try.func64, Try.ntmps64
  go_wp2_with (fail)
  have HB0 := Lib.hid (show Below w.heap.size w (((w.alloc (Obj.cells #[.slice A n cap, ov, mv] 26)).alloc (Obj.cells #[.slice none 0 0, .slice none 0 0, .slice none 0 0] 26)).alloc (Obj.cells #[.slice none 0 0, .slice none 0 0, .slice none 0 0] 26)) from (((Below.refl _ _).alloc (Nat.le_refl _) _).alloc (by simp) _).alloc (by simp; omega) _)
  have HS0 := Lib.hid (((Blk.new w 26 #[.slice A n cap, ov, mv]).alloc (Obj.cells #[.slice none 0 0, .slice none 0 0, .slice none 0 0] 26)).alloc (Obj.cells #[.slice none 0 0, .slice none 0 0, .slice none 0 0] 26))
  have HS1 := Lib.hid ((Blk.newAt (w.alloc (Obj.cells #[.slice A n cap, ov, mv] 26)) 26 #[.slice none 0 0, .slice none 0 0, .slice none 0 0] (n := w.heap.size + 1) (by simp)).alloc (Obj.cells #[.slice none 0 0, .slice none 0 0, .slice none 0 0] 26))
  have HS2 := Lib.hid (Blk.newAt ((w.alloc (Obj.cells #[.slice A n cap, ov, mv] 26)).alloc (Obj.cells #[.slice none 0 0, .slice none 0 0, .slice none 0 0] 26)) 26 #[.slice none 0 0, .slice none 0 0, .slice none 0 0] (n := w.heap.size + 1 + 1) (by simp))
  obtain ⟨p, hp⟩ : ∃ p, p = w.heap.size := ⟨_, rfl⟩
  have HP := Lib.hid hp
  rw [← hp] at HB0 HS0 HS1 HS2 ⊢
  clear hp
  generalize ((w.alloc (Obj.cells #[.slice A n cap, ov, mv] 26)).alloc (Obj.cells #[.slice none 0 0, .slice none 0 0, .slice none 0 0] 26)).alloc (Obj.cells #[.slice none 0 0, .slice none 0 0, .slice none 0 0] 26) = W0 at *
  go_loopw [4] (fun i wr => ∃ (k : Nat) (v : Value), i = .int .i64 k ∧ k ≤ n ∧ Below p w wr ∧ Blk wr p 26 #[.slice A n cap, ov, mv] ∧ Blk wr (p + 1) 26 #[.slice none 0 0, .slice none 0 0, .slice none 0 0] ∧ Blk wr (p + 1 + 1) 26 #[v, .slice none 0 0, .slice none 0 0] ∧ CpyI wr p v S k) (fun i _ => n - (intOf i).toNat)
  case atStart => exact ⟨0, .slice none 0 0, rfl, by omega, HB0.out, HS0.out, HS1.out, HS2.out, [], rfl, World.ownsRow_nil _ _ _ _, (fun p hp => by cases hp), fun i hi => absurd hi (by simp)⟩
  case round =>
    obtain ⟨k, v, rfl, hk, hb, h0, h1, h2, hcp⟩ := hrel
    have HB := Lib.hid hb
    have HT0 := Lib.hid h0
    have HT1 := Lib.hid h1
    have HT2 := Lib.hid h2
    have HCP := Lib.hid hcp
    have c0 : wr.cell? ⟨p, 0, none⟩ = some (.slice A n cap) := h0.cell 0
    clear hb h1 h2 hcp
    by_cases hq : k < n
    · have hSr := HS.out.keep (by rw [← HP.out]; exact HB.out)
      obtain ⟨_, hcap, g, off, rfl, hcell⟩ := (show RowAt wr (.slice A n cap) n 4 (inoC S ev) by have := hSr.ino; rwa [HNN.out] at this).at_ hq
      have q0 : wr.cell? ⟨g, off + k * 4, none⟩ = some (.int .i64 (S.num k)) := hcell 0 (by omega)
      have q1 : wr.cell? ⟨g, off + k * 4 + 1, none⟩ = some (.bool (S.dir k)) := hcell 1 (by omega)
      have q2 : wr.cell? ⟨g, off + k * 4 + 2, none⟩ = some (ev k) := hcell 2 (by omega)
      have q3 : wr.cell? ⟨g, off + k * 4 + 3, none⟩ = some (.string (S.dat k)) := hcell 3 (by omega)
      have hEr := hSr.ent k (by rw [HNN.out]; exact hq)
      have HER := Lib.hid hEr
      have hq1 : (k : Int) < n := by omega
      obtain ⟨EA, ecap, hev⟩ := hEr.form
      rw [hev] at q2 HER
      clear hcell hev hEr hSr
      have hps : p + 1 + 1 < wr.heap.size := HT2.out.lt
      have HCL := Lib.hid (cl_ent S k)
      have HX := Lib.hid (show Below wr.heap.size wr ((wr.alloc (Obj.cells #[.int .i64 (S.num k), .bool (S.dir k), .slice EA (S.ne k) ecap, .string (S.dat k)] 56)).alloc (Obj.cells #[] 58)) from ((Below.refl _ _).alloc (Nat.le_refl _) _).alloc (by simp) _)
      have HOWN := Lib.hid (World.ownsRow_made (e := 58) (size := 2) (base := p) (wr.alloc (Obj.cells #[.int .i64 (S.num k), .bool (S.dir k), .slice EA (S.ne k) ecap, .string (S.dat k)] 56)) #[] 0 (by simp; omega) (by decide) rfl)
      have hne : S.ne k ≤ 1000 := HSm.out.en k
      have HNE := Lib.hid (show S.ne k = (S.ino k).ents.length from rfl)
      have HXB := Lib.hid ((Blk.new wr 56 #[.int .i64 (S.num k), .bool (S.dir k), .slice EA (S.ne k) ecap, .string (S.dat k)]).alloc (Obj.cells #[] 58))
      have HXS := Lib.hid (show ((wr.alloc (Obj.cells #[.int .i64 (S.num k), .bool (S.dir k), .slice EA (S.ne k) ecap, .string (S.dat k)] 56)).alloc (Obj.cells #[] 58)).heap.size = wr.heap.size + 1 + 1 by simp)
      obtain ⟨L, hL1, hL2, hL3, hL4⟩ := HCP.out
      have HL1 := Lib.hid hL1
      have HL2 := Lib.hid hL2
      have HL3 := Lib.hid hL3
      have HL4 := Lib.hid hL4
      have HLL := Lib.hid (show L.length = k by
        have := congrArg List.length hL1
        rw [List.length_map, List.length_take, HNN.out] at this
        omega)
      clear h0 hL1 hL2 hL3 hL4 HCP
      go_upto_region 7 with (at_builtin; refine wpList_app (enc := encN) _ rfl (.tmp 18) (.tmp 20) 54 58 rfl j0 _ 24 Try.underlying54 hj hy0 hy1 hy2 rfl (by decide) p (.slice (some ⟨wr.heap.size + 1, 0, none⟩) 0 0) [] rfl (by simpa using HOWN.out) (.slice EA (S.ne k) ecap) rfl (S.ino k).ents (C := entC S k) (HER.out.keep HX.out) HCL.out encN_len (fun x _ => encN_one x) (by rw [← HNE.out]; simp <;> omega) (by decide) (by simp <;> omega) ?_; intro A6 n6 c6 w5 hn6 hown hgrow; have hX5 := blk_grown hgrow HXB.out (by simp [Value.ownBlock]); have x0 : w5.cell? ⟨wr.heap.size, 0, none⟩ = some (.int .i64 (S.num k)) := hX5.cell 0; have x1 : w5.cell? ⟨wr.heap.size, 1, none⟩ = some (.bool (S.dir k)) := hX5.cell 1; have x2 : w5.cell? ⟨wr.heap.size, 2, none⟩ = some (.slice EA (S.ne k) ecap) := hX5.cell 2; have x3 : w5.cell? ⟨wr.heap.size, 3, none⟩ = some (.string (S.dat k)) := hX5.cell 3; have fx := hX5.frozen 2; have hT2 := blk_grown hgrow ((HT2.out.alloc _).alloc _) (by simp [Value.ownBlock] <;> omega); have d0 : w5.cell? ⟨p + 1 + 1, 0, none⟩ = some v := hT2.cell 0; have hne2 : ¬ p + 1 + 1 = wr.heap.size := (by omega); have HX5 := Lib.hid hX5; have HT25 := Lib.hid hT2; have HOWN5 := Lib.hid hown; have HGR5 := Lib.hid hgrow; have HN6 := Lib.hid hn6; clear hX5 hT2 hown hgrow hn6)
      have HBX := Lib.hid ((((HX.out.trans ⟨HGR5.out.os, HGR5.out.tape, HGR5.out.output, HGR5.out.size, fun q hq => HGR5.out.block q (by rw [HXS.out]; omega) (by simp [Value.ownBlock] <;> omega)⟩).setCell (p := ⟨wr.heap.size, 2, none⟩) (Nat.le_refl _) (.slice A6 n6 c6)).alloc (by have := HGR5.out.size; rw [HXS.out] at this; simp [World.setCell]; omega) (Obj.cells #[.int .i64 (S.num k), .bool (S.dir k), .slice A6 n6 c6, .string (S.dat k)] 56)))
      have HO7 := Lib.hid (own_below HL2.out HBX.out)
      have HT7 := Lib.hid ((HT25.out.far (p := ⟨wr.heap.size, 2, none⟩) hne2 (.slice A6 n6 c6)).alloc (Obj.cells #[.int .i64 (S.num k), .bool (S.dir k), .slice A6 n6 c6, .string (S.dat k)] 56))
      have HN7 := Lib.hid (Blk.newAt (w5.setCell ⟨wr.heap.size, 2, none⟩ (.slice A6 n6 c6)) 56 #[.int .i64 (S.num k), .bool (S.dir k), .slice A6 n6 c6, .string (S.dat k)] (n := w5.heap.size) (by simp [World.setCell]))
      go_wp2_with (at_builtin; refine wpList_app (enc := encI) _ rfl (.tmp 24) (.tmp 26) 22 56 rfl i0 _ 56 Try.underlying22 hi hz0 hz1 hz2 rfl (by decide) p v L rfl HO7.out (.slice (some ⟨w5.heap.size, 0, none⟩) 1 1) (by first | rfl | simp [World.setCell]) [(S.ino k, .slice A6 n6 c6)] (C := fun _ j => (encI (S.ino k, .slice A6 n6 c6)).getD j (.int .i64 0)) (RowAt.blk HN7.out (Nat.le_refl _) (fun i j hi hj => by obtain rfl : i = 0 := (by simpa using hi); rcases (show j = 0 ∨ j = 1 ∨ j = 2 ∨ j = 3 by omega) with rfl | rfl | rfl | rfl <;> rfl)) (fun i j hi hj => by obtain rfl : i = 0 := (by simpa using hi); rcases (show j = 0 ∨ j = 1 ∨ j = 2 ∨ j = 3 by omega) with rfl | rfl | rfl | rfl <;> rfl) encI_len (fun x hx u hu => by simp at hx; subst hx; simp [encI] at hu; rcases hu with rfl | rfl | rfl | rfl <;> rfl) (by rw [HLL.out]; show k + 1 ≤ 100000; omega) (by decide) (by have := HBX.out.size; omega) ?_; intro A8 n8 c8 w8 hn8 hown8 hgrow8; have hT8 := blk_grown hgrow8 HT7.out (own_blk_ne HO7.out HT7.out (by decide)); have fz : w8.frozen? ⟨p + 1 + 1, 0, none⟩ = false := hT8.frozen 0; have dz : w8.cell? ⟨p + 1 + 1, 0, none⟩ = some v := hT8.cell 0; have HT8 := Lib.hid hT8; have HOWN8 := Lib.hid hown8; have HGR8 := Lib.hid hgrow8; clear hT8 hown8 hgrow8 hn8)
      go_roundw
      case rel =>
        have hT : ∀ q t cs, t ≠ 56 → q ≠ p + 1 + 1 → Blk wr q t cs → Blk (w8.setCell ⟨p + 1 + 1, 0, none⟩ (.slice A8 n8 c8)) q t cs := fun q t cs ht hq2 hqb => by
          have h1 := Blk.of_heap (HBX.out.block q hqb.lt) hqb
          exact (blk_grown HGR8.out h1 (own_blk_ne HO7.out h1 (Ne.symm ht))).far (p := ⟨p + 1 + 1, 0, none⟩) hq2 _
        have hT5 : ∀ q cs, Blk w5 q 58 cs → Blk (w8.setCell ⟨p + 1 + 1, 0, none⟩ (.slice A8 n8 c8)) q 58 cs := fun q cs hqb => by
          have h1 := (hqb.far (p := ⟨wr.heap.size, 2, none⟩) (Blk.ne_ hqb HX5.out (by decide)) (.slice A6 n6 c6)).alloc (Obj.cells #[.int .i64 (S.num k), .bool (S.dir k), .slice A6 n6 c6, .string (S.dat k)] 56)
          exact (blk_grown HGR8.out h1 (own_blk_ne HO7.out h1 (by decide))).far (p := ⟨p + 1 + 1, 0, none⟩) (Blk.ne_ hqb HT25.out (by decide)) _
        have hb7 := HBX.out.mono (show p ≤ wr.heap.size by omega)
        have hb8 : Below p _ w8 := hb7.trans ⟨HGR8.out.os, HGR8.out.tape, HGR8.out.output, HGR8.out.size, fun q hq => HGR8.out.block q (by have := HBX.out.size; omega) (fun e => by have := (HO7.out.lt q e.symm).1; omega)⟩
        refine ⟨k + 1, .slice A8 n8 c8, by go_num, by omega, HB.out.trans (hb8.setCell (p := ⟨p + 1 + 1, 0, none⟩) (by show p ≤ p + 1 + 1; omega) _), hT _ _ _ (by decide) (by omega) HT0.out, hT _ _ _ (by decide) (by omega) HT1.out, HT8.out.set_ 0 _, L ++ [(S.ino k, .slice A6 n6 c6)], ?_, own_far HOWN8.out HT8.out (by decide) 0 _, ?_, fun i hi => ?_⟩
        · have h1 : k < S.inodes.length := by rw [HNN.out]; exact hq
          rw [List.map_append, HL1.out, List.take_succ_eq_append_getElem h1]
          show _ ++ [S.ino k] = _
          rw [show S.ino k = S.inodes[k] from getD_lt h1]
        · intro x hx
          rcases List.mem_append.1 hx with hx | hx
          · exact HL3.out x hx
          · simp at hx; subst hx; rfl
        · by_cases hik : i < L.length
          · rw [List.getElem_append_left hik]
            exact (HL4.out i hik).heap fun q cs _ hqb => hT q _ cs (by decide) (Blk.ne_ hqb HT2.out (by decide)) hqb
          · have e : i = L.length := by rw [List.length_append] at hi; simp at hi; omega
            subst e
            rw [List.getElem_append_right (Nat.le_refl _)]
            simp only [Nat.sub_self, List.getElem_cons_zero]
            have h1 := own_rowT (by decide) encN_len HOWN5.out HCL.out
            rw [List.nil_append] at h1
            rw [HLL.out, HNE.out]
            exact h1.heap fun q cs _ hqb => hT5 q cs hqb
      case measure =>
        simp only [intOf]
        omega
    · have e : k = n := by omega
      subst e
      have c1 : wr.cell? ⟨p, 1, none⟩ = some ov := h0.cell 1
      have c2 : wr.cell? ⟨p, 2, none⟩ = some mv := h0.cell 2
      have d0 : wr.cell? ⟨p + 1 + 1, 0, none⟩ = some v := HT2.out.cell 0
      have d1 : wr.cell? ⟨p + 1 + 1, 1, none⟩ = some (.slice none 0 0) := HT2.out.cell 1
      have hpz : p ≤ wr.heap.size := by have := HT2.out.lt; omega
      have HRO := Lib.hid ((HS.out.keep (by rw [← HP.out]; exact HB.out)).opn)
      have HCO := Lib.hid (cl_opn S)
      have HCM := Lib.hid (cl_mad S)
      have hno := HSm.out.no
      have hnm := HSm.out.nm
      clear h0
      have HPP := Lib.hid hpz
      go_upto_region 9 with (at_builtin; refine wpList_app (enc := encD) _ rfl (.tmp 30) (.tmp 32) 23 60 rfl d0_ _ 24 Try.underlying23 hd hx0 hx1 hx2 rfl (by decide) p (.slice none 0 0) [] rfl (World.ownsRow_nil _ _ _ _) ov rfl S.opens (C := opnC S) HRO.out HCO.out encD_len (fun x _ => encD_one x) (by simpa using (by omega : S.opens.length ≤ 100000)) (by decide) hpz ?_; intro A6 n6 c6 w5 hn6 hown hgrow; have hT5 := blk_grown hgrow HT2.out (by simp [Value.ownBlock]); have e0 : w5.cell? ⟨p + 1 + 1, 1, none⟩ = some (.slice none 0 0) := hT5.cell 1; have e1 : w5.frozen? ⟨p + 1 + 1, 1, none⟩ = false := hT5.frozen 1; have HT5 := Lib.hid hT5; have HT51 := Lib.hid (blk_grown hgrow HT1.out (by simp [Value.ownBlock])); have HT50 := Lib.hid (blk_grown hgrow HT0.out (by simp [Value.ownBlock])); have HN6 := Lib.hid hn6; have HO5 := Lib.hid hown; have HG5 := Lib.hid hgrow; clear hn6 hown hgrow hT5)
      obtain ⟨L, hL1, hL2, hL3, hL4⟩ := HCP.out
      have hL1 : L.map (·.1) = S.inodes := by rw [hL1, ← HNN.out, List.take_length]
      have hLL : L.length = S.inodes.length := by rw [← hL1, List.length_map]
      have hb5 : Below wr.heap.size wr w5 := ⟨HG5.out.os, HG5.out.tape, HG5.out.output, HG5.out.size, fun q hq => HG5.out.block q hq (by simp [Value.ownBlock])⟩
      have hv5 : RowT w5 p 56 4 v L.length (inoC S fun i => (L.getD i (noIno, .int .i64 0)).2) := (own_rowT (by decide) encI_len hL2 (cl_ino S L hL1)).below hb5
      have he5 : ∀ i, i < S.inodes.length → RowT w5 p 58 2 (L.getD i (noIno, .int .i64 0)).2 (S.ne i) (entC S i) := fun i hi => by
        rw [getD_lt (by omega)]
        exact (hL4 i (by omega)).below hb5
      have ho5 : RowT w5 p 60 3 (.slice A6 n6 c6) S.opens.length (opnC S) := by
        have := own_rowT (by decide) encD_len HO5.out HCO.out
        rwa [List.nil_append] at this
      rw [hLL] at hv5
      have HV6 := Lib.hid (hv5.far HT5.out (by decide) 1 (.slice A6 n6 c6))
      have HE6 := Lib.hid (fun i hi => (he5 i hi).far HT5.out (by decide) 1 (.slice A6 n6 c6))
      have HO6 := Lib.hid (ho5.far HT5.out (by decide) 1 (.slice A6 n6 c6))
      have HT62 := Lib.hid (HT5.out.set_ 1 (.slice A6 n6 c6))
      have HT61 := Lib.hid (HT51.out.far (p := ⟨p + 1 + 1, 1, none⟩) (by show p + 1 ≠ p + 1 + 1; omega) (.slice A6 n6 c6))
      have HB6 := Lib.hid (HB.out.trans ((hb5.mono hpz).setCell (p := ⟨p + 1 + 1, 1, none⟩) (by show p ≤ p + 1 + 1; omega) (.slice A6 n6 c6)))
      have k2 : (w5.setCell ⟨p + 1 + 1, 1, none⟩ (.slice A6 n6 c6)).cell? ⟨p, 2, none⟩ = some mv := (HT50.out.far (p := ⟨p + 1 + 1, 1, none⟩) (by show p ≠ p + 1 + 1; omega) (.slice A6 n6 c6)).cell 2
      clear hL1 hL2 hL3 hL4 hLL hb5 hv5 he5 ho5 HCP c0 c1 c2 d0 d1 e0 e1 HT0 HT1 HT2 HT5 HT50 HT51 HO5 HG5 HRO
      generalize w5.setCell ⟨p + 1 + 1, 1, none⟩ (.slice A6 n6 c6) = w6 at *
      obtain ⟨VA, vc, rfl, -⟩ := id HV6.out
      have g2 : w6.cell? ⟨p + 1 + 1, 2, none⟩ = some (.slice none 0 0) := HT62.out.cell 2
      go_wp2_with (at_builtin; refine wpList_app (enc := encM) _ rfl (.tmp 36) (.tmp 38) 24 3 rfl m0_ _ 8 Try.underlying24 hm hw0 hw1 hw2 rfl (by decide) p (.slice none 0 0) [] rfl (World.ownsRow_nil _ _ _ _) mv rfl S.made (C := madC S) ((HS.out.keep (by rw [← HP.out]; exact HB6.out)).mad) HCM.out encM_len (fun x _ => encM_one x) (by simpa using (by omega : S.made.length ≤ 100000)) (by decide) (by have := HT62.out.lt; omega) ?_; intro A7 n7 c7 w7 hn7 hown hgrow; have HT7 := Lib.hid (blk_grown hgrow HT62.out (by simp [Value.ownBlock])); have HR7 := Lib.hid (blk_grown hgrow HT61.out (by simp [Value.ownBlock])); have d0 : w7.cell? ⟨p + 1 + 1, 0, none⟩ = some (.slice VA S.inodes.length vc) := HT7.out.cell 0; have d1 : w7.cell? ⟨p + 1 + 1, 1, none⟩ = some (.slice A6 n6 c6) := HT7.out.cell 1; have d2 : w7.cell? ⟨p + 1 + 1, 2, none⟩ = some (.slice none 0 0) := HT7.out.cell 2; have f2 : w7.frozen? ⟨p + 1 + 1, 2, none⟩ = false := HT7.out.frozen 2; have k0 : w7.cell? ⟨p + 1, 0, none⟩ = some (.slice none 0 0) := HR7.out.cell 0; have k1 : w7.cell? ⟨p + 1, 1, none⟩ = some (.slice none 0 0) := HR7.out.cell 1; have k3 : w7.cell? ⟨p + 1, 2, none⟩ = some (.slice none 0 0) := HR7.out.cell 2; have l0 := HR7.out.frozen 0; have l1 := HR7.out.frozen 1; have l2 := HR7.out.frozen 2; have HN7 := Lib.hid hn7; have HO7 := Lib.hid hown; have HG7 := Lib.hid hgrow; clear hn7 hown hgrow)
      have hb7 : Below w6.heap.size w6 w7 := ⟨HG7.out.os, HG7.out.tape, HG7.out.output, HG7.out.size, fun q hq => HG7.out.block q hq (by simp [Value.ownBlock])⟩
      have hm7 := own_rowT (by decide) encM_len HO7.out HCM.out
      rw [List.nil_append] at hm7
      have hV : StV w7 p (.slice VA S.inodes.length vc) (.slice A6 n6 c6) (.slice A7 n7 c7) (fun i => (L.getD i (noIno, .int .i64 0)).2) S := ⟨HV6.out.below hb7, fun i hi => (HE6.out i hi).below hb7, HO6.out.below hb7, hm7⟩
      have hp6 : p ≤ w6.heap.size := by have := HT62.out.lt; omega
      have hR1 := HR7.out.far (p := ⟨p + 1 + 1, 2, none⟩) (by show p + 1 ≠ p + 1 + 1; omega) (.slice A7 n7 c7)
      have hR2 := hR1.set_ 0 (.slice VA S.inodes.length vc)
      have hR3 := hR2.set_ 1 (.slice A6 n6 c6)
      have hR4 := hR3.set_ 2 (.slice A7 n7 c7)
      have hV2 := (((hV.far HT7.out (by decide) (by decide) (by decide) (by decide) 2 (.slice A7 n7 c7)).far hR1 (by decide) (by decide) (by decide) (by decide) 0 (.slice VA S.inodes.length vc)).far hR2 (by decide) (by decide) (by decide) (by decide) 1 (.slice A6 n6 c6)).far hR3 (by decide) (by decide) (by decide) (by decide) 2 (.slice A7 n7 c7)
      have hB2 := ((((HB6.out.trans (hb7.mono hp6)).setCell (p := ⟨p + 1 + 1, 2, none⟩) (by show p ≤ p + 1 + 1; omega) (.slice A7 n7 c7)).setCell (p := ⟨p + 1, 0, none⟩) (by show p ≤ p + 1; omega) (.slice VA S.inodes.length vc)).setCell (p := ⟨p + 1, 1, none⟩) (by show p ≤ p + 1; omega) (.slice A6 n6 c6)).setCell (p := ⟨p + 1, 2, none⟩) (by show p ≤ p + 1; omega) (.slice A7 n7 c7)
      refine bodyPost_ret (v := .agg #[.slice VA S.inodes.length vc, .slice A6 n6 c6, .slice A7 n7 c7]) ?_ rfl ⟨_, _, _, fun i => (L.getD i (noIno, .int .i64 0)).2, rfl, ?_, ?_⟩
      · clear hB2 hV2 hR4 hR3 hR2 hR1 hV hm7 hb7
        simp [results, Try.results64, go_sem, k0, k1, k3]
      · rw [← HP.out]; exact hV2
      · rw [← HP.out]; exact hB2
end Go.Proofs.Ytenlffhoinialaa
end

section
namespace Go.Proofs.Ytenlffhoinialaa
open Go.RowKit
set_option maxHeartbeats 2000000
attribute [local go_sem ↓] Go.wp_at_zero Go.wp_at_succ
theorem Blk.below {w w' : World} {g : Nat} {t : TypeId} {cs : Array Value} (h : Blk w g t cs) (hb : Below w.heap.size w w') : Blk w' g t cs := Blk.of_heap (hb.block _ h.lt) h
theorem Inv.on_at {S : St} (h : Inv S) {k : Nat} (hk : k < S.opens.length) : 0 ≤ S.oc k ∧ S.oc k < S.made.length ∧ 0 ≤ S.of k ∧ S.of k < 4 ∧ ∃ i, i < S.inodes.length ∧ atF S (S.on k) = (i : Int) ∧ S.dir i = false ∧ S.num i = S.on k := by
  obtain ⟨h1, h2, h3, h4, y, hy, h5, h6⟩ := h.ok _ (getD_mem (d := (0, 0, 0)) hk)
  obtain ⟨i, hi, e1, e2⟩ := h.firstIx_mem hy
  refine ⟨h1, h2, h3, h4, i, hi, ?_, ?_, ?_⟩
  · unfold atF St.on; rw [← h5, e2]; rfl
  · unfold St.dir; rw [e1]; exact h6
  · unfold St.num St.on; rw [e1]; exact h5
theorem Inv.o_rise {S : St} (h : Inv S) {k : Nat} (hk : k + 1 < S.opens.length) : S.oc k < S.oc (k + 1) ∨ S.oc k = S.oc (k + 1) ∧ S.of k < S.of (k + 1) := by
  have := List.pairwise_iff_getElem.1 h.osort k (k + 1) (by omega) hk (by omega)
  unfold St.oc St.of
  rw [getD_get hk, getD_get (by omega : k < _)]
  exact this
set_option maxRecDepth 1000000 in
theorem ropen_calls {w : World} {iv ov mv : Value} {ev : Nat → Value} {S : St} (hS : StM w iv ov mv ev S) (hI : Inv S) :
    Calls Try.prog 56 #[.agg #[iv, ov, mv]] w fun e w' => SomeB e ∧ Below w.heap.size w w' := by
  obtain ⟨A, cap, rfl⟩ := hS.ino.form
  obtain ⟨MA, mcap, rfl⟩ := hS.mad.form
  obtain ⟨OA, ocap, rfl⟩ := hS.opn.form
  have HON := Lib.hid (fun k (hk : k < S.opens.length) => hI.on_at hk)
  have HOR := Lib.hid (fun k (hk : k + 1 < S.opens.length) => hI.o_rise hk)
  have hno := hI.no
  have hni := hI.ni
  have HAT := Lib.hid (fun (W : World) (hW : StM W (.slice A S.inodes.length cap) (.slice OA S.opens.length ocap) (.slice MA S.made.length mcap) ev S) (x : Int) => At_calls hW (by omega : S.inodes.length ≤ 1000) x)
  obtain ⟨n, hnn⟩ : ∃ n, S.opens.length = n := ⟨_, rfl⟩
  obtain ⟨m, hmm⟩ : ∃ n, S.made.length = n := ⟨_, rfl⟩
  obtain ⟨ni, hnin⟩ : ∃ n, S.inodes.length = n := ⟨_, rfl⟩
  have HNN := Lib.hid hnn
  have HMM := Lib.hid hmm
  have HNI := Lib.hid hnin
  have HS := Lib.hid hS
  rw [hnn, hmm, hnin] at HS HAT ⊢
  rw [hnn] at HON HOR hno
  rw [hmm, hnin] at HON
  rw [hnin] at hni
  clear hS hI hnn hmm hnin
  go_enter Try.func56, Try.ntmps56
  go_wp2_with (fail)
  have HB0 := Lib.hid (below_alloc w (.cells #[.slice A ni cap, .slice OA n ocap, .slice MA m mcap] 26))
  have HP0 := Lib.hid (Blk.new w 26 #[.slice A ni cap, .slice OA n ocap, .slice MA m mcap])
  obtain ⟨p, hp⟩ : ∃ p, p = w.heap.size := ⟨_, rfl⟩
  have HP := Lib.hid hp
  rw [← hp] at HB0 HP0 ⊢
  clear hp
  generalize w.alloc (.cells #[.slice A ni cap, .slice OA n ocap, .slice MA m mcap] 26) = W0 at *
  go_loopw [3] (fun i wr => ∃ k : Nat, i = .int .i64 k ∧ k ≤ n ∧ Below p w wr ∧ Blk wr p 26 #[.slice A ni cap, .slice OA n ocap, .slice MA m mcap]) (fun i _ => n - (intOf i).toNat)
  case atStart => exact ⟨0, rfl, by omega, HB0.out, HP0.out⟩
  case round =>
    obtain ⟨k, rfl, hk, hb, hpb⟩ := hrel
    have HB := Lib.hid hb
    have HPB := Lib.hid hpb
    have c0 : wr.cell? ⟨p, 0, none⟩ = some (.slice A ni cap) := hpb.cell 0
    have c1 : wr.cell? ⟨p, 1, none⟩ = some (.slice OA n ocap) := hpb.cell 1
    have c2 : wr.cell? ⟨p, 2, none⟩ = some (.slice MA m mcap) := hpb.cell 2
    clear hb hpb
    by_cases hq : k < n
    · have hSr := HS.out.keep (by rw [← HP.out]; exact HB.out)
      have HOP := Lib.hid hSr.opn
      rw [HNN.out] at HOP
      obtain ⟨_, hcap, g, off, rfl, hcell⟩ := HOP.out.at_ hq
      have q0 : wr.cell? ⟨g, off + k * 3, none⟩ = some (.int .i64 (S.oc k)) := hcell 0 (by omega)
      have q1 : wr.cell? ⟨g, off + k * 3 + 1, none⟩ = some (.int .i64 (S.of k)) := hcell 1 (by omega)
      have q2 : wr.cell? ⟨g, off + k * 3 + 2, none⟩ = some (.int .i64 (S.on k)) := hcell 2 (by omega)
      have hq1 : (k : Int) < n := by omega
      have HSR := Lib.hid hSr
      obtain ⟨g0, g1, g2, g3, i, hi, g4, g5, g6⟩ := HON.out k hq
      have HRI := Lib.hid (show ∀ j, k = j + 1 → S.oc j < S.oc k ∨ S.oc j = S.oc k ∧ S.of j < S.of k from fun j e => by subst e; exact HOR.out j hq)
      obtain ⟨-, -, ig, ioff, hA, hic⟩ := (show RowAt wr (.slice A ni cap) ni 4 (inoC S ev) by have := hSr.ino; rwa [HNI.out] at this).at_ hi
      subst hA
      have HIC := Lib.hid (show wr.cell? ⟨ig, ioff + i * 4 + 1, none⟩ = some (.bool false) by have := hic 1 (by omega); rw [show inoC S ev i 1 = .bool (S.dir i) from rfl, g5] at this; exact this)
      have HCA := Lib.hid (HAT.out _ (HSR.out.keep (below_alloc wr (.cells #[.int .i64 (S.oc k), .int .i64 (S.of k), .int .i64 (S.on k)] 60))) (S.on k))
      rw [g4] at HCA
      have HX := Lib.hid (Blk.new wr 60 #[.int .i64 (S.oc k), .int .i64 (S.of k), .int .i64 (S.on k)])
      have HP1 := Lib.hid (HPB.out.alloc (.cells #[.int .i64 (S.oc k), .int .i64 (S.of k), .int .i64 (S.on k)] 60))
      have HBA := Lib.hid (below_alloc wr (.cells #[.int .i64 (S.oc k), .int .i64 (S.of k), .int .i64 (S.on k)] 60))
      have HPL := Lib.hid HPB.out.lt
      clear hcell hSr hic g4 g5 g6 HON HOR HAT HPB
      generalize S.oc k = oc at *
      generalize S.of k = fd at *
      generalize S.on k = x at *
      have a0 : (wr.alloc (Obj.cells #[.int .i64 oc, .int .i64 fd, .int .i64 x] 60)).cell? ⟨p, 0, none⟩ = some (.slice (some ⟨ig, ioff, none⟩) ni cap) := HP1.out.cell 0
      have a1 : (wr.alloc (Obj.cells #[.int .i64 oc, .int .i64 fd, .int .i64 x] 60)).cell? ⟨p, 1, none⟩ = some (.slice (some ⟨g, off, none⟩) n ocap) := HP1.out.cell 1
      have a2 : (wr.alloc (Obj.cells #[.int .i64 oc, .int .i64 fd, .int .i64 x] 60)).cell? ⟨p, 2, none⟩ = some (.slice MA m mcap) := HP1.out.cell 2
      go_upto_region 6 with (go_at_call 83; refine HCA.out.mono ?_; rintro e w2 ⟨rfl, hb2⟩; have HB2 := Lib.hid hb2; clear hb2)
      have HP2 := Lib.hid (HP1.out.below HB2.out)
      have HX2 := Lib.hid (HX.out.below HB2.out)
      have HBw := Lib.hid (HBA.out.trans (HB2.out.mono HBA.out.size))
      have HBp := Lib.hid (HB.out.trans (HBw.out.mono (Nat.le_of_lt HPL.out)))
      have HW2 := Lib.hid HB2.out.size
      have s0 : w2.cell? ⟨p, 0, none⟩ = some (.slice (some ⟨ig, ioff, none⟩) ni cap) := HP2.out.cell 0
      have s1 : w2.cell? ⟨p, 1, none⟩ = some (.slice (some ⟨g, off, none⟩) n ocap) := HP2.out.cell 1
      have s2 : w2.cell? ⟨p, 2, none⟩ = some (.slice MA m mcap) := HP2.out.cell 2
      have x0 : w2.cell? ⟨wr.heap.size, 0, none⟩ = some (.int .i64 oc) := HX2.out.cell 0
      have x1 : w2.cell? ⟨wr.heap.size, 1, none⟩ = some (.int .i64 fd) := HX2.out.cell 1
      have j1 : w2.cell? ⟨ig, ioff + i * 4 + 1, none⟩ = some (.bool false) := (HBw.out.cell (World.block_lt_of_cell? wr _ HIC.out)).trans HIC.out
      have n0 : ¬ oc < 0 := by omega
      have n1 : ¬ (m : Int) ≤ oc := by omega
      have n2 : ¬ fd < 0 := by omega
      have n3 : ¬ 4 ≤ fd := by omega
      have hlt : (i : Int) < ni := by omega
      clear a0 a1 a2 q0 q1 q2 c0 c1 c2 HX HP1 HCA HSR HOP
      by_cases hk0 : 0 < k
      · obtain ⟨j, rfl⟩ : ∃ j, k = j + 1 := ⟨k - 1, by omega⟩
        obtain ⟨-, -, g', off', e, hcell⟩ := (show RowAt w2 (.slice (some ⟨g, off, none⟩) n ocap) n 3 (opnC S) by have := (HS.out.keep (by rw [← HP.out]; exact HBp.out)).opn; rwa [HNN.out] at this).at_ (i := j) (by omega)
        injection e with e
        injection e with e1 e2
        subst e1 e2
        have r0 : w2.cell? ⟨g, off + j * 3, none⟩ = some (.int .i64 (S.oc j)) := hcell 0 (by omega)
        have r1 : w2.cell? ⟨g, off + j * 3 + 1, none⟩ = some (.int .i64 (S.of j)) := hcell 1 (by omega)
        have r2 : w2.cell? ⟨g, off + j * 3 + 2, none⟩ = some (.int .i64 (S.on j)) := hcell 2 (by omega)
        have hri := HRI.out j rfl
        clear hcell HRI
        generalize S.oc j = oq at *
        generalize S.of j = fq at *
        generalize S.on j = nq at *
        have HPE := Lib.hid (HP2.out.alloc (Obj.cells #[.int .i64 oq, .int .i64 fq, .int .i64 nq] 60))
        have HBE := Lib.hid (HBp.out.trans ((below_alloc w2 (Obj.cells #[.int .i64 oq, .int .i64 fq, .int .i64 nq] 60)).mono (by have := HP2.out.lt; omega)))
        have y0 : (w2.alloc (Obj.cells #[.int .i64 oq, .int .i64 fq, .int .i64 nq] 60)).cell? ⟨wr.heap.size, 0, none⟩ = some (.int .i64 oc) := (HX2.out.alloc _).cell 0
        have y1 : (w2.alloc (Obj.cells #[.int .i64 oq, .int .i64 fq, .int .i64 nq] 60)).cell? ⟨wr.heap.size, 1, none⟩ = some (.int .i64 fd) := (HX2.out.alloc _).cell 1
        rcases hri with h1 | ⟨rfl, h2⟩
        · have h1' : (oq == oc) = false := by rw [beq_eq_false_iff_ne]; omega
          have h1'' : ¬ oc < oq := by omega
          go_wp2_with (fail)
          go_roundw
          case rel => exact ⟨j + 1 + 1, by go_num, by omega, HBE.out, HPE.out⟩
          case measure =>
            simp only [intOf]
            omega
        · have h2' : ¬ fd ≤ fq := by omega
          go_wp2_with (fail)
          go_roundw
          case rel => exact ⟨j + 1 + 1, by go_num, by omega, HBE.out, HPE.out⟩
          case measure =>
            simp only [intOf]
            omega
      · obtain rfl : k = 0 := by omega
        go_wp2_with (fail)
        go_roundw
        case rel => exact ⟨1, by go_num, by omega, HBp.out, HP2.out⟩
        case measure =>
          simp only [intOf]
          omega
    · have e : k = n := by omega
      subst e
      go_wp2_with (fail)
      go_ret
      exact ⟨⟨_, rfl⟩, by rw [← HP.out]; exact HB.out⟩
end Go.Proofs.Ytenlffhoinialaa
end

