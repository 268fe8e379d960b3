
/- dir: lock, place, get, put. -/
import Derived.Test.YtkbajjpdngfhbaaDirSlot
import Derived.Test.YtkbajjpdngfhbaaOut
import Derived.Deep.DeepCutAuto
import Derived.Deep.RegionHeld3
import Derived.StillTailTactics
namespace Go.Proofs.Ytkbajjpdngfhbaa
open Go.RowKit
set_option maxHeartbeats 1000000

/-- A directory at d, over words from f on of the arena at a. -/
def DAt (L : Nat → Prop) (w : World) (d a : Nat) (f : Int) : Prop := L d ∧ Blk w d 97 #[.pointer (some ⟨a, 0, none⟩), .int .i64 f] ∧ (0 ≤ f ∧ f ≤ 65536)
section
variable {L : Nat → Prop} {w : World} {a d : Nat} {ws : List Int} {n m : Nat} {P : List (List Acc) → Prop} {f : Int}
theorem DAt.keep {w' : World} (h : DAt L w d a f) (hk : Keeps L w w') : DAt L w' d a f := ⟨h.1, hk.blk h.2.1 h.1, h.2.2⟩
theorem DAt.drewN (h : DAt L w d a f) (k : Nat) : DAt L (w.drewN k) d a f := h

set_option maxRecDepth 1000000 in
theorem lock_calls (h : DAt L w d a f) (b : Int) (hb : 0 ≤ b ∧ b < 8) :
    Calls Try.prog 55 #[.pointer (some ⟨d, 0, none⟩), .int .i64 b] w fun e w' => e = .returned (.int .i64 (f + b * 13)) ∧ ∃ k, w' = w.drewN k := by
  have c1 := h.2.1.cell 1
  have hf := h.2.2
  clear h
  have e1 : IntKind.i64.wrap (b * 13) = b * 13 := IntWalk.i64_in _ (by omega)
  have e2 : IntKind.i64.wrap (f + b * 13) = f + b * 13 := IntWalk.i64_in _ (by omega)
  go_enter Try.func55, Try.ntmps55
  go_wp2_with (fail)
  go_ret
  exact ⟨rfl, 0, rfl⟩
set_option maxRecDepth 1000000 in
theorem place_calls (h : DAt L w d a f) (b k : Int) (hb : 0 ≤ b ∧ b < 8) (hk : 0 ≤ k ∧ k < 4) :
    Calls Try.prog 56 #[.pointer (some ⟨d, 0, none⟩), .int .i64 b, .int .i64 k] w fun e w' => e = .returned (.int .i64 (f + b * 13 + 1 + k * 3)) ∧ ∃ k, w' = w.drewN k := by
  have H := Lib.hid (lock_calls h b hb)
  have hf := h.2.2
  clear h
  have e1 : IntKind.i64.wrap (k * 3) = k * 3 := IntWalk.i64_in _ (by omega)
  have e2 : IntKind.i64.wrap (f + b * 13 + 1) = f + b * 13 + 1 := IntWalk.i64_in _ (by omega)
  have e3 : IntKind.i64.wrap (f + b * 13 + 1 + k * 3) = f + b * 13 + 1 + k * 3 := IntWalk.i64_in _ (by omega)
  go_enter Try.func56, Try.ntmps56
  go_wp2_with (go_at_call 55; refine H.out.mono ?_; rintro e w' ⟨rfl, k', rfl⟩)
  go_ret
  exact ⟨rfl, _, rfl⟩
set_option maxRecDepth 1000000 in
theorem get_calls (h : DAt L w d a f) (hA : ArP L w a ws n m P) (hm : m ≤ 1099511627770) (c b k : Int) (hc : 0 ≤ c ∧ c < n) (hb : 0 ≤ b ∧ b < 8) (hk : 0 ≤ k ∧ k < 4) (hw : f + 104 ≤ ws.length) {S : Acc → Prop} (hcl : Cl n P c S) (hS : ∀ i, f + b * 13 ≤ i → i < f + b * 13 + 13 → S (i, false)) :
    Calls Try.prog 34 #[.pointer (some ⟨d, 0, none⟩), .int .i64 c, .int .i64 b, .int .i64 k] w fun e w' => e = .returned (.agg #[.int .i64 (rd ws (f + b * 13 + 1 + k * 3)), .int .i64 (rd ws (f + b * 13 + 1 + k * 3 + 1)), .int .i64 (rd ws (f + b * 13 + 1 + k * 3 + 2))]) ∧ ArP L w' a ws n (m + 3) P ∧ Keeps L w w' := by
  have hf := h.2.2
  have hbd := hA.bd
  have hgL : ¬ L w.heap.size := hbd.new
  generalize ho : Obj.cells #[Value.int IntKind.i64 0, Value.int IntKind.i64 0, Value.int IntKind.i64 0] 71 = O
  have hA1 := hA.allocIns O
  have hX1 : Blk (w.alloc O) w.heap.size 71 #[.int .i64 0, .int .i64 0, .int .i64 0] := by subst ho; exact Blk.new _ _ _
  have hD1 : DAt (ins L w.heap.size) (w.alloc O) d a f := ⟨ins.old h.1, (h.keep ((Keeps.refl L w).alloc hbd O)).2⟩
  have HK1 := Lib.hid ((Keeps.refl L w).alloc hbd O)
  go_enter Try.func34, Try.ntmps34
  go_wp2_with (fail)
  generalize hg : w.heap.size = g at *
  generalize w.alloc O = w1 at *
  generalize hB : f + b * 13 + 1 + k * 3 = B at *
  refine (place_calls hD1 b k hb hk).mono ?_
  rintro e w' ⟨rfl, k', rfl⟩
  rw [hB]
  have hin : f + b * 13 ≤ B ∧ B + 2 < f + b * 13 + 13 ∧ 0 ≤ B ∧ B + 2 < ws.length := by omega
  have hD2 := hD1.drewN k'
  have hA2 := hA1.drewN k'
  have hX2 : Blk (w1.drewN k') g 71 #[.int .i64 0, .int .i64 0, .int .i64 0] := hX1
  have HK2 := Lib.hid (HK1.out.drewN k')
  clear HK1
  generalize w1.drewN k' = w2 at *
  have hbd2 := hA2.bd
  have hLbd : ¬ L w2.heap.size := (hbd2.sub (fun b hb => (ins.old hb : ins L g b))).new
  have hA3 := hA2.allocIns O
  have hR3 : Blk (w2.alloc O) g 71 #[.int .i64 0, .int .i64 0, .int .i64 0] := hX2.alloc O
  have hX3 : Blk (w2.alloc O) w2.heap.size 71 #[.int .i64 0, .int .i64 0, .int .i64 0] := by subst ho; exact Blk.new _ _ _
  have hD3 : DAt (ins (ins L g) w2.heap.size) (w2.alloc O) d a f := ⟨ins.old hD2.1, (hD2.keep ((Keeps.refl _ w2).alloc hbd2 O)).2⟩
  have HK3 := Lib.hid (HK2.out.trans (((Keeps.refl _ w2).alloc hbd2 O).sub (fun _ h => ins.old h)))
  have hgg : g ≠ w2.heap.size := Nat.ne_of_lt hX2.lt
  clear HK2 hD2 hX2 hA2 hbd2 hA1 hD1 hX1
  have c0 := hD3.2.1.cell 0
  have x0 := hX3.cell 0
  have y0 := hX3.frozen 0
  have HD := Lib.hid hD3
  have HX := Lib.hid hX3
  have HR := Lib.hid hR3
  have hdx : d ≠ w2.heap.size := fun e => by
    have := hD3.2.1.ne_ hX3 (by decide)
    exact this e
  have hxL : ¬ L w2.heap.size := fun h => by
    exact hLbd h
  clear hX3 hR3 hD3
  go_wp2_with (fail)
  generalize hx : w2.heap.size = x at *
  generalize w2.alloc O = w3 at *
  refine (load_p hA3 (by omega) hc ⟨hin.2.2.1, by omega⟩ rfl hcl (hS _ hin.1 (by omega))).mono ?_
  rintro e w4 ⟨rfl, hA4, hK4⟩
  have lx : ∀ l, ins (ins L g) l l := fun l => .inr rfl
  have HX4 := Lib.hid (hK4.blk HX.out (lx x))
  have HD4 := Lib.hid (HD.out.keep hK4)
  have HR4 := Lib.hid (hK4.blk HR.out (ins.old (.inr rfl)))
  have c4 := HD4.out.2.1.cell 0
  have x4 := HX4.out.cell 0
  have y4 := HX4.out.frozen 0
  go_wp2_with (fail)
  have hK5 := (Keeps.refl L w4).setCell (p := ⟨x, 0, none⟩) hxL (.int .i64 (rd ws B))
  have hA5 := hA4.setCell (p := ⟨x, 0, none⟩) (lx x) (.int .i64 (rd ws B))
  have HX5 := Lib.hid (HX4.out.set_ 0 (.int .i64 (rd ws B)))
  have HR5 := Lib.hid (HR4.out.far (p := ⟨x, 0, none⟩) hgg (.int .i64 (rd ws B)))
  have HD5 := Lib.hid (show DAt (ins (ins L g) x) (w4.setCell ⟨x, 0, none⟩ (.int .i64 (rd ws B))) d a f from ⟨HD4.out.1, HD4.out.2.1.far hdx _, HD4.out.2.2⟩)
  generalize w4.setCell ⟨x, 0, none⟩ (.int .i64 (rd ws B)) = w5 at *
  refine (load_p hA5 (by omega) hc ⟨by omega, by omega⟩ rfl hcl (hS _ (by omega) (by omega))).mono ?_
  rintro e w6 ⟨rfl, hA6, hK6⟩
  have HX6 := Lib.hid (hK6.blk HX5.out (lx x))
  have HD6 := Lib.hid (HD5.out.keep hK6)
  have HR6 := Lib.hid (hK6.blk HR5.out (ins.old (.inr rfl)))
  clear x4 y4 c4 c0 x0 y0
  have c6 := HD6.out.2.1.cell 0
  have x6 := HX6.out.cell 1
  have y6 := HX6.out.frozen 1
  go_wp2_with (fail)
  have hK7 := (Keeps.refl L w6).setCell (p := ⟨x, 1, none⟩) hxL (.int .i64 (rd ws (B + 1)))
  have hA7 := hA6.setCell (p := ⟨x, 1, none⟩) (lx x) (.int .i64 (rd ws (B + 1)))
  have HX7 := Lib.hid (HX6.out.set_ 1 (.int .i64 (rd ws (B + 1))))
  have HR7 := Lib.hid (HR6.out.far (p := ⟨x, 1, none⟩) hgg (.int .i64 (rd ws (B + 1))))
  have HD7 := Lib.hid (show DAt (ins (ins L g) x) (w6.setCell ⟨x, 1, none⟩ (.int .i64 (rd ws (B + 1)))) d a f from ⟨HD6.out.1, HD6.out.2.1.far hdx _, HD6.out.2.2⟩)
  generalize w6.setCell ⟨x, 1, none⟩ (.int .i64 (rd ws (B + 1))) = w7 at *
  refine (load_p hA7 (by omega) hc ⟨by omega, by omega⟩ rfl hcl (hS _ (by omega) (by omega))).mono ?_
  rintro e w8 ⟨rfl, hA8, hK8⟩
  have HX8 := Lib.hid (hK8.blk HX7.out (lx x))
  have HR8 := Lib.hid (hK8.blk HR7.out (ins.old (.inr rfl)))
  clear x6 y6 c6
  have x8 := HX8.out.cell 0
  have x81 := HX8.out.cell 1
  have x82 := HX8.out.cell 2
  have y8 := HX8.out.frozen 2
  have r8 := HR8.out.cell 0
  have r81 := HR8.out.cell 1
  have r82 := HR8.out.cell 2
  have t8 := HR8.out.frozen 0
  have t81 := HR8.out.frozen 1
  have t82 := HR8.out.frozen 2
  go_wp2_with (fail)
  have hF := (((hA8.setCell (p := ⟨x, 2, none⟩) (lx x) (.int .i64 (rd ws (B + 2)))).setCell (p := ⟨g, 0, none⟩) (.inl (.inr rfl)) (.int .i64 (rd ws B))).setCell (p := ⟨g, 1, none⟩) (.inl (.inr rfl)) (.int .i64 (rd ws (B + 1)))).setCell (p := ⟨g, 2, none⟩) (.inl (.inr rfl)) (.int .i64 (rd ws (B + 2)))
  have hs : ∀ b, L b → ins (ins L g) x b := fun b hb => ins.old (ins.old hb)
  have hKF := ((((((((HK3.out.trans (hK4.sub hs)).trans hK5).trans (hK6.sub hs)).trans hK7).trans (hK8.sub hs)).setCell (p := ⟨x, 2, none⟩) hxL (.int .i64 (rd ws (B + 2)))).setCell (p := ⟨g, 0, none⟩) hgL (.int .i64 (rd ws B))).setCell (p := ⟨g, 1, none⟩) hgL (.int .i64 (rd ws (B + 1)))).setCell (p := ⟨g, 2, none⟩) hgL (.int .i64 (rd ws (B + 2)))
  have hRF := (((HR8.out.far (p := ⟨x, 2, none⟩) hgg (.int .i64 (rd ws (B + 2)))).set_ 0 (.int .i64 (rd ws B))).set_ 1 (.int .i64 (rd ws (B + 1)))).set_ 2 (.int .i64 (rd ws (B + 2)))
  refine bodyPost_ret (results_cell_row rfl _ _ _ _ _ _ _ (hd := rfl) rfl hRF Try.underlying71 (by kernel_rfl)) rfl ?_
  subst hB
  exact ⟨rfl, (hF.sub hs).mono (by omega), hKF⟩
set_option maxRecDepth 1000000 in
theorem put_calls (h : DAt L w d a f) (hA : ArP L w a ws n m P) (hm : m ≤ 1099511627770) (c b k : Int) (hc : 0 ≤ c ∧ c < n) (hb : 0 ≤ b ∧ b < 8) (hk : 0 ≤ k ∧ k < 4) (hw : f + 104 ≤ ws.length) {S : Acc → Prop} (hcl : Cl n P c S) (hS : ∀ i, f + b * 13 ≤ i → i < f + b * 13 + 13 → S (i, true)) (v0 v1 v2 : Int) :
    Calls Try.prog 31 #[.pointer (some ⟨d, 0, none⟩), .int .i64 c, .int .i64 b, .int .i64 k, .agg #[.int .i64 v0, .int .i64 v1, .int .i64 v2]] w fun e w' => e = .returned (.tuple #[]) ∧ ∃ ws', ws'.length = ws.length ∧ (∀ i, 0 ≤ i → i ≠ f + b * 13 → rd ws' i = if i = f + b * 13 + 1 + k * 3 then v0 else if i = f + b * 13 + 1 + k * 3 + 1 then v1 else if i = f + b * 13 + 1 + k * 3 + 2 then v2 else rd ws i) ∧ ArP L w' a ws' n (m + 5) P ∧ Keeps L w w' := by
  have hf := h.2.2
  have HWL := Lib.hid hA.wsl
  have hbd := hA.bd
  have hgL : ¬ L w.heap.size := hbd.new
  generalize ho : Obj.cells #[Value.int IntKind.i64 v0, Value.int IntKind.i64 v1, Value.int IntKind.i64 v2] 71 = O
  have hA1 := hA.allocIns O
  have hX1 : Blk (w.alloc O) w.heap.size 71 #[.int .i64 v0, .int .i64 v1, .int .i64 v2] := by subst ho; exact Blk.new _ _ _
  have hD1 : DAt (ins L w.heap.size) (w.alloc O) d a f := ⟨ins.old h.1, (h.keep ((Keeps.refl L w).alloc hbd O)).2⟩
  have HK1 := Lib.hid ((Keeps.refl L w).alloc hbd O)
  have hl0 : ∀ i, 0 ≤ i → i = i := fun _ _ => rfl
  generalize hl : f + b * 13 = l at *
  have hlin : 0 ≤ l ∧ l + 13 ≤ ws.length := by omega
  go_enter Try.func31, Try.ntmps31
  go_wp2_with (fail)
  generalize hg : w.heap.size = g at *
  generalize w.alloc O = w1 at *
  have c0 := hD1.2.1.cell 0
  have hdl := hD1.1
  have HLK := Lib.hid (fun j => lock_calls (hD1.drewN j) b hb)
  have HA1 := Lib.hid hA1
  generalize hws1 : wr ws l (wrap64 (rd ws l + 1)) = ws1
  have HADD := Lib.hid (fun j => add_p (hA1.drewN j) (by omega) (v := 1) hc (i := l) ⟨hlin.1, by omega⟩ rfl hws1 hcl (hS _ (Int.le_refl _) (by omega)))
  have HD1 := Lib.hid hD1
  have HX1 := Lib.hid hX1
  clear hD1 hA1 h hA hX1
  go_region_held3 (fun w' => w'.cell? ⟨d, 0, none⟩ = some (.pointer (some ⟨a, 0, none⟩))) (first | exact c0 | exact hK4.cellOf hdl c0)
    ((first
      | (go_at_call 55; refine (HLK.out _).mono ?_; rintro e w' ⟨rfl, d1, rfl⟩; rw [hl])
      | (go_at_call 54; refine (HADD.out _).mono ?_; rintro e w4 ⟨rfl, hA4, hK4⟩)))
  go_wp2_with (fail)
  have hD4 := HD1.out.keep hK4.undrewN
  have HX4 := Lib.hid (hK4.undrewN.blk HX1.out (ins.new L g))
  refine (place_calls hD4 b k hb hk).mono ?_
  rintro e w' ⟨rfl, k', rfl⟩
  rw [hl]
  generalize hB : l + 1 + k * 3 = B at *
  have hin : l ≤ B ∧ B + 2 < l + 13 ∧ 0 ≤ B ∧ B + 2 < ws.length ∧ l < B := by omega
  have e1 : IntKind.i64.wrap (B + 1) = B + 1 := IntWalk.i64_in _ (by have := HWL.out; omega)
  have e2 : IntKind.i64.wrap (B + 2) = B + 2 := IntWalk.i64_in _ (by have := HWL.out; omega)
  have hD5 := hD4.drewN k'
  have hA5 := hA4.drewN k'
  have HX5 := Lib.hid (show Blk (w4.drewN k') g 71 #[.int .i64 v0, .int .i64 v1, .int .i64 v2] from HX4.out)
  have HK5 := Lib.hid ((HK1.out.trans (hK4.undrewN.sub fun _ => ins.old)).drewN k')
  have hl1 : ws1.length = ws.length := by rw [← hws1]; exact wr_length _ _ _
  clear hK4 hA4 hD4 HX4 HX1 HD1
  generalize w4.drewN k' = w5 at *
  have HD5 := Lib.hid hD5
  clear hD5 c0
  have c5 := HD5.out.2.1.cell 0
  have x5 : w5.cell? ⟨g, 0, none⟩ = some (.int .i64 v0) := HX5.out.cell 0
  have HA5 := Lib.hid hA5
  clear hA5
  go_upto_region 3 with (fail)
  go_region_held3 (fun w' => w'.cell? ⟨d, 0, none⟩ = some (.pointer (some ⟨a, 0, none⟩)) ∧ w'.cell? ⟨g, 0, none⟩ = some (.int .i64 v0)) (first | exact ⟨c5, x5⟩ | exact ⟨hK6.cellOf hdl c5, hK6.cellOf (ins.new L g) x5⟩)
    ((first
      | (go_at_call 57; refine (store_p HA5.out.drew (by omega) hc (i := B) ⟨by omega, by first | omega | (simp only [wr_length]; omega)⟩ rfl hcl (hS _ (by omega) (by omega))).mono ?_; rintro e w6 ⟨rfl, hA6, hK6⟩)))
  have HX6 := Lib.hid (hK6.undrew.blk HX5.out (ins.new L g))
  have HD6 := Lib.hid (HD5.out.keep hK6.undrew)
  clear c5 x5
  have c6 := HD6.out.2.1.cell 0
  have x6 : w6.cell? ⟨g, 1, none⟩ = some (.int .i64 v1) := HX6.out.cell 1
  have HA6 := Lib.hid hA6
  clear hA6
  go_upto_region 4 with (fail)
  go_region_held3 (fun w' => w'.cell? ⟨d, 0, none⟩ = some (.pointer (some ⟨a, 0, none⟩)) ∧ w'.cell? ⟨g, 1, none⟩ = some (.int .i64 v1)) (first | exact ⟨c6, x6⟩ | exact ⟨hK7.cellOf hdl c6, hK7.cellOf (ins.new L g) x6⟩)
    ((first
      | (go_at_call 57; refine (store_p HA6.out.drew (by omega) hc (i := B + 1) ⟨by omega, by first | omega | (simp only [wr_length]; omega)⟩ rfl hcl (hS _ (by omega) (by omega))).mono ?_; rintro e w7 ⟨rfl, hA7, hK7⟩)))
  have HX7 := Lib.hid (hK7.undrew.blk HX6.out (ins.new L g))
  have HD7 := Lib.hid (HD6.out.keep hK7.undrew)
  clear c6 x6
  have c7 := HD7.out.2.1.cell 0
  have x7 : w7.cell? ⟨g, 2, none⟩ = some (.int .i64 v2) := HX7.out.cell 2
  have HA7 := Lib.hid hA7
  clear hA7
  go_upto_region 5 with (fail)
  go_region_held3 (fun w' => w'.cell? ⟨d, 0, none⟩ = some (.pointer (some ⟨a, 0, none⟩)) ∧ w'.cell? ⟨g, 2, none⟩ = some (.int .i64 v2)) (first | exact ⟨c7, x7⟩ | exact ⟨hK8.cellOf hdl c7, hK8.cellOf (ins.new L g) x7⟩)
    ((first
      | (go_at_call 57; refine (store_p HA7.out.drew (by omega) hc (i := B + 2) ⟨by omega, by first | omega | (simp only [wr_length]; omega)⟩ rfl hcl (hS _ (by omega) (by omega))).mono ?_; rintro e w8 ⟨rfl, hA8, hK8⟩)))
  have HX8 := Lib.hid (hK8.undrew.blk HX7.out (ins.new L g))
  have HD8 := Lib.hid (HD7.out.keep hK8.undrew)
  clear c7 x7
  have c8 := HD8.out.2.1.cell 0
  go_upto_region 6 with (fail)
  have HLK8 := Lib.hid (fun j => lock_calls (HD8.out.drewN j) b hb)
  generalize hws8 : wr (wr (wr ws1 B v0) (B + 1) v1) (B + 2) v2 = ws8 at *
  have hl8 : ws8.length = ws.length := by rw [← hws8, wr_length, wr_length, wr_length]; exact hl1
  have HADD8 := Lib.hid (fun j => add_p (hA8.drewN j) (by omega) (v := 1) hc (i := l) ⟨hlin.1, by omega⟩ rfl rfl hcl (hS _ (Int.le_refl _) (by omega)))
  clear hA8
  go_region_held3 (fun w' => w'.cell? ⟨d, 0, none⟩ = some (.pointer (some ⟨a, 0, none⟩))) (first | exact c8 | exact hK9.cellOf hdl c8)
    ((first
      | (go_at_call 55; refine (HLK8.out _).mono ?_; rintro e w' ⟨rfl, d1, rfl⟩; rw [hl])
      | (go_at_call 54; refine (HADD8.out _).mono ?_; rintro e w9 ⟨rfl, hA9, hK9⟩)))
  go_wp2_with (fail)
  go_end0
  refine ⟨rfl, _, ?_, ?_, (hA9.sub fun _ => ins.old).mono (by omega), ((((HK5.out.trans (hK6.undrew.sub fun _ => ins.old)).trans (hK7.undrew.sub fun _ => ins.old)).trans (hK8.undrew.sub fun _ => ins.old)).trans (hK9.undrewN.sub fun _ => ins.old))⟩
  · rw [wr_length]; exact hl8
  · intro i h0 hne
    rw [rd_wr ⟨hlin.1, by omega⟩ h0, if_neg hne, ← hws8, rd_wr ⟨by omega, by simp only [wr_length]; omega⟩ h0, rd_wr ⟨by omega, by simp only [wr_length]; omega⟩ h0, rd_wr ⟨by omega, by omega⟩ h0, ← hws1, rd_wr ⟨hlin.1, by omega⟩ h0, if_neg hne]
    subst hB
    by_cases q0 : i = l + 1 + k * 3
    · rw [if_neg (by omega), if_neg (by omega), if_pos q0, if_pos q0]
    · by_cases q1 : i = l + 1 + k * 3 + 1
      · rw [if_neg (by omega), if_pos q1, if_neg q0, if_pos q1]
      · by_cases q2 : i = l + 1 + k * 3 + 2
        · rw [if_pos q2, if_neg q0, if_neg q1, if_pos q2]
        · rw [if_neg q2, if_neg q1, if_neg q0, if_neg q0, if_neg q1, if_neg q2]
end
end Go.Proofs.Ytkbajjpdngfhbaa
