/- law20: what the laws call: SameFindings, Num, whole. law20: the findings of the states that the laws make, plainly. law20: New, Copy of a new state, Image of no bytes, awake. law20: awake. -/
import Derived.Test.YtenlffhoinialaaMCkState
import Derived.Deep.Upon
section
namespace Go.Proofs.Ytenlffhoinialaa
open Go.RowKit
set_option maxHeartbeats 1000000
attribute [local go_sem ↓] Go.wp_at_zero Go.wp_at_succ
theorem RowAt.drewN {w : World} {v : Value} {n k : Nat} {C : Nat → Nat → Value} (h : RowAt w v n k C) (d : Nat) : RowAt (w.drewN d) v n k C := h
set_option maxRecDepth 1000000 in
theorem same_fnd {w : World} {v v' : Value} {D : List Fnd} (h : RowAt w v D.length 3 (fndC D)) (h' : RowAt w v' D.length 3 (fndC D)) (hD : D.length ≤ 1000000000) :
    Calls Try.prog 17 #[v, v'] w fun e w' => e = .returned (.bool true) ∧ ∃ d, w' = w.drewN d := by
  obtain ⟨A, cap, rfl⟩ := h.form
  obtain ⟨A', cap', rfl⟩ := h'.form
  have HR := Lib.hid h
  have HR' := Lib.hid h'
  clear h h'
  generalize D.length = n at *
  go_enter Try.func17, Try.ntmps17
  go_wp2_with (fail)
  go_loopw [5] (fun i wr => ∃ k d : Nat, i = .int .i64 k ∧ k ≤ n ∧ wr = w.drewN d) (fun i _ => n - (intOf i).toNat)
  case atStart => exact ⟨0, 0, rfl, by omega, rfl⟩
  case round =>
    obtain ⟨k, d, rfl, hk, rfl⟩ := hrel
    by_cases hp : k < n
    · obtain ⟨-, hcap, g, off, rfl, hcell⟩ := HR.out.at_ hp
      obtain ⟨-, hcap', g', off', rfl, hcell'⟩ := HR'.out.at_ hp
      have q0 : w.cell? ⟨g, off + k * 3, none⟩ = some (.int .i64 (fAt D k).kind) := hcell 0 (by omega)
      have q1 : w.cell? ⟨g, off + k * 3 + 1, none⟩ = some (.int .i64 (fAt D k).num) := hcell 1 (by omega)
      have q2 : w.cell? ⟨g, off + k * 3 + 2, none⟩ = some (.string (fAt D k).name) := hcell 2 (by omega)
      have p0 : w.cell? ⟨g', off' + k * 3, none⟩ = some (.int .i64 (fAt D k).kind) := hcell' 0 (by omega)
      have p1 : w.cell? ⟨g', off' + k * 3 + 1, none⟩ = some (.int .i64 (fAt D k).num) := hcell' 1 (by omega)
      have p2 : w.cell? ⟨g', off' + k * 3 + 2, none⟩ = some (.string (fAt D k).name) := hcell' 2 (by omega)
      clear hcell hcell'
      have hp1 : (k : Int) < n := by omega
      go_wp2_with (fail)
      go_quiet (fail)
      go_wp2_with (fail)
      go_roundw
      case rel => exact ⟨k + 1, d + nq, by go_num, by omega, rfl⟩
      case measure =>
        simp only [intOf]
        omega
    · have e : k = n := by omega
      subst e
      go_wp2_with (fail)
      go_ret
      exact ⟨rfl, d, rfl⟩
set_option maxRecDepth 1000000 in
theorem num_calls (x : Int) (w : World) : Calls Try.prog 24 #[.int .i64 x] w fun e w' => e = .returned (.int .i64 x) ∧ w = w' := by
  go_enter Try.func24, Try.ntmps24
  go_wp2_with (fail)
  go_ret
  exact ⟨rfl, rfl⟩
def sB (l : List UInt8) : ByteArray := ⟨l.toArray⟩
/-- The inodes of whole, with the places of its entries. -/
def wholeI (e1 e2 : Nat) : Array Value := #[.int .i64 1, .bool true, .slice (some ⟨e1, 0, none⟩) 3 3, .string ⟨#[]⟩, .int .i64 2, .bool true, .slice (some ⟨e2, 0, none⟩) 1 1, .string ⟨#[]⟩, .int .i64 3, .bool false, .slice none 0 0, .string ⟨#[116, 104, 114, 101, 101]⟩, .int .i64 10, .bool false, .slice none 0 0, .string ⟨#[]⟩, .int .i64 11, .bool false, .slice none 0 0, .string ⟨#[111, 112, 101, 110]⟩]
def wholeE1 : Array Value := #[.string ⟨#[100]⟩, .int .i64 2, .string ⟨#[102]⟩, .int .i64 3, .string ⟨#[103]⟩, .int .i64 3]
def wholeE2 : Array Value := #[.string ⟨#[104]⟩, .int .i64 10]
structure Whole (w w' : World) (g go gm e1 e2 : Nat) (I E1 E2 O M : Array Value) : Prop where
  bel : Below w.heap.size w w'
  hg : w.heap.size ≤ g
  hgo : w.heap.size ≤ go
  hgm : w.heap.size ≤ gm
  he1 : w.heap.size ≤ e1
  he2 : w.heap.size ≤ e2
  ne : e1 ≠ e2
  ino : Blk w' g 56 I
  ent1 : Blk w' e1 58 E1
  ent2 : Blk w' e2 58 E2
  opn : Blk w' go 60 O
  mad : Blk w' gm 3 M
set_option maxRecDepth 1000000 in
theorem whole_calls (w : World) : Calls Try.prog 28 #[] w fun e w' => ∃ g go gm e1 e2, e = .returned (.agg #[.slice (some ⟨g, 0, none⟩) 5 5, .slice (some ⟨go, 0, none⟩) 1 1, .slice (some ⟨gm, 0, none⟩) 2 2]) ∧ Whole w w' g go gm e1 e2 (wholeI e1 e2) wholeE1 wholeE2 #[.int .i64 1, .int .i64 2, .int .i64 11] #[.int .i64 3, .int .i64 2] := by
  go_enter Try.func28, Try.ntmps28
  go_wp2_with (fail)
  refine bodyPost_ret (v := .agg #[.slice (some ⟨w.heap.size + 1 + 1 + 1 + 1 + 1, 0, none⟩) 5 5, .slice (some ⟨w.heap.size + 1 + 1, 0, none⟩) 1 1, .slice (some ⟨w.heap.size + 1, 0, none⟩) 2 2]) (by simp [results, Try.results28, go_sem]) rfl ⟨_, _, _, w.heap.size + 1 + 1 + 1, w.heap.size + 1 + 1 + 1 + 1, rfl, ?_⟩
  exact ⟨((((((Below.refl _ _).alloc (Nat.le_refl _) _).alloc (by simp) _).alloc (by simp; omega) _).alloc (by simp; omega) _).alloc (by simp; omega) _).alloc (by simp; omega) _, by omega, by omega, by omega, by omega, by omega, by omega,
    Blk.newAt _ _ _ (by simp), ((Blk.newAt _ _ _ (by simp)).alloc _).alloc _, (Blk.newAt _ _ _ (by simp)).alloc _, (((Blk.newAt _ _ _ (by simp)).alloc _).alloc _).alloc _, ((((Blk.newAt _ _ _ (by simp)).alloc _).alloc _).alloc _).alloc _⟩
end Go.Proofs.Ytenlffhoinialaa
end

section
namespace Go.Proofs.Ytenlffhoinialaa
open Go.RowKit
set_option maxHeartbeats 1000000
/-- The same in words that compute. -/
def ncheckC (s : ByteArray) : Int :=
  if 12 < s.size then 801 else if (s.data.toList.isEmpty || s.data.toList == [46] || s.data.toList == [46, 46]) = true then 800 else if okFrom s s.size 0 = true then 0 else 800
theorem ncheck_c : ncheck = ncheckC := by funext s; unfold ncheck ncheckC; rw [ByteArray.toList_eq]
def nleC (s t : ByteArray) : Bool := Op.bytesLess s.data.toList t.data.toList || s.data.toList == t.data.toList
theorem nle_c : nle = nleC := by funext s t; unfold nle nleC; rw [ByteArray.toList_eq, ByteArray.toList_eq]
def b6C (S : St) (i : Nat) : Bool := (S.dir i && !(S.dat i).data.toList.isEmpty) || (!S.dir i && decide (0 < S.ne i)) || decide (256 < (S.dat i).size)
theorem b6_c : b6 = b6C := by funext S i; unfold b6 b6C; rw [ByteArray.toList_eq]
def b5C (S : St) (i k : Nat) : Bool := !(ncheckC (S.enm i k) == 0) || (decide (0 < k) && nleC (S.enm i k) (S.enm i (k - 1)))
theorem b5_c : b5 = b5C := by funext S i k; unfold b5 b5C; rw [ncheck_c, nle_c]
def entAtC (S : St) (i k : Nat) : List Fnd := one 2 (S.num i) (S.enm i k) (b2 S i k) ++ one 5 (S.num i) (S.enm i k) (b5C S i k) ++ one 7 (S.num i) nm0 (b7 S i k)
def bodyAtC (S : St) (i : Nat) : List Fnd := one 6 (S.num i) nm0 (b6C S i) ++ if S.dir i then (List.range (S.ne i)).flatMap (entAtC S i) else []
def rawC (S : St) : List Fnd := numbersF S ++ (List.range S.inodes.length).flatMap (bodyAtC S) ++ treeF S ++ openF S
theorem raw_c (S : St) : rawF S = rawC S := by
  have h1 : entAt = entAtC := by funext S i k; unfold entAt entAtC; rw [b5_c]
  have h2 : bodyAt = bodyAtC := by funext S i; unfold bodyAt bodyAtC; rw [b6_c, h1]
  unfold rawF rawC bodiesF
  rw [h2]
def dS : List (ByteArray × Int) := [(⟨#[100]⟩, 2), (⟨#[102]⟩, 3), (⟨#[103]⟩, 3)]
def hS : List (ByteArray × Int) := [(⟨#[104]⟩, 10)]
def wS (a b : List (ByteArray × Int)) (d2 d3 : ByteArray) (n4 n5 : Int) (O : List (Int × Int × Int)) (M : List Int) : St :=
  ⟨[⟨1, true, a, ⟨#[]⟩⟩, ⟨2, true, b, d2⟩, ⟨3, false, [], d3⟩, ⟨n4, false, [], ⟨#[]⟩⟩, ⟨n5, false, [], ⟨#[111, 112, 101, 110]⟩⟩], O, M⟩
def w0S : St := wS dS hS ⟨#[]⟩ ⟨#[116, 104, 114, 101, 101]⟩ 10 11 [(1, 2, 11)] [3, 2]
set_option maxRecDepth 100000 in
theorem ev_whole : rawF w0S = [] := by rw [raw_c]; kernel_rfl
end Go.Proofs.Ytenlffhoinialaa
end

section
namespace Go.Proofs.Ytenlffhoinialaa
open Go.RowKit
set_option maxHeartbeats 1000000
attribute [local go_sem ↓] Go.wp_at_zero Go.wp_at_succ
theorem whole_stm {w : World} {g : Nat} {v0 v1 ov mv : Value} {a b : List (ByteArray × Int)} {d2 d3 : ByteArray} {n4 n5 : Int} {O : List (Int × Int × Int)} {M : List Int}
    (hI : Blk w g 56 #[.int .i64 1, .bool true, v0, .string ⟨#[]⟩, .int .i64 2, .bool true, v1, .string d2, .int .i64 3, .bool false, .slice none 0 0, .string d3, .int .i64 n4, .bool false, .slice none 0 0, .string ⟨#[]⟩, .int .i64 n5, .bool false, .slice none 0 0, .string ⟨#[111, 112, 101, 110]⟩])
    (h0 : RowAt w v0 a.length 2 (entC (wS a b d2 d3 n4 n5 O M) 0)) (h1 : RowAt w v1 b.length 2 (entC (wS a b d2 d3 n4 n5 O M) 1)) (hO : RowAt w ov O.length 3 (opnC (wS a b d2 d3 n4 n5 O M))) (hM : RowAt w mv M.length 1 (madC (wS a b d2 d3 n4 n5 O M))) :
    StM w (.slice (some ⟨g, 0, none⟩) 5 5) ov mv (fun i => match i with | 0 => v0 | 1 => v1 | _ => .slice none 0 0) (wS a b d2 d3 n4 n5 O M) := by
  refine ⟨RowAt.blk hI (Nat.le_refl _) (fun i j hi hj => ?_), fun i hi => ?_, hO, hM⟩
  · have hi' : i < 5 := hi
    have h5 : i = 0 ∨ i = 1 ∨ i = 2 ∨ i = 3 ∨ i = 4 := by omega
    have h4 : j = 0 ∨ j = 1 ∨ j = 2 ∨ j = 3 := by omega
    rcases h5 with rfl | rfl | rfl | rfl | rfl <;> rcases h4 with rfl | rfl | rfl | rfl <;> rfl
  · have hi' : i < 5 := hi
    have h5 : i = 0 ∨ i = 1 ∨ i = 2 ∨ i = 3 ∨ i = 4 := by omega
    rcases h5 with rfl | rfl | rfl | rfl | rfl
    · exact h0
    · exact h1
    · exact RowAt.nil_ _ _ _
    · exact RowAt.nil_ _ _ _
    · exact RowAt.nil_ _ _ _
theorem run_make_rowN {P : Program} (t e : TypeId) (i : TypeInfo) (z : Value) (ht : P.underlying t = some (.slice e)) (hi : P.info? e = some i) (hz : i.zero = some z)
    (kl kc : IntKind) (n c : Nat) (hnc : n ≤ c) (hbytes : i.bytes * c ≤ 281474976710656) (h63 : c ≤ 9223372036854775807) (w : World) :
    (Instr.makeSlice t (.int kl (n : Int)) (.int kc (c : Int))).run P w = .ok (.slice (some ⟨w.heap.size, 0, none⟩) n c) (w.alloc (.cells (madeCells z.cells (c * i.size)) e)) := by
  have hb : (i.bytes : Int) * (c : Int) ≤ 281474976710656 := by
    have h : ((i.bytes * c : Nat) : Int) ≤ 281474976710656 := by omega
    rwa [Int.natCast_mul] at h
  have hr := run_make (P := P) w t e i z ht hi hz kl kc n c (by omega) (by omega) hb (by omega)
  simp only [Int.toNat_natCast] at hr
  exact hr
theorem madeCells_one (v : Value) (n : Nat) : madeCells #[v] n = (List.replicate n v).toArray := by
  apply Array.ext
  · simp [madeCells]
  · intro i h1 h2
    simp [madeCells, Nat.mod_one]

theorem info_int : (Try.prog.info? 3).map (fun i => (i.zero, i.size, i.bytes)) = some (some (.int .i64 0), 1, 8) := by kernel_rfl
def zerosA (n : Nat) : Array Value := (List.replicate n (Value.int .i64 0)).toArray
set_option maxRecDepth 1000000 in
theorem New_calls (n : Nat) (h1 : 1 ≤ n) (h8 : n ≤ 8) (w : World) : Calls Try.prog 26 #[.int .i64 n] w fun e w' => ∃ g gm, e = .returned (.tuple #[.agg #[.slice (some ⟨g, 0, none⟩) 1 1, .slice none 0 0, .slice (some ⟨gm, 0, none⟩) n n], .int .i64 0]) ∧ Below w.heap.size w w' ∧ w.heap.size ≤ g ∧ w.heap.size ≤ gm ∧ Blk w' g 56 #[.int .i64 1, .bool true, .slice none 0 0, .string ⟨#[]⟩] ∧ Blk w' gm 3 (zerosA n) := by
  obtain ⟨i0, hi, hz0, hz1, hz2⟩ := info_parts info_int
  have hmk : ∀ W : World, (Instr.makeSlice 24 (.int .i64 n) (.int .i64 n)).run Try.prog W = .ok (.slice (some ⟨W.heap.size, 0, none⟩) n n) (W.alloc (.cells (zerosA n) 3)) := by
    intro W
    have h := run_make_rowN (P := Try.prog) (w := W) 24 3 i0 _ Try.underlying24 hi hz0 .i64 .i64 n n (Nat.le_refl _) (by rw [hz2]; omega) (by omega)
    simp only [hz1, Nat.mul_one, Value.cells, madeCells_one] at h
    exact h
  have HMK := Lib.hid hmk
  clear hmk hi hz0 hz1 hz2
  have hn1 : ¬ (n : Int) < 1 := by omega
  have hn8 : ¬ (8 : Int) < (n : Int) := by omega
  have hmk := HMK.out ((w.alloc (.cells #[.slice none 0 0, .slice none 0 0, .slice none 0 0] 26)).alloc (.cells #[.int .i64 1, .bool true, .slice none 0 0, .string ⟨#[]⟩] 56))
  go_enter Try.func26, Try.ntmps26
  go_wp2_with (fail)
  refine bodyPost_ret (v := .tuple #[.agg #[.slice (some ⟨w.heap.size + 1, 0, none⟩) 1 1, .slice none 0 0, .slice (some ⟨w.heap.size + 1 + 1, 0, none⟩) n n], .int .i64 0]) (by simp [results, Try.results26, go_sem]) rfl ⟨_, _, rfl, ?_⟩
  exact ⟨(((Below.refl _ _).alloc (Nat.le_refl _) _).alloc (by simp) _).alloc (by simp; omega) _, by omega, by omega, (Blk.newAt _ _ _ (by simp)).alloc _, Blk.newAt _ _ _ (by simp)⟩
theorem own_far {w : World} {base : Nat} {e : TypeId} {size k : Nat} {v : Value} {xs : List Value} (h : w.ownsRow base e size v k xs) {g : Nat} {t : TypeId} {cs : Array Value} (hg : Blk w g t cs) (ht : e ≠ t) (i : Nat) (u : Value) : (w.setCell ⟨g, i, none⟩ u).ownsRow base e size v k xs := by
  refine ⟨h.1, ?_⟩
  rcases h.2 with q | ⟨g', cap, cur, hv, hg', hh, rest⟩
  · exact .inl q
  · exact .inr ⟨g', cap, cur, hv, hg', Blk.far (p := ⟨g, i, none⟩) (show Blk w g' _ cur from hh) (Blk.ne_ (t := e) hh hg ht) u, rest⟩
theorem info_ino : (Try.prog.info? 56).map (fun i => (i.zero, i.size, i.bytes)) = some (some (.agg #[.int .i64 0, .bool false, .slice none 0 0, .string ⟨#[]⟩]), 4, 56) := by kernel_rfl
set_option maxRecDepth 1000000 in
theorem Copy1_calls {w : World} {g gm : Nat} (hg : Blk w g 56 #[.int .i64 1, .bool true, .slice none 0 0, .string ⟨#[]⟩]) (hm : Blk w gm 3 (zerosA 1)) :
    Calls Try.prog 64 #[.agg #[.slice (some ⟨g, 0, none⟩) 1 1, .slice none 0 0, .slice (some ⟨gm, 0, none⟩) 1 1]] w fun e w' => ∃ (g1 c2 g2 c3 ge : Nat), e = .returned (.agg #[.slice (some ⟨g1, 0, none⟩) 1 c2, .slice none 0 0, .slice (some ⟨g2, 0, none⟩) 1 c3]) ∧ Below w.heap.size w w' ∧ w'.ownsRow w.heap.size 56 4 (.slice (some ⟨g1, 0, none⟩) 1 c2) 1 [.int .i64 1, .bool true, .slice (some ⟨ge, 0, none⟩) 0 0, .string ⟨#[]⟩] ∧ w'.ownsRow w.heap.size 3 1 (.slice (some ⟨g2, 0, none⟩) 1 c3) 1 [.int .i64 0] := by
  obtain ⟨i0, hi, hz0, hz1, hz2⟩ := info_parts info_ino
  obtain ⟨j0, hj, hy0, hy1, hy2⟩ := info_parts info_int
  have q0 : w.cell? ⟨g, 0, none⟩ = some (.int .i64 1) := hg.cell 0
  have q1 : w.cell? ⟨g, 1, none⟩ = some (.bool true) := hg.cell 1
  have q2 : w.cell? ⟨g, 2, none⟩ = some (.slice none 0 0) := hg.cell 2
  have q3 : w.cell? ⟨g, 3, none⟩ = some (.string ⟨#[]⟩) := hg.cell 3
  have m0 : w.cell? ⟨gm, 0, none⟩ = some (.int .i64 0) := hm.cell 0
  have hgl := hg.lt
  have hml := hm.lt
  have hgn := World.new_ne w _ q0
  have hmn := World.new_ne w _ m0
  clear hg hm
  go_enter Try.func64, Try.ntmps64
  go_wp2_with (fail)
  have HB0 := Lib.hid (show Below w.heap.size w (((w.alloc (Obj.cells #[.slice (some ⟨g, 0, none⟩) 1 1, .slice none 0 0, .slice (some ⟨gm, 0, none⟩) 1 1] 26)).alloc (Obj.cells #[.slice none 0 0, .slice none 0 0, .slice none 0 0] 26)).alloc (Obj.cells #[.slice none 0 0, .slice none 0 0, .slice none 0 0] 26)) from (((Below.refl _ _).alloc (Nat.le_refl _) _).alloc (by simp) _).alloc (by simp; omega) _)
  have HS0 := Lib.hid (((Blk.new w 26 #[.slice (some ⟨g, 0, none⟩) 1 1, .slice none 0 0, .slice (some ⟨gm, 0, none⟩) 1 1]).alloc (Obj.cells #[.slice none 0 0, .slice none 0 0, .slice none 0 0] 26)).alloc (Obj.cells #[.slice none 0 0, .slice none 0 0, .slice none 0 0] 26))
  have HS1 := Lib.hid ((Blk.newAt (w.alloc (Obj.cells #[.slice (some ⟨g, 0, none⟩) 1 1, .slice none 0 0, .slice (some ⟨gm, 0, none⟩) 1 1] 26)) 26 #[.slice none 0 0, .slice none 0 0, .slice none 0 0] (n := w.heap.size + 1) (by simp)).alloc (Obj.cells #[.slice none 0 0, .slice none 0 0, .slice none 0 0] 26))
  have HS2 := Lib.hid (Blk.newAt ((w.alloc (Obj.cells #[.slice (some ⟨g, 0, none⟩) 1 1, .slice none 0 0, .slice (some ⟨gm, 0, none⟩) 1 1] 26)).alloc (Obj.cells #[.slice none 0 0, .slice none 0 0, .slice none 0 0] 26)) 26 #[.slice none 0 0, .slice none 0 0, .slice none 0 0] (n := w.heap.size + 1 + 1) (by simp))
  obtain ⟨p, hp⟩ : ∃ p, p = w.heap.size := ⟨_, rfl⟩
  have HP := Lib.hid hp
  rw [← hp] at HB0 HS0 HS1 HS2 ⊢
  have hgp : g < p := by omega
  have hmp : gm < p := by omega
  clear hp hgn hmn hgl hml
  generalize ((w.alloc (Obj.cells #[.slice (some ⟨g, 0, none⟩) 1 1, .slice none 0 0, .slice (some ⟨gm, 0, none⟩) 1 1] 26)).alloc (Obj.cells #[.slice none 0 0, .slice none 0 0, .slice none 0 0] 26)).alloc (Obj.cells #[.slice none 0 0, .slice none 0 0, .slice none 0 0] 26) = W0 at *
  go_loopw [4] (fun i wr => Below p w wr ∧ Blk wr p 26 #[.slice (some ⟨g, 0, none⟩) 1 1, .slice none 0 0, .slice (some ⟨gm, 0, none⟩) 1 1] ∧ Blk wr (p + 1) 26 #[.slice none 0 0, .slice none 0 0, .slice none 0 0] ∧ ((i = .int .i64 0 ∧ Blk wr (p + 1 + 1) 26 #[.slice none 0 0, .slice none 0 0, .slice none 0 0]) ∨ (∃ g1 c2 ge : Nat, i = .int .i64 1 ∧ Blk wr (p + 1 + 1) 26 #[.slice (some ⟨g1, 0, none⟩) 1 c2, .slice none 0 0, .slice none 0 0] ∧ wr.ownsRow p 56 4 (.slice (some ⟨g1, 0, none⟩) 1 c2) 1 [.int .i64 1, .bool true, .slice (some ⟨ge, 0, none⟩) 0 0, .string ⟨#[]⟩]))) (fun i _ => 1 - (intOf i).toNat)
  case atStart => exact ⟨HB0.out, HS0.out, HS1.out, .inl ⟨rfl, HS2.out⟩⟩
  case round =>
    obtain ⟨hB, hs0, hs1, hrel⟩ := hrel
    have HB := Lib.hid hB
    have HT0 := Lib.hid hs0
    have HT1 := Lib.hid hs1
    have r0 := (hB.cell (p := ⟨g, 0, none⟩) hgp).trans q0
    have r1 := (hB.cell (p := ⟨g, 1, none⟩) hgp).trans q1
    have r2 := (hB.cell (p := ⟨g, 2, none⟩) hgp).trans q2
    have r3 := (hB.cell (p := ⟨g, 3, none⟩) hgp).trans q3
    have n0 := (hB.cell (p := ⟨gm, 0, none⟩) hmp).trans m0
    have c0 : wr.cell? ⟨p, 0, none⟩ = some (.slice (some ⟨g, 0, none⟩) 1 1) := hs0.cell 0
    have c1 : wr.cell? ⟨p, 1, none⟩ = some (.slice none 0 0) := hs0.cell 1
    have c2 : wr.cell? ⟨p, 2, none⟩ = some (.slice (some ⟨gm, 0, none⟩) 1 1) := hs0.cell 2
    clear hB hs0 hs1 q0 q1 q2 q3 m0
    rcases hrel with ⟨rfl, ht⟩ | ⟨g1, c3, ge, rfl, ht, hown⟩
    · have HT2 := Lib.hid ht
      have d0 : wr.cell? ⟨p + 1 + 1, 0, none⟩ = some (.slice none 0 0) := ht.cell 0
      clear ht n0 d0
      obtain ⟨s, hs⟩ : ∃ s, s = wr.heap.size := ⟨_, rfl⟩
      have HSZ := Lib.hid hs
      have hps : p + 1 + 1 < wr.heap.size := HT2.out.lt
      have HX := Lib.hid (show Below wr.heap.size wr (((wr.alloc (Obj.cells #[.int .i64 1, .bool true, .slice (some ⟨wr.heap.size + 1, 0, none⟩) 0 0, .string ⟨#[]⟩] 56)).alloc (Obj.cells #[] 58)).alloc (Obj.cells #[.int .i64 1, .bool true, .slice (some ⟨wr.heap.size + 1, 0, none⟩) 0 0, .string ⟨#[]⟩] 56)) from (((Below.refl _ _).alloc (Nat.le_refl _) _).alloc (by simp) _).alloc (by simp; omega) _)
      have d1 : ((wr.alloc (Obj.cells #[.int .i64 1, .bool true, .slice (some ⟨wr.heap.size + 1, 0, none⟩) 0 0, .string ⟨#[]⟩] 56)).alloc (Obj.cells #[] 58)).cell? ⟨p + 1 + 1, 0, none⟩ = some (.slice none 0 0) := ((HT2.out.alloc _).alloc _).cell 0
      go_wp2_with (at_builtin; refine wpList_append_lies _ rfl (.tmp 24) (.tmp 26) 22 rfl p 56 i0 _ 4 56 Try.underlying22 hi hz0 hz1 hz2 rfl (by decide) (.slice none 0 0) 0 [] rfl (World.ownsRow_nil _ _ _ _) ⟨wr.heap.size + 1 + 1, 0, none⟩ 1 1 [.int .i64 1, .bool true, .slice (some ⟨wr.heap.size + 1, 0, none⟩) 0 0, .string ⟨#[]⟩] rfl rfl (World.news_of_block (Blk.newAt _ _ _ (by simp))) (by intro u hu; simp at hu; rcases hu with rfl | rfl | rfl | rfl <;> rfl) (by decide) (by decide) (by decide) (by have := HX.out.size; omega) _ rfl ?_; intro g1 cap1 w5 hown hgrow hat hlt; have hT := blk_grown hgrow (Blk.of_heap (HX.out.block _ (by omega)) HT2.out) (by simp [Value.ownBlock]); have d2 : w5.cell? ⟨p + 1 + 1, 0, none⟩ = some (.slice none 0 0) := hT.cell 0; have f2 : w5.frozen? ⟨p + 1 + 1, 0, none⟩ = false := hT.frozen 0)
      have hsz5 : wr.heap.size ≤ w5.heap.size := Nat.le_trans HX.out.size hgrow.size
      have hb5 : Below wr.heap.size wr w5 := HX.out.trans ⟨hgrow.os, hgrow.tape, hgrow.output, hgrow.size, fun k hk => hgrow.block k (by have := HX.out.size; omega) (by simp [Value.ownBlock])⟩
      have hq : Blk w5 g1 56 _ := (own_type hown rfl).2.choose_spec
      have HR1 := Lib.hid ((HB.out.trans (hb5.mono (by omega))).setCell (p := ⟨p + 1 + 1, 0, none⟩) (by show p ≤ p + 1 + 1; omega) (.slice (some ⟨g1, 0, none⟩) 1 cap1))
      have HR2 := Lib.hid ((Blk.of_heap (hb5.block _ (by omega)) HT0.out).far (p := ⟨p + 1 + 1, 0, none⟩) (by show p ≠ p + 1 + 1; omega) (.slice (some ⟨g1, 0, none⟩) 1 cap1))
      have HR3 := Lib.hid ((Blk.of_heap (hb5.block _ (by omega)) HT1.out).far (p := ⟨p + 1 + 1, 0, none⟩) (by show p + 1 ≠ p + 1 + 1; omega) (.slice (some ⟨g1, 0, none⟩) 1 cap1))
      have HR4 := Lib.hid (hT.set_ 0 (.slice (some ⟨g1, 0, none⟩) 1 cap1))
      have HR5 := Lib.hid (own_far hown hT (by decide) 0 (.slice (some ⟨g1, 0, none⟩) 1 cap1))
      clear hown hgrow hat hlt hT hb5 hq d1 d2 f2
      go_wp2_with (fail)
      go_roundw
      case rel => exact ⟨HR1.out, HR2.out, HR3.out, .inr ⟨g1, cap1, wr.heap.size + 1, rfl, HR4.out, HR5.out⟩⟩
      case measure => simp [intOf]
    · have HT2 := Lib.hid ht
      have HO := Lib.hid hown
      have e0 : wr.cell? ⟨p + 1 + 1, 0, none⟩ = some (.slice (some ⟨g1, 0, none⟩) 1 c3) := ht.cell 0
      have e1 : wr.cell? ⟨p + 1 + 1, 1, none⟩ = some (.slice none 0 0) := ht.cell 1
      have e2 : wr.cell? ⟨p + 1 + 1, 2, none⟩ = some (.slice none 0 0) := ht.cell 2
      have f1 : wr.frozen? ⟨p + 1 + 1, 1, none⟩ = false := ht.frozen 1
      have hpq : p + 1 + 1 < wr.heap.size := ht.lt
      have HTa := Lib.hid (ht.set_ 1 (.slice none 0 0))
      have HOa := Lib.hid (own_far hown ht (by decide) 1 (.slice none 0 0))
      have HBa := Lib.hid (HB.out.setCell (p := ⟨p + 1 + 1, 1, none⟩) (by show p ≤ p + 1 + 1; omega) (.slice none 0 0))
      have HS1a := Lib.hid (HT1.out.far (p := ⟨p + 1 + 1, 1, none⟩) (by show p + 1 ≠ p + 1 + 1; omega) (.slice none 0 0))
      have na : (wr.setCell ⟨p + 1 + 1, 1, none⟩ (.slice none 0 0)).cell? ⟨gm, 0, none⟩ = some (.int .i64 0) := (World.cell?_setCell_far _ _ _ _ (by show p + 1 + 1 ≠ gm; omega)).trans n0
      have hsza : (wr.setCell ⟨p + 1 + 1, 1, none⟩ (.slice none 0 0)).heap.size = wr.heap.size := by simp [World.setCell]
      have HSZ := Lib.hid hsza
      clear ht hown hsza n0 r0 r1 r2 r3
      go_wp2_with (at_builtin; refine wpList_append_lies _ rfl (.tmp 36) (.tmp 38) 24 rfl p 3 j0 _ 1 8 Try.underlying24 hj hy0 hy1 hy2 rfl (by decide) (.slice none 0 0) 0 [] rfl (World.ownsRow_nil _ _ _ _) ⟨gm, 0, none⟩ 1 1 [.int .i64 0] rfl rfl (fun j u hu => by
        cases j with
        | zero => simp at hu; subst hu; exact na
        | succ j => simp at hu) (by intro u hu; simp at hu; subst hu; rfl) (by decide) (by decide) (by decide) (by have := HSZ.out; omega) _ rfl ?_; intro g2 cap2 w5 hown2 hgrow hat hlt; have hT := blk_grown hgrow HTa.out (by simp [Value.ownBlock]); have d0 : w5.cell? ⟨p + 1 + 1, 0, none⟩ = some (.slice (some ⟨g1, 0, none⟩) 1 c3) := hT.cell 0; have d1 : w5.cell? ⟨p + 1 + 1, 1, none⟩ = some (.slice none 0 0) := hT.cell 1; have d2 : w5.cell? ⟨p + 1 + 1, 2, none⟩ = some (.slice none 0 0) := hT.cell 2; have f2 : w5.frozen? ⟨p + 1 + 1, 2, none⟩ = false := hT.frozen 2; have hR := blk_grown hgrow HS1a.out (by simp [Value.ownBlock]); have k0 : w5.cell? ⟨p + 1, 0, none⟩ = some (.slice none 0 0) := hR.cell 0; have k1 : w5.cell? ⟨p + 1, 1, none⟩ = some (.slice none 0 0) := hR.cell 1; have k2 : w5.cell? ⟨p + 1, 2, none⟩ = some (.slice none 0 0) := hR.cell 2; have l0 := hR.frozen 0; have l1 := hR.frozen 1; have l2 := hR.frozen 2)
      have hO1 := HOa.out.kept hgrow (.inr (by simp [Value.ownBlock]))
      have hB1 : Below p w w5 := HBa.out.trans ⟨hgrow.os, hgrow.tape, hgrow.output, hgrow.size, fun k hk => hgrow.block k (by have := HBa.out.size; have := HP.out; have := HSZ.out; omega) (by simp [Value.ownBlock])⟩
      have hT1 := hT.set_ 2 (.slice (some ⟨g2, 0, none⟩) 1 cap2)
      have hR1 := hR.far (p := ⟨p + 1 + 1, 2, none⟩) (by show p + 1 ≠ p + 1 + 1; omega) (.slice (some ⟨g2, 0, none⟩) 1 cap2)
      have hR2 := hR1.set_ 0 (.slice (some ⟨g1, 0, none⟩) 1 c3)
      have hR3 := hR2.set_ 1 (.slice none 0 0)
      have hR4 := hR3.set_ 2 (.slice (some ⟨g2, 0, none⟩) 1 cap2)
      have hO2 := own_far (own_far (own_far (own_far hO1 hT (by decide) 2 (.slice (some ⟨g2, 0, none⟩) 1 cap2)) hR1 (by decide) 0 (.slice (some ⟨g1, 0, none⟩) 1 c3)) hR2 (by decide) 1 (.slice none 0 0)) hR3 (by decide) 2 (.slice (some ⟨g2, 0, none⟩) 1 cap2)
      have hP2 := own_far (own_far (own_far (own_far hown2 hT (by decide) 2 (.slice (some ⟨g2, 0, none⟩) 1 cap2)) hR1 (by decide) 0 (.slice (some ⟨g1, 0, none⟩) 1 c3)) hR2 (by decide) 1 (.slice none 0 0)) hR3 (by decide) 2 (.slice (some ⟨g2, 0, none⟩) 1 cap2)
      have hB2 := (((hB1.setCell (p := ⟨p + 1 + 1, 2, none⟩) (by show p ≤ p + 1 + 1; omega) (.slice (some ⟨g2, 0, none⟩) 1 cap2)).setCell (p := ⟨p + 1, 0, none⟩) (by show p ≤ p + 1; omega) (.slice (some ⟨g1, 0, none⟩) 1 c3)).setCell (p := ⟨p + 1, 1, none⟩) (by show p ≤ p + 1; omega) (.slice none 0 0)).setCell (p := ⟨p + 1, 2, none⟩) (by show p ≤ p + 1; omega) (.slice (some ⟨g2, 0, none⟩) 1 cap2)
      have z0 := hR4.cell 0
      have z1 := hR4.cell 1
      have z2 := hR4.cell 2
      refine bodyPost_ret (v := .agg #[.slice (some ⟨g1, 0, none⟩) 1 c3, .slice none 0 0, .slice (some ⟨g2, 0, none⟩) 1 cap2]) ?_ rfl ⟨g1, c3, g2, cap2, ge, rfl, ?_, ?_, ?_⟩
      · clear hB2 hO2 hP2 hR4 hR3 hR2 hR1 hT1 hB1 hO1 z0 z1 z2
        simp [results, Try.results64, go_sem, k0, k1, k2]
      · rw [← HP.out]; exact hB2
      · rw [← HP.out]; exact hO2
      · rw [← HP.out]; exact hP2
end Go.Proofs.Ytenlffhoinialaa
end

section
namespace Go.Proofs.Ytenlffhoinialaa
open Go.RowKit
set_option maxHeartbeats 1000000
attribute [local go_sem ↓] Go.wp_at_zero Go.wp_at_succ
theorem New1 (w : World) : Calls Try.prog 26 #[.int .i64 1] w fun e w' => ∃ g gm, e = .returned (.tuple #[.agg #[.slice (some ⟨g, 0, none⟩) 1 1, .slice none 0 0, .slice (some ⟨gm, 0, none⟩) 1 1], .int .i64 0]) ∧ Below w.heap.size w w' ∧ w.heap.size ≤ g ∧ w.heap.size ≤ gm ∧ Blk w' g 56 #[.int .i64 1, .bool true, .slice none 0 0, .string ⟨#[]⟩] ∧ Blk w' gm 3 (zerosA 1) := New_calls 1 (by decide) (by decide) w
set_option maxRecDepth 1000000 in
theorem Read0 (w : World) : Calls Try.prog 61 #[.string ⟨#[]⟩] w fun e w' => e = .returned (.tuple #[.agg #[.slice none 0 0, .slice none 0 0, .slice none 0 0], .int .i64 1900]) ∧ Below w.heap.size w w' := by
  go_enter Try.func61, Try.ntmps61
  go_wp2_with (fail)
  refine bodyPost_ret (v := .tuple #[.agg #[.slice none 0 0, .slice none 0 0, .slice none 0 0], .int .i64 1900]) (by simp [results, Try.results61, go_sem]) rfl ⟨rfl, ?_⟩
  exact (Below.refl _ _).alloc (Nat.le_refl _) _
set_option maxRecDepth 1000000 in
theorem Image0 (w : World) : Calls Try.prog 22 #[.string ⟨#[]⟩] w fun e w' => e = .returned (.tuple #[.slice none 0 0, .int .i64 1900]) ∧ Below w.heap.size w w' := by
  go_enter Try.func22, Try.ntmps22
  go_wp2_with (go_at_call 61; refine (Read0 _).mono ?_; rintro e w1 ⟨rfl, hB1⟩)
  go_ret2
  exact ⟨rfl, hB1.alloc hB1.size _⟩
def sNew : St := ⟨[⟨1, true, [], ⟨#[]⟩⟩], [], [0]⟩
def sA : St := ⟨[⟨1, true, [(⟨#[97]⟩, 2)], ⟨#[]⟩⟩], [], [0]⟩
def fA : List Fnd := [⟨2, 1, ⟨#[97]⟩⟩]
set_option maxRecDepth 100000 in
theorem ev_new : rawF sNew = [] := by rw [raw_c]; kernel_rfl
set_option maxRecDepth 100000 in
theorem ev_a : rawF sA = fA := by rw [raw_c]; kernel_rfl
def row4 (a b c d : Value) : Nat → Nat → Value := fun _ j => match j with
  | 0 => a
  | 1 => b
  | 2 => c
  | _ => d
theorem own_row1 {w : World} {base : Nat} {e : TypeId} {v a b c d : Value} (h : w.ownsRow base e 4 v 1 [a, b, c, d]) : RowAt w v 1 4 (row4 a b c d) := by
  rcases h.2 with ⟨rfl, h0⟩ | ⟨g, cap, cur, rfl, hb, hh, h1, _⟩
  · omega
  · refine ⟨_, _, rfl, h1, fun _ => ⟨g, 0, rfl, fun i j hi hj => ?_⟩⟩
    have : i = 0 := by omega
    subst this
    have hc := h.cells (g := g) rfl j (row4 a b c d 0 j) (by
      have : j = 0 ∨ j = 1 ∨ j = 2 ∨ j = 3 := by omega
      rcases this with rfl | rfl | rfl | rfl <;> rfl)
    rw [Addr.add_lit] at hc
    rw [Nat.zero_mul, Nat.zero_add, Nat.zero_add]
    rw [Nat.zero_add] at hc
    exact hc
theorem own_row1i {w : World} {base : Nat} {e : TypeId} {v a : Value} (h : w.ownsRow base e 1 v 1 [a]) : RowAt w v 1 1 (fun _ _ => a) := by
  rcases h.2 with ⟨rfl, h0⟩ | ⟨g, cap, cur, rfl, hb, hh, h1, _⟩
  · omega
  · refine ⟨_, _, rfl, h1, fun _ => ⟨g, 0, rfl, fun i j hi hj => ?_⟩⟩
    have : i = 0 := by omega
    subst this
    have : j = 0 := by omega
    subst this
    have hc := h.cells (g := g) rfl 0 a rfl
    rw [Addr.add_lit] at hc
    exact hc
/-- A state of one directory. -/
theorem one_stm {w : World} {iv mv ev : Value} {l : List (ByteArray × Int)} (hI : RowAt w iv 1 4 (row4 (.int .i64 1) (.bool true) ev (.string ⟨#[]⟩))) (hE : RowAt w ev l.length 2 (entC ⟨[⟨1, true, l, ⟨#[]⟩⟩], [], [0]⟩ 0)) (hM : RowAt w mv 1 1 (fun _ _ => .int .i64 0)) :
    StM w iv (.slice none 0 0) mv (fun _ => ev) ⟨[⟨1, true, l, ⟨#[]⟩⟩], [], [0]⟩ := by
  refine ⟨?_, fun i hi => ?_, RowAt.nil_ _ _ _, ?_⟩
  · obtain ⟨A, cap, h1, h2, h3⟩ := hI
    refine ⟨A, cap, h1, h2, fun h => ?_⟩
    obtain ⟨g, off, hA, hc⟩ := h3 h
    refine ⟨g, off, hA, fun i j hi hj => ?_⟩
    rw [hc i j hi hj]
    have hi' : i < 1 := hi
    have : i = 0 := by omega
    subst this
    have : j = 0 ∨ j = 1 ∨ j = 2 ∨ j = 3 := by omega
    rcases this with rfl | rfl | rfl | rfl <;> rfl
  · have hi' : i < 1 := hi
    have : i = 0 := by omega
    subst this
    exact hE
  · obtain ⟨A, cap, h1, h2, h3⟩ := hM
    refine ⟨A, cap, h1, h2, fun h => ?_⟩
    obtain ⟨g, off, hA, hc⟩ := h3 h
    refine ⟨g, off, hA, fun i j hi hj => ?_⟩
    rw [hc i j hi hj]
    have hi' : i < 1 := hi
    have : i = 0 := by omega
    subst this
    rfl
theorem getD_case {A : Type} (P : A → Prop) (l : List A) (d : A) (h : ∀ x ∈ l, P x) (hd : P d) (i : Nat) : P (l.getD i d) := by
  rw [List.getD]
  rcases hi : l[i]? with _ | x
  · exact hd
  · exact h x (List.mem_of_getElem? hi)
/-- Small, by a look at all of it. -/
theorem small_of {S : St} (h : (decide (S.inodes.length ≤ 1000) && decide (S.opens.length ≤ 1000) && decide (S.made.length ≤ 1000) && S.inodes.all (fun x => decide (x.ents.length ≤ 1000) && decide (-1000000 ≤ x.num ∧ x.num ≤ 1000000) && x.ents.all fun e => decide (-1000000 ≤ e.2 ∧ e.2 ≤ 1000000)) && S.made.all (fun m => decide (-1000000 ≤ m ∧ m ≤ 1000000))) = true) : S.small := by
  simp only [Bool.and_eq_true, decide_eq_true_eq, List.all_eq_true] at h
  obtain ⟨⟨⟨⟨h1, h2⟩, h3⟩, h4⟩, h5⟩ := h
  refine ⟨h1, h2, h3, fun i => ?_, fun i => ?_, fun i k => ?_, fun i => ?_⟩
  · exact getD_case (fun x : Ino => x.ents.length ≤ 1000) S.inodes noIno (fun x hx => (h4 x hx).1.1) (by decide) i
  · exact getD_case (fun x : Ino => -1000000 ≤ x.num ∧ x.num ≤ 1000000) S.inodes noIno (fun x hx => (h4 x hx).1.2) (by decide) i
  · exact getD_case (fun x : Ino => -1000000 ≤ (x.ents.getD k (ByteArray.empty, 0)).2 ∧ (x.ents.getD k (ByteArray.empty, 0)).2 ≤ 1000000) S.inodes noIno (fun x hx => getD_case (fun e : ByteArray × Int => -1000000 ≤ e.2 ∧ e.2 ≤ 1000000) x.ents _ (fun e he => (h4 x hx).2 e he) (by decide) k) (getD_case (fun e : ByteArray × Int => -1000000 ≤ e.2 ∧ e.2 ≤ 1000000) [] _ (fun e he => absurd he (by simp)) (by decide) k) i
  · exact getD_case (fun m : Int => -1000000 ≤ m ∧ m ≤ 1000000) S.made 0 (fun m hm => h5 m hm) (by decide) i
theorem sNew_small : sNew.small := small_of (by kernel_rfl)
theorem sA_small : sA.small := small_of (by kernel_rfl)
theorem rise_nil : RiseF [] := List.Pairwise.nil
theorem rise_one (f : Fnd) : RiseF [f] := List.pairwise_singleton _ _
set_option maxRecDepth 1000000 in
theorem awake_calls (w : World) : Calls Try.prog 25 #[] w fun e w' => e = .returned (.bool true) ∧ Below w.heap.size w w' := by
  go_enter Try.func25, Try.ntmps25
  go_wp2_with (fail)
  refine (New1 w).mono ?_
  rintro e w1 ⟨g, gm, rfl, hB1, hg, hgm, hI, hM⟩
  go_wp2_with (fail)
  have HI1 := Lib.hid (hI.alloc (.cells #[.slice (some ⟨g, 0, none⟩) 1 1, .slice none 0 0, .slice (some ⟨gm, 0, none⟩) 1 1] 26))
  have HM1 := Lib.hid (hM.alloc (.cells #[.slice (some ⟨g, 0, none⟩) 1 1, .slice none 0 0, .slice (some ⟨gm, 0, none⟩) 1 1] 26))
  have HS1 := Lib.hid (Blk.new w1 26 #[.slice (some ⟨g, 0, none⟩) 1 1, .slice none 0 0, .slice (some ⟨gm, 0, none⟩) 1 1])
  have HBW := Lib.hid (hB1.alloc hB1.size (.cells #[.slice (some ⟨g, 0, none⟩) 1 1, .slice none 0 0, .slice (some ⟨gm, 0, none⟩) 1 1] 26))
  have hw1 := hB1.size
  clear hI hM hB1
  refine (Copy1_calls HI1.out HM1.out).mono ?_
  generalize w1.alloc (.cells #[.slice (some ⟨g, 0, none⟩) 1 1, .slice none 0 0, .slice (some ⟨gm, 0, none⟩) 1 1] 26) = wa at *
  generalize w1.heap.size = sb at *
  rintro e w2 ⟨g1, c2, g2, c3, ge, rfl, hB2, hO1, hO2⟩
  have HI2 := Lib.hid (Blk.of_heap (hB2.block _ HI1.out.lt) HI1.out)
  have HM2 := Lib.hid (Blk.of_heap (hB2.block _ HM1.out.lt) HM1.out)
  have HS2 := Lib.hid (Blk.of_heap (hB2.block _ HS1.out.lt) HS1.out)
  have HBW2 := Lib.hid (HBW.out.trans (hB2.mono HBW.out.size))
  have hg1 := (own_type hO1 rfl).1
  have HT2 := Lib.hid (Blk.new w2 26 #[.slice (some ⟨g1, 0, none⟩) 1 c2, .slice none 0 0, .slice (some ⟨g2, 0, none⟩) 1 c3])
  have hwa := HBW.out.size
  obtain ⟨wb, hwb⟩ : ∃ wb, wb = (w2.alloc (.cells #[.slice (some ⟨g1, 0, none⟩) 1 c2, .slice none 0 0, .slice (some ⟨g2, 0, none⟩) 1 c3] 26)).alloc (.cells #[.string ⟨#[97]⟩, .int .i64 2] 58) := ⟨_, rfl⟩
  have HI3 := Lib.hid (show Blk wb _ _ _ from hwb ▸ (HI2.out.alloc _).alloc _)
  have HM3 := Lib.hid (show Blk wb _ _ _ from hwb ▸ (HM2.out.alloc _).alloc _)
  have HS3 := Lib.hid (show Blk wb _ _ _ from hwb ▸ (HS2.out.alloc _).alloc _)
  have HT3 := Lib.hid (show Blk wb _ _ _ from hwb ▸ HT2.out.alloc _)
  have HE3 := Lib.hid (show Blk wb (w2.heap.size + 1) 58 #[.string ⟨#[97]⟩, .int .i64 2] from hwb ▸ Blk.newAt _ _ _ (by simp))
  have HO3 := Lib.hid (show wb.ownsRow _ _ _ _ _ _ from hwb ▸ (hO1.alloc _).alloc _)
  have HP3 := Lib.hid (show wb.ownsRow _ _ _ _ _ _ from hwb ▸ (hO2.alloc _).alloc _)
  have HBW3 := Lib.hid (show Below w.heap.size w wb from hwb ▸ (HBW2.out.alloc HBW2.out.size _).alloc (by have := HBW2.out.size; simp; omega) _)
  have k2 : wb.cell? ⟨g1, 2, none⟩ = some (.slice (some ⟨ge, 0, none⟩) 0 0) := HO3.out.cellAt 2 (by decide)
  have f2 : wb.frozen? ⟨g1, 2, none⟩ = false := HO3.out.frozenAt 2
  rw [hwb] at k2 f2
  have HG := Lib.hid HI1.out.lt
  clear hB2 hO1 hO2 HI1 HM1 HS1 HBW HI2 HM2 HS2 HT2
  go_upto_region 4 with (fail)
  rw [← hwb]
  have hq1 := (own_type HO3.out rfl).2
  obtain ⟨cq, hq1⟩ := hq1
  have hne : g ≠ g1 := by have := HI3.out; have h2 := hg1; have h3 := HG.out; omega
  have HI4 := Lib.hid (HI3.out.far (p := ⟨g1, 2, none⟩) hne (.slice (some ⟨w2.heap.size + 1, 0, none⟩) 1 1))
  have HM4 := Lib.hid (HM3.out.far (p := ⟨g1, 2, none⟩) (HM3.out.ne_ hq1 (by decide)) (.slice (some ⟨w2.heap.size + 1, 0, none⟩) 1 1))
  have HS4 := Lib.hid (HS3.out.far (p := ⟨g1, 2, none⟩) (HS3.out.ne_ hq1 (by decide)) (.slice (some ⟨w2.heap.size + 1, 0, none⟩) 1 1))
  have HT4 := Lib.hid (HT3.out.far (p := ⟨g1, 2, none⟩) (HT3.out.ne_ hq1 (by decide)) (.slice (some ⟨w2.heap.size + 1, 0, none⟩) 1 1))
  have HE4 := Lib.hid (HE3.out.far (p := ⟨g1, 2, none⟩) (HE3.out.ne_ hq1 (by decide)) (.slice (some ⟨w2.heap.size + 1, 0, none⟩) 1 1))
  have HP4 := Lib.hid (own_far HP3.out hq1 (by decide) 2 (.slice (some ⟨w2.heap.size + 1, 0, none⟩) 1 1))
  have HO4 := Lib.hid (HO3.out.stored 2 (.slice (some ⟨w2.heap.size + 1, 0, none⟩) 1 1))
  have HB4 := Lib.hid (HBW3.out.setCell (p := ⟨g1, 2, none⟩) (by show w.heap.size ≤ g1; omega) (.slice (some ⟨w2.heap.size + 1, 0, none⟩) 1 1))
  clear hq1 k2 f2 hwb HI3 HM3 HS3 HT3 HE3 HP3 HO3 HBW3 hne
  generalize w2.heap.size + 1 = eb at *
  generalize w2.heap.size = tb at *
  generalize wb.setCell ⟨g1, 2, none⟩ (.slice (some ⟨eb, 0, none⟩) 1 1) = wc at *
  go_wp2_with (fail)
  refine (Image0 wc).mono ?_
  rintro e w5 ⟨rfl, hB5⟩
  have HI5 := Lib.hid (Blk.of_heap (hB5.block _ HI4.out.lt) HI4.out)
  have HM5 := Lib.hid (Blk.of_heap (hB5.block _ HM4.out.lt) HM4.out)
  have HS5 := Lib.hid (Blk.of_heap (hB5.block _ HS4.out.lt) HS4.out)
  have HT5 := Lib.hid (Blk.of_heap (hB5.block _ HT4.out.lt) HT4.out)
  have HE5 := Lib.hid (Blk.of_heap (hB5.block _ HE4.out.lt) HE4.out)
  have HP5 := Lib.hid (own_below HP4.out hB5)
  have HO5 := Lib.hid (own_below HO4.out.1 hB5)
  have HB5 := Lib.hid (HB4.out.trans (hB5.mono HB4.out.size))
  clear hB5 HI4 HM4 HS4 HT4 HE4 HP4 HO4 HB4
  have s0 : w5.cell? ⟨sb, 0, none⟩ = some (.slice (some ⟨g, 0, none⟩) 1 1) := HS5.out.cell 0
  have s1 : w5.cell? ⟨sb, 1, none⟩ = some (.slice none 0 0) := HS5.out.cell 1
  have s2 : w5.cell? ⟨sb, 2, none⟩ = some (.slice (some ⟨gm, 0, none⟩) 1 1) := HS5.out.cell 2
  have HSN := Lib.hid (show StM w5 (.slice (some ⟨g, 0, none⟩) 1 1) (.slice none 0 0) (.slice (some ⟨gm, 0, none⟩) 1 1) (fun _ => .slice none 0 0) sNew from one_stm (l := []) (RowAt.blk HI5.out (Nat.le_refl _) (fun i j hi hj => by
    have : i = 0 := by omega
    subst this
    have : j = 0 ∨ j = 1 ∨ j = 2 ∨ j = 3 := by omega
    rcases this with rfl | rfl | rfl | rfl <;> rfl)) (RowAt.nil_ _ _ _) (RowAt.blk HM5.out (Nat.le_refl _) (fun i j hi hj => by
    have : i = 0 := by omega
    subst this
    have : j = 0 := by omega
    subst this
    rfl)))
  go_wp2_with (fail)
  refine (State_calls HSN.out sNew_small (E := []) rise_nil (by rw [ev_new])).mono ?_
  rintro e w6 ⟨v, rfl, hB6, hown6⟩
  obtain ⟨VA, vcap, rfl⟩ := (ownF_row hown6).form
  have HE6 := Lib.hid (Blk.of_heap (hB6.block _ HE5.out.lt) HE5.out)
  have HT6 := Lib.hid (Blk.of_heap (hB6.block _ HT5.out.lt) HT5.out)
  have HP6 := Lib.hid (own_below HP5.out hB6)
  have HO6 := Lib.hid (own_below HO5.out hB6)
  have HB6 := Lib.hid (HB5.out.trans (hB6.mono HB5.out.size))
  clear hB6 hown6 s0 s1 s2 HI5 HM5 HS5 HT5 HE5 HP5 HO5 HB5 HSN
  have t0 : w6.cell? ⟨tb, 0, none⟩ = some (.slice (some ⟨g1, 0, none⟩) 1 c2) := HT6.out.cell 0
  have t1 : w6.cell? ⟨tb, 1, none⟩ = some (.slice none 0 0) := HT6.out.cell 1
  have t2 : w6.cell? ⟨tb, 2, none⟩ = some (.slice (some ⟨g2, 0, none⟩) 1 c3) := HT6.out.cell 2
  have HSA := Lib.hid (show StM w6 (.slice (some ⟨g1, 0, none⟩) 1 c2) (.slice none 0 0) (.slice (some ⟨g2, 0, none⟩) 1 c3) (fun _ => .slice (some ⟨eb, 0, none⟩) 1 1) sA from one_stm (l := [(⟨#[97]⟩, 2)]) (own_row1 HO6.out) (RowAt.blk HE6.out (Nat.le_refl _) (fun i j hi hj => by
    have hi' : i < 1 := hi
    have : i = 0 := by omega
    subst this
    have : j = 0 ∨ j = 1 := by omega
    rcases this with rfl | rfl <;> rfl)) (own_row1i HP6.out))
  go_wp2_with (fail)
  refine (State_calls HSA.out sA_small (E := fA) (rise_one _) (by rw [ev_a])).mono ?_
  rintro e w7 ⟨v7, rfl, hB7, hown7⟩
  have HB7 := Lib.hid (HB6.out.trans (hB7.mono HB6.out.size))
  have HR7 := Lib.hid ((ownF_row hown7).keep ((Below.refl _ w7).alloc (Nat.le_refl _) (.cells #[.int .i64 2, .int .i64 1, .string ⟨#[97]⟩] 64)))
  have HL7 := Lib.hid (show RowAt (w7.alloc (.cells #[.int .i64 2, .int .i64 1, .string ⟨#[97]⟩] 64)) (.slice (some ⟨w7.heap.size, 0, none⟩) 1 1) fA.length 3 (fndC fA) from RowAt.blk (Blk.new w7 _ _) (Nat.le_refl _) (fun i j hi hj => by
    have hi' : i < 1 := hi
    have : i = 0 := by omega
    subst this
    have : j = 0 ∨ j = 1 ∨ j = 2 := by omega
    rcases this with rfl | rfl | rfl <;> rfl))
  obtain ⟨A7, cap7, rfl⟩ := HR7.out.form
  clear hB7 hown7 HSA HO6 HP6 HE6 HT6 HB6 t0 t1 t2
  go_wp2_with (fail)
  refine (same_fnd HR7.out HL7.out (by decide)).mono ?_
  rintro e w8 ⟨rfl, d, rfl⟩
  go_wp2_with (go_at_call 24; refine (num_calls _ _).mono ?_; rintro e w' ⟨rfl, rfl⟩)
  go_ret
  have := HB7.out.alloc HB7.out.size (.cells #[.int .i64 2, .int .i64 1, .string ⟨#[97]⟩] 64)
  exact ⟨rfl, this.os, this.tape, this.output, this.size, this.block⟩
end Go.Proofs.Ytenlffhoinialaa
end

