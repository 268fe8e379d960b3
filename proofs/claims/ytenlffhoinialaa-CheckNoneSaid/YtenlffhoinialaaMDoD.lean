/- The document's sized: bytes in memory. The document's file system: the frame of an act; what an act answers. The document's file system: a file's bytes are written in memory. A drawn region whose last operation (L) may hit what the loads have read: loads that L waits for may be taken first. -/
import Derived.Test.YtenlffhoinialaaMDoC
import Derived.Laws.CopyRow
import Derived.Laws.IdiomStrings
import Derived.Test.YtenlffhoinialaaMBase
import Derived.Deep.RegionHeld3
section
namespace Go.Proofs.Ytenlffhoinialaa
open Go.RowKit
set_option maxHeartbeats 1000000
attribute [local go_sem ↓] Go.wp_at_zero Go.wp_at_succ
def cellsB (l : List UInt8) : List Value := l.map fun b => Value.int .u8 b.toNat
def bytesV (l : List UInt8) : Array Value := (cellsB l).toArray
theorem cellsB_len (l : List UInt8) : (cellsB l).length = l.length := List.length_map ..
theorem cellsB_one (l : List UInt8) : ∀ v ∈ cellsB l, v.oneCell' = true := by
  intro v hv
  obtain ⟨b, _, rfl⟩ := List.mem_map.1 hv
  rfl
/-- Bytes in a block of their own. -/
def BytesAt (w : World) (v : Value) (l : List UInt8) : Prop := ∃ g, v = .slice (some ⟨g, 0, none⟩) l.length l.length ∧ Blk w g 5 (bytesV l)
/-- A string is copied over bytes, from a place on. -/
theorem run_copy_str {P : Program} {w : World} {dT sT ty elem : TypeId} (hu : P.underlying dT = some (.slice elem)) (hs : (P.info? elem).map (·.size) = some 1) {g o dLen dCap : Nat} {t : TypeId} {l : List UInt8} (hb : Blk w g t (bytesV l)) (hfit : o + dLen ≤ l.length) (s : ByteArray) :
    ∃ (n : Nat) (l' : List UInt8), l'.length = l.length ∧ (Builtin.copy_ #[dT, sT] ty #[.slice (some ⟨g, o, none⟩) dLen dCap, .string s]).run P w = .ok (goInt n) (w.setRow g (bytesV l')) := by
  obtain ⟨n, hn⟩ : ∃ n, n = Nat.min s.size dLen := ⟨_, rfl⟩
  have hle : n ≤ dLen := by rw [hn]; exact Nat.min_le_right _ _
  have hle2 : n ≤ s.size := by rw [hn]; exact Nat.min_le_left _ _
  obtain ⟨cs, hcs⟩ : ∃ cs : List UInt8, cs = (s.extract 0 n).data.toList := ⟨_, rfl⟩
  have hcl : cs.length = n := by
    rw [hcs, Array.length_toList]
    show (s.extract 0 n).size = n
    rw [ByteArray.size_extract]; omega
  have hsz : (bytesV l).size = l.length := by unfold bytesV; rw [List.size_toArray, cellsB_len]
  have hst := run_storeCells_at (P := P) g o t (cellsB cs) 0 (bytesV l) w hb (by rw [cellsB_len, hsz]; omega) (cellsB_one _)
  refine ⟨n, l.take o ++ cs ++ l.drop (o + n), by simp [hcl]; omega, ?_⟩
  have he : bytesV (l.take o ++ cs ++ l.drop (o + n)) = ((bytesV l).toList.take (o + 0) ++ cellsB cs ++ (bytesV l).toList.drop (o + 0 + (cellsB cs).length)).toArray := by
    unfold bytesV cellsB
    simp [hcl, List.map_take, List.map_drop]
  rw [he]
  have hfc : (s.extract 0 n).data.map (fun b => Value.int .u8 (b.toNat : Int)) = (cellsB cs).toArray := by
    unfold cellsB
    rw [hcs]
    apply Array.ext'
    simp
  cases hq : P.info? elem with
  | none => simp [hq] at hs
  | some i =>
    have hi : i.size = 1 := by simpa [hq] using hs
    have hfc2 : (s.extract 0 (Nat.min s.size dLen)).data.map (fun b => Value.int .u8 (b.toNat : Int)) = (cellsB cs).toArray := by rw [← hn]; exact hfc
    have hfc3 : (Builtin.firstCells 1 (Nat.min s.size dLen) (.string s)).run P w = .ok (cellsB cs).toArray w := by
      show Sem.run P (pure _) w = _
      rw [hfc2]; rfl
    simp [Builtin.copy_, run_underlying hu, Builtin.lenOf, sizeOf, typeInfo, hq, hi]
    rw [hfc3]
    simp only [Result.andThen_ok]
    rw [hst]
    simp [← hn]
theorem setRow_blk {w : World} {g : Nat} {t : TypeId} {cs : Array Value} (h : Blk w g t cs) (cs' : Array Value) : Blk (w.setRow g cs') g t cs' := setRow_heap w g cs cs' t (0, 0) h
theorem setRow_below {w w' : World} {b g : Nat} (h : Below b w w') (hg : b ≤ g) (cs : Array Value) : Below b w (w'.setRow g cs) :=
  ⟨h.os, h.tape, h.output, by simpa [World.setRow] using h.size, fun k hk => by rw [setRow_other w' g k cs (by omega)]; exact h.block k hk⟩
theorem info_u8 : (Try.prog.info? 5).map (fun i => (i.zero, i.size, i.bytes)) = some (some (.int .u8 0), 1, 1) := by kernel_rfl
theorem bytesV_zero (k : Nat) : (List.replicate k (Value.int .u8 0)).toArray = bytesV (List.replicate k 0) := by
  unfold bytesV cellsB
  rw [List.map_replicate]; rfl
set_option maxRecDepth 1000000 in
theorem sized_calls (s : ByteArray) (k : Nat) (hk : k ≤ 1000) (w : World) : Calls Try.prog 126 #[.string s, .int .i64 k] w fun e w' => ∃ g l, e = .returned (.slice (some ⟨g, 0, none⟩) k k) ∧ l.length = k ∧ Blk w' g 5 (bytesV l) ∧ w.heap.size ≤ g ∧ Below w.heap.size w w' := by
  obtain ⟨i0_, hi, hz0, hz1, hz2⟩ := info_parts info_u8
  have hmk : (Instr.makeSlice 65 (.int .i64 k) (.int .i64 k)).run Try.prog w = .ok (.slice (some ⟨w.heap.size, 0, none⟩) k k) (w.alloc (.cells (bytesV (List.replicate k 0)) 5)) := by
    have h := run_make_rowN (P := Try.prog) (w := w) 65 5 i0_ _ Try.underlying65 hi hz0 .i64 .i64 k k (Nat.le_refl _) (by rw [hz2]; omega) (by omega)
    simp only [hz1, Nat.mul_one, Value.cells, madeCells_one, bytesV_zero] at h
    exact h
  have HB := Lib.hid (Blk.new w 5 (bytesV (List.replicate k 0)))
  obtain ⟨n, l', hl', hcp⟩ := run_copy_str (P := Try.prog) (dT := 65) (sT := 9) (ty := 3) (elem := 5) Try.underlying65 (by rw [hi]; simp [hz1]) (g := w.heap.size) (o := 0) (dLen := k) (dCap := k) HB.out (by simp) s
  have HL := Lib.hid hl'
  clear hl'
  go_enter Try.func126, Try.ntmps126
  go_wp2_with (fail)
  refine bodyPost_ret (results_tmp rfl _ _ _) rfl ?_
  have hlk : l'.length = k := by rw [HL.out]; simp
  exact ⟨w.heap.size, l', rfl, hlk, setRow_blk HB.out _, Nat.le_refl _, setRow_below (below_alloc w _) (Nat.le_refl _) _⟩
end Go.Proofs.Ytenlffhoinialaa
end

section
namespace Go.Proofs.Ytenlffhoinialaa
open Go.RowKit
set_option maxHeartbeats 1000000
structure CallD where
  kind : Int
  core : Int
  fd : Int
  off : Int
  num : Int
  path : ByteArray
  path2 : ByteArray
  data : ByteArray
def zeroR : Array Value := #[.int .i64 0, .int .i64 0, .int .i64 0, .bool false, .string ⟨#[]⟩, .slice none 0 0]
/-- The frame: the state behind its pointer, the call's box, the result's. -/
structure Fr (w : World) (base ob cb rb : Nat) (iv ov mv : Value) (ev : Nat → Value) (S : St) (c : CallD) : Prop where
  st : StT w base ob iv ov mv ev S
  cB : Blk w cb 51 #[.int .i64 c.kind, .int .i64 c.core, .int .i64 c.fd, .int .i64 c.off, .int .i64 c.num, .string c.path, .string c.path2, .string c.data]
  rB : Blk w rb 47 #[.int .i64 0, .int .i64 0, .int .i64 0, .bool false, .string ⟨#[]⟩, .slice none 0 0]
  rb_le : base ≤ rb
theorem Fr.below {w w' : World} {base ob cb rb : Nat} {iv ov mv : Value} {ev : Nat → Value} {S : St} {c : CallD} (h : Fr w base ob cb rb iv ov mv ev S c) (hb : Below w.heap.size w w') : Fr w' base ob cb rb iv ov mv ev S c :=
  ⟨h.st.below hb, h.cB.below hb, h.rB.below hb, h.rb_le⟩
def setR (w : World) (rb : Nat) (a b c d e f : Value) : World := (((((w.setCell ⟨rb, 0, none⟩ a).setCell ⟨rb, 1, none⟩ b).setCell ⟨rb, 2, none⟩ c).setCell ⟨rb, 3, none⟩ d).setCell ⟨rb, 4, none⟩ e).setCell ⟨rb, 5, none⟩ f
theorem below6 {b rb : Nat} {w w' : World} (h : Below b w w') (hr : b ≤ rb) (x0 x1 x2 x3 x4 x5 : Value) : Below b w (setR w' rb x0 x1 x2 x3 x4 x5) :=
  (((((h.setCell (p := ⟨rb, 0, none⟩) hr x0).setCell (p := ⟨rb, 1, none⟩) hr x1).setCell (p := ⟨rb, 2, none⟩) hr x2).setCell (p := ⟨rb, 3, none⟩) hr x3).setCell (p := ⟨rb, 4, none⟩) hr x4).setCell (p := ⟨rb, 5, none⟩) hr x5
theorem StT.far {w : World} {base ob : Nat} {iv ov mv : Value} {ev : Nat → Value} {S : St} (h : StT w base ob iv ov mv ev S) {g : Nat} {u : TypeId} {cs : Array Value} (hg : Blk w g u cs) (h0 : 26 ≠ u) (h1 : 56 ≠ u) (h2 : 58 ≠ u) (h3 : 60 ≠ u) (h4 : 3 ≠ u) (i : Nat) (x : Value) : StT (w.setCell ⟨g, i, none⟩ x) base ob iv ov mv ev S :=
  ⟨h.sat.far (p := ⟨g, i, none⟩) (Blk.ne_ h.sat hg h0) x, h.ob_le, h.row.far hg h1 h2 h3 h4 i x⟩
theorem StT.set6 {w : World} {base ob rb : Nat} {iv ov mv : Value} {ev : Nat → Value} {S : St} (h : StT w base ob iv ov mv ev S) {cs : Array Value} (hr : Blk w rb 47 cs) (x0 x1 x2 x3 x4 x5 : Value) : StT (setR w rb x0 x1 x2 x3 x4 x5) base ob iv ov mv ev S := by
  have r1 := hr.set_ 0 x0
  have r2 := r1.set_ 1 x1
  have r3 := r2.set_ 2 x2
  have r4 := r3.set_ 3 x3
  have r5 := r4.set_ 4 x4
  exact (((((h.far hr (by decide) (by decide) (by decide) (by decide) (by decide) 0 x0).far r1 (by decide) (by decide) (by decide) (by decide) (by decide) 1 x1).far r2 (by decide) (by decide) (by decide) (by decide) (by decide) 2 x2).far r3 (by decide) (by decide) (by decide) (by decide) (by decide) 3 x3).far r4 (by decide) (by decide) (by decide) (by decide) (by decide) 4 x4).far r5 (by decide) (by decide) (by decide) (by decide) (by decide) 5 x5
/-- What an act answers: a code; where it is 0 the state is whole. -/
def MutR (base ob : Nat) (w' : World) (e : Ending) : Prop := ∃ (code fd num : Int) (dr : Bool) (dat : ByteArray) (nA : Option Addr) (nl nc : Nat), e = .returned (.agg #[.int .i64 code, .int .i64 fd, .int .i64 num, .bool dr, .string dat, .slice nA nl nc]) ∧ (code = 0 → ∃ iv ov mv ev S', Inv S' ∧ StT w' base ob iv ov mv ev S')
/-- Behind an act's steps: what lies below stays, and every block of another type than the state's. -/
structure Bk (base : Nat) (w w' : World) : Prop where
  bel : Below base w w'
  kp : Kp w w'
theorem _root_.Go.RowKit.Below.bk {base : Nat} {w w' : World} (h : Below w.heap.size w w') (hb : base ≤ w.heap.size) : Bk base w w' := ⟨h.mono hb, Kp.of_below h⟩
theorem Bk.trans {base : Nat} {a b c : World} (h : Bk base a b) (k : Bk base b c) : Bk base a c := ⟨h.bel.trans k.bel, h.kp.trans k.kp⟩
theorem Kp.setN {w w' : World} (h : Kp w w') {rb : Nat} (hr : w.heap.size ≤ rb) (i : Nat) (x : Value) : Kp w (w'.setCell ⟨rb, i, none⟩ x) :=
  ⟨by simpa [World.setCell] using h.size, fun hq h1 h2 h3 => (h.block hq h1 h2 h3).far (p := ⟨rb, i, none⟩) (by have := hq.lt; show _ ≠ rb; omega) x⟩
theorem Bk.set6 {base : Nat} {w w' : World} (h : Bk base w w') {rb : Nat} (hr : base ≤ rb) (hr2 : w.heap.size ≤ rb) (x0 x1 x2 x3 x4 x5 : Value) : Bk base w (setR w' rb x0 x1 x2 x3 x4 x5) :=
  ⟨below6 h.bel hr x0 x1 x2 x3 x4 x5, (((((h.kp.setN hr2 0 x0).setN hr2 1 x1).setN hr2 2 x2).setN hr2 3 x3).setN hr2 4 x4).setN hr2 5 x5⟩
theorem fail2 (c : Int) (w : World) : Calls Try.prog 94 #[.int .i64 c] w fun e w' => e = .returned (.agg #[.int .i64 c, .int .i64 0, .int .i64 0, .bool false, .string ⟨#[]⟩, .slice none 0 0]) ∧ Below w.heap.size w w' := fail_calls c w
/-- The frame as it is laid. -/
theorem Fr.lay {w : World} {base ob : Nat} {iv ov mv : Value} {ev : Nat → Value} {S : St} (h : StT w base ob iv ov mv ev S) (hb : base ≤ w.heap.size) (c : CallD) :
    Fr ((w.alloc (.cells #[.int .i64 c.kind, .int .i64 c.core, .int .i64 c.fd, .int .i64 c.off, .int .i64 c.num, .string c.path, .string c.path2, .string c.data] 51)).alloc (.cells #[.int .i64 0, .int .i64 0, .int .i64 0, .bool false, .string ⟨#[]⟩, .slice none 0 0] 47)) base ob w.heap.size (w.heap.size + 1) iv ov mv ev S c :=
  ⟨(h.below (below_alloc w _)).below (below_alloc _ _), (Blk.new w _ _).alloc _, Blk.newAt _ _ _ (by simp), by omega⟩
theorem Fr.lay_below (w : World) (c1 c2 : Obj) : Below w.heap.size w ((w.alloc c1).alloc c2) := ((Below.refl _ _).alloc (Nat.le_refl _) _).alloc (by simp) _
end Go.Proofs.Ytenlffhoinialaa
end

section
namespace Go.Proofs.Ytenlffhoinialaa
open Go.RowKit
set_option maxHeartbeats 1000000
theorem StT.put_dat {w w' : World} {base ob : Nat} {ov mv : Value} {ev : Nat → Value} {S : St} {A : Option Addr} {n cap : Nat} (h : StT w base ob (.slice A n cap) ov mv ev S) (hI : Wk S) {d : Int} {i : Nat} (hd : HasAt S d i) (hb : Below w.heap.size w w') (b : ByteArray) :
    ∃ g off, A = some ⟨g, off, none⟩ ∧ w'.cell? ⟨g, off + i * 4 + 3, none⟩ = some (.string (S.dat i)) ∧ w'.frozen? ⟨g, off + i * 4 + 3, none⟩ = false ∧ base ≤ g ∧
      Kp w (w'.setCell ⟨g, off + i * 4 + 3, none⟩ (.string b)) ∧ StT (w'.setCell ⟨g, off + i * 4 + 3, none⟩ (.string b)) base ob (.slice A n cap) ov mv ev (setD S d b) := by
  have h2 := h.below hb
  obtain ⟨g, off, cap', cs, e, hc, hg, hbk, hcell, hset⟩ := h2.row.ino.set (i := i) (j := 3) hd.1 (by omega)
  injection e with e1 e2 e3
  subst e1 e3
  have hn : n = S.inodes.length := e2
  subst hn
  have ea : off + (i * 4 + 3) = off + i * 4 + 3 := by omega
  rw [ea] at hcell
  refine ⟨g, off, rfl, hcell, hbk.frozen _, hg, (Kp.of_below hb).set hbk (.inl rfl) _ _, h2.sat.far (p := ⟨g, off + i * 4 + 3, none⟩) (Blk.ne_ h2.sat hbk (by decide)) _, h.ob_le, ?_⟩
  have hlen : (setD S d b).inodes.length = S.inodes.length := mapIno_len ..
  have hino : ∀ j, j < S.inodes.length → (setD S d b).ino j = if j = i then { S.ino j with data := b } else S.ino j := fun j hj => by
    have := mapIno_ino (S := S) (d := d) (f := fun x => { x with data := b }) hj
    unfold setD
    rw [this]
    by_cases q : j = i
    · rw [if_pos ((hI.num_at hd hj).2 q), if_pos q]
    · rw [if_neg (fun e => q ((hI.num_at hd hj).1 e)), if_neg q]
  refine ⟨?_, fun j hj => ?_, h2.row.opn.far hbk (by decide) _ _, h2.row.mad.far hbk (by decide) _ _⟩
  · have h3 := hset (.string b)
    rw [ea] at h3
    rw [hlen]
    refine h3.congr fun a e ha he => ?_
    have h4 := hino a ha
    have : e = 0 ∨ e = 1 ∨ e = 2 ∨ e = 3 := by omega
    rcases this with rfl | rfl | rfl | rfl
    · rw [if_neg (by omega)]
      show Value.int .i64 (S.ino a).num = Value.int .i64 ((setD S d b).ino a).num
      rw [h4]; split <;> rfl
    · rw [if_neg (by omega)]
      show Value.bool (S.ino a).dir = Value.bool ((setD S d b).ino a).dir
      rw [h4]; split <;> rfl
    · rw [if_neg (by omega)]; rfl
    · show (if a = i ∧ 3 = 3 then Value.string b else Value.string (S.ino a).data) = Value.string ((setD S d b).ino a).data
      rw [h4]
      by_cases q : a = i
      · rw [if_pos ⟨q, rfl⟩, if_pos q]
      · rw [if_neg (fun e => q e.1), if_neg q]
  · rw [hlen] at hj
    have h4 := hino j hj
    have he : ((setD S d b).ino j).ents = (S.ino j).ents := by rw [h4]; split <;> rfl
    show RowT _ base _ 2 (ev j) ((setD S d b).ino j).ents.length (entC (setD S d b) j)
    rw [he]
    refine ((h2.row.ent j hj).far hbk (by decide) _ _).congr fun a e ha hee => ?_
    have : e = 0 ∨ e = 1 := by omega
    rcases this with rfl | rfl
    · show Value.string ((S.ino j).ents.getD a (ByteArray.empty, 0)).1 = Value.string (((setD S d b).ino j).ents.getD a (ByteArray.empty, 0)).1
      rw [he]
    · show Value.int .i64 ((S.ino j).ents.getD a (ByteArray.empty, 0)).2 = Value.int .i64 (((setD S d b).ino j).ents.getD a (ByteArray.empty, 0)).2
      rw [he]
theorem info_u8s : (Try.prog.info? 5).map (·.size) = some 1 := by kernel_rfl
theorem conv_blk {P : Program} {w : World} {src dst e t : TypeId} (hs : P.underlying src = some (.slice e)) (he : P.underlying e = some (.int .u8)) (hd : P.underlying dst = some .string) {g n : Nat} {l : List UInt8} (hb : Blk w g t (bytesV l)) (hn : l.length = n) (cap : Nat) :
    (convert src dst (.slice (some ⟨g, 0, none⟩) n cap)).run P w = .ok (.string ⟨l.toArray⟩) w := by
  subst hn
  refine run_convert_bytes_back w src dst e ⟨g, 0, none⟩ cap l hs he hd fun j hj => ?_
  rw [Addr.add_lit, Nat.zero_add, hb.cell j]
  unfold bytesV cellsB
  simp [hj]
theorem blk_set6 {w : World} {rb : Nat} {u : TypeId} {a b c d e f : Value} (h : Blk w rb u #[a, b, c, d, e, f]) (x0 x1 x2 x3 x4 x5 : Value) : Blk (setR w rb x0 x1 x2 x3 x4 x5) rb u #[x0, x1, x2, x3, x4, x5] := (((((h.set_ 0 x0).set_ 1 x1).set_ 2 x2).set_ 3 x3).set_ 4 x4).set_ 5 x5
theorem setR_drew (w : World) (rb : Nat) (x0 x1 x2 x3 x4 x5 : Value) : setR w.drew rb x0 x1 x2 x3 x4 x5 = (setR w rb x0 x1 x2 x3 x4 x5).drew := by
  unfold setR
  simp only [World.setCell_drew]
/-- A frame's result is written, behind a draw. -/
theorem Fr.setD {w0 w : World} {base ob cb rb : Nat} {iv ov mv : Value} {ev : Nat → Value} {S : St} {c : CallD} (h : Fr w base ob cb rb iv ov mv ev S c) (hb : Bk base w0 w) (hbw : base ≤ w.heap.size) (hr2 : w0.heap.size ≤ rb) (x0 x1 x2 x3 x4 x5 : Value) :
    Blk (setR w rb x0 x1 x2 x3 x4 x5).drew rb 47 #[x0, x1, x2, x3, x4, x5] ∧ StT (setR w rb x0 x1 x2 x3 x4 x5).drew base ob iv ov mv ev S ∧ Bk base w0 (setR w rb x0 x1 x2 x3 x4 x5).drew := by
  have hd := h.below (below_drew1 w)
  rw [← setR_drew]
  exact ⟨blk_set6 hd.rB _ _ _ _ _ _, hd.st.set6 hd.rB _ _ _ _ _ _, Bk.set6 (hb.trans ((below_drew1 w).bk hbw)) hd.rb_le hr2 _ _ _ _ _ _⟩
end Go.Proofs.Ytenlffhoinialaa
end

section
namespace Go.Proofs.Ytenlffhoinialaa
section
variable {P : Program} {ops : Array Oper} {Q : Exit → Act → World → Prop} {md : Region.Mode} {S : World → Prop}
def wpAnyE (P : Program) (md : Region.Mode) (ops : Array Oper) (Q : Exit → Act → World → Prop) (S : World → Prop) (L : Nat) : Nat → Array Bool → Act → World → Prop
  | 0, listed, a, w => Region.ready md ops listed = [] ∧ Q .normal a w
  | fuel + 1, listed, a, w =>
    (Region.ready md ops listed = [] → Q .normal a w) ∧
    ∀ i ∈ Region.ready md ops listed, wpOp P ops Q i (fun a' w' => (i ≠ L → S w') ∧ wpAnyE P md ops Q S L fuel (listed.setIfInBounds i true) a' w') a w
theorem wpAny_of_E {L : Nat} : ∀ (fuel : Nat) (listed : Array Bool) (a : Act) (w : World), wpAnyE P md ops Q S L fuel listed a w → wpAny P md ops Q fuel listed a w
  | 0, _, _, _, h => h
  | fuel + 1, _, _, _, h => ⟨h.1, fun i hi => wpOp_mono (fun a' w' h' => wpAny_of_E fuel _ a' w' h'.2) (h.2 i hi)⟩
theorem wpAnyE_first {L i : Nat} {oi : Oper} {v : Value} (hi : ops[i]? = some oi) (hsel : ∀ (j : Nat) (o : Oper) cs b, ops[j]? = some o → o.op ≠ .select cs b)
    (hQ : ∀ c a w, Q (.panic c) (a.put oi.dst v) w → Q (.panic c) a w) (hL : ∃ ol, ops[L]? = some ol ∧ ∃ e ∈ ol.after, Region.binds md e = true ∧ e.on = i) (hLi : i ≠ L) :
    ∀ (fuel : Nat) (listed : Array Bool) (a : Act) (w : World),
      (∀ j oj, ops[j]? = some oj → j ≠ i → listed.getD j true = false → (∀ e ∈ oj.after, Region.binds md e = true → e.on ≠ i) → oi.apart ops oj = true) →
      i ∈ Region.ready md ops listed → YieldsIf P ops S oi v a → S w →
      wpAnyE P md ops Q S L fuel (listed.setIfInBounds i true) (a.put oi.dst v) w → wpAnyE P md ops Q S L (fuel + 1) listed a w := by
  intro fuel
  induction fuel with
  | zero =>
    intro listed a w _ hr hy hS H
    refine ⟨fun h => (by rw [h] at hr; cases hr), fun j hj => ?_⟩
    by_cases hji : j = i
    · subst hji; exact hy.wpOp hi hS ⟨fun _ => hS, H⟩
    · have := ready_mono hj hji
      rw [H.1] at this
      cases this
  | succ fuel ih =>
    intro listed a w hfree hr hy hS H
    refine ⟨fun h => (by rw [h] at hr; cases hr), fun j hj => ?_⟩
    by_cases hji : j = i
    · subst hji; exact hy.wpOp hi hS ⟨fun _ => hS, H⟩
    · have h1 := H.2 j (ready_mono hj hji)
      obtain ⟨hjun, oj, hoj, hall⟩ := mem_ready.1 hj
      have hnot : ∀ e ∈ oj.after, Region.binds md e = true → e.on ≠ i := fun e he hb heq => by
        have h1 := hall e he hb
        have h0 := (mem_ready.1 hr).1
        rw [heq] at h1
        rcases Nat.lt_or_ge i listed.size with h' | h'
        · simp [h'] at h0 h1; rw [h0] at h1; cases h1
        · simp [Array.getElem?_eq_none h'] at h1
      have hjL : j ≠ L := by
        rintro rfl
        obtain ⟨ol, hol, e, he, hb, heq⟩ := hL
        rw [hoj] at hol
        cases hol
        exact hnot e he hb heq
      have h2 := wpOp_putIf hoj (hfree j oj hoj hji hjun hnot) (fun cs b => hsel i oi cs b hi) (fun cs b => hsel j oj cs b hoj) hQ hy h1
      have hfree' : ∀ k ok, ops[k]? = some ok → k ≠ i → (listed.setIfInBounds j true).getD k true = false →
          (∀ e ∈ ok.after, Region.binds md e = true → e.on ≠ i) → oi.apart ops ok = true := fun k ok hk hki hun hno => by
        refine hfree k ok hk hki ?_ hno
        by_cases hjk : j = k
        · subst hjk; exact hjun
        · rw [getD_set_ne true hjk] at hun; exact hun
      refine wpOp_mono (fun a' w' h3 => ⟨fun _ => h3.2.1 hjL, ih (listed.setIfInBounds j true) a' w' hfree' (ready_mono hr (Ne.symm hji)) h3.1 (h3.2.1 hjL) ?_⟩) h2
      rw [Array.setIfInBounds_comm _ _ hji]
      exact h3.2.2
def waitsFor (md : Region.Mode) (ops : Array Oper) (L i : Nat) : Bool := i != L && match ops[L]? with
  | some ol => ol.after.toList.any fun e => Region.binds md e && e.on == i
  | none => false
theorem wpAnyE_take {L i : Nat} {oi : Oper} {v : Value} {fuel : Nat} {listed : Array Bool} {a : Act} {w : World} (hi : ops[i]? = some oi)
    (hs : Region.noSelect ops = true) (hf : Region.free md ops listed i = true) (hr : (Region.ready md ops listed).contains i = true) (hL : waitsFor md ops L i = true)
    (hQ : ∀ c a w, Q (.panic c) (a.put oi.dst v) w → Q (.panic c) a w) (hy : YieldsIf P ops S oi v a) (hS : S w)
    (h : wpAnyE P md ops Q S L fuel (listed.setIfInBounds i true) (a.put oi.dst v) w) : wpAnyE P md ops Q S L (fuel + 1) listed a w := by
  unfold waitsFor at hL
  rw [Bool.and_eq_true] at hL
  refine wpAnyE_first hi (Region.noSelect_spec hs) hQ ?_ (by simpa using hL.1) fuel listed a w (Region.free_spec hi hf) (by simpa using hr) hy hS h
  cases ho : ops[L]? with
  | none => rw [ho] at hL; cases hL.2
  | some ol =>
    rw [ho] at hL
    have h2 := hL.2
    simp only [List.any_eq_true, Bool.and_eq_true, beq_iff_eq] at h2
    obtain ⟨e, he, hb, heq⟩ := h2
    exact ⟨ol, rfl, e, Array.mem_toList_iff.1 he, hb, heq⟩
theorem wpAnyE_done {L : Nat} {listed : Array Bool} {a : Act} {w : World} (hr : Region.ready md ops listed = []) (h : Q .normal a w) :
    ∀ fuel, wpAnyE P md ops Q S L fuel listed a w
  | 0 => ⟨hr, h⟩
  | _ + 1 => ⟨fun _ => h, by rw [hr]; simp⟩
/-- One operation alone comes up next. -/
theorem wpAnyE_one {L i : Nat} {o : Oper} {fuel : Nat} {listed : Array Bool} {a : Act} {w : World} (hr : Region.ready md ops listed = [i]) (ho : ops[i]? = some o)
    (h : ∀ K' : Act → World → Prop, Shut (∀ a w, (i ≠ L → S w) → ((i ≠ L → S w) → wpAnyE P md ops Q S L fuel (listed.setIfInBounds i true) a w) → K' a w) → if Region.wanted o (yielded ops a.tmps) = true then Oper.wp P o a w K' Q else K' (a.put o.dst undef) w) :
    wpAnyE P md ops Q S L (fuel + 1) listed a w := by
  refine ⟨fun h0 => (by rw [hr] at h0; cases h0), fun j hj => ?_⟩
  rw [hr] at hj
  obtain rfl := List.mem_singleton.1 hj
  exact wpOp_step ho (fun K' hK => h K' (fun a w hS hW => hK a w ⟨hS, hW hS⟩))
theorem wp_region_E_drew {id L : Nat} {a : Act} {w : World} (hm : P.follows .mixedOrders = true) (hS : S w.drew)
    (h : S w.drew → wpAnyE P .any ops Q S L ops.size (Array.replicate ops.size false) a w.drew) : (Code.region id ops true).wp P Q a w :=
  wp_region_any hm (wpAny_of_E _ _ _ _ (h hS))
end
end Go.Proofs.Ytenlffhoinialaa
end

