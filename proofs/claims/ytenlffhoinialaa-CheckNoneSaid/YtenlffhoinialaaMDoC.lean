/- The document's file system: one inode is written in memory. The document's put. (Printed in part by genheld.py.) The document's drop. (Printed in part by genheld.py.) The document's sweep. The document's fail, grab. (Printed in part by genput.py.) -/
import Derived.Test.YtenlffhoinialaaMDoB
section
namespace Go.Proofs.Ytenlffhoinialaa
open Go.RowKit
set_option maxHeartbeats 1000000
theorem mapIno_len (S : St) (d : Int) (f : Ino → Ino) : (mapIno S d f).inodes.length = S.inodes.length := List.length_map ..
theorem mapIno_ino {S : St} {d : Int} {f : Ino → Ino} {j : Nat} (hj : j < S.inodes.length) : (mapIno S d f).ino j = if S.num j = d then f (S.ino j) else S.ino j := by
  have e : S.ino j = S.inodes[j] := getD_get hj
  show (S.inodes.map fun x => if x.num = d then f x else x).getD j noIno = if (S.ino j).num = d then f (S.ino j) else S.ino j
  rw [List.getD_eq_getElem?_getD, List.getElem?_map, List.getElem?_eq_getElem hj, e]; rfl
/-- A row of entries. -/
def entL (L : List (ByteArray × Int)) : Nat → Nat → Value := fun k j => match j with
  | 0 => .string (L.getD k (ByteArray.empty, 0)).1
  | _ => .int .i64 (L.getD k (ByteArray.empty, 0)).2
theorem cl_entL (L : List (ByteArray × Int)) : CL encN L (entL L) 2 := by
  intro k j hk hj
  have e : L.getD k (ByteArray.empty, 0) = L[k] := getD_lt hk
  have : j = 0 ∨ j = 1 := by omega
  rcases this with rfl | rfl
  · show some (Value.string _) = some (Value.string (L.getD k (ByteArray.empty, 0)).1); rw [e]
  · show some (Value.int .i64 _) = some (Value.int .i64 (L.getD k (ByteArray.empty, 0)).2); rw [e]
theorem Inv.num_at {S : St} (h : Inv S) {d : Int} {i j : Nat} (hd : HasAt S d i) (hj : j < S.inodes.length) : S.num j = d ↔ j = i :=
  ⟨fun e => h.num_inj hj hd.1 (e.trans hd.2.2.1.symm), fun e => e ▸ hd.2.2.1⟩
/-- What a step asks of a state that is not whole. -/
structure Wk (S : St) : Prop where
  ni : S.inodes.length ≤ 257
  en : ∀ x ∈ S.inodes, x.ents.length ≤ 32
  nam : ∀ x ∈ S.inodes, ∀ e ∈ x.ents, ncheck e.1 = 0
  inj : ∀ i j, i < S.inodes.length → j < S.inodes.length → S.num i = S.num j → i = j
theorem Inv.wk {S : St} (h : Inv S) : Wk S := ⟨h.ni, fun _ hx => h.en hx, h.nam, fun _ _ hi hj e => h.num_inj hi hj e⟩
theorem Wk.num_at {S : St} (h : Wk S) {d : Int} {i j : Nat} (hd : HasAt S d i) (hj : j < S.inodes.length) : S.num j = d ↔ j = i :=
  ⟨fun e => h.inj _ _ hj hd.1 (e.trans hd.2.2.1.symm), fun e => e ▸ hd.2.2.1⟩
theorem Wk.nam_at {S : St} (h : Wk S) {i k : Nat} (hi : i < S.inodes.length) (hk : k < (S.ino i).ents.length) : ncheck (S.enm i k) = 0 := h.nam _ (Inv.ino_mem hi) _ (getD_mem (d := (ByteArray.empty, 0)) hk)
theorem mapIno_num_at {S : St} {d : Int} {f : Ino → Ino} (hf : ∀ x, (f x).num = x.num) {j : Nat} (hj : j < S.inodes.length) : (mapIno S d f).num j = S.num j := by
  unfold St.num
  rw [mapIno_ino hj]
  split
  · exact hf _
  · rfl
theorem HasAt.mapIno {S : St} {t d : Int} {i : Nat} {f : Ino → Ino} (hf : ∀ x, (f x).num = x.num) (h : HasAt S t i) : HasAt (mapIno S d f) t i := by
  have hx : firstIx (Go.Proofs.Ytenlffhoinialaa.mapIno S d f) t = firstIx S t := by
    unfold firstIx
    rw [mapIno_len]
    cases hr : (List.range S.inodes.length).find? fun i => S.num i == t with
    | none =>
      rw [List.find?_range_eq_none] at hr ⊢
      intro j hj
      rw [mapIno_num_at hf hj]
      exact hr j hj
    | some k =>
      rw [List.find?_range_eq_some] at hr ⊢
      have hk : k < S.inodes.length := by simpa using hr.2.1
      refine ⟨by rw [mapIno_num_at hf hk]; exact hr.1, hr.2.1, fun j hj => ?_⟩
      rw [mapIno_num_at hf (by omega)]
      exact hr.2.2 j hj
  exact ⟨by rw [mapIno_len]; exact h.1, by unfold atF; rw [hx]; exact h.2.1, by rw [mapIno_num_at hf h.1]; exact h.2.2.1, by rw [hx]; exact h.2.2.2⟩
theorem HasAt.setE {S : St} {t d : Int} {i : Nat} {L : List (ByteArray × Int)} (h : HasAt S t i) : HasAt (setE S d L) t i := HasAt.mapIno (f := fun x => { x with ents := L }) (fun _ => rfl) h
theorem setE_ino {S : St} (h : Inv S) {d : Int} {i j : Nat} {L : List (ByteArray × Int)} (hd : HasAt S d i) (hj : j < S.inodes.length) : ((setE S d L).ino j).ents = if j = i then L else (S.ino j).ents := by
  have := mapIno_ino (S := S) (d := d) (f := fun x => { x with ents := L }) hj
  unfold setE
  rw [this]
  by_cases q : j = i
  · rw [if_pos ((h.num_at hd hj).2 q), if_pos q]
  · rw [if_neg (fun e => q ((h.num_at hd hj).1 e)), if_neg q]
theorem Wk.setE {S : St} (h : Inv S) {d : Int} {x0 : Ino} (hx : x0 ∈ S.inodes) {L : List (ByteArray × Int)} (hL : L.Sublist x0.ents) : Wk (setE S d L) := by
  have hm : ∀ y ∈ (Go.Proofs.Ytenlffhoinialaa.setE S d L).inodes, ∃ x ∈ S.inodes, y.ents.Sublist x.ents := by
    intro y hy
    obtain ⟨x, hx1, -, -, -, e4⟩ := of_setE hy
    rcases e4 with ⟨-, e4⟩ | ⟨-, e4⟩
    · exact ⟨x, hx1, by rw [e4]; exact List.Sublist.refl _⟩
    · exact ⟨x0, hx, by rw [e4]; exact hL⟩
  refine ⟨by rw [show (Go.Proofs.Ytenlffhoinialaa.setE S d L).inodes.length = S.inodes.length from mapIno_len ..]; exact h.ni, fun y hy => ?_, fun y hy e he => ?_, fun i j hi hj e => ?_⟩
  · obtain ⟨x, hx1, hs⟩ := hm y hy
    exact Nat.le_trans hs.length_le (h.en hx1)
  · obtain ⟨x, hx1, hs⟩ := hm y hy
    exact h.nam x hx1 e (hs.subset he)
  · rw [show (Go.Proofs.Ytenlffhoinialaa.setE S d L).inodes.length = S.inodes.length from mapIno_len ..] at hi hj
    have e1 : (Go.Proofs.Ytenlffhoinialaa.setE S d L).num i = S.num i := mapIno_num_at (f := fun x => { x with ents := L }) (fun _ => rfl) hi
    have e2 : (Go.Proofs.Ytenlffhoinialaa.setE S d L).num j = S.num j := mapIno_num_at (f := fun x => { x with ents := L }) (fun _ => rfl) hj
    rw [e1, e2] at e
    exact h.num_inj hi hj e
/-- A state in memory behind a pointer. -/
structure StT (w : World) (base ob : Nat) (iv ov mv : Value) (ev : Nat → Value) (S : St) : Prop where
  sat : Blk w ob 26 #[iv, ov, mv]
  ob_le : base ≤ ob
  row : StV w base iv ov mv ev S
namespace StT
variable {w w' : World} {base ob : Nat} {iv ov mv : Value} {ev : Nat → Value} {S : St}
theorem below (h : StT w base ob iv ov mv ev S) (hb : Below w.heap.size w w') : StT w' base ob iv ov mv ev S := ⟨h.sat.below hb, h.ob_le, h.row.below hb⟩
theorem stm (h : StT w base ob iv ov mv ev S) : StM w iv ov mv ev S := h.row.stm
theorem c0 (h : StT w base ob iv ov mv ev S) : w.cell? ⟨ob, 0, none⟩ = some iv := h.sat.cell 0
theorem c1 (h : StT w base ob iv ov mv ev S) : w.cell? ⟨ob, 1, none⟩ = some ov := h.sat.cell 1
theorem c2 (h : StT w base ob iv ov mv ev S) : w.cell? ⟨ob, 2, none⟩ = some mv := h.sat.cell 2
end StT
theorem Below.to_low {b b' : Nat} {w w' : World} (h : Below b w w') (hb : b' ≤ b) : Below b' w w' := h.mono hb
/-- What an act's step keeps: every block but the state's, the inodes' row and the counts'. -/
structure Kp (w w' : World) : Prop where
  size : w.heap.size ≤ w'.heap.size
  block : ∀ {q : Nat} {t : TypeId} {cs : Array Value}, Blk w q t cs → t ≠ 56 → t ≠ 26 → t ≠ 3 → Blk w' q t cs
theorem Kp.trans {a b c : World} (h : Kp a b) (k : Kp b c) : Kp a c := ⟨Nat.le_trans h.size k.size, fun hq h1 h2 h3 => k.block (h.block hq h1 h2 h3) h1 h2 h3⟩
theorem Kp.of_below {w w' : World} (h : Below w.heap.size w w') : Kp w w' := ⟨h.size, fun hq _ _ _ => hq.below h⟩
theorem Kp.set {w w' : World} (h : Kp w w') {g : Nat} {u : TypeId} {cs : Array Value} (hg : Blk w' g u cs) (hu : u = 56 ∨ u = 26 ∨ u = 3) (i : Nat) (x : Value) : Kp w (w'.setCell ⟨g, i, none⟩ x) :=
  ⟨by simpa [World.setCell] using h.size, fun hq h1 h2 h3 => by
    have hb := h.block hq h1 h2 h3
    refine hb.far (p := ⟨g, i, none⟩) (Blk.ne_ hb hg ?_) x
    rcases hu with rfl | rfl | rfl <;> assumption⟩
/-- The entries of one inode are others. -/
theorem StT.put_ent {w w' : World} {base ob : Nat} {ov mv : Value} {ev : Nat → Value} {S : St} {A : Option Addr} {n cap : Nat} (h : StT w base ob (.slice A n cap) ov mv ev S) (hI : Wk S) {d : Int} {i : Nat} (hd : HasAt S d i) (hb : Below w.heap.size w w') {L : List (ByteArray × Int)} {v : Value} (hv : RowT w' base 58 2 v L.length (entL L)) :
    ∃ g off, A = some ⟨g, off, none⟩ ∧ w'.cell? ⟨g, off + i * 4 + 2, none⟩ = some (ev i) ∧ w'.frozen? ⟨g, off + i * 4 + 2, none⟩ = false ∧ base ≤ g ∧
      Kp w (w'.setCell ⟨g, off + i * 4 + 2, none⟩ v) ∧ StT (w'.setCell ⟨g, off + i * 4 + 2, none⟩ v) base ob (.slice A n cap) ov mv (fun j => if j = i then v else ev j) (setE S d L) := by
  have h2 := h.below hb
  obtain ⟨g, off, cap', cs, e, hc, hg, hbk, hcell, hset⟩ := h2.row.ino.set (i := i) (j := 2) hd.1 (by omega)
  injection e with e1 e2 e3
  subst e1 e3
  have hn : n = S.inodes.length := e2
  subst hn
  have ea : off + (i * 4 + 2) = off + i * 4 + 2 := by omega
  rw [ea] at hcell
  refine ⟨g, off, rfl, hcell, hbk.frozen _, hg, (Kp.of_below hb).set hbk (.inl rfl) _ v, h2.sat.far (p := ⟨g, off + i * 4 + 2, none⟩) (Blk.ne_ h2.sat hbk (by decide)) v, h.ob_le, ?_⟩
  have hlen : (setE S d L).inodes.length = S.inodes.length := mapIno_len ..
  have hino : ∀ j, j < S.inodes.length → (setE S d L).ino j = if j = i then { S.ino j with ents := L } else S.ino j := fun j hj => by
    have := mapIno_ino (S := S) (d := d) (f := fun x => { x with ents := L }) hj
    unfold setE
    rw [this]
    by_cases q : j = i
    · rw [if_pos ((hI.num_at hd hj).2 q), if_pos q]
    · rw [if_neg (fun e => q ((hI.num_at hd hj).1 e)), if_neg q]
  refine ⟨?_, fun j hj => ?_, (h2.row.opn.far hbk (by decide) _ v), (h2.row.mad.far hbk (by decide) _ v)⟩
  · have h3 := hset v
    rw [ea] at h3
    rw [hlen]
    refine h3.congr fun a b ha hb => ?_
    have h4 := hino a ha
    have : b = 0 ∨ b = 1 ∨ b = 2 ∨ b = 3 := by omega
    rcases this with rfl | rfl | rfl | rfl
    · rw [if_neg (by omega)]
      show Value.int .i64 (S.ino a).num = Value.int .i64 ((setE S d L).ino a).num
      rw [h4]; split <;> rfl
    · rw [if_neg (by omega)]
      show Value.bool (S.ino a).dir = Value.bool ((setE S d L).ino a).dir
      rw [h4]; split <;> rfl
    · by_cases q : a = i
      · rw [if_pos ⟨q, rfl⟩]
        show v = if a = i then v else ev a
        rw [if_pos q]
      · rw [if_neg (fun e => q e.1)]
        show ev a = if a = i then v else ev a
        rw [if_neg q]
    · rw [if_neg (by omega)]
      show Value.string (S.ino a).data = Value.string ((setE S d L).ino a).data
      rw [h4]; split <;> rfl
  · rw [hlen] at hj
    have h4 := hino j hj
    by_cases q : j = i
    · show RowT _ base _ 2 (if j = i then v else ev j) ((setE S d L).ino j).ents.length (entC (setE S d L) j)
      rw [if_pos q]
      have he : ((setE S d L).ino j).ents = L := by rw [h4, if_pos q]
      rw [he]
      refine (hv.far hbk (by decide) _ v).congr fun a b ha hb => ?_
      have : b = 0 ∨ b = 1 := by omega
      rcases this with rfl | rfl
      · show Value.string (L.getD a (ByteArray.empty, 0)).1 = Value.string (((setE S d L).ino j).ents.getD a (ByteArray.empty, 0)).1
        rw [he]
      · show Value.int .i64 (L.getD a (ByteArray.empty, 0)).2 = Value.int .i64 (((setE S d L).ino j).ents.getD a (ByteArray.empty, 0)).2
        rw [he]
    · show RowT _ base _ 2 (if j = i then v else ev j) ((setE S d L).ino j).ents.length (entC (setE S d L) j)
      rw [if_neg q]
      have he : ((setE S d L).ino j) = S.ino j := by rw [h4, if_neg q]
      rw [he]
      refine ((h2.row.ent j hj).far hbk (by decide) _ v).congr fun a b ha hb => ?_
      have : b = 0 ∨ b = 1 := by omega
      rcases this with rfl | rfl
      · show Value.string ((S.ino j).ents.getD a (ByteArray.empty, 0)).1 = Value.string (((setE S d L).ino j).ents.getD a (ByteArray.empty, 0)).1
        rw [he]
      · show Value.int .i64 ((S.ino j).ents.getD a (ByteArray.empty, 0)).2 = Value.int .i64 (((setE S d L).ino j).ents.getD a (ByteArray.empty, 0)).2
        rw [he]
end Go.Proofs.Ytenlffhoinialaa
end

section
namespace Go.Proofs.Ytenlffhoinialaa
open Go.RowKit
set_option maxHeartbeats 2000000
attribute [local go_sem ↓] Go.wp_at_zero Go.wp_at_succ
/-- What put has put together. -/
def PutR (p : ByteArray × Int) (T L : List (ByteArray × Int)) (dn : Bool) : Prop := (dn = false ∧ L = T ∧ ∀ e ∈ T, ltE p e = false) ∨ (dn = true ∧ L = insE p T ∧ ∃ e ∈ T, ltE p e = true)
theorem PutR.at {p e : ByteArray × Int} {T L : List (ByteArray × Int)} (h : PutR p T L false) (he : ltE p e = true) : PutR p (T ++ [e]) (L ++ [p] ++ [e]) true := by
  rcases h with ⟨-, rfl, h⟩ | ⟨h, -⟩
  · exact .inr ⟨rfl, (insBy_snoc_at he h).symm, e, by simp, he⟩
  · cases h
theorem PutR.past {p e : ByteArray × Int} {T L : List (ByteArray × Int)} (h : PutR p T L false) (he : ltE p e = false) : PutR p (T ++ [e]) (L ++ [e]) false := by
  rcases h with ⟨-, rfl, h⟩ | ⟨h, -⟩
  · refine .inl ⟨rfl, rfl, fun x hx => ?_⟩
    rcases List.mem_append.1 hx with hx | hx
    · exact h x hx
    · simp at hx; subst hx; exact he
  · cases h
theorem PutR.behind {p e : ByteArray × Int} {T L : List (ByteArray × Int)} (h : PutR p T L true) : PutR p (T ++ [e]) (L ++ [e]) true := by
  rcases h with ⟨h, -⟩ | ⟨-, rfl, x, hx, h⟩
  · cases h
  · exact .inr ⟨rfl, (insBy_snoc_in ⟨x, hx, h⟩).symm, x, by simp [hx], h⟩
theorem PutR.last {p : ByteArray × Int} {T L : List (ByteArray × Int)} (h : PutR p T L false) : L ++ [p] = insE p T := by
  rcases h with ⟨-, rfl, h⟩ | ⟨h, -⟩
  · exact (insBy_none h).symm
  · cases h
theorem PutR.done {p : ByteArray × Int} {T L : List (ByteArray × Int)} (h : PutR p T L true) : L = insE p T := by
  rcases h with ⟨h, -⟩ | ⟨-, h, -⟩
  · cases h
  · exact h
theorem PutR.len {p : ByteArray × Int} {T L : List (ByteArray × Int)} {dn : Bool} (h : PutR p T L dn) : L.length ≤ T.length + 1 := by
  rcases h with ⟨-, rfl, -⟩ | ⟨-, rfl, -⟩
  · omega
  · unfold insE; rw [(perm_insBy _).length_eq, List.length_cons]; exact Nat.le_refl _
set_option maxRecDepth 1000000 in
theorem put_calls {w : World} {base ob : Nat} {iv ov mv : Value} {ev : Nat → Value} {S : St} (hT : StT w base ob iv ov mv ev S) (hbw : base ≤ w.heap.size) (hI : Wk S) {d : Int} {i : Nat} (hd : HasAt S d i) {nm : ByteArray} (hnm : nm.size ≤ 12) (num : Int) :
    Calls Try.prog 121 #[.pointer (some ⟨ob, 0, none⟩), .int .i64 d, .string nm, .int .i64 num] w fun e w' => e = .returned (.tuple #[]) ∧ Below base w w' ∧ Kp w w' ∧ ∃ ev', StT w' base ob iv ov mv ev' (setE S d (insE (nm, num) (S.ino i).ents)) := by
  obtain ⟨j0_, hj, hy0, hy1, hy2⟩ := info_parts info_ent2
  obtain ⟨A, cap, rfl⟩ := hT.row.ino.at'.form
  obtain ⟨OA, ocap, rfl⟩ := hT.row.opn.at'.form
  obtain ⟨MA, mcap, rfl⟩ := hT.row.mad.at'.form
  have hni := hI.ni
  have HI := Lib.hid hI
  have HD := Lib.hid hd
  have HS := Lib.hid hT.stm
  have HCA0 := Lib.hid (fun W hW x => At_calls (S := S) (w := W) (iv := .slice A S.inodes.length cap) (ov := .slice OA S.opens.length ocap) (mv := .slice MA S.made.length mcap) (ev := ev) hW (by omega) x)
  have hil := hd.1
  have hda := hd.2.1
  have hen : S.ne i ≤ 32 := hI.en _ (Inv.ino_mem hil)
  have HENT := Lib.hid (hT.stm.ent i hil)
  have HIN := Lib.hid hT.stm.ino
  have HNS := Lib.hid (show ∀ k, S.enm i k = ((S.ino i).ents.getD k (ByteArray.empty, 0)).1 from fun _ => rfl)
  have HNU := Lib.hid (show ∀ k, S.enu i k = ((S.ino i).ents.getD k (ByteArray.empty, 0)).2 from fun _ => rfl)
  have HNE := Lib.hid (show (S.ino i).ents.length = S.ne i from rfl)
  have HNK := Lib.hid (fun k (hk : k < (S.ino i).ents.length) => hI.nam_at hd.1 hk)
  have HPUT := Lib.hid (fun W' hb L v hv => hT.put_ent (w' := W') hI hd hb (L := L) (v := v) hv)
  have HSAT := Lib.hid hT.sat
  have HOB := Lib.hid hT.ob_le
  obtain ⟨n, hnn⟩ : ∃ n, S.inodes.length = n := ⟨_, rfl⟩
  rw [hnn] at HS HCA0 hni hil HIN HPUT HSAT ⊢
  obtain ⟨no, hno⟩ : ∃ n, S.opens.length = n := ⟨_, rfl⟩
  obtain ⟨nm_, hnm⟩ : ∃ n, S.made.length = n := ⟨_, rfl⟩
  rw [hno, hnm] at HS HCA0 HPUT HSAT ⊢
  clear hT hI hnn hno hnm hd
  obtain ⟨-, hcap, ig, ioff, rfl, hcell⟩ := HIN.out.at_ hil
  have HQ2 := Lib.hid (show w.cell? ⟨ig, ioff + i * 4 + 2, none⟩ = some (ev i) from hcell 2 (by omega))
  obtain ⟨EA, ecap, hev⟩ := HENT.out.form
  rw [hev] at HQ2 HENT
  have HEV := Lib.hid hev
  clear hcell hev HIN
  have HCA := Lib.hid (by have := HCA0.out w.drew (HS.out.keep (below_drew1 w)) d; rwa [hda] at this)
  obtain ⟨ne, hne⟩ : ∃ x, S.ne i = x := ⟨_, rfl⟩
  rw [hne] at HQ2 HENT HNE hen HEV
  clear HCA0 hne hda
  have p0 : w.cell? ⟨ob, 0, none⟩ = some (.slice (some ⟨ig, ioff, none⟩) n cap) := HSAT.out.cell 0
  have p1 : w.cell? ⟨ob, 1, none⟩ = some (.slice OA no ocap) := HSAT.out.cell 1
  have p2 : w.cell? ⟨ob, 2, none⟩ = some (.slice MA nm_ mcap) := HSAT.out.cell 2
  have ei0 : (0 : Int) ≤ (i : Int) := by omega
  have ei1 : (i : Int) < (n : Int) := by omega
  have ei : IntKind.i64.wrap (i : Int) = (i : Int) := IntWalk.i64_in _ (by omega)
  have hobs := HSAT.out.lt
  go_enter Try.func121, Try.ntmps121
  go_upto_region 0 with (fail)
  go_cut [8] (fun s wx => s = .pointer (some ⟨ig, ioff + i * 4, none⟩) ∧ Below w.heap.size w wx)
  case first =>
    refine wp_region_held_drew (S := fun w' => (w'.cell? ⟨ob, 0, none⟩ = some (.slice (some ⟨ig, ioff, none⟩) n cap) ∧ w'.cell? ⟨ob, 1, none⟩ = some (.slice OA no ocap) ∧ w'.cell? ⟨ob, 2, none⟩ = some (.slice MA nm_ mcap))) (by kernel_rfl) (⟨p0, p1, p2⟩) (fun hHeld => ?_)
    refine wpAnyH_take (i := 0) (oi := ⟨some 12, _, _, _, _, _⟩) (v := .pointer (some ⟨ob, 0, none⟩)) rfl (by kernel_rfl) (by kernel_rfl) (by kernel_rfl) (fun _ _ _ h => h) (Or.inl ⟨by kernel_rfl, fun w hSw => by go_simp⟩) (by assumption) ?_
    simp only [Act.put, lTA, lC0, lCS]
    refine wpAnyH_take (i := 1) (oi := ⟨some 13, _, _, _, _, _⟩) (v := .pointer (some ⟨ob, 0, none⟩)) rfl (by kernel_rfl) (by kernel_rfl) (by kernel_rfl) (fun _ _ _ h => h) (Or.inl ⟨by kernel_rfl, fun w hSw => by go_simp⟩) (by assumption) ?_
    simp only [Act.put, lTA, lC0, lCS]
    refine wpAnyH_take (i := 2) (oi := ⟨some 14, _, _, _, _, _⟩) (v := .pointer (some ⟨ob, 0, none⟩)) rfl (by kernel_rfl) (by kernel_rfl) (by kernel_rfl) (fun _ _ _ h => h) (Or.inl ⟨by kernel_rfl, fun w hSw => by go_simp⟩) (by assumption) ?_
    simp only [Act.put, lTA, lC0, lCS]
    refine wpAnyH_take (i := 3) (oi := ⟨some 15, _, _, _, _, _⟩) (v := .slice (some ⟨ig, ioff, none⟩) n cap) rfl (by kernel_rfl) (by kernel_rfl) (by kernel_rfl) (fun _ _ _ h => h) (Or.inl ⟨by kernel_rfl, fun w hSw => by go_simp⟩) (by assumption) ?_
    simp only [Act.put, lTA, lC0, lCS]
    refine wpAnyH_take (i := 4) (oi := ⟨some 16, _, _, _, _, _⟩) (v := .pointer (some ⟨ob, 0, none⟩)) rfl (by kernel_rfl) (by kernel_rfl) (by kernel_rfl) (fun _ _ _ h => h) (Or.inl ⟨by kernel_rfl, fun w hSw => by go_simp⟩) (by assumption) ?_
    simp only [Act.put, lTA, lC0, lCS]
    refine wpAnyH_take (i := 5) (oi := ⟨some 17, _, _, _, _, _⟩) (v := .pointer (some ⟨ob, 0, none⟩)) rfl (by kernel_rfl) (by kernel_rfl) (by kernel_rfl) (fun _ _ _ h => h) (Or.inl ⟨by kernel_rfl, fun w hSw => by go_simp⟩) (by assumption) ?_
    simp only [Act.put, lTA, lC0, lCS]
    refine wpAnyH_take (i := 6) (oi := ⟨some 18, _, _, _, _, _⟩) (v := .agg #[.slice (some ⟨ig, ioff, none⟩) n cap, .slice OA no ocap, .slice MA nm_ mcap]) rfl (by kernel_rfl) (by kernel_rfl) (by kernel_rfl) (fun _ _ _ h => h) (Or.inl ⟨by kernel_rfl, fun w hSw => by go_simp⟩) (by assumption) ?_
    simp only [Act.put, lTA, lC0, lCS]
    refine wpAnyH_take (i := 7) (oi := ⟨some 19, _, _, _, _, _⟩) (v := .int .i64 d) rfl (by kernel_rfl) (by kernel_rfl) (by kernel_rfl) (fun _ _ _ h => h) (Or.inl ⟨by kernel_rfl, fun w hSw => by go_simp⟩) (by assumption) ?_
    simp only [Act.put, lTA, lC0, lCS]
    refine wpAnyH_ready (rs := [8]) (by kernel_rfl) (by simp) ?_
    refine AllReadyH.cons rfl (fun K hK => ?_) AllReadyH.nil
    go_simp
    refine HCA.out.mono ?_
    rintro e w2 ⟨rfl, hB2⟩
    show K _ _
    refine hK.out _ _ (⟨(hB2.cell (World.block_lt_of_cell? _ _ hHeld.1)).trans hHeld.1, (hB2.cell (World.block_lt_of_cell? _ _ hHeld.2.1)).trans hHeld.2.1, (hB2.cell (World.block_lt_of_cell? _ _ hHeld.2.2)).trans hHeld.2.2⟩) (fun hHeld => ?_)
    clear hK K
    refine wpAnyH_take (i := 9) (oi := ⟨some 21, _, _, _, _, _⟩) (v := .pointer (some ⟨ig, ioff + i * 4, none⟩)) rfl (by kernel_rfl) (by kernel_rfl) (by kernel_rfl) (fun _ _ _ h => h) (Or.inl ⟨by kernel_rfl, fun w hSw => by go_simp⟩) (by assumption) ?_
    simp only [Act.put, lTA, lC0, lCS]
    refine wpAnyH_take (i := 10) (oi := ⟨some 8, _, _, _, _, _⟩) (v := .pointer (some ⟨ig, ioff + i * 4, none⟩)) rfl (by kernel_rfl) (by kernel_rfl) (by kernel_rfl) (fun _ _ _ h => h) (Or.inl ⟨by kernel_rfl, fun w hSw => by go_simp⟩) (by assumption) ?_
    simp only [Act.put, lTA, lC0, lCS]
    refine wpAnyH_done (by kernel_rfl) ?_ _
    go_wp2_with (fail)
    go_meet
    case rel => exact ⟨rfl, (below_drew1 w).trans hB2⟩
  case rest =>
    obtain ⟨rfl, hbc⟩ := hcut
    have HBC := Lib.hid hbc
    have HQS := Lib.hid (show w.heap.size ≤ w.heap.size from Nat.le_refl _)
    clear p0 p1 p2 hbc HCA HS HSAT
    obtain ⟨q, hq_⟩ : ∃ q, q = w.heap.size := ⟨_, rfl⟩
    have HQ := Lib.hid hq_
    rw [← hq_] at HBC
    clear hq_ HQS
    go_wp2_with (fail)
    go_loopw [9, 10, 11] (fun v dv i' wr => ∃ (k : Nat) (L : List (ByteArray × Int)) (dn : Bool), i' = .int .i64 k ∧ dv = .bool dn ∧ k ≤ ne ∧ PutR (nm, num) ((S.ino i).ents.take k) L dn ∧ (∃ A cap, v = .slice A L.length cap) ∧ wr.ownsRow q 58 2 v L.length (L.flatMap encN) ∧ Below q w wr) (fun _ _ i' _ => ne - (intOf i').toNat)
    case atStart => exact ⟨0, [], false, rfl, rfl, by omega, .inl ⟨rfl, rfl, fun e he => by simp at he⟩, ⟨_, _, rfl⟩, World.ownsRow_nil _ _ _ _, HBC.out⟩
    case round =>
      obtain ⟨k, L, dn, rfl, rfl, hk, hpr, ⟨VA, vc, rfl⟩, hown, hb⟩ := hrel
      have HPR := Lib.hid hpr
      have HO := Lib.hid hown
      have HB := Lib.hid hb
      have HLL := Lib.hid (show L.length ≤ 33 by have := hpr.len; have h2 := List.length_take_le k (S.ino i).ents; omega)
      clear hpr hown hb
      by_cases hq : k < ne
      · have hq1 : (k : Int) < (ne : Int) := by omega
        have hkl : k < (S.ino i).ents.length := by rw [HNE.out]; exact hq
        obtain ⟨-, hecap, eg, eoff, rfl, hecell⟩ := HENT.out.at_ hq
        have HE0 := Lib.hid (show w.cell? ⟨eg, eoff + k * 2, none⟩ = some (.string (S.enm i k)) from hecell 0 (by omega))
        have HE1 := Lib.hid (show w.cell? ⟨eg, eoff + k * 2 + 1, none⟩ = some (.int .i64 (S.enu i k)) from hecell 1 (by omega))
        have HTK := Lib.hid (show (S.ino i).ents.take k ++ [(S.enm i k, S.enu i k)] = (S.ino i).ents.take (k + 1) by rw [List.take_succ_eq_append_getElem hkl, HNS.out, HNU.out, getD_lt hkl])
        have HSZ := Lib.hid (show (S.enm i k).size ≤ 12 by have := HNK.out k hkl; have e : (S.ino i).ents.getD k (ByteArray.empty, 0) = (S.ino i).ents[k] := getD_lt hkl; exact ncheck_size this)
        clear hecell hkl
        obtain ⟨s1, hs1⟩ : ∃ x, S.enm i k = x := ⟨_, rfl⟩
        obtain ⟨u1, hu1⟩ : ∃ x, S.enu i k = x := ⟨_, rfl⟩
        rw [hs1] at HE0 HTK HSZ
        rw [hu1] at HE1 HTK
        clear hs1 hu1
        rcases bool_tf dn with rfl | rfl
        · have x0 : wr.cell? ⟨ig, ioff + i * 4 + 2, none⟩ = some (.slice (some ⟨eg, eoff, none⟩) ne ecap) := (HB.out.cell (by rw [HQ.out]; exact World.block_lt_of_cell? w _ HQ2.out)).trans HQ2.out
          go_upto_region 9 with (fail)
          clear x0
          have x0 : wr.cell? ⟨ig, ioff + i * 4 + 2, none⟩ = some (.slice (some ⟨eg, eoff, none⟩) ne ecap) := (HB.out.cell (by rw [HQ.out]; exact World.block_lt_of_cell? w _ HQ2.out)).trans HQ2.out
          have e0 : wr.cell? ⟨eg, eoff + k * 2, none⟩ = some (.string s1) := (HB.out.cell (by rw [HQ.out]; exact World.block_lt_of_cell? w _ HE0.out)).trans HE0.out
          have e1 : wr.cell? ⟨eg, eoff + k * 2 + 1, none⟩ = some (.int .i64 u1) := (HB.out.cell (by rw [HQ.out]; exact World.block_lt_of_cell? w _ HE1.out)).trans HE1.out
          have HNW := Lib.hid (Blk.new wr 58 #[.string s1, .int .i64 u1])
          have HOW := Lib.hid (own_below HO.out (below_alloc wr (Obj.cells #[.string s1, .int .i64 u1] 58)))
          have HBW := Lib.hid (HB.out.trans ((below_alloc wr (Obj.cells #[.string s1, .int .i64 u1] 58)).mono (show q ≤ wr.heap.size by have := HB.out.size; have := HQ.out; omega)))
          have HQW := Lib.hid (show q ≤ (wr.alloc (Obj.cells #[.string s1, .int .i64 u1] 58)).heap.size by have := HBW.out.size; have := HQ.out; omega)
          go_wp2_with (at_builtin; refine wpList_app (enc := encN) _ rfl (.tmp 51) (.tmp 59) 54 58 rfl j0_ _ 24 Try.underlying54 hj hy0 hy1 hy2 rfl (by decide) q _ L rfl HOW.out (.slice (some ⟨wr.heap.size, 0, none⟩) 1 1) rfl [(s1, u1)] (C := entL [(s1, u1)]) (RowAt.blk HNW.out (Nat.le_refl _) (fun a b ha hb => by (obtain rfl : a = 0 := (by simpa using ha)); rcases (show b = 0 ∨ b = 1 by omega) with rfl | rfl <;> rfl)) (cl_entL _) encN_len (fun x _ => encN_one x) (by have := HLL.out; simp only [List.length_cons, List.length_nil] at this ⊢; omega) (by decide) HQW.out ?_; intro A6 n6 c6 w6 hn6 hown6 hgrow6; have HN6 := Lib.hid hn6; have HO6 := Lib.hid hown6; have HG6 := Lib.hid hgrow6; clear hn6 hown6 hgrow6)
          have HB6 := Lib.hid (show Below q w w6 from HBW.out.trans ⟨HG6.out.os, HG6.out.tape, HG6.out.output, HG6.out.size, fun k' hk' => HG6.out.block k' (by have := HQW.out; omega) (fun e => by have := (HOW.out.lt k' e.symm).1; omega)⟩)
          go_roundw
          case rel => exact ⟨k + 1, _, true, by go_num, rfl, by omega, HTK.out ▸ HPR.out.behind, ⟨A6, c6, by rw [HN6.out]⟩, HO6.out, HB6.out⟩
          case measure =>
            simp only [intOf]
            omega
        · have HBL := Lib.hid (rbelow_calls nm s1 (by omega) (by have := HSZ.out; omega) wr)
          have x0 : wr.cell? ⟨ig, ioff + i * 4 + 2, none⟩ = some (.slice (some ⟨eg, eoff, none⟩) ne ecap) := (HB.out.cell (by rw [HQ.out]; exact World.block_lt_of_cell? w _ HQ2.out)).trans HQ2.out
          have e0 : wr.cell? ⟨eg, eoff + k * 2, none⟩ = some (.string s1) := (HB.out.cell (by rw [HQ.out]; exact World.block_lt_of_cell? w _ HE0.out)).trans HE0.out
          have HLT := Lib.hid (show ltE (nm, num) (s1, u1) = nlt nm s1 from rfl)
          obtain ⟨lb, hlb⟩ : ∃ b, nlt nm s1 = b := ⟨_, rfl⟩
          rw [hlb] at HBL HLT
          clear hlb
          rcases bool_tf lb with rfl | rfl
          · go_upto_region 7 with (go_at_call 82; refine HBL.out.mono ?_; rintro e w2 ⟨rfl, dd, rfl⟩)
            have HO2 := Lib.hid (show (wr.drewN dd).ownsRow q 58 2 (.slice VA L.length vc) L.length (L.flatMap encN) from HO.out)
            have HB2 := Lib.hid (show Below q w (wr.drewN dd) from HB.out.trans ⟨rfl, rfl, rfl, Nat.le_refl _, fun _ _ => rfl⟩)
            clear x0 e0 HO HB HBL
            generalize wr.drewN dd = w3 at *
            have HNW := Lib.hid (Blk.new w3 58 #[.string nm, .int .i64 num])
            have HOW := Lib.hid (own_below HO2.out (below_alloc w3 (Obj.cells #[.string nm, .int .i64 num] 58)))
            have HBW := Lib.hid (HB2.out.trans ((below_alloc w3 (Obj.cells #[.string nm, .int .i64 num] 58)).mono (show q ≤ w3.heap.size by have := HB2.out.size; have := HQ.out; omega)))
            have HQW := Lib.hid (show q ≤ (w3.alloc (Obj.cells #[.string nm, .int .i64 num] 58)).heap.size by have := HBW.out.size; have := HQ.out; omega)
            go_upto_region 9 with (at_builtin; refine wpList_app (enc := encN) _ rfl (.tmp 45) (.tmp 49) 54 58 rfl j0_ _ 24 Try.underlying54 hj hy0 hy1 hy2 rfl (by decide) q _ L rfl HOW.out (.slice (some ⟨w3.heap.size, 0, none⟩) 1 1) rfl [(nm, num)] (C := entL [(nm, num)]) (RowAt.blk HNW.out (Nat.le_refl _) (fun a b ha hb => by (obtain rfl : a = 0 := (by simpa using ha)); rcases (show b = 0 ∨ b = 1 by omega) with rfl | rfl <;> rfl)) (cl_entL _) encN_len (fun x _ => encN_one x) (by have := HLL.out; simp only [List.length_cons, List.length_nil] at this ⊢; omega) (by decide) HQW.out ?_; intro A4 n4 c4 w4 hn4 hown4 hgrow4; have HN4 := Lib.hid hn4; have HO4 := Lib.hid hown4; have HG4 := Lib.hid hgrow4; clear hn4 hown4 hgrow4)
            have HB4 := Lib.hid (show Below q w w4 from HBW.out.trans ⟨HG4.out.os, HG4.out.tape, HG4.out.output, HG4.out.size, fun k' hk' => HG4.out.block k' (by have := HQW.out; omega) (fun e => by have := (HOW.out.lt k' e.symm).1; omega)⟩)
            have HLL := Lib.hid (show (L ++ [(nm, num)]).length ≤ 34 by rw [List.length_append]; have := HLL.out; simp; omega)
            clear HNW HOW HBW HQW
            have x0 : w4.cell? ⟨ig, ioff + i * 4 + 2, none⟩ = some (.slice (some ⟨eg, eoff, none⟩) ne ecap) := (HB4.out.cell (by rw [HQ.out]; exact World.block_lt_of_cell? w _ HQ2.out)).trans HQ2.out
            have e0 : w4.cell? ⟨eg, eoff + k * 2, none⟩ = some (.string s1) := (HB4.out.cell (by rw [HQ.out]; exact World.block_lt_of_cell? w _ HE0.out)).trans HE0.out
            have e1 : w4.cell? ⟨eg, eoff + k * 2 + 1, none⟩ = some (.int .i64 u1) := (HB4.out.cell (by rw [HQ.out]; exact World.block_lt_of_cell? w _ HE1.out)).trans HE1.out
            have HNW := Lib.hid (Blk.new w4 58 #[.string s1, .int .i64 u1])
            have HOW := Lib.hid (own_below HO4.out (below_alloc w4 (Obj.cells #[.string s1, .int .i64 u1] 58)))
            have HBW := Lib.hid (HB4.out.trans ((below_alloc w4 (Obj.cells #[.string s1, .int .i64 u1] 58)).mono (show q ≤ w4.heap.size by have := HB4.out.size; have := HQ.out; omega)))
            have HQW := Lib.hid (show q ≤ (w4.alloc (Obj.cells #[.string s1, .int .i64 u1] 58)).heap.size by have := HBW.out.size; have := HQ.out; omega)
            go_wp2_with (at_builtin; refine wpList_app (enc := encN) _ rfl (.tmp 51) (.tmp 59) 54 58 rfl j0_ _ 24 Try.underlying54 hj hy0 hy1 hy2 rfl (by decide) q _ (L ++ [(nm, num)]) rfl HOW.out (.slice (some ⟨w4.heap.size, 0, none⟩) 1 1) rfl [(s1, u1)] (C := entL [(s1, u1)]) (RowAt.blk HNW.out (Nat.le_refl _) (fun a b ha hb => by (obtain rfl : a = 0 := (by simpa using ha)); rcases (show b = 0 ∨ b = 1 by omega) with rfl | rfl <;> rfl)) (cl_entL _) encN_len (fun x _ => encN_one x) (by have := HLL.out; simp only [List.length_append, List.length_cons, List.length_nil] at this ⊢; omega) (by decide) HQW.out ?_; intro A6 n6 c6 w6 hn6 hown6 hgrow6; have HN6 := Lib.hid hn6; have HO6 := Lib.hid hown6; have HG6 := Lib.hid hgrow6; clear hn6 hown6 hgrow6)
            have HB6 := Lib.hid (show Below q w w6 from HBW.out.trans ⟨HG6.out.os, HG6.out.tape, HG6.out.output, HG6.out.size, fun k' hk' => HG6.out.block k' (by have := HQW.out; omega) (fun e => by have := (HOW.out.lt k' e.symm).1; omega)⟩)
            go_roundw
            case rel => exact ⟨k + 1, _, true, by go_num, rfl, by omega, HTK.out ▸ (HPR.out.at HLT.out), ⟨A6, c6, by rw [HN6.out]⟩, HO6.out, HB6.out⟩
            case measure =>
              simp only [intOf]
              omega
          · go_upto_region 9 with (go_at_call 82; refine HBL.out.mono ?_; rintro e w2 ⟨rfl, dd, rfl⟩)
            have HO2 := Lib.hid (show (wr.drewN dd).ownsRow q 58 2 (.slice VA L.length vc) L.length (L.flatMap encN) from HO.out)
            have HB2 := Lib.hid (show Below q w (wr.drewN dd) from HB.out.trans ⟨rfl, rfl, rfl, Nat.le_refl _, fun _ _ => rfl⟩)
            clear x0 e0 HO HB HBL
            generalize wr.drewN dd = w3 at *
            have x0 : w3.cell? ⟨ig, ioff + i * 4 + 2, none⟩ = some (.slice (some ⟨eg, eoff, none⟩) ne ecap) := (HB2.out.cell (by rw [HQ.out]; exact World.block_lt_of_cell? w _ HQ2.out)).trans HQ2.out
            have e0 : w3.cell? ⟨eg, eoff + k * 2, none⟩ = some (.string s1) := (HB2.out.cell (by rw [HQ.out]; exact World.block_lt_of_cell? w _ HE0.out)).trans HE0.out
            have e1 : w3.cell? ⟨eg, eoff + k * 2 + 1, none⟩ = some (.int .i64 u1) := (HB2.out.cell (by rw [HQ.out]; exact World.block_lt_of_cell? w _ HE1.out)).trans HE1.out
            have HNW := Lib.hid (Blk.new w3 58 #[.string s1, .int .i64 u1])
            have HOW := Lib.hid (own_below HO2.out (below_alloc w3 (Obj.cells #[.string s1, .int .i64 u1] 58)))
            have HBW := Lib.hid (HB2.out.trans ((below_alloc w3 (Obj.cells #[.string s1, .int .i64 u1] 58)).mono (show q ≤ w3.heap.size by have := HB2.out.size; have := HQ.out; omega)))
            have HQW := Lib.hid (show q ≤ (w3.alloc (Obj.cells #[.string s1, .int .i64 u1] 58)).heap.size by have := HBW.out.size; have := HQ.out; omega)
            go_wp2_with (at_builtin; refine wpList_app (enc := encN) _ rfl (.tmp 51) (.tmp 59) 54 58 rfl j0_ _ 24 Try.underlying54 hj hy0 hy1 hy2 rfl (by decide) q _ L rfl HOW.out (.slice (some ⟨w3.heap.size, 0, none⟩) 1 1) rfl [(s1, u1)] (C := entL [(s1, u1)]) (RowAt.blk HNW.out (Nat.le_refl _) (fun a b ha hb => by (obtain rfl : a = 0 := (by simpa using ha)); rcases (show b = 0 ∨ b = 1 by omega) with rfl | rfl <;> rfl)) (cl_entL _) encN_len (fun x _ => encN_one x) (by have := HLL.out; simp only [List.length_cons, List.length_nil] at this ⊢; omega) (by decide) HQW.out ?_; intro A6 n6 c6 w6 hn6 hown6 hgrow6; have HN6 := Lib.hid hn6; have HO6 := Lib.hid hown6; have HG6 := Lib.hid hgrow6; clear hn6 hown6 hgrow6)
            have HB6 := Lib.hid (show Below q w w6 from HBW.out.trans ⟨HG6.out.os, HG6.out.tape, HG6.out.output, HG6.out.size, fun k' hk' => HG6.out.block k' (by have := HQW.out; omega) (fun e => by have := (HOW.out.lt k' e.symm).1; omega)⟩)
            go_roundw
            case rel => exact ⟨k + 1, _, false, by go_num, rfl, by omega, HTK.out ▸ (HPR.out.past HLT.out), ⟨A6, c6, by rw [HN6.out]⟩, HO6.out, HB6.out⟩
            case measure =>
              simp only [intOf]
              omega
      · obtain rfl : k = ne := by omega
        have HTK := Lib.hid (show (S.ino i).ents.take k = (S.ino i).ents by rw [← HNE.out, List.take_length])
        have x0 : wr.cell? ⟨ig, ioff + i * 4 + 2, none⟩ = some (.slice EA k ecap) := (HB.out.cell (by rw [HQ.out]; exact World.block_lt_of_cell? w _ HQ2.out)).trans HQ2.out
        rcases bool_tf dn with rfl | rfl
        · have HLI := Lib.hid (show L = insE (nm, num) (S.ino i).ents by rw [← HTK.out]; exact HPR.out.done)
          obtain ⟨g', off', e', hc', hf', hg', hK', hT'⟩ := HPUT.out wr (by rw [← HQ.out]; exact HB.out) L (.slice VA L.length vc) ((own_rowT (by decide) encN_len HO.out (cl_entL L)).base_le (by rw [HQ.out]; exact hbw))
          injection e' with e'
          injection e' with e1' e2'
          subst e1' e2'
          have HT' := Lib.hid hT'
          clear hT' hc'
          go_wp2_with (fail)
          go_end0
          exact ⟨rfl, ((HB.out.mono (by rw [HQ.out]; exact hbw)).setCell (p := ⟨ig, ioff + i * 4 + 2, none⟩) hg' _), hK', _, by rw [← HLI.out]; exact HT'.out⟩
        · have HLI := Lib.hid (show L ++ [(nm, num)] = insE (nm, num) (S.ino i).ents by rw [← HTK.out]; exact HPR.out.last)
          have HNW := Lib.hid (Blk.new wr 58 #[.string nm, .int .i64 num])
          have HOW := Lib.hid (own_below HO.out (below_alloc wr (Obj.cells #[.string nm, .int .i64 num] 58)))
          have HBW := Lib.hid (HB.out.trans ((below_alloc wr (Obj.cells #[.string nm, .int .i64 num] 58)).mono (show q ≤ wr.heap.size by have := HB.out.size; have := HQ.out; omega)))
          have HQW := Lib.hid (show q ≤ (wr.alloc (Obj.cells #[.string nm, .int .i64 num] 58)).heap.size by have := HBW.out.size; have := HQ.out; omega)
          go_upto_region 12 with (at_builtin; refine wpList_app (enc := encN) _ rfl (.tmp 63) (.tmp 67) 54 58 rfl j0_ _ 24 Try.underlying54 hj hy0 hy1 hy2 rfl (by decide) q _ L rfl HOW.out (.slice (some ⟨wr.heap.size, 0, none⟩) 1 1) rfl [(nm, num)] (C := entL [(nm, num)]) (RowAt.blk HNW.out (Nat.le_refl _) (fun a b ha hb => by (obtain rfl : a = 0 := (by simpa using ha)); rcases (show b = 0 ∨ b = 1 by omega) with rfl | rfl <;> rfl)) (cl_entL _) encN_len (fun x _ => encN_one x) (by have := HLL.out; simp only [List.length_cons, List.length_nil] at this ⊢; omega) (by decide) HQW.out ?_; intro A6 n6 c6 w6 hn6 hown6 hgrow6; have HN6 := Lib.hid hn6; have HO6 := Lib.hid hown6; have HG6 := Lib.hid hgrow6; clear hn6 hown6 hgrow6)
          have HB6 := Lib.hid (show Below q w w6 from HBW.out.trans ⟨HG6.out.os, HG6.out.tape, HG6.out.output, HG6.out.size, fun k' hk' => HG6.out.block k' (by have := HQW.out; omega) (fun e => by have := (HOW.out.lt k' e.symm).1; omega)⟩)
          obtain ⟨g', off', e', hc', hf', hg', hK', hT'⟩ := HPUT.out w6 (by rw [← HQ.out]; exact HB6.out) (L ++ [(nm, num)]) (.slice A6 n6 c6) ((own_rowT (by decide) encN_len HO6.out (cl_entL _)).base_le (by rw [HQ.out]; exact hbw))
          injection e' with e'
          injection e' with e1' e2'
          subst e1' e2'
          have HT' := Lib.hid hT'
          clear hT' hc'
          have x0 : w6.cell? ⟨ig, ioff + i * 4 + 2, none⟩ = some (.slice EA k ecap) := (HB6.out.cell (by rw [HQ.out]; exact World.block_lt_of_cell? w _ HQ2.out)).trans HQ2.out
          go_wp2_with (fail)
          go_end0
          exact ⟨rfl, ((HB6.out.mono (by rw [HQ.out]; exact hbw)).setCell (p := ⟨ig, ioff + i * 4 + 2, none⟩) hg' _), hK', _, by rw [← HLI.out]; exact HT'.out⟩
end Go.Proofs.Ytenlffhoinialaa
end

section
namespace Go.Proofs.Ytenlffhoinialaa
open Go.RowKit
set_option maxHeartbeats 2000000
attribute [local go_sem ↓] Go.wp_at_zero Go.wp_at_succ
theorem dropE_snoc_in {nm : ByteArray} {e : ByteArray × Int} {T : List (ByteArray × Int)} (h : e.1 ≠ nm) : dropE nm (T ++ [e]) = dropE nm T ++ [e] := by
  unfold dropE
  rw [List.filter_append]
  congr 1
  simp [h]
theorem dropE_snoc_out {nm : ByteArray} {e : ByteArray × Int} {T : List (ByteArray × Int)} (h : e.1 = nm) : dropE nm (T ++ [e]) = dropE nm T := by
  unfold dropE
  rw [List.filter_append]
  simp [h]
set_option maxRecDepth 1000000 in
theorem drop_calls {w : World} {base ob : Nat} {iv ov mv : Value} {ev : Nat → Value} {S : St} (hT : StT w base ob iv ov mv ev S) (hbw : base ≤ w.heap.size) (hI : Wk S) {d : Int} {i : Nat} (hd : HasAt S d i) (nm : ByteArray) :
    Calls Try.prog 129 #[.pointer (some ⟨ob, 0, none⟩), .int .i64 d, .string nm] w fun e w' => e = .returned (.tuple #[]) ∧ Below base w w' ∧ Kp w w' ∧ ∃ ev', StT w' base ob iv ov mv ev' (setE S d (dropE nm (S.ino i).ents)) := by
  obtain ⟨j0_, hj, hy0, hy1, hy2⟩ := info_parts info_ent2
  obtain ⟨A, cap, rfl⟩ := hT.row.ino.at'.form
  obtain ⟨OA, ocap, rfl⟩ := hT.row.opn.at'.form
  obtain ⟨MA, mcap, rfl⟩ := hT.row.mad.at'.form
  have hni := hI.ni
  have HI := Lib.hid hI
  have HD := Lib.hid hd
  have HS := Lib.hid hT.stm
  have HCA0 := Lib.hid (fun W hW x => At_calls (S := S) (w := W) (iv := .slice A S.inodes.length cap) (ov := .slice OA S.opens.length ocap) (mv := .slice MA S.made.length mcap) (ev := ev) hW (by omega) x)
  have hil := hd.1
  have hda := hd.2.1
  have hen : S.ne i ≤ 32 := hI.en _ (Inv.ino_mem hil)
  have HENT := Lib.hid (hT.stm.ent i hil)
  have HIN := Lib.hid hT.stm.ino
  have HNS := Lib.hid (show ∀ k, S.enm i k = ((S.ino i).ents.getD k (ByteArray.empty, 0)).1 from fun _ => rfl)
  have HNU := Lib.hid (show ∀ k, S.enu i k = ((S.ino i).ents.getD k (ByteArray.empty, 0)).2 from fun _ => rfl)
  have HNE := Lib.hid (show (S.ino i).ents.length = S.ne i from rfl)
  have HNK := Lib.hid (fun k (hk : k < (S.ino i).ents.length) => hI.nam_at hd.1 hk)
  have HPUT := Lib.hid (fun W' hb L v hv => hT.put_ent (w' := W') hI hd hb (L := L) (v := v) hv)
  have HSAT := Lib.hid hT.sat
  have HOB := Lib.hid hT.ob_le
  obtain ⟨n, hnn⟩ : ∃ n, S.inodes.length = n := ⟨_, rfl⟩
  rw [hnn] at HS HCA0 hni hil HIN HPUT HSAT ⊢
  obtain ⟨no, hno⟩ : ∃ n, S.opens.length = n := ⟨_, rfl⟩
  obtain ⟨nm_, hnm⟩ : ∃ n, S.made.length = n := ⟨_, rfl⟩
  rw [hno, hnm] at HS HCA0 HPUT HSAT ⊢
  clear hT hI hnn hno hnm hd
  obtain ⟨-, hcap, ig, ioff, rfl, hcell⟩ := HIN.out.at_ hil
  have HQ2 := Lib.hid (show w.cell? ⟨ig, ioff + i * 4 + 2, none⟩ = some (ev i) from hcell 2 (by omega))
  obtain ⟨EA, ecap, hev⟩ := HENT.out.form
  rw [hev] at HQ2 HENT
  have HEV := Lib.hid hev
  clear hcell hev HIN
  have HCA := Lib.hid (by have := HCA0.out w.drew (HS.out.keep (below_drew1 w)) d; rwa [hda] at this)
  obtain ⟨ne, hne⟩ : ∃ x, S.ne i = x := ⟨_, rfl⟩
  rw [hne] at HQ2 HENT HNE hen HEV
  clear HCA0 hne hda
  have p0 : w.cell? ⟨ob, 0, none⟩ = some (.slice (some ⟨ig, ioff, none⟩) n cap) := HSAT.out.cell 0
  have p1 : w.cell? ⟨ob, 1, none⟩ = some (.slice OA no ocap) := HSAT.out.cell 1
  have p2 : w.cell? ⟨ob, 2, none⟩ = some (.slice MA nm_ mcap) := HSAT.out.cell 2
  have ei0 : (0 : Int) ≤ (i : Int) := by omega
  have ei1 : (i : Int) < (n : Int) := by omega
  have ei : IntKind.i64.wrap (i : Int) = (i : Int) := IntWalk.i64_in _ (by omega)
  have hobs := HSAT.out.lt
  go_enter Try.func129, Try.ntmps129
  go_upto_region 0 with (fail)
  go_cut [6] (fun s wx => s = .pointer (some ⟨ig, ioff + i * 4, none⟩) ∧ Below w.heap.size w wx)
  case first =>
    refine wp_region_held_drew (S := fun w' => (w'.cell? ⟨ob, 0, none⟩ = some (.slice (some ⟨ig, ioff, none⟩) n cap) ∧ w'.cell? ⟨ob, 1, none⟩ = some (.slice OA no ocap) ∧ w'.cell? ⟨ob, 2, none⟩ = some (.slice MA nm_ mcap))) (by kernel_rfl) (⟨p0, p1, p2⟩) (fun hHeld => ?_)
    refine wpAnyH_take (i := 0) (oi := ⟨some 9, _, _, _, _, _⟩) (v := .pointer (some ⟨ob, 0, none⟩)) rfl (by kernel_rfl) (by kernel_rfl) (by kernel_rfl) (fun _ _ _ h => h) (Or.inl ⟨by kernel_rfl, fun w hSw => by go_simp⟩) (by assumption) ?_
    simp only [Act.put, lTA, lC0, lCS]
    refine wpAnyH_take (i := 1) (oi := ⟨some 10, _, _, _, _, _⟩) (v := .pointer (some ⟨ob, 0, none⟩)) rfl (by kernel_rfl) (by kernel_rfl) (by kernel_rfl) (fun _ _ _ h => h) (Or.inl ⟨by kernel_rfl, fun w hSw => by go_simp⟩) (by assumption) ?_
    simp only [Act.put, lTA, lC0, lCS]
    refine wpAnyH_take (i := 2) (oi := ⟨some 11, _, _, _, _, _⟩) (v := .pointer (some ⟨ob, 0, none⟩)) rfl (by kernel_rfl) (by kernel_rfl) (by kernel_rfl) (fun _ _ _ h => h) (Or.inl ⟨by kernel_rfl, fun w hSw => by go_simp⟩) (by assumption) ?_
    simp only [Act.put, lTA, lC0, lCS]
    refine wpAnyH_take (i := 3) (oi := ⟨some 12, _, _, _, _, _⟩) (v := .slice (some ⟨ig, ioff, none⟩) n cap) rfl (by kernel_rfl) (by kernel_rfl) (by kernel_rfl) (fun _ _ _ h => h) (Or.inl ⟨by kernel_rfl, fun w hSw => by go_simp⟩) (by assumption) ?_
    simp only [Act.put, lTA, lC0, lCS]
    refine wpAnyH_take (i := 4) (oi := ⟨some 13, _, _, _, _, _⟩) (v := .pointer (some ⟨ob, 0, none⟩)) rfl (by kernel_rfl) (by kernel_rfl) (by kernel_rfl) (fun _ _ _ h => h) (Or.inl ⟨by kernel_rfl, fun w hSw => by go_simp⟩) (by assumption) ?_
    simp only [Act.put, lTA, lC0, lCS]
    refine wpAnyH_take (i := 5) (oi := ⟨some 14, _, _, _, _, _⟩) (v := .pointer (some ⟨ob, 0, none⟩)) rfl (by kernel_rfl) (by kernel_rfl) (by kernel_rfl) (fun _ _ _ h => h) (Or.inl ⟨by kernel_rfl, fun w hSw => by go_simp⟩) (by assumption) ?_
    simp only [Act.put, lTA, lC0, lCS]
    refine wpAnyH_take (i := 6) (oi := ⟨some 15, _, _, _, _, _⟩) (v := .agg #[.slice (some ⟨ig, ioff, none⟩) n cap, .slice OA no ocap, .slice MA nm_ mcap]) rfl (by kernel_rfl) (by kernel_rfl) (by kernel_rfl) (fun _ _ _ h => h) (Or.inl ⟨by kernel_rfl, fun w hSw => by go_simp⟩) (by assumption) ?_
    simp only [Act.put, lTA, lC0, lCS]
    refine wpAnyH_take (i := 7) (oi := ⟨some 16, _, _, _, _, _⟩) (v := .int .i64 d) rfl (by kernel_rfl) (by kernel_rfl) (by kernel_rfl) (fun _ _ _ h => h) (Or.inl ⟨by kernel_rfl, fun w hSw => by go_simp⟩) (by assumption) ?_
    simp only [Act.put, lTA, lC0, lCS]
    refine wpAnyH_ready (rs := [8]) (by kernel_rfl) (by simp) ?_
    refine AllReadyH.cons rfl (fun K hK => ?_) AllReadyH.nil
    go_simp
    refine HCA.out.mono ?_
    rintro e w2 ⟨rfl, hB2⟩
    show K _ _
    refine hK.out _ _ (⟨(hB2.cell (World.block_lt_of_cell? _ _ hHeld.1)).trans hHeld.1, (hB2.cell (World.block_lt_of_cell? _ _ hHeld.2.1)).trans hHeld.2.1, (hB2.cell (World.block_lt_of_cell? _ _ hHeld.2.2)).trans hHeld.2.2⟩) (fun hHeld => ?_)
    clear hK K
    refine wpAnyH_take (i := 9) (oi := ⟨some 18, _, _, _, _, _⟩) (v := .pointer (some ⟨ig, ioff + i * 4, none⟩)) rfl (by kernel_rfl) (by kernel_rfl) (by kernel_rfl) (fun _ _ _ h => h) (Or.inl ⟨by kernel_rfl, fun w hSw => by go_simp⟩) (by assumption) ?_
    simp only [Act.put, lTA, lC0, lCS]
    refine wpAnyH_take (i := 10) (oi := ⟨some 6, _, _, _, _, _⟩) (v := .pointer (some ⟨ig, ioff + i * 4, none⟩)) rfl (by kernel_rfl) (by kernel_rfl) (by kernel_rfl) (fun _ _ _ h => h) (Or.inl ⟨by kernel_rfl, fun w hSw => by go_simp⟩) (by assumption) ?_
    simp only [Act.put, lTA, lC0, lCS]
    refine wpAnyH_done (by kernel_rfl) ?_ _
    go_wp2_with (fail)
    go_meet
    case rel => exact ⟨rfl, (below_drew1 w).trans hB2⟩
  case rest =>
    obtain ⟨rfl, hbc⟩ := hcut
    have HBC := Lib.hid hbc
    clear p0 p1 p2 hbc HCA HS HSAT
    obtain ⟨q, hq_⟩ : ∃ q, q = w.heap.size := ⟨_, rfl⟩
    have HQ := Lib.hid hq_
    rw [← hq_] at HBC
    clear hq_
    go_wp2_with (fail)
    go_loopw [7, 8] (fun v i' wr => ∃ (k : Nat) (L : List (ByteArray × Int)), i' = .int .i64 k ∧ k ≤ ne ∧ L = dropE nm ((S.ino i).ents.take k) ∧ (∃ A cap, v = .slice A L.length cap) ∧ wr.ownsRow q 58 2 v L.length (L.flatMap encN) ∧ Below q w wr) (fun _ i' _ => ne - (intOf i').toNat)
    case atStart => exact ⟨0, [], rfl, by omega, rfl, ⟨_, _, rfl⟩, World.ownsRow_nil _ _ _ _, HBC.out⟩
    case round =>
      obtain ⟨k, L, rfl, hk, hpr, ⟨VA, vc, rfl⟩, hown, hb⟩ := hrel
      have HPR := Lib.hid hpr
      have HO := Lib.hid hown
      have HB := Lib.hid hb
      have HLL := Lib.hid (show L.length ≤ 33 by
        rw [hpr]
        have h1 := List.length_filter_le (fun e : ByteArray × Int => !decide (e.1 = nm)) ((S.ino i).ents.take k)
        have h2 := List.length_take_le k (S.ino i).ents
        show (List.filter (fun e : ByteArray × Int => !decide (e.1 = nm)) ((S.ino i).ents.take k)).length ≤ 33
        omega)
      clear hpr hown hb
      by_cases hq : k < ne
      · have hq1 : (k : Int) < (ne : Int) := by omega
        have hkl : k < (S.ino i).ents.length := by rw [HNE.out]; exact hq
        obtain ⟨-, hecap, eg, eoff, rfl, hecell⟩ := HENT.out.at_ hq
        have HE0 := Lib.hid (show w.cell? ⟨eg, eoff + k * 2, none⟩ = some (.string (S.enm i k)) from hecell 0 (by omega))
        have HE1 := Lib.hid (show w.cell? ⟨eg, eoff + k * 2 + 1, none⟩ = some (.int .i64 (S.enu i k)) from hecell 1 (by omega))
        have HTK := Lib.hid (show (S.ino i).ents.take k ++ [(S.enm i k, S.enu i k)] = (S.ino i).ents.take (k + 1) by rw [List.take_succ_eq_append_getElem hkl, HNS.out, HNU.out, getD_lt hkl])
        clear hecell hkl
        obtain ⟨s1, hs1⟩ : ∃ x, S.enm i k = x := ⟨_, rfl⟩
        obtain ⟨u1, hu1⟩ : ∃ x, S.enu i k = x := ⟨_, rfl⟩
        rw [hs1] at HE0 HTK
        rw [hu1] at HE1 HTK
        clear hs1 hu1
        by_cases he : s1 = nm
        · have e2 : (s1.toList == nm.toList) = true := by rw [he]; simp
          have HR := Lib.hid (show L = dropE nm ((S.ino i).ents.take (k + 1)) by rw [← HTK.out, dropE_snoc_out he]; exact HPR.out)
          clear he
          have x0 : wr.cell? ⟨ig, ioff + i * 4 + 2, none⟩ = some (.slice (some ⟨eg, eoff, none⟩) ne ecap) := (HB.out.cell (by rw [HQ.out]; exact World.block_lt_of_cell? w _ HQ2.out)).trans HQ2.out
          have e0 : wr.cell? ⟨eg, eoff + k * 2, none⟩ = some (.string s1) := (HB.out.cell (by rw [HQ.out]; exact World.block_lt_of_cell? w _ HE0.out)).trans HE0.out
          have e1 : wr.cell? ⟨eg, eoff + k * 2 + 1, none⟩ = some (.int .i64 u1) := (HB.out.cell (by rw [HQ.out]; exact World.block_lt_of_cell? w _ HE1.out)).trans HE1.out
          go_wp2_with (fail)
          go_roundw
          case rel => exact ⟨k + 1, L, by go_num, by omega, HR.out, ⟨_, _, rfl⟩, HO.out, HB.out⟩
          case measure =>
            simp only [intOf]
            omega
        · have e2 : (s1.toList == nm.toList) = false := by
            rw [beq_eq_false_iff_ne]
            exact fun h => he (toList_inj h)
          have HR := Lib.hid (show L ++ [(s1, u1)] = dropE nm ((S.ino i).ents.take (k + 1)) by rw [← HTK.out, dropE_snoc_in (show ((s1, u1) : ByteArray × Int).1 ≠ nm from he), HPR.out])
          clear he
          have x0 : wr.cell? ⟨ig, ioff + i * 4 + 2, none⟩ = some (.slice (some ⟨eg, eoff, none⟩) ne ecap) := (HB.out.cell (by rw [HQ.out]; exact World.block_lt_of_cell? w _ HQ2.out)).trans HQ2.out
          have e0 : wr.cell? ⟨eg, eoff + k * 2, none⟩ = some (.string s1) := (HB.out.cell (by rw [HQ.out]; exact World.block_lt_of_cell? w _ HE0.out)).trans HE0.out
          have e1 : wr.cell? ⟨eg, eoff + k * 2 + 1, none⟩ = some (.int .i64 u1) := (HB.out.cell (by rw [HQ.out]; exact World.block_lt_of_cell? w _ HE1.out)).trans HE1.out
          have HNW := Lib.hid (Blk.new wr 58 #[.string s1, .int .i64 u1])
          have HOW := Lib.hid (own_below HO.out (below_alloc wr (Obj.cells #[.string s1, .int .i64 u1] 58)))
          have HBW := Lib.hid (HB.out.trans ((below_alloc wr (Obj.cells #[.string s1, .int .i64 u1] 58)).mono (show q ≤ wr.heap.size by have := HB.out.size; have := HQ.out; omega)))
          have HQW := Lib.hid (show q ≤ (wr.alloc (Obj.cells #[.string s1, .int .i64 u1] 58)).heap.size by have := HBW.out.size; have := HQ.out; omega)
          go_wp2_with (at_builtin; refine wpList_app (enc := encN) _ rfl (.tmp 38) (.tmp 46) 54 58 rfl j0_ _ 24 Try.underlying54 hj hy0 hy1 hy2 rfl (by decide) q _ L rfl HOW.out (.slice (some ⟨wr.heap.size, 0, none⟩) 1 1) rfl [(s1, u1)] (C := entL [(s1, u1)]) (RowAt.blk HNW.out (Nat.le_refl _) (fun a b ha hb => by (obtain rfl : a = 0 := (by simpa using ha)); rcases (show b = 0 ∨ b = 1 by omega) with rfl | rfl <;> rfl)) (cl_entL _) encN_len (fun x _ => encN_one x) (by have := HLL.out; simp only [List.length_cons, List.length_nil] at this ⊢; omega) (by decide) HQW.out ?_; intro A6 n6 c6 w6 hn6 hown6 hgrow6; have HN6 := Lib.hid hn6; have HO6 := Lib.hid hown6; have HG6 := Lib.hid hgrow6; clear hn6 hown6 hgrow6)
          have HB6 := Lib.hid (show Below q w w6 from HBW.out.trans ⟨HG6.out.os, HG6.out.tape, HG6.out.output, HG6.out.size, fun k' hk' => HG6.out.block k' (by have := HQW.out; omega) (fun e => by have := (HOW.out.lt k' e.symm).1; omega)⟩)
          go_roundw
          case rel => exact ⟨k + 1, L ++ [(s1, u1)], by go_num, by omega, HR.out, ⟨A6, c6, by rw [HN6.out]⟩, HO6.out, HB6.out⟩
          case measure =>
            simp only [intOf]
            omega
      · obtain rfl : k = ne := by omega
        have HLI := Lib.hid (show L = dropE nm (S.ino i).ents by rw [HPR.out, ← HNE.out, List.take_length])
        have x0 : wr.cell? ⟨ig, ioff + i * 4 + 2, none⟩ = some (.slice EA k ecap) := (HB.out.cell (by rw [HQ.out]; exact World.block_lt_of_cell? w _ HQ2.out)).trans HQ2.out
        obtain ⟨g', off', e', hc', hf', hg', hK', hT'⟩ := HPUT.out wr (by rw [← HQ.out]; exact HB.out) L (.slice VA L.length vc) ((own_rowT (by decide) encN_len HO.out (cl_entL L)).base_le (by rw [HQ.out]; exact hbw))
        injection e' with e'
        injection e' with e1' e2'
        subst e1' e2'
        have HT' := Lib.hid hT'
        clear hT' hc'
        go_wp2_with (fail)
        go_end0
        exact ⟨rfl, ((HB.out.mono (by rw [HQ.out]; exact hbw)).setCell (p := ⟨ig, ioff + i * 4 + 2, none⟩) hg' _), hK', _, by rw [← HLI.out]; exact HT'.out⟩
end Go.Proofs.Ytenlffhoinialaa
end

section
namespace Go.Proofs.Ytenlffhoinialaa
open Go.RowKit
set_option maxHeartbeats 2000000
attribute [local go_sem ↓] Go.wp_at_zero Go.wp_at_succ
/-- A state's rows, put together anew. -/
theorem StV.of_list {w : World} {base : Nat} {v ov mv : Value} {L : List (Ino × Value)} {S : St} (hL : L.map (·.1) = S.inodes) (hv : w.ownsRow base 56 4 v L.length (L.flatMap encI)) (he : ∀ p ∈ L, RowT w base 58 2 p.2 p.1.ents.length (entL p.1.ents))
    (ho : RowT w base 60 3 ov S.opens.length (opnC S)) (hm : RowT w base 3 1 mv S.made.length (madC S)) : StV w base v ov mv (fun i => (L.getD i (noIno, .int .i64 0)).2) S := by
  have hl : L.length = S.inodes.length := by rw [← hL, List.length_map]
  refine ⟨?_, fun i hi => ?_, ho, hm⟩
  · have := own_rowT (by decide) encI_len hv (cl_ino S L hL)
    rwa [hl] at this
  · have h1 : L.getD i (noIno, .int .i64 0) = L[i] := getD_lt (by omega)
    have h2 : S.ino i = L[i].1 := by
      show S.inodes.getD i noIno = _
      rw [getD_lt hi]
      simp only [← hL, List.getElem_map]
    have h3 := he L[i] (List.getElem_mem _)
    show RowT w base 58 2 (L.getD i (noIno, .int .i64 0)).2 (S.ino i).ents.length (entC S i)
    rw [h1, h2]
    have : entC S i = entL L[i].1.ents := by
      funext k j
      unfold entC entL St.enm St.enu
      rw [h2]
      cases j <;> rfl
    rw [this]
    exact h3
def zipV (S : St) (ev : Nat → Value) (k : Nat) : List (Ino × Value) := (List.range k).map fun j => (S.ino j, ev j)
theorem zipV_succ (S : St) (ev : Nat → Value) (k : Nat) : zipV S ev (k + 1) = zipV S ev k ++ [(S.ino k, ev k)] := by
  unfold zipV
  rw [List.range_succ, List.map_append]; rfl
theorem zipV_fst (S : St) (ev : Nat → Value) : (zipV S ev S.inodes.length).map (·.1) = S.inodes := by
  unfold zipV
  rw [List.map_map]
  have := range_map (fun x : Ino => x) noIno S.inodes
  rw [List.map_id'] at this
  exact this
theorem zipV_len (S : St) (ev : Nat → Value) (k : Nat) : (zipV S ev k).length = k := by unfold zipV; simp
def outN (n : Int) (L : List (Ino × Value)) : List (Ino × Value) := L.filter fun p => !(p.1.num == n)
theorem outN_fst (n : Int) (L : List (Ino × Value)) : (outN n L).map (·.1) = (L.map (·.1)).filter fun x => !(x.num == n) := by
  unfold outN
  rw [List.filter_map]; rfl
theorem sweepS_out {S : St} {n : Int} (h1 : (links S).count n = 0) (h2 : openB S n = false) : sweepS S n = { S with inodes := S.inodes.filter fun x => !(x.num == n) } := by
  unfold sweepS
  rw [if_neg]
  rintro (h | ⟨o, ho, h⟩)
  · have := List.count_pos_iff.2 h; omega
  · obtain ⟨k, hk, rfl⟩ := List.getElem_of_mem ho
    unfold openB at h2
    rw [List.any_eq_false] at h2
    have := h2 k (by simpa using hk)
    unfold St.on at this
    rw [getD_lt hk] at this
    exact this (by simpa using h)
theorem sweepS_in {S : St} {n : Int} (h : 0 < (links S).count n ∨ openB S n = true) : sweepS S n = S := by
  unfold sweepS
  rw [if_pos]
  rcases h with h | h
  · exact .inl (List.count_pos_iff.1 h)
  · unfold openB at h
    rw [List.any_eq_true] at h
    obtain ⟨k, hk, h⟩ := h
    have hk : k < S.opens.length := by simpa using hk
    refine .inr ⟨S.opens[k], List.getElem_mem _, ?_⟩
    unfold St.on at h
    rw [getD_lt hk] at h
    simpa using h
set_option maxRecDepth 1000000 in
theorem sweep_calls {w : World} {base ob : Nat} {iv ov mv : Value} {ev : Nat → Value} {S : St} (hT : StT w base ob iv ov mv ev S) (hbw : base ≤ w.heap.size) (hni : S.inodes.length ≤ 1000) (hen : ∀ i, S.ne i ≤ 1000) (hno : S.opens.length ≤ 1000) (num : Int) :
    Calls Try.prog 125 #[.pointer (some ⟨ob, 0, none⟩), .int .i64 num] w fun e w' => e = .returned (.tuple #[]) ∧ Below base w w' ∧ Kp w w' ∧ ∃ iv' ev', StT w' base ob iv' ov mv ev' (sweepS S num) := by
  obtain ⟨i0_, hi, hz0, hz1, hz2⟩ := info_parts info_ino4
  obtain ⟨A, cap, rfl⟩ := hT.row.ino.at'.form
  obtain ⟨OA, ocap, rfl⟩ := hT.row.opn.at'.form
  obtain ⟨MA, mcap, rfl⟩ := hT.row.mad.at'.form
  have HT := Lib.hid hT
  have HLC := Lib.hid (Links_calls hT.stm hni hen num)
  have HIC := Lib.hid (fun W hW => IsOpen_calls (S := S) (w := W) (iv := .slice A S.inodes.length cap) (ov := .slice OA S.opens.length ocap) (mv := .slice MA S.made.length mcap) (ev := ev) hW hno num)
  have HSI := Lib.hid (fun h => sweepS_in (S := S) (n := num) h)
  have HSO := Lib.hid (fun h1 h2 => sweepS_out (S := S) (n := num) h1 h2)
  have HZF := Lib.hid (zipV_fst S ev)
  obtain ⟨n, hnn⟩ : ∃ n, S.inodes.length = n := ⟨_, rfl⟩
  obtain ⟨no, hnno⟩ : ∃ n, S.opens.length = n := ⟨_, rfl⟩
  obtain ⟨nm_, hnm⟩ : ∃ n, S.made.length = n := ⟨_, rfl⟩
  have HNN := Lib.hid hnn
  have HNO := Lib.hid hnno
  have HNM := Lib.hid hnm
  rw [hnno, hnm] at HT HLC HIC ⊢
  rw [hnn] at HT HLC HIC hni HZF
  clear hT hnn hnno hnm hen hno
  have p0 : w.cell? ⟨ob, 0, none⟩ = some (.slice A n cap) := HT.out.c0
  have p1 : w.cell? ⟨ob, 1, none⟩ = some (.slice OA no ocap) := HT.out.c1
  have p2 : w.cell? ⟨ob, 2, none⟩ = some (.slice MA nm_ mcap) := HT.out.c2
  obtain ⟨lc, hlc⟩ : ∃ c, (links S).count num = c := ⟨_, rfl⟩
  rw [hlc] at HLC HSI HSO
  clear hlc
  go_enter Try.func125, Try.ntmps125
  by_cases hl : 0 < lc
  · have hl1 : (0 : Int) < (lc : Int) := by omega
    go_wp2_with (go_at_call 48; refine HLC.out.mono ?_; rintro e w2 ⟨rfl, hB2⟩)
    refine bodyPost_ret (results_none rfl _ _ _) rfl ?_
    exact ⟨rfl, hB2.mono hbw, Kp.of_below hB2, _, _, by rw [HSI.out (.inl hl)]; exact HT.out.below hB2⟩
  · have hl1 : ¬ (0 : Int) < (lc : Int) := by omega
    obtain ⟨ob_, hob_⟩ : ∃ b, openB S num = b := ⟨_, rfl⟩
    rw [hob_] at HIC HSI HSO
    clear hob_
    go_upto_region 1 with (first
      | (go_at_call 48; refine HLC.out.mono ?_; rintro e w2 ⟨rfl, hB2⟩; have HB2 := Lib.hid hB2; have HT2 := Lib.hid (HT.out.below hB2); clear hB2; have s0 : w2.cell? ⟨ob, 0, none⟩ = some (.slice A n cap) := HT2.out.c0; have s1 : w2.cell? ⟨ob, 1, none⟩ = some (.slice OA no ocap) := HT2.out.c1; have s2 : w2.cell? ⟨ob, 2, none⟩ = some (.slice MA nm_ mcap) := HT2.out.c2)
      | (go_at_call 49; refine (HIC.out w2 HT2.out.stm).mono ?_; rintro e w3 ⟨rfl, hB3⟩; rcases bool_tf ob_ with rfl | rfl))
    · refine bodyPost_ret (results_none rfl _ _ _) rfl ?_
      exact ⟨rfl, (HB2.out.trans (hB3.mono HB2.out.size)).mono hbw, Kp.of_below (HB2.out.trans (hB3.mono HB2.out.size)), _, _, by rw [HSI.out (by first | exact .inr rfl | simp)]; exact HT2.out.below hB3⟩
    · have HSX := Lib.hid (HSO.out (by omega) (by first | rfl | trivial))
      have HT3 := Lib.hid (HT2.out.below hB3)
      have HB3 := Lib.hid (HB2.out.trans (hB3.mono HB2.out.size))
      clear p0 p1 p2 s0 s1 s2 hB3 HSI HSO HLC HIC HT2 HB2 HT
      obtain ⟨q, hq_⟩ : ∃ q, q = w3.heap.size := ⟨_, rfl⟩
      have HQ := Lib.hid hq_
      clear hq_
      go_wp2_with (fail)
      go_loopw [4, 5] (fun v i' wr => ∃ (k : Nat) (L : List (Ino × Value)), i' = .int .i64 k ∧ k ≤ n ∧ L = outN num (zipV S ev k) ∧ (∃ A cap, v = .slice A L.length cap) ∧ wr.ownsRow q 56 4 v L.length (L.flatMap encI) ∧ Below q w3 wr) (fun _ i' _ => n - (intOf i').toNat)
      case atStart => exact ⟨0, [], rfl, by omega, rfl, ⟨_, _, rfl⟩, World.ownsRow_nil _ _ _ _, Below.refl _ _⟩
      case round =>
        obtain ⟨k, L, rfl, hk, hpr, ⟨VA, vc, rfl⟩, hown, hb⟩ := hrel
        have HPR := Lib.hid hpr
        have HO := Lib.hid hown
        have HB := Lib.hid hb
        have HTr := Lib.hid (HT3.out.below (by rw [← HQ.out]; exact hb))
        have HLL := Lib.hid (show L.length ≤ 1000 by
          rw [hpr]
          have h1 := List.length_filter_le (fun p : Ino × Value => !(p.1.num == num)) (zipV S ev k)
          rw [zipV_len] at h1
          exact Nat.le_trans h1 (by omega))
        have s0 : wr.cell? ⟨ob, 0, none⟩ = some (.slice A n cap) := HTr.out.c0
        clear hpr hown hb
        by_cases hq : k < n
        · have hq1 : (k : Int) < (n : Int) := by omega
          obtain ⟨-, hcap, ig, ioff, rfl, hcell⟩ := (show RowAt wr (.slice A n cap) n 4 (inoC S ev) by have := HTr.out.stm.ino; rwa [HNN.out] at this).at_ hq
          have q0 : wr.cell? ⟨ig, ioff + k * 4, none⟩ = some (.int .i64 (S.num k)) := hcell 0 (by omega)
          have q1 : wr.cell? ⟨ig, ioff + k * 4 + 1, none⟩ = some (.bool (S.dir k)) := hcell 1 (by omega)
          have q2 : wr.cell? ⟨ig, ioff + k * 4 + 2, none⟩ = some (ev k) := hcell 2 (by omega)
          have q3 : wr.cell? ⟨ig, ioff + k * 4 + 3, none⟩ = some (.string (S.dat k)) := hcell 3 (by omega)
          have HZS := Lib.hid (zipV_succ S ev k)
          obtain ⟨EA, ecap, hev⟩ := (HTr.out.stm.ent k (by rw [HNN.out]; exact hq)).form
          rw [hev] at q2 HZS
          have HDN := Lib.hid (show (S.ino k).num = S.num k from rfl)
          have HEI := Lib.hid (show ∀ v, encI (S.ino k, v) = [.int .i64 (S.num k), .bool (S.dir k), v, .string (S.dat k)] from fun _ => rfl)
          clear hcell hev
          generalize S.num k = xn at *
          generalize S.dir k = dr at *
          generalize S.dat k = dat at *
          generalize S.ne k = ne at *
          by_cases he : xn = num
          · have e2 : (xn != num) = false := by rw [he]; simp
            have HR := Lib.hid (show L = outN num (zipV S ev (k + 1)) by
              rw [HZS.out, HPR.out]
              unfold outN
              rw [List.filter_append]
              simp [HDN.out, he])
            clear he
            go_wp2_with (fail)
            go_roundw
            case rel => exact ⟨k + 1, L, by go_num, by omega, HR.out, ⟨_, _, rfl⟩, HO.out, HB.out⟩
            case measure =>
              simp only [intOf]
              omega
          · have e2 : (xn != num) = true := by simpa using he
            have HR := Lib.hid (show L ++ [(S.ino k, .slice EA ne ecap)] = outN num (zipV S ev (k + 1)) by
              rw [HZS.out, HPR.out]
              unfold outN
              rw [List.filter_append]
              simp [HDN.out, he])
            clear he
            have HNW := Lib.hid (Blk.new wr 56 #[.int .i64 xn, .bool dr, .slice EA ne ecap, .string dat])
            have HOW := Lib.hid (own_below HO.out (below_alloc wr (Obj.cells #[.int .i64 xn, .bool dr, .slice EA ne ecap, .string dat] 56)))
            have HBA := Lib.hid (below_alloc wr (Obj.cells #[.int .i64 xn, .bool dr, .slice EA ne ecap, .string dat] 56))
            have hqs : q ≤ wr.heap.size := by have := HB.out.size; have := HQ.out; omega
            have hqw : q ≤ (wr.alloc (Obj.cells #[.int .i64 xn, .bool dr, .slice EA ne ecap, .string dat] 56)).heap.size := Nat.le_trans hqs HBA.out.size
            go_wp2_with (at_builtin; refine wpList_app (enc := encI) _ rfl (.tmp 38) (.tmp 46) 22 56 rfl i0_ _ 56 Try.underlying22 hi hz0 hz1 hz2 rfl (by decide) q _ L rfl HOW.out (.slice (some ⟨wr.heap.size, 0, none⟩) 1 1) rfl [(S.ino k, .slice EA ne ecap)] (C := fun _ j => [Value.int .i64 xn, .bool dr, .slice EA ne ecap, .string dat].getD j (.int .i64 0)) (RowAt.blk HNW.out (Nat.le_refl _) (fun a b ha hb => by (obtain rfl : a = 0 := (by simpa using ha)); rcases (show b = 0 ∨ b = 1 ∨ b = 2 ∨ b = 3 by omega) with rfl | rfl | rfl | rfl <;> rfl)) (fun a b ha hb => by (obtain rfl : a = 0 := (by simpa using ha)); (show (encI (S.ino k, .slice EA ne ecap))[b]? = _); (rw [HEI.out]); rcases (show b = 0 ∨ b = 1 ∨ b = 2 ∨ b = 3 by omega) with rfl | rfl | rfl | rfl <;> rfl) encI_len (fun x hx u hu => by (obtain rfl : x = (S.ino k, .slice EA ne ecap) := (by simpa using hx)); (rw [HEI.out] at hu); (simp at hu); rcases hu with rfl | rfl | rfl | rfl <;> rfl) (by have := HLL.out; simp only [List.length_cons, List.length_nil] at this ⊢; omega) (by decide) hqw ?_; intro A6 n6 c6 w6 hn6 hown6 hgrow6; have HN6 := Lib.hid hn6; have HO6 := Lib.hid hown6; have HG6 := Lib.hid hgrow6; clear hn6 hown6 hgrow6)
            go_roundw
            case rel => exact ⟨k + 1, L ++ [(S.ino k, .slice EA ne ecap)], by go_num, by omega, HR.out, ⟨A6, c6, by rw [HN6.out]⟩, HO6.out, (HB.out.trans (HBA.out.mono hqs)).trans ⟨HG6.out.os, HG6.out.tape, HG6.out.output, HG6.out.size, fun k' hk' => HG6.out.block k' (by omega) (fun e => by have := (HOW.out.lt k' e.symm).1; omega)⟩⟩
            case measure =>
              simp only [intOf]
              omega
        · obtain rfl : k = n := by omega
          have hfst : L.map (·.1) = (sweepS S num).inodes := by
            rw [HSX.out, HPR.out, outN_fst, HZF.out]
          have hop : (sweepS S num).opens = S.opens := by rw [HSX.out]
          have hmd : (sweepS S num).made = S.made := by rw [HSX.out]
          have hoc : opnC (sweepS S num) = opnC S := by unfold opnC St.oc St.of St.on; rw [hop]
          have hmc : madC (sweepS S num) = madC S := by unfold madC St.mad; rw [hmd]
          have hbq : base ≤ q := by have := HB3.out.size; have := HQ.out; omega
          have hents : ∀ x ∈ L, RowT wr base 58 2 x.2 x.1.ents.length (entL x.1.ents) := by
            intro x hx
            rw [HPR.out] at hx
            obtain ⟨j, hj, rfl⟩ := List.mem_map.1 (List.mem_filter.1 hx).1
            exact HTr.out.row.ent j (by rw [HNN.out]; simpa using hj)
          have hown : wr.ownsRow base 56 4 (.slice VA L.length vc) L.length (L.flatMap encI) := by
            refine ⟨HO.out.1, ?_⟩
            rcases HO.out.2 with h | ⟨g, cap, cur, h1, h2, h3⟩
            · exact .inl h
            · exact .inr ⟨g, cap, cur, h1, Nat.le_trans hbq h2, h3⟩
          have HNEW := Lib.hid (StV.of_list hfst hown hents (by rw [hop, hoc]; exact HTr.out.row.opn) (by rw [hmd, hmc]; exact HTr.out.row.mad))
          have HSAT := Lib.hid HTr.out.sat
          have HOB := Lib.hid HTr.out.ob_le
          have f0 := HTr.out.sat.frozen 0
          clear hfst hop hmd hoc hmc hents hown
          go_wp2_with (fail)
          go_end0
          refine ⟨rfl, ((HB3.out.mono hbw).trans (HB.out.mono hbq)).setCell (p := ⟨ob, 0, none⟩) HOB.out _, ((Kp.of_below HB3.out).trans (Kp.of_below (by rw [← HQ.out]; exact HB.out))).set HSAT.out (.inr (.inl rfl)) 0 _, .slice VA L.length vc, _, ⟨?_, HOB.out, HNEW.out.far HSAT.out (by decide) (by decide) (by decide) (by decide) 0 _⟩⟩
          exact HSAT.out.set_ 0 (.slice VA L.length vc)
end Go.Proofs.Ytenlffhoinialaa
end

section
namespace Go.Proofs.Ytenlffhoinialaa
open Go.RowKit
set_option maxHeartbeats 2000000
attribute [local go_sem ↓] Go.wp_at_zero Go.wp_at_succ
def failV (c : Int) : Value := .agg #[.int .i64 c, .int .i64 0, .int .i64 0, .bool false, .string ⟨#[]⟩, .slice none 0 0]
set_option maxRecDepth 1000000 in
theorem fail_calls (c : Int) (w : World) : Calls Try.prog 94 #[.int .i64 c] w fun e w' => e = .returned (failV c) ∧ Below w.heap.size w w' := by
  go_enter Try.func94, Try.ntmps94
  go_wp2_with (fail)
  refine bodyPost_ret (v := failV c) ?_ rfl ⟨rfl, below_alloc w _⟩
  simp [results, Try.results94, go_sem, failV]
/-- What a row that is put together in its order has so far. -/
def PutG {A : Type} (lt : A → A → Bool) (p : A) (T L : List A) (dn : Bool) : Prop := (dn = false ∧ L = T ∧ ∀ e ∈ T, lt p e = false) ∨ (dn = true ∧ L = insBy lt p T ∧ ∃ e ∈ T, lt p e = true)
namespace PutG
variable {A : Type} {lt : A → A → Bool} {p e : A} {T L : List A}
theorem at_ (h : PutG lt p T L false) (he : lt p e = true) : PutG lt p (T ++ [e]) (L ++ [p] ++ [e]) true := by
  rcases h with ⟨-, rfl, h⟩ | ⟨h, -⟩
  · exact .inr ⟨rfl, (insBy_snoc_at he h).symm, e, by simp, he⟩
  · cases h
theorem past (h : PutG lt p T L false) (he : lt p e = false) : PutG lt p (T ++ [e]) (L ++ [e]) false := by
  rcases h with ⟨-, rfl, h⟩ | ⟨h, -⟩
  · refine .inl ⟨rfl, rfl, fun x hx => ?_⟩
    rcases List.mem_append.1 hx with hx | hx
    · exact h x hx
    · simp at hx; subst hx; exact he
  · cases h
theorem behind (h : PutG lt p T L true) : PutG lt p (T ++ [e]) (L ++ [e]) true := by
  rcases h with ⟨h, -⟩ | ⟨-, rfl, x, hx, h⟩
  · cases h
  · exact .inr ⟨rfl, (insBy_snoc_in ⟨x, hx, h⟩).symm, x, by simp [hx], h⟩
theorem last (h : PutG lt p T L false) : L ++ [p] = insBy lt p T := by
  rcases h with ⟨-, rfl, h⟩ | ⟨h, -⟩
  · exact (insBy_none h).symm
  · cases h
theorem done (h : PutG lt p T L true) : L = insBy lt p T := by
  rcases h with ⟨h, -⟩ | ⟨-, h, -⟩
  · cases h
  · exact h
theorem len {dn : Bool} (h : PutG lt p T L dn) : L.length ≤ T.length + 1 := by
  rcases h with ⟨-, rfl, -⟩ | ⟨-, rfl, -⟩
  · omega
  · rw [(perm_insBy _).length_eq, List.length_cons]; exact Nat.le_refl _
end PutG
theorem own_base {w : World} {b b' : Nat} {e : TypeId} {k n : Nat} {v : Value} {xs : List Value} (h : w.ownsRow b e k v n xs) (hb : b' ≤ b) : w.ownsRow b' e k v n xs := by
  refine ⟨h.1, ?_⟩
  rcases h.2 with q | ⟨g, cap, cur, h1, h2, h3⟩
  · exact .inl q
  · exact .inr ⟨g, cap, cur, h1, Nat.le_trans hb h2, h3⟩
def opnL (L : List (Int × Int × Int)) : Nat → Nat → Value := fun k j => match j with
  | 0 => .int .i64 (L.getD k (0, 0, 0)).1
  | 1 => .int .i64 (L.getD k (0, 0, 0)).2.1
  | _ => .int .i64 (L.getD k (0, 0, 0)).2.2
theorem cl_opnL (L : List (Int × Int × Int)) : CL encD L (opnL L) 3 := by
  intro k j hk hj
  have e : L.getD k (0, 0, 0) = L[k] := getD_lt hk
  have : j = 0 ∨ j = 1 ∨ j = 2 := by omega
  rcases this with rfl | rfl | rfl
  · show some (Value.int .i64 _) = some (Value.int .i64 (L.getD k (0, 0, 0)).1); rw [e]
  · show some (Value.int .i64 _) = some (Value.int .i64 (L.getD k (0, 0, 0)).2.1); rw [e]
  · show some (Value.int .i64 _) = some (Value.int .i64 (L.getD k (0, 0, 0)).2.2); rw [e]
theorem opnC_eq (S : St) : opnC S = opnL S.opens := by
  funext k j
  unfold opnC opnL St.oc St.of St.on
  rcases j with _ | _ | j <;> rfl
/-- The descriptors are others. -/
theorem StT.put_opn {w w' : World} {base ob : Nat} {iv ov mv : Value} {ev : Nat → Value} {S : St} (h : StT w base ob iv ov mv ev S) (hb : Below w.heap.size w w') {L : List (Int × Int × Int)} {v : Value} (hv : w'.ownsRow base 60 3 v L.length (L.flatMap encD)) :
    w'.frozen? ⟨ob, 1, none⟩ = false ∧ w'.cell? ⟨ob, 1, none⟩ = some ov ∧ Kp w (w'.setCell ⟨ob, 1, none⟩ v) ∧ StT (w'.setCell ⟨ob, 1, none⟩ v) base ob iv v mv ev { S with opens := L } := by
  have h2 := h.below hb
  refine ⟨h2.sat.frozen 1, h2.c1, (Kp.of_below hb).set h2.sat (.inr (.inl rfl)) 1 v, h2.sat.set_ 1 v, h2.ob_le, ?_⟩
  have h3 := own_rowT (by decide) encD_len hv (cl_opnL L)
  refine ⟨(h2.row.ino.far h2.sat (by decide) 1 v), fun i hi => (h2.row.ent i hi).far h2.sat (by decide) 1 v, ?_, h2.row.mad.far h2.sat (by decide) 1 v⟩
  rw [opnC_eq]
  exact h3.far h2.sat (by decide) 1 v
set_option maxRecDepth 1000000 in
theorem grab_calls {w : World} {base ob : Nat} {iv ov mv : Value} {ev : Nat → Value} {S : St} (hT : StT w base ob iv ov mv ev S) (hbw : base ≤ w.heap.size) (hno : S.opens.length ≤ 1000) (co fd num : Int) :
    Calls Try.prog 124 #[.pointer (some ⟨ob, 0, none⟩), .int .i64 co, .int .i64 fd, .int .i64 num] w fun e w' => e = .returned (.tuple #[]) ∧ Below base w w' ∧ Kp w w' ∧ ∃ ov', StT w' base ob iv ov' mv ev (grabS S (co, fd, num)) := by
  obtain ⟨d0_, hd, hx0, hx1, hx2⟩ := info_parts info_dsc3
  obtain ⟨OA, ocap, rfl⟩ := hT.row.opn.at'.form
  have HT1 := Lib.hid (hT.below (below_alloc w (Obj.cells #[.int .i64 co, .int .i64 fd, .int .i64 num] 60)))
  have HD1 := Lib.hid (Blk.new w 60 #[.int .i64 co, .int .i64 fd, .int .i64 num])
  have HB1 := Lib.hid (below_alloc w (Obj.cells #[.int .i64 co, .int .i64 fd, .int .i64 num] 60))
  have HOC := Lib.hid (show ∀ k, (S.oc k, S.of k, S.on k) = S.opens.getD k (0, 0, 0) from fun _ => rfl)
  have HPO := Lib.hid (fun W' hb L v hv => hT.put_opn (w' := W') hb (L := L) (v := v) hv)
  obtain ⟨n, hnn⟩ : ∃ n, S.opens.length = n := ⟨_, rfl⟩
  have HNN := Lib.hid hnn
  rw [hnn] at HT1 hno HPO
  clear hT hnn
  go_enter Try.func124, Try.ntmps124
  go_upto_region 1 with (fail)
  obtain ⟨D, hD⟩ : ∃ D, D = w.heap.size := ⟨_, rfl⟩
  have HD := Lib.hid hD
  rw [← hD] at HD1 HB1 ⊢
  clear hD
  generalize w.alloc (Obj.cells #[.int .i64 co, .int .i64 fd, .int .i64 num] 60) = w1 at *
  obtain ⟨q, hq_⟩ : ∃ q, q = w1.heap.size := ⟨_, rfl⟩
  have HQ := Lib.hid hq_
  clear hq_
  have HDQ := Lib.hid (show D ≤ q by have := HB1.out.size; have := HQ.out; have := HD.out; omega)
  go_wp2_with (fail)
  go_loopw [9, 10, 11] (fun v dv i' wr => ∃ (k : Nat) (L : List (Int × Int × Int)) (dn : Bool), i' = .int .i64 k ∧ dv = .bool dn ∧ k ≤ n ∧ PutG ltO (co, fd, num) (S.opens.take k) L dn ∧ (∃ A cap, v = .slice A L.length cap) ∧ wr.ownsRow q 60 3 v L.length (L.flatMap encD) ∧ Below q w1 wr) (fun _ _ i' _ => n - (intOf i').toNat)
  case atStart => exact ⟨0, [], false, rfl, rfl, by omega, .inl ⟨rfl, rfl, fun e he => by simp at he⟩, ⟨_, _, rfl⟩, World.ownsRow_nil _ _ _ _, Below.refl _ _⟩
  case round =>
    obtain ⟨k, L, dn, rfl, rfl, hk, hpr, ⟨VA, vc, rfl⟩, hown, hb⟩ := hrel
    have HPR := Lib.hid hpr
    have HO := Lib.hid hown
    have HB := Lib.hid hb
    have HTr := Lib.hid (HT1.out.below (by rw [← HQ.out]; exact hb))
    have HDr := Lib.hid (HD1.out.below (by rw [← HQ.out]; exact hb))
    have HLL := Lib.hid (show L.length ≤ 1001 by have := hpr.len; have h2 := List.length_take_le k S.opens; omega)
    have s1 : wr.cell? ⟨ob, 1, none⟩ = some (.slice OA n ocap) := HTr.out.c1
    clear hpr hown hb
    by_cases hq : k < n
    · have hq1 : (k : Int) < (n : Int) := by omega
      have hkl : k < S.opens.length := by rw [HNN.out]; exact hq
      obtain ⟨-, hcap, og, ooff, rfl, hcell⟩ := (show RowAt wr (.slice OA n ocap) n 3 (opnC S) by have := HTr.out.stm.opn; rwa [HNN.out] at this).at_ hq
      have q0 : wr.cell? ⟨og, ooff + k * 3, none⟩ = some (.int .i64 (S.oc k)) := hcell 0 (by omega)
      have q1 : wr.cell? ⟨og, ooff + k * 3 + 1, none⟩ = some (.int .i64 (S.of k)) := hcell 1 (by omega)
      have q2 : wr.cell? ⟨og, ooff + k * 3 + 2, none⟩ = some (.int .i64 (S.on k)) := hcell 2 (by omega)
      have HTK := Lib.hid (show S.opens.take k ++ [(S.oc k, S.of k, S.on k)] = S.opens.take (k + 1) by rw [List.take_succ_eq_append_getElem hkl, HOC.out, getD_lt hkl])
      clear hcell hkl
      generalize S.oc k = oc at *
      generalize S.of k = of_ at *
      generalize S.on k = on at *
      have HX := Lib.hid (Blk.new wr 60 #[.int .i64 oc, .int .i64 of_, .int .i64 on])
      have HDx := Lib.hid (HDr.out.alloc (Obj.cells #[.int .i64 oc, .int .i64 of_, .int .i64 on] 60))
      have HOx := Lib.hid (own_below HO.out (below_alloc wr (Obj.cells #[.int .i64 oc, .int .i64 of_, .int .i64 on] 60)))
      have HBx := Lib.hid (HB.out.trans ((below_alloc wr (Obj.cells #[.int .i64 oc, .int .i64 of_, .int .i64 on] 60)).mono (show q ≤ wr.heap.size by have := HB.out.size; have := HQ.out; omega)))
      go_upto_region 7 with (fail)
      obtain ⟨xb, hxb⟩ : ∃ x, x = wr.heap.size := ⟨_, rfl⟩
      have HXN := Lib.hid (show (Value.slice VA L.length vc).ownBlock ≠ some xb from fun e => by have := (HO.out.lt _ e).2; omega)
      rw [← hxb] at HX ⊢
      clear hxb q0 q1 q2 s1 HDr HO HB HTr
      generalize wr.alloc (Obj.cells #[.int .i64 oc, .int .i64 of_, .int .i64 on] 60) = wx at *
      have x0 : wx.cell? ⟨xb, 0, none⟩ = some (.int .i64 oc) := HX.out.cell 0
      have x1 : wx.cell? ⟨xb, 1, none⟩ = some (.int .i64 of_) := HX.out.cell 1
      have x2 : wx.cell? ⟨xb, 2, none⟩ = some (.int .i64 on) := HX.out.cell 2
      rcases bool_tf dn with rfl | rfl
      · have HENC := Lib.hid (show encD (oc, of_, on) = [.int .i64 oc, .int .i64 of_, .int .i64 on] from rfl)
        have HNW := Lib.hid (Blk.new wx 60 #[.int .i64 oc, .int .i64 of_, .int .i64 on])
        have HOW := Lib.hid (own_below HOx.out (below_alloc wx (Obj.cells #[.int .i64 oc, .int .i64 of_, .int .i64 on] 60)))
        have HBW := Lib.hid (HBx.out.trans ((below_alloc wx (Obj.cells #[.int .i64 oc, .int .i64 of_, .int .i64 on] 60)).mono (show q ≤ wx.heap.size by have := HBx.out.size; have := HQ.out; omega)))
        have HQW := Lib.hid (show q ≤ (wx.alloc (Obj.cells #[.int .i64 oc, .int .i64 of_, .int .i64 on] 60)).heap.size by have := HBW.out.size; have := HQ.out; omega)
        go_wp2_with (at_builtin; refine wpList_app (enc := encD) _ rfl (.tmp 57) (.tmp 59) 23 60 rfl d0_ _ 24 Try.underlying23 hd hx0 hx1 hx2 rfl (by decide) q _ L rfl HOW.out (.slice (some ⟨wx.heap.size, 0, none⟩) 1 1) rfl [(oc, of_, on)] (C := fun _ b => [.int .i64 oc, .int .i64 of_, .int .i64 on].getD b (.int .i64 0)) (RowAt.blk HNW.out (Nat.le_refl _) (fun a b ha hb => by (obtain rfl : a = 0 := (by simpa using ha)); rcases (show b = 0 ∨ b = 1 ∨ b = 2 by omega) with rfl | rfl | rfl <;> rfl)) (fun a b ha hb => by (obtain rfl : a = 0 := (by simpa using ha)); (show (encD (oc, of_, on))[b]? = _); (rw [HENC.out]); rcases (show b = 0 ∨ b = 1 ∨ b = 2 by omega) with rfl | rfl | rfl <;> rfl) encD_len (fun x hx u hu => by (obtain rfl : x = (oc, of_, on) := (by simpa using hx)); (rw [HENC.out] at hu); (simp at hu); rcases hu with rfl | rfl | rfl <;> rfl) (by have := HLL.out; simp only [List.length_cons, List.length_nil] at this ⊢; omega) (by decide) HQW.out ?_; intro A6 n6 c6 w6 hn6 hown6 hgrow6; have HN6 := Lib.hid hn6; have HO6 := Lib.hid hown6; have HG6 := Lib.hid hgrow6; clear hn6 hown6 hgrow6)
        have HB6 := Lib.hid (show Below q w1 w6 from HBW.out.trans ⟨HG6.out.os, HG6.out.tape, HG6.out.output, HG6.out.size, fun k' hk' => HG6.out.block k' (by have := HQW.out; omega) (fun e => by have := (HOW.out.lt k' e.symm).1; omega)⟩)
        go_roundw
        case rel => exact ⟨k + 1, _, true, by go_num, rfl, by omega, HTK.out ▸ HPR.out.behind, ⟨A6, c6, by rw [HN6.out]⟩, HO6.out, HB6.out⟩
        case measure =>
          simp only [intOf]
          omega
      · obtain ⟨lb, hlb⟩ : ∃ b, ltO (co, fd, num) (oc, of_, on) = b := ⟨_, rfl⟩
        have HLB := Lib.hid hlb
        go_cut [52] (fun s wy => s = .bool lb ∧ wx = wy)
        case first =>
          have hl : lb = (decide (co < oc) || (co == oc && decide (fd < of_))) := hlb.symm
          clear hlb
          by_cases h1 : co < oc
          · go_wp2_with (fail)
            go_meet
            case rel => exact ⟨by rw [hl]; simp [h1], rfl⟩
          · by_cases h2 : oc = co
            · subst h2
              by_cases h3 : fd < of_
              · go_wp2_with (fail)
                go_meet
                case rel => exact ⟨by rw [hl]; simp [h3], rfl⟩
              · go_wp2_with (fail)
                go_meet
                case rel => exact ⟨by rw [hl]; simp [h3], rfl⟩
            · have h2' : (oc == co) = false := by rw [beq_eq_false_iff_ne]; exact h2
              have h4 : (co == oc) = false := by rw [beq_eq_false_iff_ne]; exact fun e => h2 e.symm
              go_wp2_with (fail)
              go_meet
              case rel => exact ⟨by rw [hl, h4]; simp [h1], rfl⟩
        case rest =>
          obtain ⟨rfl, rfl⟩ := hcut
          clear hlb
          rcases bool_tf lb with rfl | rfl
          · have d0 : wx.cell? ⟨D, 0, none⟩ = some (.int .i64 co) := HDx.out.cell 0
            have d1 : wx.cell? ⟨D, 1, none⟩ = some (.int .i64 fd) := HDx.out.cell 1
            have d2 : wx.cell? ⟨D, 2, none⟩ = some (.int .i64 num) := HDx.out.cell 2
            have HXL := Lib.hid HX.out.lt
            have HENC := Lib.hid (show encD (co, fd, num) = [.int .i64 co, .int .i64 fd, .int .i64 num] from rfl)
            have HNW := Lib.hid (Blk.new wx 60 #[.int .i64 co, .int .i64 fd, .int .i64 num])
            have HOW := Lib.hid (own_below HOx.out (below_alloc wx (Obj.cells #[.int .i64 co, .int .i64 fd, .int .i64 num] 60)))
            have HBW := Lib.hid (HBx.out.trans ((below_alloc wx (Obj.cells #[.int .i64 co, .int .i64 fd, .int .i64 num] 60)).mono (show q ≤ wx.heap.size by have := HBx.out.size; have := HQ.out; omega)))
            have HQW := Lib.hid (show q ≤ (wx.alloc (Obj.cells #[.int .i64 co, .int .i64 fd, .int .i64 num] 60)).heap.size by have := HBW.out.size; have := HQ.out; omega)
            go_upto_region 10 with (at_builtin; refine wpList_app (enc := encD) _ rfl (.tmp 53) (.tmp 55) 23 60 rfl d0_ _ 24 Try.underlying23 hd hx0 hx1 hx2 rfl (by decide) q _ L rfl HOW.out (.slice (some ⟨wx.heap.size, 0, none⟩) 1 1) rfl [(co, fd, num)] (C := fun _ b => [.int .i64 co, .int .i64 fd, .int .i64 num].getD b (.int .i64 0)) (RowAt.blk HNW.out (Nat.le_refl _) (fun a b ha hb => by (obtain rfl : a = 0 := (by simpa using ha)); rcases (show b = 0 ∨ b = 1 ∨ b = 2 by omega) with rfl | rfl | rfl <;> rfl)) (fun a b ha hb => by (obtain rfl : a = 0 := (by simpa using ha)); (show (encD (co, fd, num))[b]? = _); (rw [HENC.out]); rcases (show b = 0 ∨ b = 1 ∨ b = 2 by omega) with rfl | rfl | rfl <;> rfl) encD_len (fun x hx u hu => by (obtain rfl : x = (co, fd, num) := (by simpa using hx)); (rw [HENC.out] at hu); (simp at hu); rcases hu with rfl | rfl | rfl <;> rfl) (by have := HLL.out; simp only [List.length_cons, List.length_nil] at this ⊢; omega) (by decide) HQW.out ?_; intro A4 n4 c4 w4 hn4 hown4 hgrow4; have HN4 := Lib.hid hn4; have HO4 := Lib.hid hown4; have HG4 := Lib.hid hgrow4; clear hn4 hown4 hgrow4)
            have HB4 := Lib.hid (show Below q w1 w4 from HBW.out.trans ⟨HG4.out.os, HG4.out.tape, HG4.out.output, HG4.out.size, fun k' hk' => HG4.out.block k' (by have := HQW.out; omega) (fun e => by have := (HOW.out.lt k' e.symm).1; omega)⟩)
            have HX4 := Lib.hid (show Blk w4 xb 60 #[.int .i64 oc, .int .i64 of_, .int .i64 on] from blk_grown HG4.out (HX.out.alloc _) HXN.out)
            have HLL := Lib.hid (show (L ++ [(co, fd, num)]).length ≤ 1002 by rw [List.length_append]; have := HLL.out; simp; omega)
            clear d0 d1 d2 x0 x1 x2 HENC HNW HOW HBW HQW
            have x0 : w4.cell? ⟨xb, 0, none⟩ = some (.int .i64 oc) := HX4.out.cell 0
            have x1 : w4.cell? ⟨xb, 1, none⟩ = some (.int .i64 of_) := HX4.out.cell 1
            have x2 : w4.cell? ⟨xb, 2, none⟩ = some (.int .i64 on) := HX4.out.cell 2
            have HENC := Lib.hid (show encD (oc, of_, on) = [.int .i64 oc, .int .i64 of_, .int .i64 on] from rfl)
            have HNW := Lib.hid (Blk.new w4 60 #[.int .i64 oc, .int .i64 of_, .int .i64 on])
            have HOW := Lib.hid (own_below HO4.out (below_alloc w4 (Obj.cells #[.int .i64 oc, .int .i64 of_, .int .i64 on] 60)))
            have HBW := Lib.hid (HB4.out.trans ((below_alloc w4 (Obj.cells #[.int .i64 oc, .int .i64 of_, .int .i64 on] 60)).mono (show q ≤ w4.heap.size by have := HB4.out.size; have := HQ.out; omega)))
            have HQW := Lib.hid (show q ≤ (w4.alloc (Obj.cells #[.int .i64 oc, .int .i64 of_, .int .i64 on] 60)).heap.size by have := HBW.out.size; have := HQ.out; omega)
            go_wp2_with (at_builtin; refine wpList_app (enc := encD) _ rfl (.tmp 57) (.tmp 59) 23 60 rfl d0_ _ 24 Try.underlying23 hd hx0 hx1 hx2 rfl (by decide) q _ (L ++ [(co, fd, num)]) rfl HOW.out (.slice (some ⟨w4.heap.size, 0, none⟩) 1 1) rfl [(oc, of_, on)] (C := fun _ b => [.int .i64 oc, .int .i64 of_, .int .i64 on].getD b (.int .i64 0)) (RowAt.blk HNW.out (Nat.le_refl _) (fun a b ha hb => by (obtain rfl : a = 0 := (by simpa using ha)); rcases (show b = 0 ∨ b = 1 ∨ b = 2 by omega) with rfl | rfl | rfl <;> rfl)) (fun a b ha hb => by (obtain rfl : a = 0 := (by simpa using ha)); (show (encD (oc, of_, on))[b]? = _); (rw [HENC.out]); rcases (show b = 0 ∨ b = 1 ∨ b = 2 by omega) with rfl | rfl | rfl <;> rfl) encD_len (fun x hx u hu => by (obtain rfl : x = (oc, of_, on) := (by simpa using hx)); (rw [HENC.out] at hu); (simp at hu); rcases hu with rfl | rfl | rfl <;> rfl) (by have := HLL.out; simp only [List.length_append, List.length_cons, List.length_nil] at this ⊢; omega) (by decide) HQW.out ?_; intro A6 n6 c6 w6 hn6 hown6 hgrow6; have HN6 := Lib.hid hn6; have HO6 := Lib.hid hown6; have HG6 := Lib.hid hgrow6; clear hn6 hown6 hgrow6)
            have HB6 := Lib.hid (show Below q w1 w6 from HBW.out.trans ⟨HG6.out.os, HG6.out.tape, HG6.out.output, HG6.out.size, fun k' hk' => HG6.out.block k' (by have := HQW.out; omega) (fun e => by have := (HOW.out.lt k' e.symm).1; omega)⟩)
            go_roundw
            case rel => exact ⟨k + 1, _, true, by go_num, rfl, by omega, HTK.out ▸ (HPR.out.at_ HLB.out), ⟨A6, c6, by rw [HN6.out]⟩, HO6.out, HB6.out⟩
            case measure =>
              simp only [intOf]
              omega
          · have HENC := Lib.hid (show encD (oc, of_, on) = [.int .i64 oc, .int .i64 of_, .int .i64 on] from rfl)
            have HNW := Lib.hid (Blk.new wx 60 #[.int .i64 oc, .int .i64 of_, .int .i64 on])
            have HOW := Lib.hid (own_below HOx.out (below_alloc wx (Obj.cells #[.int .i64 oc, .int .i64 of_, .int .i64 on] 60)))
            have HBW := Lib.hid (HBx.out.trans ((below_alloc wx (Obj.cells #[.int .i64 oc, .int .i64 of_, .int .i64 on] 60)).mono (show q ≤ wx.heap.size by have := HBx.out.size; have := HQ.out; omega)))
            have HQW := Lib.hid (show q ≤ (wx.alloc (Obj.cells #[.int .i64 oc, .int .i64 of_, .int .i64 on] 60)).heap.size by have := HBW.out.size; have := HQ.out; omega)
            go_wp2_with (at_builtin; refine wpList_app (enc := encD) _ rfl (.tmp 57) (.tmp 59) 23 60 rfl d0_ _ 24 Try.underlying23 hd hx0 hx1 hx2 rfl (by decide) q _ L rfl HOW.out (.slice (some ⟨wx.heap.size, 0, none⟩) 1 1) rfl [(oc, of_, on)] (C := fun _ b => [.int .i64 oc, .int .i64 of_, .int .i64 on].getD b (.int .i64 0)) (RowAt.blk HNW.out (Nat.le_refl _) (fun a b ha hb => by (obtain rfl : a = 0 := (by simpa using ha)); rcases (show b = 0 ∨ b = 1 ∨ b = 2 by omega) with rfl | rfl | rfl <;> rfl)) (fun a b ha hb => by (obtain rfl : a = 0 := (by simpa using ha)); (show (encD (oc, of_, on))[b]? = _); (rw [HENC.out]); rcases (show b = 0 ∨ b = 1 ∨ b = 2 by omega) with rfl | rfl | rfl <;> rfl) encD_len (fun x hx u hu => by (obtain rfl : x = (oc, of_, on) := (by simpa using hx)); (rw [HENC.out] at hu); (simp at hu); rcases hu with rfl | rfl | rfl <;> rfl) (by have := HLL.out; simp only [List.length_cons, List.length_nil] at this ⊢; omega) (by decide) HQW.out ?_; intro A6 n6 c6 w6 hn6 hown6 hgrow6; have HN6 := Lib.hid hn6; have HO6 := Lib.hid hown6; have HG6 := Lib.hid hgrow6; clear hn6 hown6 hgrow6)
            have HB6 := Lib.hid (show Below q w1 w6 from HBW.out.trans ⟨HG6.out.os, HG6.out.tape, HG6.out.output, HG6.out.size, fun k' hk' => HG6.out.block k' (by have := HQW.out; omega) (fun e => by have := (HOW.out.lt k' e.symm).1; omega)⟩)
            go_roundw
            case rel => exact ⟨k + 1, _, false, by go_num, rfl, by omega, HTK.out ▸ (HPR.out.past HLB.out), ⟨A6, c6, by rw [HN6.out]⟩, HO6.out, HB6.out⟩
            case measure =>
              simp only [intOf]
              omega
    · obtain rfl : k = n := by omega
      have HTK := Lib.hid (show S.opens.take k = S.opens by rw [← HNN.out, List.take_length])
      have hbq : base ≤ q := by have := HB1.out.size; have := HQ.out; have := HD.out; omega
      have hb1 : ∀ {W : World}, Below q w1 W → Below w.heap.size w W := fun h => (show Below w.heap.size w w1 by rw [← HD.out]; exact HB1.out).trans (h.mono (by have := HD.out; have := HDQ.out; omega))
      rcases bool_tf dn with rfl | rfl
      · have HLI := Lib.hid (show L = insBy ltO (co, fd, num) S.opens by rw [← HTK.out]; exact HPR.out.done)
        obtain ⟨hf, hc, hK', hT'⟩ := HPO.out wr (hb1 HB.out) L (.slice VA L.length vc) (own_base HO.out hbq)
        have HT' := Lib.hid hT'
        clear hT'
        go_wp2_with (fail)
        go_end0
        exact ⟨rfl, ((hb1 HB.out).mono hbw).setCell (p := ⟨ob, 1, none⟩) HT1.out.ob_le _, hK', _, by unfold grabS; rw [← HLI.out]; exact HT'.out⟩
      · have HLI := Lib.hid (show L ++ [(co, fd, num)] = insBy ltO (co, fd, num) S.opens by rw [← HTK.out]; exact HPR.out.last)
        have d0 : wr.cell? ⟨D, 0, none⟩ = some (.int .i64 co) := HDr.out.cell 0
        have d1 : wr.cell? ⟨D, 1, none⟩ = some (.int .i64 fd) := HDr.out.cell 1
        have d2 : wr.cell? ⟨D, 2, none⟩ = some (.int .i64 num) := HDr.out.cell 2
        have HENC := Lib.hid (show encD (co, fd, num) = [.int .i64 co, .int .i64 fd, .int .i64 num] from rfl)
        have HNW := Lib.hid (Blk.new wr 60 #[.int .i64 co, .int .i64 fd, .int .i64 num])
        have HOW := Lib.hid (own_below HO.out (below_alloc wr (Obj.cells #[.int .i64 co, .int .i64 fd, .int .i64 num] 60)))
        have HBW := Lib.hid (HB.out.trans ((below_alloc wr (Obj.cells #[.int .i64 co, .int .i64 fd, .int .i64 num] 60)).mono (show q ≤ wr.heap.size by have := HB.out.size; have := HQ.out; omega)))
        have HQW := Lib.hid (show q ≤ (wr.alloc (Obj.cells #[.int .i64 co, .int .i64 fd, .int .i64 num] 60)).heap.size by have := HBW.out.size; have := HQ.out; omega)
        go_upto_region 13 with (at_builtin; refine wpList_app (enc := encD) _ rfl (.tmp 63) (.tmp 65) 23 60 rfl d0_ _ 24 Try.underlying23 hd hx0 hx1 hx2 rfl (by decide) q _ L rfl HOW.out (.slice (some ⟨wr.heap.size, 0, none⟩) 1 1) rfl [(co, fd, num)] (C := fun _ b => [.int .i64 co, .int .i64 fd, .int .i64 num].getD b (.int .i64 0)) (RowAt.blk HNW.out (Nat.le_refl _) (fun a b ha hb => by (obtain rfl : a = 0 := (by simpa using ha)); rcases (show b = 0 ∨ b = 1 ∨ b = 2 by omega) with rfl | rfl | rfl <;> rfl)) (fun a b ha hb => by (obtain rfl : a = 0 := (by simpa using ha)); (show (encD (co, fd, num))[b]? = _); (rw [HENC.out]); rcases (show b = 0 ∨ b = 1 ∨ b = 2 by omega) with rfl | rfl | rfl <;> rfl) encD_len (fun x hx u hu => by (obtain rfl : x = (co, fd, num) := (by simpa using hx)); (rw [HENC.out] at hu); (simp at hu); rcases hu with rfl | rfl | rfl <;> rfl) (by have := HLL.out; simp only [List.length_cons, List.length_nil] at this ⊢; omega) (by decide) HQW.out ?_; intro A6 n6 c6 w6 hn6 hown6 hgrow6; have HN6 := Lib.hid hn6; have HO6 := Lib.hid hown6; have HG6 := Lib.hid hgrow6; clear hn6 hown6 hgrow6)
        have HB6 := Lib.hid (show Below q w1 w6 from HBW.out.trans ⟨HG6.out.os, HG6.out.tape, HG6.out.output, HG6.out.size, fun k' hk' => HG6.out.block k' (by have := HQW.out; omega) (fun e => by have := (HOW.out.lt k' e.symm).1; omega)⟩)
        obtain ⟨hf, hc, hK', hT'⟩ := HPO.out w6 (hb1 HB6.out) (L ++ [(co, fd, num)]) (.slice A6 n6 c6) (own_base HO6.out hbq)
        have HT' := Lib.hid hT'
        clear hT' d0 d1 d2 s1
        go_wp2_with (fail)
        go_end0
        exact ⟨rfl, ((hb1 HB6.out).mono hbw).setCell (p := ⟨ob, 1, none⟩) HT1.out.ob_le _, hK', _, by unfold grabS; rw [← HLI.out]; exact HT'.out⟩
end Go.Proofs.Ytenlffhoinialaa
end

