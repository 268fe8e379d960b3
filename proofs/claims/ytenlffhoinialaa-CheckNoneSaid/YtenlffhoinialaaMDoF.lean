/- The document's file system: Links, Entry, given. Rows whose blocks are known by their types; appends of whole rows; a state that may be written. -/
import Derived.Test.YtenlffhoinialaaMDo1
import Derived.Test.YtenlffhoinialaaMNPa
import Derived.Deep.Upon
section
namespace Go.Proofs.Ytenlffhoinialaa
open Go.RowKit
set_option maxHeartbeats 1000000
attribute [local go_sem ↓] Go.wp_at_zero Go.wp_at_succ

def cntI (S : St) (y : Int) (i : Nat) : Nat := (linksOf (S.ino i)).count y
def sumI (S : St) (y : Int) (i : Nat) : Nat := ((List.range i).map (cntI S y)).sum
def cntE (S : St) (y : Int) (i k : Nat) : Nat := (((S.ino i).ents.take k).map (·.2)).count y
theorem range_map {A B : Type} (g : A → B) (d : A) (l : List A) : (List.range l.length).map (fun i => g (l.getD i d)) = l.map g := by
  refine List.ext_getElem? fun k => ?_
  rw [List.getElem?_map, List.getElem?_map]
  rcases Nat.lt_or_ge k l.length with q | q
  · rw [List.getElem?_range q, List.getElem?_eq_getElem q]
    simp only [Option.map_some]
    rw [getD_get q]
  · rw [List.getElem?_eq_none (by simpa using q), List.getElem?_eq_none q]; rfl
theorem sumI_succ (S : St) (y : Int) (i : Nat) : sumI S y (i + 1) = sumI S y i + cntI S y i := by
  unfold sumI
  rw [List.range_succ, List.map_append, List.sum_append]; simp
theorem sumI_all (S : St) (y : Int) : sumI S y S.inodes.length = (links S).count y := by
  unfold links
  rw [List.count_flatMap]
  unfold sumI
  rw [← range_map (List.count y ∘ linksOf) noIno]; rfl
theorem cntE_succ (S : St) (y : Int) {i k : Nat} (h : k < S.ne i) : cntE S y i (k + 1) = cntE S y i k + if S.enu i k = y then 1 else 0 := by
  have h : k < (S.ino i).ents.length := h
  unfold cntE St.enu
  rw [List.take_succ_eq_append_getElem h, List.map_append, List.count_append, getD_get h]
  congr 1
  simp only [List.map_cons, List.map_nil, List.count_cons, List.count_nil, Nat.zero_add]
  by_cases e : (S.ino i).ents[k].2 = y
  · rw [if_pos e, if_pos (by simpa using e)]
  · rw [if_neg e, if_neg (by simpa using e)]
theorem cntE_all (S : St) (y : Int) {i : Nat} (h : S.dir i = true) : cntE S y i (S.ne i) = cntI S y i := by
  unfold cntE cntI linksOf St.ne
  rw [List.take_length, if_pos (show (S.ino i).dir = true from h)]
theorem cntI_file (S : St) (y : Int) {i : Nat} (h : S.dir i = false) : cntI S y i = 0 := by
  unfold cntI linksOf
  rw [if_neg (by rw [show (S.ino i).dir = false from h]; simp)]; rfl
theorem cntE_le (S : St) (y : Int) (i k : Nat) : cntE S y i k ≤ k := by
  unfold cntE
  refine Nat.le_trans List.count_le_length ?_
  rw [List.length_map]
  exact Nat.le_trans (List.length_take_le ..) (Nat.le_refl _)
theorem sumI_le (S : St) (y : Int) (h : ∀ i, S.ne i ≤ 1000) : ∀ i, sumI S y i ≤ i * 1000
  | 0 => Nat.le_refl _
  | i + 1 => by
    rw [sumI_succ]
    have := sumI_le S y h i
    have h2 : cntI S y i ≤ 1000 := by
      cases hd : S.dir i with
      | true => rw [← cntE_all S y hd]; exact Nat.le_trans (cntE_le ..) (h i)
      | false => rw [cntI_file S y hd]; omega
    omega
set_option maxRecDepth 1000000 in
theorem Links_calls {w : World} {iv ov mv : Value} {ev : Nat → Value} {S : St} (hS : StM w iv ov mv ev S) (hn : S.inodes.length ≤ 1000) (he : ∀ i, S.ne i ≤ 1000) (num : Int) :
    Calls Try.prog 48 #[.agg #[iv, ov, mv], .int .i64 num] w fun e w' => e = .returned (.int .i64 ((links S).count num : Nat)) ∧ Below w.heap.size w w' := by
  obtain ⟨A, cap, rfl⟩ := hS.ino.form
  have HF := Lib.hid (sumI_all S num)
  obtain ⟨n, hnn⟩ : ∃ n, S.inodes.length = n := ⟨_, rfl⟩
  rw [hnn] at hn hS HF ⊢
  have HB := Lib.hid (below_alloc w (.cells #[.slice A n cap, ov, mv] 26))
  have HI := Lib.hid (by have := hS.ino; rw [hnn] at this; exact this.keep HB.out)
  have HE := Lib.hid (show ∀ i, i < n → RowAt (w.alloc (.cells #[.slice A n cap, ov, mv] 26)) (ev i) (S.ne i) 2 (entC S i) from fun i hi => (hS.ent i (by rw [hnn]; exact hi)).keep HB.out)
  have s0 := (Blk.new w 26 #[.slice A n cap, ov, mv]).cell 0
  have HLE := Lib.hid he
  have HSL := Lib.hid (sumI_le S num he)
  clear hnn hS he
  go_enter Try.func48, Try.ntmps48
  go_wp2_with (fail)
  generalize w.alloc (.cells #[.slice A n cap, ov, mv] 26) = w1 at *
  generalize w.heap.size = p at s0 ⊢
  have s0 : w1.cell? ⟨p, 0, none⟩ = some (.slice A n cap) := s0
  go_loop [5, 6] (fun m i => ∃ k : Nat, i = .int .i64 k ∧ k ≤ n ∧ m = .int .i64 (sumI S num k : Nat)) (fun _ i => n - (intOf i).toNat)
  case atStart => exact ⟨0, rfl, by omega, rfl⟩
  case round =>
    obtain ⟨k, rfl, hk, rfl⟩ := hrel
    by_cases hp : k < n
    · obtain ⟨_, hcap, g, off, rfl, hcell⟩ := HI.out.at_ hp
      have q1 : w1.cell? ⟨g, off + k * 4 + 1, none⟩ = some (.bool (S.dir k)) := hcell 1 (by omega)
      have q2 : w1.cell? ⟨g, off + k * 4 + 2, none⟩ = some (ev k) := hcell 2 (by omega)
      clear hcell
      have hp1 : (k : Int) < n := by omega
      have HER := Lib.hid (HE.out k hp)
      obtain ⟨EA, ecap, hev⟩ := HER.out.form
      rw [hev] at HER q2
      clear hev
      have HC1 := Lib.hid (show S.dir k = true → cntE S num k (S.ne k) = cntI S num k from fun h => cntE_all S num h)
      have HC2 := Lib.hid (show S.dir k = false → cntI S num k = 0 from fun h => cntI_file S num h)
      have HC3 := Lib.hid (fun j => cntE_le S num k j)
      have HC4 := Lib.hid (fun (j : Nat) (h : j < S.ne k) => cntE_succ S num h)
      have hsl := HSL.out k
      have HSS := Lib.hid (sumI_succ S num k)
      have hne := HLE.out k
      have hc0 : cntE S num k 0 = 0 := rfl
      generalize cntI S num k = ci at *
      generalize sumI S num k = sk at *
      generalize S.dir k = dk at *
      obtain ⟨ne, hnee⟩ : ∃ x, S.ne k = x := ⟨_, rfl⟩
      rw [hnee] at HER HC1 HC4 hne q2
      clear hnee HSL HLE HE
      go_wp2_with (fail)
      go_loop [5, 7] (fun m i => ∃ j : Nat, i = .int .i64 j ∧ j ≤ ne ∧ (dk = false → j = 0) ∧ m = .int .i64 ((sk + cntE S num k j : Nat) : Int)) (fun _ i => ne - (intOf i).toNat)
      case atStart => exact ⟨0, rfl, by omega, fun _ => rfl, by rw [hc0]; rfl⟩
      case round =>
        obtain ⟨j, rfl, hj, hd0, rfl⟩ := hrel
        have hc3 := HC3.out j
        by_cases hq : j < ne
        · have hq1 : (j : Int) < ne := by omega
          obtain ⟨_, hecap, ge, eoff, rfl, hecell⟩ := HER.out.at_ hq
          have r1 : w1.cell? ⟨ge, eoff + j * 2 + 1, none⟩ = some (.int .i64 (S.enu k j)) := hecell 1 (by omega)
          have HC5 := Lib.hid (HC4.out j hq)
          clear hecell
          rcases bool_tf dk with rfl | rfl
          · generalize hxx : cntE S num k j = cj at *
            by_cases e : (S.enu k j == num) = true
            · have HC6 := Lib.hid (HC5.out.trans (by rw [if_pos (by simpa using e)]))
              clear HC5
              go_wp2_with (fail)
              go_round
              case rel => exact ⟨j + 1, by go_num, by omega, by simp, by rw [HC6.out, ← Nat.add_assoc]; go_num⟩
              case measure =>
                simp only [intOf]
                omega
            · have HC6 := Lib.hid (HC5.out.trans (by rw [if_neg (by simpa using e)]))
              have e := Bool.eq_false_iff.2 e
              clear HC5
              go_wp2_with (fail)
              go_round
              case rel => exact ⟨j + 1, by go_num, by omega, by simp, by rw [HC6.out]; rfl⟩
              case measure =>
                simp only [intOf]
                omega
          · obtain rfl := hd0 rfl
            have HX := Lib.hid (HC2.out rfl)
            rw [hc0]
            go_wp2_with (fail)
            go_round
            case rel => exact ⟨k + 1, by go_num, by omega, by rw [HSS.out, HX.out]⟩
            case measure =>
              simp only [intOf]
              omega
        · have e : j = ne := by omega
          subst e
          have HX := Lib.hid (show cntE S num k j = ci by
            rcases bool_tf dk with rfl | rfl
            · exact HC1.out rfl
            · rw [HC2.out rfl, hd0 rfl]; exact hc0)
          rw [HX.out]
          go_wp2_with (fail)
          go_round
          case rel => exact ⟨k + 1, by go_num, by omega, by rw [HSS.out]⟩
          case measure =>
            simp only [intOf]
            omega
    · have e : k = n := by omega
      subst e
      go_wp2_with (fail)
      go_ret
      refine ⟨?_, HB.out⟩
      rw [← HF.out]; rfl
/-- A name's number in a directory's entries; 0: there is none. -/
def entIn (L : List (ByteArray × Int)) (nm : ByteArray) : Int := match L.find? fun e => decide (e.1 = nm) with
  | some e => e.2
  | none => 0
def entF (S : St) (d : Int) (nm : ByteArray) : Int := match firstIx S d with
  | some k => entIn (S.ino k).ents nm
  | none => 0
theorem entIn_at {L : List (ByteArray × Int)} {nm : ByteArray} {j : Nat} (hj : j < L.length) (h : (L.getD j (ByteArray.empty, 0)).1 = nm) (hb : ∀ i, i < j → (L.getD i (ByteArray.empty, 0)).1 ≠ nm) : entIn L nm = (L.getD j (ByteArray.empty, 0)).2 := by
  have : L.find? (fun e => decide (e.1 = nm)) = some L[j] := by
    rw [List.find?_eq_some_iff_getElem]
    refine ⟨by rw [getD_get hj] at h; simpa using h, j, hj, rfl, fun i hi => ?_⟩
    have := hb i hi
    rw [getD_get (by omega)] at this
    simpa using this
  unfold entIn
  rw [this, getD_get hj]
theorem entIn_none {L : List (ByteArray × Int)} {nm : ByteArray} (hb : ∀ i, i < L.length → (L.getD i (ByteArray.empty, 0)).1 ≠ nm) : entIn L nm = 0 := by
  have : L.find? (fun e => decide (e.1 = nm)) = none := by
    rw [List.find?_eq_none]
    intro e he
    obtain ⟨i, hi, rfl⟩ := List.getElem_of_mem he
    have := hb i hi
    rw [getD_get hi] at this
    simpa using this
  unfold entIn
  rw [this]
set_option maxRecDepth 1000000 in
theorem Entry_calls {w : World} {iv ov mv : Value} {ev : Nat → Value} {S : St} (hS : StM w iv ov mv ev S) (hn : S.inodes.length ≤ 1000) (he : ∀ i, S.ne i ≤ 1000) (d : Int) (nm : ByteArray) :
    Calls Try.prog 119 #[.agg #[iv, ov, mv], .int .i64 d, .string nm] w fun e w' => e = .returned (.int .i64 (entF S d nm)) ∧ Below w.heap.size w w' := by
  obtain ⟨A, cap, rfl⟩ := hS.ino.form
  have HB := Lib.hid (below_alloc w (.cells #[.slice A S.inodes.length cap, ov, mv] 26))
  have hAt := At_calls (hS.keep HB.out) hn d
  have HFX := Lib.hid (show atF S d = ixI (firstIx S d) from rfl)
  have HEX := Lib.hid (show entF S d nm = match firstIx S d with | some k => entIn (S.ino k).ents nm | none => 0 from rfl)
  have HN := Lib.hid (show ∀ k, firstIx S d = some k → k < S.inodes.length from fun k h => by
    unfold firstIx at h
    rw [List.find?_range_eq_some] at h
    simpa using h.2.1)
  have HS := Lib.hid (hS.keep HB.out)
  have hs0 := Blk.new w 26 #[.slice A S.inodes.length cap, ov, mv]
  have HBK := Lib.hid hs0
  obtain ⟨n, hnn⟩ : ∃ n, S.inodes.length = n := ⟨_, rfl⟩
  rw [hnn] at hn HS HN hAt HBK HB ⊢
  have HLE := Lib.hid he
  have HAT := Lib.hid hAt
  have HNN := Lib.hid hnn
  have s0 := HBK.out.cell 0
  have s1 := HBK.out.cell 1
  have s2 := HBK.out.cell 2
  clear hnn hS he hAt hs0
  go_enter Try.func119, Try.ntmps119
  go_wp2_with (fail)
  generalize w.alloc (.cells #[.slice A n cap, ov, mv] 26) = w1 at *
  generalize w.heap.size = p at s0 s1 s2 HBK ⊢
  have s0 : w1.cell? ⟨p, 0, none⟩ = some (.slice A n cap) := s0
  have s1 : w1.cell? ⟨p, 1, none⟩ = some ov := s1
  have s2 : w1.cell? ⟨p, 2, none⟩ = some mv := s2
  go_wp2_with (fail)
  refine HAT.out.mono ?_
  rintro e w2 ⟨rfl, hb⟩
  have HB2 := Lib.hid hb
  have s0 := (hb.cell HBK.out.lt).trans s0
  have HS2 := Lib.hid (HS.out.keep hb)
  have HBE := Lib.hid (HB.out.trans (hb.mono HB.out.size))
  clear hb s1 s2
  rw [HFX.out]
  rcases hfi : firstIx S d with _ | k
  · rw [show ixI none = -1 from rfl]
    have HR := Lib.hid (show entF S d nm = 0 by rw [HEX.out, hfi])
    clear HEX HFX hfi HN
    go_wp2_with (fail)
    go_ret
    exact ⟨by rw [HR.out]; rfl, HBE.out⟩
  · rw [show ixI (some k) = (k : Int) from rfl]
    have hk := HN.out k hfi
    have HR := Lib.hid (show entF S d nm = entIn (S.ino k).ents nm by rw [HEX.out, hfi])
    clear HEX HFX hfi HN
    have HIN := Lib.hid HS2.out.ino
    rw [HNN.out] at HIN
    have HER := Lib.hid (HS2.out.ent k (by rw [HNN.out]; exact hk))
    obtain ⟨_, hcap, g, off, rfl, hcell⟩ := HIN.out.at_ hk
    have q2 : w2.cell? ⟨g, off + k * 4 + 2, none⟩ = some (ev k) := hcell 2 (by omega)
    clear hcell
    have hp1 : (k : Int) < n := by omega
    have hp0 : ¬ (k : Int) < 0 := by omega
    obtain ⟨EA, ecap, hev⟩ := HER.out.form
    rw [hev] at HER q2
    clear hev HS2 HIN HS HAT HBK HB HB2
    have hne := HLE.out k
    have HNE := Lib.hid (show S.ne k = (S.ino k).ents.length from rfl)
    have HEN := Lib.hid (show ∀ j, S.enm k j = ((S.ino k).ents.getD j (ByteArray.empty, 0)).1 from fun _ => rfl)
    have HEU := Lib.hid (show ∀ j, S.enu k j = ((S.ino k).ents.getD j (ByteArray.empty, 0)).2 from fun _ => rfl)
    generalize S.ne k = ne at *
    go_wp2_with (fail)
    go_loop [8] (fun i => ∃ j : Nat, i = .int .i64 j ∧ j ≤ ne ∧ ∀ x, x < j → S.enm k x ≠ nm) (fun i => ne - (intOf i).toNat)
    case atStart => exact ⟨0, rfl, by omega, fun j hj => absurd hj (by omega)⟩
    case round =>
      obtain ⟨j, rfl, hj, hlt⟩ := hrel
      have HL := Lib.hid hlt
      clear hlt
      by_cases hq : j < ne
      · have hq1 : (j : Int) < ne := by omega
        obtain ⟨_, hecap, ge, eoff, rfl, hecell⟩ := HER.out.at_ hq
        have r0 : w2.cell? ⟨ge, eoff + j * 2, none⟩ = some (.string (S.enm k j)) := hecell 0 (by omega)
        have r1 : w2.cell? ⟨ge, eoff + j * 2 + 1, none⟩ = some (.int .i64 (S.enu k j)) := hecell 1 (by omega)
        clear hecell
        by_cases e : S.enm k j = nm
        · have HX := Lib.hid (show entIn (S.ino k).ents nm = S.enu k j from entIn_at (by rw [← HNE.out]; exact hq) e HL.out)
          have e2 : ((S.enm k j).toList == nm.toList) = true := by rw [e]; simp
          clear e HL HEN HEU
          generalize S.enm k j = s1 at *
          generalize S.enu k j = u1 at *
          go_wp2_with (fail)
          go_ret
          exact ⟨by rw [HR.out, HX.out]; rfl, HBE.out⟩
        · have HX := Lib.hid (show ∀ x, x < j + 1 → S.enm k x ≠ nm from fun x hx => by
            by_cases h : x = j
            · subst h; exact e
            · exact HL.out x (by omega))
          have e2 : ((S.enm k j).toList == nm.toList) = false := by
            rw [beq_eq_false_iff_ne]
            exact fun h => e (toList_inj h)
          clear e HL HEN HEU r1
          generalize S.enm k j = s1 at r0 e2
          go_wp2_with (fail)
          go_round
          case rel => exact ⟨j + 1, by go_num, by omega, HX.out⟩
          case measure =>
            simp only [intOf]
            omega
      · have e : j = ne := by omega
        subst e
        have HX := Lib.hid (show entIn (S.ino k).ents nm = 0 from entIn_none fun i hi => HL.out i (by rw [HNE.out]; exact hi))
        go_wp2_with (fail)
        go_ret
        exact ⟨by rw [HR.out, HX.out]; rfl, HBE.out⟩
/-- A bool, whatever it is. -/
def SomeB (e : Ending) : Prop := ∃ b : Bool, e = .returned (.bool b)
set_option maxRecDepth 1000000 in
theorem given_calls {w : World} {iv ov mv : Value} {ev : Nat → Value} {S : St} (hS : StM w iv ov mv ev S) (_hn : S.made.length ≤ 1000) (num : Int) (hx : -1000000 ≤ num ∧ num ≤ 1000000) :
    Calls Try.prog 57 #[.agg #[iv, ov, mv], .int .i64 num] w fun e w' => SomeB e ∧ Below w.heap.size w w' := by
  obtain ⟨A, cap, rfl⟩ := hS.mad.form
  have HB := Lib.hid (below_alloc w (.cells #[iv, ov, .slice A S.made.length cap] 26))
  have HI := Lib.hid (hS.mad.keep HB.out)
  have s0 := (Blk.new w 26 #[iv, ov, .slice A S.made.length cap]).cell 2
  obtain ⟨n, hnn⟩ : ∃ n, S.made.length = n := ⟨_, rfl⟩
  rw [hnn] at _hn HB HI s0 ⊢
  obtain ⟨h1, h2⟩ := hx
  clear hnn hS
  go_enter Try.func57, Try.ntmps57
  by_cases h : num < 2
  · go_wp2_with (fail)
    go_ret
    exact ⟨⟨_, rfl⟩, HB.out⟩
  · have h3 : 2 ≤ num := by omega
    by_cases hc : (num - 2) % 8 < (n : Int)
    · obtain ⟨_, hcap, g, off, rfl, hcell⟩ := HI.out.at_ (i := ((num - 2) % 8).toNat) (by omega)
      have q0 : (w.alloc (.cells #[iv, ov, .slice (some ⟨g, off, none⟩) n cap] 26)).cell? ⟨g, off + ((num - 2) % 8).toNat, none⟩ = some (.int .i64 (S.mad ((num - 2) % 8).toNat)) := by have := hcell 0 (by omega); rwa [Nat.mul_one, Nat.add_zero] at this
      clear hcell
      generalize S.mad ((num - 2) % 8).toNat = md at *
      have hc0 : 0 ≤ (num - 2) % 8 := by omega
      go_wp2_with (fail)
      go_ret
      exact ⟨⟨_, rfl⟩, HB.out⟩
    · go_wp2_with (fail)
      go_ret
      exact ⟨⟨_, rfl⟩, HB.out⟩
end Go.Proofs.Ytenlffhoinialaa
end

section
namespace Go.Proofs.Ytenlffhoinialaa
open Go.RowKit
set_option maxHeartbeats 1000000

/-- A slice value of n rows of k cells: its block is new since base and of a known type. -/
def RowT (w : World) (base : Nat) (t : TypeId) (k : Nat) (v : Value) (n : Nat) (C : Nat → Nat → Value) : Prop :=
  ∃ A cap, v = .slice A n cap ∧ n ≤ cap ∧ (0 < n → ∃ g off cs, A = some ⟨g, off, none⟩ ∧ base ≤ g ∧ Blk w g t cs ∧ ∀ i j, i < n → j < k → cs[off + (i * k + j)]? = some (C i j))
namespace RowT
variable {w w' : World} {base : Nat} {t : TypeId} {k n : Nat} {v : Value} {C : Nat → Nat → Value}
theorem at' (h : RowT w base t k v n C) : RowAt w v n k C := by
  obtain ⟨A, cap, h1, h2, h3⟩ := h
  refine ⟨A, cap, h1, h2, fun hn => ?_⟩
  obtain ⟨g, off, cs, hA, -, hb, hc⟩ := h3 hn
  exact ⟨g, off, hA, fun i j hi hj => (hb.cell _).trans (hc i j hi hj)⟩
theorem heap (h : RowT w base t k v n C) (hb : ∀ q cs, base ≤ q → Blk w q t cs → Blk w' q t cs) : RowT w' base t k v n C := by
  obtain ⟨A, cap, h1, h2, h3⟩ := h
  refine ⟨A, cap, h1, h2, fun hn => ?_⟩
  obtain ⟨g, off, cs, hA, h4, h5, h6⟩ := h3 hn
  exact ⟨g, off, cs, hA, h4, hb g cs h4 h5, h6⟩
theorem below (h : RowT w base t k v n C) (hb : Below w.heap.size w w') : RowT w' base t k v n C := h.heap fun q _ _ hq => Blk.of_heap (hb.block q hq.lt) hq
theorem far (h : RowT w base t k v n C) {g : Nat} {u : TypeId} {cs : Array Value} (hg : Blk w g u cs) (ht : t ≠ u) (i : Nat) (x : Value) : RowT (w.setCell ⟨g, i, none⟩ x) base t k v n C :=
  h.heap fun _ _ _ hq => hq.far (p := ⟨g, i, none⟩) (Blk.ne_ hq hg ht) x
theorem congr {C' : Nat → Nat → Value} (h : RowT w base t k v n C) (he : ∀ i j, i < n → j < k → C i j = C' i j) : RowT w base t k v n C' := by
  obtain ⟨A, cap, h1, h2, h3⟩ := h
  refine ⟨A, cap, h1, h2, fun hn => ?_⟩
  obtain ⟨g, off, cs, hA, h4, h5, h6⟩ := h3 hn
  exact ⟨g, off, cs, hA, h4, h5, fun i j hi hj => (h6 i j hi hj).trans (by rw [he i j hi hj])⟩
theorem base_le {base' : Nat} (h : RowT w base t k v n C) (hb : base' ≤ base) : RowT w base' t k v n C := by
  obtain ⟨A, cap, h1, h2, h3⟩ := h
  refine ⟨A, cap, h1, h2, fun hn => ?_⟩
  obtain ⟨g, off, cs, hA, h4, h5⟩ := h3 hn
  exact ⟨g, off, cs, hA, Nat.le_trans hb h4, h5⟩
theorem nil_ (w : World) (base : Nat) (t : TypeId) (k : Nat) (C : Nat → Nat → Value) : RowT w base t k (.slice none 0 0) 0 C := ⟨_, _, rfl, Nat.le_refl _, fun h => absurd h (by omega)⟩
/-- One cell is written. -/
theorem set (h : RowT w base t k v n C) {i j : Nat} (hi : i < n) (hj : j < k) : ∃ g off cap cs, v = .slice (some ⟨g, off, none⟩) n cap ∧ n ≤ cap ∧ base ≤ g ∧ Blk w g t cs ∧ w.cell? ⟨g, off + (i * k + j), none⟩ = some (C i j) ∧ ∀ x, RowT (w.setCell ⟨g, off + (i * k + j), none⟩ x) base t k v n fun a b => if a = i ∧ b = j then x else C a b := by
  obtain ⟨A, cap, rfl, h2, h3⟩ := h
  obtain ⟨g, off, cs, rfl, h4, h5, h6⟩ := h3 (by omega)
  refine ⟨g, off, cap, cs, rfl, h2, h4, h5, (h5.cell _).trans (h6 i j hi hj), fun x => ⟨_, _, rfl, h2, fun hn => ⟨g, off, _, rfl, h4, h5.set_ _ x, fun a b ha hb => ?_⟩⟩⟩
  have hlt : off + (i * k + j) < cs.size := (Array.getElem?_eq_some_iff.1 (h6 i j hi hj)).1
  by_cases e : a = i ∧ b = j
  · obtain ⟨rfl, rfl⟩ := e
    show _ = some (if _ then _ else _)
    rw [if_pos ⟨rfl, rfl⟩, Array.getElem?_setIfInBounds_self, if_pos hlt]
  · show _ = some (if _ then _ else _)
    rw [if_neg e, Array.getElem?_setIfInBounds_ne]
    · exact h6 a b ha hb
    · intro q
      have q : i * k + j = a * k + b := by omega
      apply e
      have e1 : (i * k + j) / k = (a * k + b) / k := by rw [q]
      have e2 : (i * k + j) % k = (a * k + b) % k := by rw [q]
      rw [Nat.mul_comm i k, Nat.mul_comm a k, Nat.mul_add_div (by omega), Nat.mul_add_div (by omega), Nat.div_eq_of_lt hj, Nat.div_eq_of_lt hb] at e1
      rw [Nat.mul_comm i k, Nat.mul_comm a k, Nat.mul_add_mod, Nat.mul_add_mod, Nat.mod_eq_of_lt hj, Nat.mod_eq_of_lt hb] at e2
      omega
end RowT
/-! ### Rows as lists -/
section
variable {A : Type} {enc : A → List Value} {k : Nat}
theorem flat_get_k (hk : 0 < k) (h : ∀ x, (enc x).length = k) : ∀ (L : List A) (t : Nat), (L.flatMap enc)[t]? = (L[t / k]?).bind fun e => (enc e)[t % k]?
  | [], t => by simp
  | e :: L, t => by
    rw [List.flatMap_cons]
    by_cases q : t < k
    · rw [List.getElem?_append_left (by rw [h]; exact q), Nat.div_eq_of_lt q, Nat.mod_eq_of_lt q]; rfl
    · have e1 : t / k = (t - k) / k + 1 := by
        rw [Nat.div_eq_sub_div hk (by omega)]
      have e2 : t % k = (t - k) % k := Nat.mod_eq_sub_mod (by omega)
      rw [List.getElem?_append_right (by rw [h]; omega), h, e1, List.getElem?_cons_succ, e2, ← flat_get_k hk h L (t - k)]
theorem flat_len_k (h : ∀ x, (enc x).length = k) (L : List A) : (L.flatMap enc).length = L.length * k := by
  induction L with
  | nil => simp
  | cons e L ih => rw [List.flatMap_cons, List.length_append, ih, h, List.length_cons, Nat.succ_mul]; omega
/-- A row's cells, by a list. -/
def CL (enc : A → List Value) (L : List A) (C : Nat → Nat → Value) (k : Nat) : Prop := ∀ i j (hi : i < L.length), j < k → (enc L[i])[j]? = some (C i j)
theorem CL.get {L : List A} {C : Nat → Nat → Value} (hk : 0 < k) (h : ∀ x, (enc x).length = k) (hC : CL enc L C k) {i j : Nat} (hi : i < L.length) (hj : j < k) : (L.flatMap enc)[i * k + j]? = some (C i j) := by
  rw [flat_get_k hk h, Nat.mul_comm, Nat.mul_add_div hk, Nat.div_eq_of_lt hj, Nat.mul_add_mod, Nat.mod_eq_of_lt hj, Nat.add_zero, List.getElem?_eq_getElem hi]
  exact hC i j hi hj
theorem own_rowT {w : World} {base : Nat} {t : TypeId} {v : Value} {L : List A} {C : Nat → Nat → Value} (hk : 0 < k) (h : ∀ x, (enc x).length = k) (hw : w.ownsRow base t k v L.length (L.flatMap enc)) (hC : CL enc L C k) : RowT w base t k v L.length C := by
  rcases hw.2 with ⟨rfl, h0⟩ | ⟨g, cap, cur, rfl, hb, hh, h1, -, h3, h4⟩
  · rw [h0]; exact RowT.nil_ _ _ _ _ _
  · refine ⟨_, _, rfl, h1, fun hn => ⟨g, 0, cur, rfl, hb, hh, fun i j hi hj => ?_⟩⟩
    have h5 := hC.get hk h hi hj
    rw [← h4, List.getElem?_take] at h5
    split at h5
    · rw [Nat.zero_add]; simpa using h5
    · cases h5
variable {ops : Array Oper} {rest : List Oper} {o : Oper} {a : Act} {Q : Exit → Act → World → Prop}
/-- A whole row is appended to a row of one's own. -/
theorem wpList_app (w : World) (hg : o.guard = none) (s x : Operand) (t e : TypeId) (hop : o.op = Op.call { callee := Callee.builtin Builtin.append, args := #[s, x], argTypes := #[t, t] })
    (i : TypeInfo) (z : Value) (bytes : Nat) (ht : Try.prog.underlying t = some (.slice e)) (hi : Try.prog.info? e = some i) (hz : i.zero = some z) (hsize : i.size = k) (hby : i.bytes = bytes) (hzs : z.cells.size = k) (hk : 0 < k)
    (base : Nat) (v : Value) (L : List A) (hs : a.eval s = v) (hown : w.ownsRow base e k v L.length (L.flatMap enc)) (xv : Value) (hx : a.eval x = xv) (M : List A) {C : Nat → Nat → Value} (hM : RowAt w xv M.length k C) (hC : CL enc M C k)
    (hl : ∀ x, (enc x).length = k) (h1 : ∀ x ∈ M, ∀ u ∈ enc x, u.oneCell' = true) (h63 : L.length + M.length ≤ 100000) (hbytes : bytes ≤ 1000) (hbase : base ≤ w.heap.size)
    (hK : ∀ A' n' cap' w', n' = (L ++ M).length → w'.ownsRow base e k (.slice A' n' cap') (L ++ M).length ((L ++ M).flatMap enc) → w.grownBy w' v.ownBlock → wpList Try.prog ops Q rest (a.put o.dst (.slice A' n' cap')) w') : wpList Try.prog ops Q (o :: rest) a w := by
  refine wpList_plain hg fun K' hK' => ?_
  obtain ⟨A1, cap1, rfl, hc1, hA1⟩ := hM
  have hbb : (L.length + M.length) * bytes ≤ 140737488355328 := Nat.le_trans (Nat.mul_le_mul h63 hbytes) (by decide)
  have hrun : ∃ v' w', (Builtin.append_ #[t, t] o.type #[v, .slice A1 M.length cap1]).run Try.prog w = .ok v' w' ∧ w'.ownsRow base e k v' (L ++ M).length ((L ++ M).flatMap enc) ∧ w.grownBy w' v.ownBlock ∧ (v'.ownBlock = v.ownBlock ∨ v'.ownBlock = some w.heap.size) := by
    rcases Nat.eq_zero_or_pos M.length with h0 | h0
    · have hM0 : M = [] := List.length_eq_zero_iff.1 h0
      subst hM0
      rw [List.append_nil]
      cases A1 with
      | none =>
        have hb : ∃ b n' c', v = .slice b n' c' ∧ n' ≤ c' := by
          rcases hown.2 with ⟨rfl, _⟩ | ⟨g, cap, cur, rfl, _, _, h6, _⟩
          · exact ⟨_, _, _, rfl, Nat.le_refl _⟩
          · exact ⟨_, _, _, rfl, h6⟩
        obtain ⟨b, n', c', rfl, hle⟩ := hb
        exact ⟨_, _, run_append_nothing (P := Try.prog) w t t o.type e i ht hi b n' c' hle _ (Src.ofNil w ht cap1), hown, ⟨rfl, rfl, rfl, Nat.le_refl _, fun _ _ _ => rfl⟩, .inl rfl⟩
      | some ad =>
        obtain ⟨v', w', r1, r2, r3, -, r5⟩ := run_append_own_at (P := Try.prog) w base t o.type e i z k bytes ht hi hz hsize hby hzs hk v L.length _ hown ad 0 cap1 [] (by simp) (fun j u hu => by simp at hu) (fun u hu => by simp at hu) (by simp only [maxLen]; omega) (by simpa using hbb) hbase
        rw [List.append_nil, Nat.add_zero] at r2
        exact ⟨v', w', r1, r2, r3, r5⟩
    · obtain ⟨g, off, rfl, hcell⟩ := hA1 h0
      obtain ⟨v', w', r1, r2, r3, -, r5⟩ := run_append_own_at (P := Try.prog) w base t o.type e i z k bytes ht hi hz hsize hby hzs hk v L.length _ hown ⟨g, off, none⟩ M.length cap1 (M.flatMap enc) (flat_len_k hl M) (fun j u hu => by
        have hj : j < M.length * k := by rw [← flat_len_k hl M]; exact (List.getElem?_eq_some_iff.1 hu).1
        have e1 : j = j / k * k + j % k := by rw [Nat.mul_comm]; exact (Nat.div_add_mod j k).symm
        have hq : j / k < M.length := Nat.div_lt_of_lt_mul (by rw [Nat.mul_comm]; exact hj)
        have h2 := hC.get hk hl hq (Nat.mod_lt j hk)
        rw [← e1, hu] at h2
        rw [Addr.add_lit]
        have h3 := hcell (j / k) (j % k) hq (Nat.mod_lt j hk)
        rw [← e1] at h3
        rw [h3, ← h2]) (fun u hu => by
        obtain ⟨x, hm, hx⟩ := List.mem_flatMap.1 hu
        exact h1 x hm u hx) (by simp only [maxLen]; omega) hbb hbase
      rw [← List.flatMap_append, ← List.length_append] at r2
      exact ⟨v', w', r1, r2, r3, r5⟩
  obtain ⟨v', w', hrun, r2, r3, r4⟩ := hrun
  unfold Oper.wp
  simp [execOp, hop, resolve, invoke, builtin, hx, hs, hrun, Result.andThen]
  have hf : ∃ A' cap', v' = .slice A' (L ++ M).length cap' := by
    rcases r2.2 with ⟨rfl, h0⟩ | ⟨g, cap, cur, rfl, _⟩
    · exact ⟨none, 0, by rw [h0]⟩
    · exact ⟨_, _, rfl⟩
  obtain ⟨A', cap', rfl⟩ := hf
  exact hK' _ _ (hK A' _ cap' w' rfl r2 r3)
end
end Go.Proofs.Ytenlffhoinialaa
end

