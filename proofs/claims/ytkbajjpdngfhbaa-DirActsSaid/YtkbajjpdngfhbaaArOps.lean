
/- Arena: Load, Store, Cas, Add, Clear, Words, Cores, Fits, Peek, Poke. -/
import Derived.Test.YtkbajjpdngfhbaaArNote2
namespace Go.Proofs.Ytkbajjpdngfhbaa
open Go.RowKit
set_option maxHeartbeats 400000

section
variable {L : Nat → Prop} {w : World} {a bw bt : Nat} {vs : List Value} {ws : List Int} {ts : List (List Acc)}

theorem ArIn.cwI (h : ArIn L w a bw bt vs ws ts) {i : Int} (h0 : 0 ≤ i) (h1 : i < ws.length) : w.cell? ⟨bw, i.toNat, none⟩ = some (.int .i64 (rd ws i)) := h.cw (by omega)
theorem ArIn.fw (h : ArIn L w a bw bt vs ws ts) (i : Nat) : w.frozen? ⟨bw, i, none⟩ = false := h.bws.frozen i

/-- A word is stored. -/
theorem ArIn.poke (h : ArIn L w a bw bt vs ws ts) (i : Nat) (v : Int) : ArIn L (w.setCell ⟨bw, i, none⟩ (.int .i64 v)) a bw bt vs (ws.set i v) ts ∧ Keeps L w (w.setCell ⟨bw, i, none⟩ (.int .i64 v)) := by
  have k : Keeps L w (w.setCell ⟨bw, i, none⟩ (.int .i64 v)) := (Keeps.refl L w).setCell h.lw _
  refine ⟨⟨h.bd.setCell _ _, h.la, h.lw, h.lt, ?_, ?_, h.bts.far (h.bts.ne_ h.bws (by decide)) _, h.vl, fun c hc => ownsRow_setCell_other (h.row c hc) (own_blk_ne (h.row c hc) h.bws (by decide)) _, h.lrow, h.apart, by simpa using h.wsl, h.tsl⟩, k⟩
  · have := h.ba.far (p := ⟨bw, i, none⟩) (h.ba.ne_ h.bws (by decide)) (.int .i64 v)
    simpa using this
  · have := h.bws.set_ i (.int .i64 v)
    simpa [List.map_set] using this

theorem note_calls (h : ArAt L w a ws ts) (c : Int) (h0 : 0 ≤ c) (h1 : c < ts.length) (x : Acc) {m : Nat} (hs : Short m ts) (hm : m ≤ 1099511627776) :
    Calls Try.prog 68 #[.pointer (some ⟨a, 0, none⟩), .int .i64 c, encAcc x] w fun e w' => e = .returned (.tuple #[]) ∧ ArAt L w' a ws (noted ts c x) ∧ Keeps L w w' := by
  obtain ⟨bw, bt, vs, h⟩ := h
  refine (note_in h c h0 h1 x (Nat.le_trans (hs.at_) hm)).mono ?_
  rintro e w' ⟨h1, ⟨vs', h2⟩, h3⟩
  exact ⟨h1, ⟨bw, bt, vs', h2⟩, h3⟩

/-- What the arena's own methods see. -/
theorem note_calls_in (h : ArIn L w a bw bt vs ws ts) (c : Int) (h0 : 0 ≤ c) (h1 : c < ts.length) (wr : Bool) (at_ : Int) (t : TypeId) (ht : t = if wr then 91 else 93) {m : Nat} (hs : Short m ts) (hm : m ≤ 1099511627776) :
    Calls Try.prog 68 #[.pointer (some ⟨a, 0, none⟩), .int .i64 c, .iface t (.int .i64 at_)] w fun e w' => e = .returned (.tuple #[]) ∧ ∃ vs', ArIn L w' a bw bt vs' ws (noted ts c (at_, wr)) ∧ Keeps L w w' := by
  subst ht
  refine (note_in h c h0 h1 (at_, wr) (Nat.le_trans (hs.at_) hm)).mono ?_
  rintro e w' ⟨h1, ⟨vs', h2⟩, h3⟩
  exact ⟨h1, vs', h2, h3⟩

theorem load_ok (h : ArAt L w a ws ts) (c i : Int) (h0 : 0 ≤ c) (h1 : c < ts.length) (h2 : 0 ≤ i) (h3 : i < ws.length) {m : Nat} (hs : Short m ts) (hm : m ≤ 1099511627776) :
    Calls Try.prog 59 #[.pointer (some ⟨a, 0, none⟩), .int .i64 c, .int .i64 i] w fun e w' => e = .returned (.tuple #[.int .i64 (rd ws i), .int .i64 0]) ∧
      ArAt L w' a ws (noted ts c (i, false)) ∧ Keeps L w w' := by
  have hp := Lib.hid (place_ok h c i h0 h1 h2 h3)
  obtain ⟨bw, bt, vs, h⟩ := h
  have hn := Lib.hid (note_calls_in h c h0 h1 false i _ rfl hs hm)
  have hl := h.wsl
  clear h
  go_enter Try.func59, Try.ntmps59
  go_wp2_with (first
    | (go_at_call 67; refine hp.out.mono ?_; rintro e w' ⟨rfl, rfl⟩)
    | (go_at_call 68; refine hn.out.mono ?_; rintro e w' ⟨rfl, vs', hA, hK⟩; have c0 := hA.c0; have cw := hA.cwI h2 h3; have HA := Lib.hid hA; clear hA))
  go_ret2
  exact ⟨rfl, ⟨_, _, _, HA.out⟩, hK⟩

theorem ArIn.pokeI (h : ArIn L w a bw bt vs ws ts) (i : Int) (v : Int) : ArIn L (w.setCell ⟨bw, i.toNat, none⟩ (.int .i64 v)) a bw bt vs (wr ws i v) ts ∧ Keeps L w (w.setCell ⟨bw, i.toNat, none⟩ (.int .i64 v)) := h.poke i.toNat v

theorem store_ok (h : ArAt L w a ws ts) (c i v : Int) (h0 : 0 ≤ c) (h1 : c < ts.length) (h2 : 0 ≤ i) (h3 : i < ws.length) {m : Nat} (hs : Short m ts) (hm : m ≤ 1099511627776) :
    Calls Try.prog 57 #[.pointer (some ⟨a, 0, none⟩), .int .i64 c, .int .i64 i, .int .i64 v] w fun e w' => e = .returned (.int .i64 0) ∧
      ArAt L w' a (wr ws i v) (noted ts c (i, true)) ∧ Keeps L w w' := by
  have hp := Lib.hid (place_ok h c i h0 h1 h2 h3)
  obtain ⟨bw, bt, vs, h⟩ := h
  have hn := Lib.hid (note_calls_in h c h0 h1 true i _ rfl hs hm)
  have hl := h.wsl
  clear h
  go_enter Try.func57, Try.ntmps57
  go_wp2_with (first
    | (go_at_call 67; refine hp.out.mono ?_; rintro e w' ⟨rfl, rfl⟩)
    | (go_at_call 68; refine hn.out.mono ?_; rintro e w' ⟨rfl, vs', hA, hK⟩; have c0 := hA.c0; have cw := hA.cwI h2 h3; have cf := hA.fw i.toNat; have HA := Lib.hid hA; clear hA))
  go_ret
  have hp := HA.out.pokeI i v
  exact ⟨rfl, ⟨_, _, _, hp.1⟩, hK.trans hp.2⟩

theorem add_ok (h : ArAt L w a ws ts) (c i v : Int) (h0 : 0 ≤ c) (h1 : c < ts.length) (h2 : 0 ≤ i) (h3 : i < ws.length) {m : Nat} (hs : Short m ts) (hm : m ≤ 1099511627776) :
    Calls Try.prog 54 #[.pointer (some ⟨a, 0, none⟩), .int .i64 c, .int .i64 i, .int .i64 v] w fun e w' => e = .returned (.tuple #[.int .i64 (wrap64 (rd ws i + v)), .int .i64 0]) ∧
      ArAt L w' a (wr ws i (wrap64 (rd ws i + v))) (noted ts c (i, true)) ∧ Keeps L w w' := by
  have hp := Lib.hid (place_ok h c i h0 h1 h2 h3)
  obtain ⟨bw, bt, vs, h⟩ := h
  have hn := Lib.hid (note_calls_in h c h0 h1 true i _ rfl hs hm)
  have hl := h.wsl
  have hab := h.ba.ne_ h.bws (by decide)
  clear h
  go_enter Try.func54, Try.ntmps54
  go_wp2_with (first
    | (go_at_call 67; refine hp.out.mono ?_; rintro e w' ⟨rfl, rfl⟩)
    | (go_at_call 68; refine hn.out.mono ?_; rintro e w' ⟨rfl, vs', hA, hK⟩; have c0 := hA.c0; have cw := hA.cwI h2 h3; have cf := hA.fw i.toNat; have HA := Lib.hid hA; clear hA))
  go_ret2
  have hp := HA.out.pokeI i (wrap64 (rd ws i + v))
  exact ⟨rfl, ⟨_, _, _, hp.1⟩, hK.trans hp.2⟩

theorem cores_calls (h : ArAt L w a ws ts) : Calls Try.prog 49 #[.pointer (some ⟨a, 0, none⟩)] w fun e w' => e = .returned (.int .i64 ts.length) ∧ w = w' := by
  obtain ⟨bw, bt, vs, h⟩ := h
  have c1 := h.c1
  clear h
  go_enter Try.func49, Try.ntmps49
  go_wp2
  go_ret
  exact ⟨rfl, rfl⟩

theorem poke_ok (h : ArAt L w a ws ts) (i v : Int) (h2 : 0 ≤ i) (h3 : i < ws.length) :
    Calls Try.prog 48 #[.pointer (some ⟨a, 0, none⟩), .int .i64 i, .int .i64 v] w fun e w' => e = .returned (.tuple #[]) ∧ ArAt L w' a (wr ws i v) ts ∧ Keeps L w w' := by
  obtain ⟨bw, bt, vs, h⟩ := h
  have c0 := h.c0
  have cw := h.cwI h2 h3
  have cf := h.fw i.toNat
  have hl := h.wsl
  have HA := Lib.hid h
  clear h
  go_enter Try.func48, Try.ntmps48
  go_wp2
  go_end0
  have hp := HA.out.pokeI i v
  exact ⟨rfl, ⟨_, _, _, hp.1⟩, hp.2⟩

theorem clear_ok (h : ArAt L w a ws ts) (c : Int) (h0 : 0 ≤ c) (h1 : c < ts.length) :
    Calls Try.prog 23 #[.pointer (some ⟨a, 0, none⟩), .int .i64 c] w fun e w' => e = .returned (.int .i64 0) ∧ ArAt L w' a ws (ts.set c.toNat []) ∧ Keeps L w w' := by
  have hp := Lib.hid (core_ok h c h0 h1)
  obtain ⟨bw, bt, vs, h⟩ := h
  have c1 := h.c1
  have ct := h.ct (c := c.toNat) (by omega)
  have cf := h.bts.frozen c.toNat
  have hl := h.tsl
  have HA := Lib.hid h
  clear h
  go_enter Try.func23, Try.ntmps23
  go_wp2_with (go_at_call 46; refine hp.out.mono ?_; rintro e w' ⟨rfl, rfl⟩)
  go_ret
  have h := HA.out
  refine ⟨rfl, ⟨bw, bt, vs.set c.toNat (.slice none 0 0), ?_⟩, (Keeps.refl _ _).setCell h.lt _⟩
  have hvl := h.vl
  have get : ∀ j, (vs.set c.toNat (Value.slice none 0 0)).getD j undef = if j = c.toNat then .slice none 0 0 else vs.getD j undef := fun j => by
    by_cases e : j = c.toNat
    · subst e; simp [List.getD, hvl, show c.toNat < ts.length by omega]
    · simp [List.getD, Ne.symm e, e]
  have gett : ∀ j, (ts.set c.toNat []).getD j [] = if j = c.toNat then [] else ts.getD j [] := fun j => by
    by_cases e : j = c.toNat
    · subst e; simp [List.getD, show c.toNat < ts.length by omega]
    · simp [List.getD, Ne.symm e, e]
  refine ⟨h.bd.setCell _ _, h.la, h.lw, h.lt, ?_, h.bws.far (h.bws.ne_ h.bts (by decide)) _, ?_, ?_, ?_, ?_, ?_, h.wsl, by simpa using h.tsl⟩
  · have := h.ba.far (p := ⟨bt, c.toNat, none⟩) (h.ba.ne_ h.bts (by decide)) (.slice none 0 0)
    simpa using this
  · have := h.bts.set_ c.toNat (.slice none 0 0)
    simpa using this
  · simpa using hvl
  · intro j hj
    rw [List.length_set] at hj
    rw [get, gett]
    by_cases e : j = c.toNat
    · rw [if_pos e, if_pos e]; exact World.ownsRow_nil _ _ _ _
    · rw [if_neg e, if_neg e]
      exact ownsRow_setCell_other (h.row j hj) (own_blk_ne (h.row j hj) h.bts (by decide)) _
  · intro j hj b hb
    rw [List.length_set] at hj
    rw [get] at hb
    by_cases e : j = c.toNat
    · rw [if_pos e] at hb; cases hb
    · rw [if_neg e] at hb; exact h.lrow j hj b hb
  · intro j k hj hk hne b hb1 hb2
    rw [List.length_set] at hj hk
    rw [get] at hb1 hb2
    by_cases e : j = c.toNat
    · rw [if_pos e] at hb1; cases hb1
    · by_cases e' : k = c.toNat
      · rw [if_pos e'] at hb2; cases hb2
      · rw [if_neg e] at hb1; rw [if_neg e'] at hb2
        exact h.apart j k hj hk hne b hb1 hb2

end
end Go.Proofs.Ytkbajjpdngfhbaa
