
/- concourseref1.Arena: at, Touch; law2.clear1. -/
import Derived.Test.YtpmgfjglkbbhgaaRefDef
import Derived.Test.YtpmgfjglkbbhgaaArP
import Derived.Handy
import Derived.Deep.RegionLaw
import Derived.Deep.DeepCutAuto
import Derived.Deep.CutBlock
namespace Go.Proofs.Ytpmgfjglkbbhgaa
open Go.RowKit
set_option maxHeartbeats 1000000

section
variable {L : Nat → Prop} {w : World} {a bw bt : Nat} {vs : List Value} {ws : List Int} {ts : List (List Acc)}
theorem RfIn.cwI (h : RfIn L w a bw bt vs ws ts) {i : Int} (h0 : 0 ≤ i) (h1 : i < ws.length) : w.cell? ⟨bw, i.toNat, none⟩ = some (.int .i64 (rd ws i)) := h.cw (by omega)
theorem RfIn.fw (h : RfIn L w a bw bt vs ws ts) (i : Nat) : w.frozen? ⟨bw, i, none⟩ = false := h.bws.frozen i
theorem RfIn.pokeI (h : RfIn L w a bw bt vs ws ts) (i : Int) (v : Int) : RfIn L (w.setCell ⟨bw, i.toNat, none⟩ (.int .i64 v)) a bw bt vs (wr ws i v) ts ∧ Keeps L w (w.setCell ⟨bw, i.toNat, none⟩ (.int .i64 v)) := h.poke i.toNat v
theorem RfIn.drew' (h : RfIn L w a bw bt vs ws ts) : RfIn L w.drew a bw bt vs ws ts := h.move h.bd (fun _ hb _ => hb) (fun _ _ _ => rfl)
theorem rat_ok (h : RfAt L w a ws ts) (c i : Int) (h0 : 0 ≤ c) (h1 : c < ts.length) (h2 : 0 ≤ i) (h3 : i < ws.length) :
    Calls Try.prog 51 #[.pointer (some ⟨a, 0, none⟩), .int .i64 c, .int .i64 i] w fun e w' => e = .returned (.int .i64 0) ∧ w = w' := by
  obtain ⟨bw, bt, vs, h⟩ := h
  have c0 := h.c0
  have c1 := h.c1
  have hl := h.wsl
  have hl2 := h.tsl
  clear h
  go_enter Try.func51, Try.ntmps51
  go_wp2
  go_ret
  exact ⟨rfl, rfl⟩
theorem rat_core (h : RfAt L w a ws ts) (c i : Int) (hc : c < 0 ∨ ts.length ≤ c) :
    Calls Try.prog 51 #[.pointer (some ⟨a, 0, none⟩), .int .i64 c, .int .i64 i] w fun e w' => e = .returned (.int .i64 202) ∧ w = w' := by
  obtain ⟨bw, bt, vs, h⟩ := h
  have c0 := h.c0
  have c1 := h.c1
  have hl := h.wsl
  have hl2 := h.tsl
  clear h
  rcases hc with hc | hc
  · go_enter Try.func51, Try.ntmps51
    go_wp2
    go_ret
    exact ⟨rfl, rfl⟩
  · have h0 : 0 ≤ c := by omega
    go_enter Try.func51, Try.ntmps51
    go_wp2
    go_ret
    exact ⟨rfl, rfl⟩
theorem rat_word (h : RfAt L w a ws ts) (c i : Int) (h0 : 0 ≤ c) (h1 : c < ts.length) (hi : i < 0 ∨ ws.length ≤ i) :
    Calls Try.prog 51 #[.pointer (some ⟨a, 0, none⟩), .int .i64 c, .int .i64 i] w fun e w' => e = .returned (.int .i64 201) ∧ w = w' := by
  obtain ⟨bw, bt, vs, h⟩ := h
  have c0 := h.c0
  have c1 := h.c1
  have hl := h.wsl
  have hl2 := h.tsl
  clear h
  rcases hi with hc | hc
  · go_enter Try.func51, Try.ntmps51
    go_wp2
    go_ret
    exact ⟨rfl, rfl⟩
  · have h0 : 0 ≤ i := by omega
    go_enter Try.func51, Try.ntmps51
    go_wp2
    go_ret
    exact ⟨rfl, rfl⟩
theorem touch_err {k : Int} (hk : (k != 0) = true) (kind c i old v : Int) (hp : Calls Try.prog 51 #[.pointer (some ⟨a, 0, none⟩), .int .i64 c, .int .i64 i] w fun e w' => e = .returned (.int .i64 k) ∧ w = w') :
    Calls Try.prog 32 #[.pointer (some ⟨a, 0, none⟩), .int .i64 kind, .int .i64 c, .int .i64 i, .int .i64 old, .int .i64 v] w fun e w' => e = .returned (.tuple #[.int .i64 0, .bool false, .int .i64 k]) ∧ w = w' := by
  have hp := Lib.hid hp
  go_enter Try.func32, Try.ntmps32
  go_wp2_with (go_at_call 51; refine hp.out.mono ?_; rintro e w' ⟨rfl, rfl⟩)
  go_ret3
  exact ⟨rfl, rfl⟩

/-- What a Touch does: is it a writing, and what does the word hold behind it. -/
def TouchK (kind x old v : Int) (wf : Bool) (nw : Int) : Prop :=
  (kind = 0 ∧ wf = false ∧ nw = x) ∨ (kind = 1 ∧ wf = true ∧ nw = v) ∨ (kind = 2 ∧ x = old ∧ wf = true ∧ nw = v) ∨ (kind = 2 ∧ x ≠ old ∧ wf = false ∧ nw = x) ∨ (kind = 3 ∧ wf = true ∧ nw = wrap64 (x + v))

set_option maxRecDepth 100000 in
theorem touch_gen (h : RfAt L w a ws ts) (kind c i old v : Int) (h0 : 0 ≤ c) (h1 : c < ts.length) (h2 : 0 ≤ i) (h3 : i < ws.length) {wf : Bool} {nw : Int} (hk : TouchK kind (rd ws i) old v wf nw) (hs : (tr ts c).length ≤ 1099511627776) :
    Calls Try.prog 32 #[.pointer (some ⟨a, 0, none⟩), .int .i64 kind, .int .i64 c, .int .i64 i, .int .i64 old, .int .i64 v] w fun e w' => e = .returned (.tuple #[.int .i64 nw, .bool wf, .int .i64 0]) ∧ RfAt L w' a (wr ws i nw) (noted ts c (i, wf)) ∧ Keeps L w w' := by
  have hp := Lib.hid (rat_ok h c i h0 h1 h2 h3)
  obtain ⟨bw, bt, vs, h⟩ := h
  obtain ⟨i0, hi, hz0, hz1, hz2⟩ := info_parts info_acc
  have hl := h.wsl
  have hl2 := h.tsl
  have c0 := h.c0
  have cw := h.cwI h2 h3
  have cf := h.fw i.toNat
  have hna : a ≠ bt := h.ba.ne_ h.bts (by decide)
  have hnw : bw ≠ bt := h.bws.ne_ h.bts (by decide)
  have hnaw : a ≠ bw := h.ba.ne_ h.bws (by decide)
  have HP := Lib.hid (fun u => h.pokeI i u)
  have HID := Lib.hid (show nw = rd ws i → wr ws i nw = ws from fun e => wr_rd e.symm ⟨h2, h3⟩)
  have HH := Lib.hid h
  obtain ⟨c, rfl⟩ := Int.eq_ofNat_of_zero_le h0
  have hc : c < ts.length := by omega
  have hrw : rd (wr ws i nw) i = nw := rd_wr ⟨h2, h3⟩ h2 |>.trans (if_pos rfl)
  have HRW := Lib.hid hrw
  clear h hrw
  generalize hx : rd ws i = x at *
  have HXX := Lib.hid hx
  have HK := Lib.hid hk
  clear hx hk
  go_enter Try.func32, Try.ntmps32
  go_wp2_with (fail)
  refine hp.out.mono ?_
  rintro e w' ⟨rfl, rfl⟩
  go_upto_region 4 with (fail)
  go_cut [16] (fun s wx => s = .bool wf ∧ wx = w)
  case first =>
    rcases HK.out with ⟨rfl, rfl, _⟩ | ⟨rfl, rfl, _⟩ | ⟨rfl, hne, rfl, _⟩ | ⟨rfl, hne, rfl, _⟩ | ⟨rfl, rfl, _⟩
    · go_wp2_with (fail)
      go_meet
      case rel => exact ⟨rfl, rfl⟩
    · go_wp2_with (fail)
      go_meet
      case rel => exact ⟨rfl, rfl⟩
    · have hne' : (x == old) = true := by simpa using hne
      clear hne
      go_wp2_with (fail)
      go_meet
      case rel => exact ⟨rfl, rfl⟩
    · have hne' : (x == old) = false := by simpa using hne
      clear hne
      go_wp2_with (fail)
      go_meet
      case rel => exact ⟨rfl, rfl⟩
    · go_wp2_with (fail)
      go_meet
      case rel => exact ⟨rfl, rfl⟩
  case rest =>
    obtain ⟨rfl, rfl⟩ := hcut
    go_upto_block 0 with fail
    go_cut [63] (fun _ wx => RfIn L wx a bw bt vs (wr ws i nw) ts ∧ Keeps L wc wx)
    case first =>
      have same : nw = x → RfIn L wc a bw bt vs (wr ws i nw) ts ∧ Keeps L wc wc := fun e => ⟨by rw [HID.out e]; exact HH.out, Keeps.refl _ _⟩
      have HSM := Lib.hid same
      clear same
      rcases HK.out with ⟨rfl, rfl, hn⟩ | ⟨rfl, rfl, hn⟩ | ⟨rfl, _, rfl, hn⟩ | ⟨rfl, _, rfl, hn⟩ | ⟨rfl, rfl, hn⟩
      · have HN := Lib.hid hn
        clear hn
        go_wp2_with (fail)
        go_meet
        case rel => exact HSM.out HN.out
      · subst hn
        go_wp2_with (fail)
        go_meet
        case rel => exact HP.out _
      · subst hn
        go_wp2_with (fail)
        go_meet
        case rel => exact HP.out _
      · have HN := Lib.hid hn
        clear hn
        go_wp2_with (fail)
        go_meet
        case rel => exact HSM.out HN.out
      · have HN := Lib.hid hn
        clear hn
        go_wp2_with (fail)
        go_region
        all_goals (
          go_wp2_with (fail)
          go_meet
          case rel =>
            rw [HN.out]
            have := HP.out (wrap64 (x + v))
            exact ⟨this.1.drew', this.2.drew⟩)
    case rest =>
      have HCUT := Lib.hid hcut
      have H1 := hcut.1
      obtain ⟨ws2, hws2⟩ : ∃ ws2, wr ws i nw = ws2 := ⟨_, rfl⟩
      rw [hws2] at H1
      have hl3 : ws2.length = ws.length := by rw [← hws2]; simp
      have cw := H1.cwI h2 (by omega)
      have HWS := Lib.hid hws2
      rw [show rd ws2 i = nw by rw [← hws2]; exact HRW.out] at cw
      clear hws2 hcut
      have c0 := H1.c0
      have c1 := H1.c1
      have ct := H1.ct hc
      have la := H1.ba.lt
      have lt := H1.bts.lt
      have lw := H1.bws.lt
      have hown := Lib.hid (H1.row c hc)
      have NE := Lib.hid (own_blk_ne (H1.row c hc) H1.bts (by decide))
      have NA := Lib.hid (own_blk_ne (H1.row c hc) H1.ba (by decide))
      have NW := Lib.hid (own_blk_ne (H1.row c hc) H1.bws (by decide))
      have fbt : wc.frozen? ⟨bt, c, none⟩ = false := H1.bts.frozen c
      have HH1 := Lib.hid H1
      clear H1 cf
      generalize hv : vs.getD c undef = v0 at *
      have HV := Lib.hid hv
      clear hv
      have etr : ts.getD c [] = tr ts (c : Int) := rfl
      rw [etr] at hown
      clear etr
      generalize ht : tr ts (c : Int) = tt at *
      have HT := Lib.hid ht
      clear ht
      go_upto_region 9 with (fail)
      go_cut [88] (fun _ wx => (∃ vs', RfIn L wx a bw bt vs' ws2 (noted ts (c : Int) (i, wf))) ∧ Keeps L wc wx)
      case first =>
        go_region_law ((refine step_append_lies _ rfl (.tmp 83) (.tmp 87) 37 rfl 0 40 i0 _ 2 16 Try.underlying37 hi hz0 hz1 hz2 rfl (by decide) v0 _ _ rfl ((hown.out.alloc (Obj.cells #[.int .i64 i, .bool wf] 40))) ⟨wc.heap.size, 0, none⟩ 1 1 [.int .i64 i, .bool wf] rfl rfl (cell_two_new _ _ _ _) (by intro u hu; simp at hu; rcases hu with rfl | rfl <;> rfl) (by decide) (by simp only [maxLen]; omega) (by omega) (Nat.zero_le _) _ rfl ?_
                        intro g cap w1 hown1 hgrow hat hlt
                        have ne1 : some bt ≠ v0.ownBlock := fun e => NE.out e.symm
                        have k1 : w1.cell? ⟨bt, c, none⟩ = some v0 := (hgrow.cell_far ⟨bt, c, none⟩ (by simp; omega) ne1).trans ((World.cell?_alloc_past _ _ _ lt).trans ct)
                        have k2 : w1.frozen? ⟨bt, c, none⟩ = false := (hgrow.frozen_far ⟨bt, c, none⟩ (by simp; omega) ne1).trans ((World.frozen?_alloc_past _ _ _ lt).trans fbt)
                        have ne2 : some a ≠ v0.ownBlock := fun e => NA.out e.symm
                        have k3 := (hgrow.cell_far ⟨a, 1, none⟩ (by simp; omega) ne2).trans ((World.cell?_alloc_past _ _ _ la).trans c1)
                        clear ne1 ne2))
        all_goals (
          go_wp2_with (fail)
          go_meet
          case rel =>
            have hend := rnote_end HH1.out hc HV.out (x := (i, wf)) rfl HT.out hown1 hgrow (by simpa using hat)
            exact ⟨⟨_, hend.1⟩, hend.2⟩)
      case rest =>
        obtain ⟨⟨vs2, hR⟩, hK2⟩ := hcut
        have HR := Lib.hid hR
        have c02 := hR.c0
        have cw2 := hR.cwI h2 (by omega)
        rw [show rd ws2 i = nw by rw [← HWS.out]; exact HRW.out] at cw2
        clear hR c0 c1 ct cw
        go_wp2_with (fail)
        go_ret3
        rw [HWS.out]
        exact ⟨rfl, ⟨_, _, _, HR.out⟩, HCUT.out.2.trans hK2⟩
end
end Go.Proofs.Ytpmgfjglkbbhgaa
