
/- ArenaActs: the walk. -/
import Derived.Test.YtpmgfjglkbbhgaaArTr
import Derived.Test.YtpmgfjglkbbhgaaAwake2
namespace Go.Proofs.Ytpmgfjglkbbhgaa
open Go.RowKit
set_option maxHeartbeats 4000000

def ext (L : Nat → Prop) (w w' : World) : Nat → Prop := fun b => L b ∨ (w.heap.size ≤ b ∧ b < w'.heap.size)
/-- Both arenas hold the same; neither's calls touch the other. -/
structure Both (B : Nat) (L1 L2 : Nat → Prop) (w : World) (a r : Nat) (ws : List Int) (ts : List (List Acc)) : Prop where
  ar : ArAt L1 w a ws ts
  rf : RfAt L2 w r ws ts
  cov : ∀ b, b < w.heap.size → L1 b ∨ L2 b
  base : ∀ b, b < B → L1 b ∧ L2 b
section
variable {B : Nat} {L1 L2 : Nat → Prop} {w w' w2 : World} {a r : Nat} {ws ws' : List Int} {ts ts' : List (List Acc)}
theorem Both.alloc (h : Both B L1 L2 w a r ws ts) (o : Obj) : Both B (ins L1 w.heap.size) (ins L2 w.heap.size) (w.alloc o) a r ws ts :=
  ⟨h.ar.allocIns o, h.rf.allocIns o, fun b hb => by
    by_cases e : b = w.heap.size
    · exact .inl (.inr e)
    · rcases h.cov b (by simp at hb; omega) with h1 | h1
      · exact .inl (.inl h1)
      · exact .inr (.inl h1), fun b hb => ⟨.inl (h.base b hb).1, .inl (h.base b hb).2⟩⟩
theorem Both.mid (h : Both B L1 L2 w a r ws ts) (hA : ArAt L1 w' a ws' ts') (hK : Keeps L1 w w') : RfAt (ext L2 w w') w' r ws ts :=
  h.rf.move (fun b hb => by
    rcases hb with hb | hb
    · exact Nat.lt_of_lt_of_le (h.rf.bd b hb) hK.size
    · exact hb.2) (fun b hb hlt => by
    rcases hb with hb | hb
    · exact hb
    · omega) (fun b hlt hn => hK.block b ((h.cov b hlt).resolve_right hn))
theorem Both.step (h : Both B L1 L2 w a r ws ts) (hA : ArAt L1 w' a ws' ts') (hK : Keeps L1 w w') (hR : RfAt (ext L2 w w') w2 r ws' ts') (hK2 : Keeps (ext L2 w w') w' w2) : Both B (ext L1 w' w2) (ext L2 w w') w2 a r ws' ts' := by
  refine ⟨hA.move (fun b hb => ?_) (fun b hb hlt => ?_) (fun b hlt hn => ?_), hR, fun b hb => ?_, fun b hb => ⟨.inl (h.base b hb).1, .inl (h.base b hb).2⟩⟩
  · rcases hb with hb | hb
    · exact Nat.lt_of_lt_of_le (hA.bd b hb) hK2.size
    · exact hb.2
  · rcases hb with hb | hb
    · exact hb
    · omega
  · refine hK2.block b ?_
    by_cases hw : b < w.heap.size
    · exact .inl ((h.cov b hw).resolve_left hn)
    · exact .inr ⟨by omega, hlt⟩
  · by_cases h1 : b < w.heap.size
    · rcases h.cov b h1 with h2 | h2
      · exact .inl (.inl h2)
      · exact .inr (.inl h2)
    · by_cases h3 : b < w'.heap.size
      · exact .inr (.inr ⟨by omega, h3⟩)
      · exact .inl (.inr ⟨by omega, hb⟩)
theorem Both.keep (h : Both B L1 L2 w a r ws ts) (hb : Below w.heap.size w w') (hB : B ≤ w.heap.size) : Both B (ext L1 w w') (ext L2 w w') w' a r ws ts := by
  refine ⟨h.ar.move (fun b hl => ?_) (fun b hl hlt => ?_) (fun b hlt _ => hb.block b hlt), h.rf.move (fun b hl => ?_) (fun b hl hlt => ?_) (fun b hlt _ => hb.block b hlt), fun b hl => ?_, fun b hl => ⟨.inl (h.base b hl).1, .inl (h.base b hl).2⟩⟩
  · rcases hl with hl | hl
    · exact Nat.lt_of_lt_of_le (h.ar.bd b hl) hb.size
    · exact hl.2
  · rcases hl with hl | hl
    · exact hl
    · omega
  · rcases hl with hl | hl
    · exact Nat.lt_of_lt_of_le (h.rf.bd b hl) hb.size
    · exact hl.2
  · rcases hl with hl | hl
    · exact hl
    · omega
  · by_cases h1 : b < w.heap.size
    · rcases h.cov b h1 with h2 | h2
      · exact .inl (.inl h2)
      · exact .inr (.inl h2)
    · exact .inl (.inr ⟨by omega, hl⟩)
end

/-- Where the acts stand. -/
def ActsSt (w wr : World) (a r k n wl : Nat) : Prop := Below w.heap.size w wr ∧ ∃ L1 L2 ws ts, Both w.heap.size L1 L2 wr a r ws ts ∧ ts.length = n ∧ Short k ts ∧ ws.length ≤ wl
theorem ActsSt.step {w wr w4 w5 : World} {a r k n : Nat} {L1 L2 : Nat → Prop} {ws ws2 : List Int} {ts ts2 : List (List Acc)} {o : Obj} (hbel : Below w.heap.size w wr) (h : Both w.heap.size (ins L1 wr.heap.size) (ins L2 wr.heap.size) (wr.alloc o) a r ws ts)
    (hA : ArAt (ins L1 wr.heap.size) w4 a ws2 ts2) (hK : Keeps (ins L1 wr.heap.size) (wr.alloc o) w4) (hR : RfAt (ext (ins L2 wr.heap.size) (wr.alloc o) w4) w5 r ws2 ts2) (hK2 : Keeps (ext (ins L2 wr.heap.size) (wr.alloc o) w4) w4 w5)
    (hn : ts2.length = n) (hs : Short k ts2) : ActsSt w w5 a r k n 65536 := by
  refine ⟨((hbel.alloc hbel.size o).trans (hK.below fun b hb => (h.base b hb).1)).trans (hK2.below fun b hb => .inl (h.base b hb).2), _, _, ws2, ts2, h.step hA hK hR hK2, hn, hs, hA.wsl⟩

set_option maxRecDepth 100000 in
theorem aacts_walk (w : World) (words : Int) (hww : (Lit.int .i64 words).wf = true) (cores : Int) (hcw : (Lit.int .i64 cores).wf = true) {A : Option Addr} {len cap : Nat} {F : Nat → Nat → Int} (hx : Acts w A len cap 5 F) :
    Calls Try.prog 10 #[.int .i64 words, .int .i64 cores, .slice A len cap] w fun e w' => e = .returned (.bool true) ∧ Below w.heap.size w w' := by
  have hle := hx.len_le
  have HX := Lib.hid hx
  clear hx
  by_cases hbad : words < 1 ∨ 65536 < words ∨ cores < 1 ∨ 8 < cores
  · have H1 := Lib.hid (new_err w words cores hbad)
    have H2 := Lib.hid (rnew_err w words cores hbad)
    clear hbad
    go_enter Try.func10, Try.ntmps10
    go_wp2_with (fail)
    refine H1.out.mono ?_
    rintro e w' ⟨rfl, rfl⟩
    go_wp2_with (fail)
    refine H2.out.mono ?_
    rintro e w' ⟨rfl, rfl⟩
    go_wp2_with (go_at_call 18; refine (num_calls _ _).mono ?_; rintro e w' ⟨rfl, rfl⟩)
    refine (awake2 w).mono ?_
    rintro e w1 ⟨rfl, hB⟩
    go_wp2_with (go_at_call 18; refine (num_calls _ _).mono ?_; rintro e w' ⟨rfl, rfl⟩)
    go_ret
    exact ⟨rfl, hB⟩
  · obtain ⟨n, rfl⟩ : ∃ n : Nat, cores = n := ⟨cores.toNat, by omega⟩
    obtain ⟨wl, rfl⟩ : ∃ wl : Nat, words = wl := ⟨words.toNat, by omega⟩
    have hn1 : 1 ≤ n ∧ n ≤ 8 := by omega
    have hw1 : 1 ≤ wl ∧ wl ≤ 65536 := by omega
    clear hbad hww hcw
    go_enter Try.func10, Try.ntmps10
    go_wp2_with (fail)
    refine (new_to (ws := List.replicate wl 0) (ts := List.replicate n []) (Bd.below w) (by omega) (by omega) (by rw [Int.toNat_natCast]) (by rw [Int.toNat_natCast])).mono ?_
    rintro e w2 ⟨a, rfl, hA, hK⟩
    go_wp2_with (fail)
    refine (rnew_ok (Bd.below w2) (wl : Int) (n : Int) (by omega) (by omega) (by omega) (by omega)).mono ?_
    rintro e w3 ⟨r, rfl, hR, hK2⟩
    rw [Int.toNat_natCast, Int.toNat_natCast] at hR
    have hB2 := hK2.below (B := w2.heap.size) fun _ h => h
    have HST := Lib.hid (show ActsSt w w3 a r 0 n 65536 from ⟨(hK.below fun _ h => h).trans (hB2.mono hK.size), fun b => b < w.heap.size ∨ (w2.heap.size ≤ b ∧ b < w3.heap.size), fun b => b < w2.heap.size, _, _, ⟨hA.belowNew hB2, hR, fun b hb => by omega, fun b hb => ⟨.inl hb, Nat.lt_of_lt_of_le hb hK.size⟩⟩, by simp, by intro t ht; simp at ht; simp [ht], by simp; omega⟩)
    have hwc := Lib.hid (words_calls (hA.below hB2))
    have hcc := Lib.hid (cores_calls (hA.below hB2))
    simp only [List.length_replicate] at hwc hcc
    clear hA hK hR hK2 hB2
    go_wp2_with (first
      | (go_at_call 18; refine (num_calls _ _).mono ?_; rintro e w' ⟨rfl, rfl⟩)
      | (go_at_call 30; refine hwc.out.mono ?_; rintro e w' ⟨rfl, rfl⟩)
      | (go_at_call 31; refine hcc.out.mono ?_; rintro e w' ⟨rfl, rfl⟩))
    clear hwc hcc
    go_loopw [11] (fun i wr => ∃ k : Nat, i = .int .i64 k ∧ k ≤ len ∧ k ≤ 300 ∧ ActsSt w wr a r k n 65536) (fun i _ => len - (intOf i).toNat)
    case atStart => exact ⟨0, rfl, by omega, by omega, HST.out⟩
    case round =>
      clear HST
      obtain ⟨k, rfl, hk, hk1, hbel, L1, L2, ws, ts, hBo, htn, hsh, hwl⟩ := hrel
      by_cases hboth : k < len ∧ k < 300
      · obtain ⟨hlt, hlt2⟩ := hboth
        obtain ⟨gg, off, rfl, hcell⟩ := HX.out.at_ hlt hbel
        have q0 : wr.cell? ⟨gg, off + k * 5, none⟩ = some (.int .i64 (F k 0)) := (hcell 0 (by omega)).1
        have q1 : wr.cell? ⟨gg, off + k * 5 + 1, none⟩ = some (.int .i64 (F k 1)) := (hcell 1 (by omega)).1
        have q2 : wr.cell? ⟨gg, off + k * 5 + 2, none⟩ = some (.int .i64 (F k 2)) := (hcell 2 (by omega)).1
        have q3 : wr.cell? ⟨gg, off + k * 5 + 3, none⟩ = some (.int .i64 (F k 3)) := (hcell 3 (by omega)).1
        have q4 : wr.cell? ⟨gg, off + k * 5 + 4, none⟩ = some (.int .i64 (F k 4)) := (hcell 4 (by omega)).1
        clear hcell
        generalize F k 0 = K at *
        generalize F k 1 = C at *
        generalize F k 2 = I at *
        generalize F k 3 = O at *
        generalize F k 4 = V at *
        have hlt3 : (k : Int) < 300 := by omega
        have HBL := Lib.hid (Blk.new wr 59 #[.int .i64 K, .int .i64 C, .int .i64 I, .int .i64 O, .int .i64 V])
        have HBO := Lib.hid (hBo.alloc (Obj.cells #[.int .i64 K, .int .i64 C, .int .i64 I, .int .i64 O, .int .i64 V] 59))
        have HSH := Lib.hid hsh
        have HBE := Lib.hid hbel
        have HTN := Lib.hid htn
        clear hBo hsh hbel htn
        have hkind : (K = 0 ∨ K = 1) ∨ K = 2 ∨ (K = 3 ∨ K = 4) ∨ K = 5 ∨ K = 6 ∨ (K ≠ 0 ∧ K ≠ 1 ∧ K ≠ 2 ∧ K ≠ 3 ∧ K ≠ 4 ∧ K ≠ 5 ∧ K ≠ 6) := by omega
        rcases hkind with hK | hK | hK | hK | hK | hK
        · as_aux_lemma =>
          obtain ⟨lv, cd, wf, ws4, ts4, hp⟩ := load_pair HBO.out.ar HSH.out (by omega) C I
          have HP := Lib.hid hp
          clear hp
          rcases hK with rfl | rfl
          all_goals (
            go_wp2_with (fail)
            refine HP.out.ar.mono ?_
            rintro e w4 ⟨rfl, hA4, hK4⟩
            have hb4 := hK4.blk HBL.out (ins.new _ _)
            have d1 := hb4.cell 1
            have d2 := hb4.cell 2
            have HA4 := Lib.hid hA4
            have HK4 := Lib.hid hK4
            clear hb4 hA4 hK4 q0 q1 q2 q3 q4
            go_wp2_with (go_at_call 18; refine (num_calls _ _).mono ?_; rintro e w' ⟨rfl, rfl⟩)
            refine (HP.out.rf _ _ _ (HBO.out.mid HA4.out HK4.out)).mono ?_
            rintro e w5 ⟨rfl, hR5, hK5⟩
            clear d1 d2
            go_wp2_with (go_at_call 18; refine (num_calls _ _).mono ?_; rintro e w' ⟨rfl, rfl⟩)
            go_roundw
            case rel => exact ⟨k + 1, by go_num, by omega, by omega, ActsSt.step HBE.out HBO.out HA4.out HK4.out hR5 hK5 (HP.out.ln.trans HTN.out) HP.out.sh⟩
            case measure => simp [intOf]; omega)
        · as_aux_lemma =>
          obtain ⟨lv, cd, wf, ws4, ts4, hp⟩ := store_pair HBO.out.ar HSH.out (by omega) C I V
          have HP := Lib.hid hp
          clear hp
          subst hK
          go_wp2_with (fail)
          refine HP.out.ar.mono ?_
          rintro e w4 ⟨rfl, hA4, hK4⟩
          have hb4 := hK4.blk HBL.out (ins.new _ _)
          have d1 := hb4.cell 1
          have d2 := hb4.cell 2
          have d4 := hb4.cell 4
          have HA4 := Lib.hid hA4
          have HK4 := Lib.hid hK4
          clear hb4 hA4 hK4 q0 q1 q2 q3 q4
          go_wp2_with (go_at_call 18; refine (num_calls _ _).mono ?_; rintro e w' ⟨rfl, rfl⟩)
          refine (HP.out.rf _ _ _ (HBO.out.mid HA4.out HK4.out)).mono ?_
          rintro e w5 ⟨rfl, hR5, hK5⟩
          clear d1 d2 d4
          go_wp2_with (go_at_call 18; refine (num_calls _ _).mono ?_; rintro e w' ⟨rfl, rfl⟩)
          go_roundw
          case rel => exact ⟨k + 1, by go_num, by omega, by omega, ActsSt.step HBE.out HBO.out HA4.out HK4.out hR5 hK5 (HP.out.ln.trans HTN.out) HP.out.sh⟩
          case measure => simp [intOf]; omega
        · as_aux_lemma =>
          obtain ⟨lv, cd, wf, ws4, ts4, hp⟩ := cas_pair HBO.out.ar HSH.out (by omega) C I O V
          have HP := Lib.hid hp
          clear hp
          rcases hK with rfl | rfl
          all_goals (
            go_wp2_with (fail)
            refine HP.out.ar.mono ?_
            rintro e w4 ⟨rfl, hA4, hK4⟩
            have hb4 := hK4.blk HBL.out (ins.new _ _)
            have d1 := hb4.cell 1
            have d2 := hb4.cell 2
            have d3 := hb4.cell 3
            have d4 := hb4.cell 4
            have HA4 := Lib.hid hA4
            have HK4 := Lib.hid hK4
            clear hb4 hA4 hK4 q0 q1 q2 q3 q4
            go_wp2_with (go_at_call 18; refine (num_calls _ _).mono ?_; rintro e w' ⟨rfl, rfl⟩)
            refine (HP.out.rf _ _ _ (HBO.out.mid HA4.out HK4.out)).mono ?_
            rintro e w5 ⟨rfl, hR5, hK5⟩
            clear d1 d2 d3 d4
            go_wp2_with (go_at_call 18; refine (num_calls _ _).mono ?_; rintro e w' ⟨rfl, rfl⟩)
            go_roundw
            case rel => exact ⟨k + 1, by go_num, by omega, by omega, ActsSt.step HBE.out HBO.out HA4.out HK4.out hR5 hK5 (HP.out.ln.trans HTN.out) HP.out.sh⟩
            case measure => simp [intOf]; omega)
        · as_aux_lemma =>
          obtain ⟨lv, cd, wf, ws4, ts4, hp⟩ := add_pair HBO.out.ar HSH.out (by omega) C I V
          have HP := Lib.hid hp
          clear hp
          subst hK
          go_wp2_with (fail)
          refine HP.out.ar.mono ?_
          rintro e w4 ⟨rfl, hA4, hK4⟩
          have hb4 := hK4.blk HBL.out (ins.new _ _)
          have d1 := hb4.cell 1
          have d2 := hb4.cell 2
          have d4 := hb4.cell 4
          have HA4 := Lib.hid hA4
          have HK4 := Lib.hid hK4
          clear hb4 hA4 hK4 q0 q1 q2 q3 q4
          go_wp2_with (go_at_call 18; refine (num_calls _ _).mono ?_; rintro e w' ⟨rfl, rfl⟩)
          refine (HP.out.rf _ _ _ (HBO.out.mid HA4.out HK4.out)).mono ?_
          rintro e w5 ⟨rfl, hR5, hK5⟩
          clear d1 d2 d4
          go_wp2_with (go_at_call 18; refine (num_calls _ _).mono ?_; rintro e w' ⟨rfl, rfl⟩)
          go_roundw
          case rel => exact ⟨k + 1, by go_num, by omega, by omega, ActsSt.step HBE.out HBO.out HA4.out HK4.out hR5 hK5 (HP.out.ln.trans HTN.out) HP.out.sh⟩
          case measure => simp [intOf]; omega
        · as_aux_lemma =>
          obtain ⟨cd, ts4, hp⟩ := clear_pair HBO.out.ar HSH.out C
          have HP := Lib.hid hp
          clear hp
          subst hK
          go_wp2_with (fail)
          refine HP.out.ar.mono ?_
          rintro e w4 ⟨rfl, hA4, hK4⟩
          have hb4 := hK4.blk HBL.out (ins.new _ _)
          have d1 := hb4.cell 1
          have HA4 := Lib.hid hA4
          have HK4 := Lib.hid hK4
          clear hb4 hA4 hK4 q0 q1 q2 q3 q4
          go_wp2_with (go_at_call 18; refine (num_calls _ _).mono ?_; rintro e w' ⟨rfl, rfl⟩)
          refine (HP.out.rf _ _ _ (HBO.out.mid HA4.out HK4.out)).mono ?_
          rintro e w5 ⟨rfl, hR5, hK5⟩
          clear d1
          go_wp2_with (go_at_call 18; refine (num_calls _ _).mono ?_; rintro e w' ⟨rfl, rfl⟩)
          go_roundw
          case rel => exact ⟨k + 1, by go_num, by omega, by omega, ActsSt.step HBE.out HBO.out HA4.out HK4.out hR5 hK5 (HP.out.ln.trans HTN.out) HP.out.sh⟩
          case measure => simp [intOf]; omega
        · as_aux_lemma =>
          obtain ⟨n0, n1, n2, n3, n4, n5, n6⟩ := hK
          have b0 : (K == 0) = false := by simpa using n0
          have b1 : (K == 1) = false := by simpa using n1
          have b2 : (K == 2) = false := by simpa using n2
          have b3 : (K == 3) = false := by simpa using n3
          have b4 : (K == 4) = false := by simpa using n4
          have b5 : (K == 5) = false := by simpa using n5
          have b6 : (K == 6) = false := by simpa using n6
          clear n0 n1 n2 n3 n4 n5 n6
          have HTR : Hid (Calls Try.prog 34 #[.pointer (some ⟨a, 0, none⟩), .pointer (some ⟨r, 0, none⟩), .int .i64 C] (wr.alloc (Obj.cells #[.int .i64 K, .int .i64 C, .int .i64 I, .int .i64 O, .int .i64 V] 59)) fun e w' => e = .returned (.bool true) ∧ Below (wr.alloc (Obj.cells #[.int .i64 K, .int .i64 C, .int .i64 I, .int .i64 O, .int .i64 V] 59)).heap.size (wr.alloc (Obj.cells #[.int .i64 K, .int .i64 C, .int .i64 I, .int .i64 O, .int .i64 V] 59)) w') := by
            by_cases hc : C < 0 ∨ (ts.length : Int) ≤ C
            · exact traces_bad HBO.out.ar HBO.out.rf C hc
            · exact traces_ok HBO.out.ar HBO.out.rf (Room.of HSH.out (by omega)) C (by omega)
          go_wp2_with (fail)
          refine Calls.mono HTR ?_
          rintro e w4 ⟨rfl, hB4⟩
          have HB4 := Lib.hid hB4
          clear hB4 q0 q1 q2 q3 q4
          go_wp2_with (go_at_call 18; refine (num_calls _ _).mono ?_; rintro e w' ⟨rfl, rfl⟩)
          go_roundw
          case rel =>
            have hsz := HBE.out.size
            exact ⟨k + 1, by go_num, by omega, by omega, (HBE.out.alloc hsz _).trans (HB4.out.mono (by simp; omega)), _, _, ws, ts, HBO.out.keep HB4.out (by simp; omega), HTN.out, HSH.out.mono (by omega), HBO.out.ar.wsl⟩
          case measure => simp [intOf]; omega
      · as_aux_lemma =>
        have hex : ¬ k < len ∨ (k < len ∧ ¬ ((k : Int) < 300)) := by omega
        have HS := Lib.hid (show ActsSt w wr a r 300 n 65536 from ⟨hbel, L1, L2, ws, ts, hBo, htn, hsh.mono (by omega), hwl⟩)
        clear hboth hbel hBo hsh hwl htn
        rcases hex with h1 | ⟨h1, h2⟩
        all_goals (
          go_wp2_with (fail)
          go_loopw [27] (fun i wr => ∃ c : Nat, i = .int .i64 c ∧ c ≤ n ∧ ActsSt w wr a r 300 n 65536) (fun i _ => n - (intOf i).toNat)
          case atStart => exact ⟨0, rfl, by omega, HS.out⟩
          case round =>
            clear HS
            obtain ⟨c, rfl, hc, hbel, L1, L2, ws, ts, hBo, htn, hsh, hwl⟩ := hrel
            by_cases hlc : c < n
            · have hlc' : (c : Int) < (n : Int) := by omega
              have HTR := Lib.hid (traces_ok hBo.ar hBo.rf (Room.of hsh (by omega)) (c : Int) (by omega))
              have HBO := Lib.hid hBo
              have HBE := Lib.hid hbel
              have HTN := Lib.hid htn
              have HSH := Lib.hid hsh
              clear hBo hbel hsh htn
              go_wp2_with (fail)
              refine HTR.out.mono ?_
              rintro e w4 ⟨rfl, hB4⟩
              have HB4 := Lib.hid hB4
              clear hB4
              go_wp2_with (fail)
              go_roundw
              case rel => exact ⟨c + 1, by go_num, by omega, HBE.out.trans (HB4.out.mono HBE.out.size), _, _, ws, ts, HBO.out.keep HB4.out HBE.out.size, HTN.out, HSH.out, HBO.out.ar.wsl⟩
              case measure => simp [intOf]; omega
            · have hlc' : ¬ (c : Int) < (n : Int) := by omega
              have HBE := Lib.hid hbel
              clear hBo hbel hsh htn
              go_wp2_with (fail)
              refine (awake2 _).mono ?_
              rintro e w4 ⟨rfl, hB4⟩
              go_wp2_with (fail)
              go_ret
              exact ⟨rfl, bel_then HBE.out hB4⟩)
end Go.Proofs.Ytpmgfjglkbbhgaa
