
/- DirApart: the walk. -/
import Derived.Test.YtkbajjpdngfhbaaLawDLk
import Derived.Test.YtkbajjpdngfhbaaInts
namespace Go.Proofs.Ytkbajjpdngfhbaa
open Go.RowKit
set_option maxHeartbeats 4000000
/-- A core's accesses lie in the buckets of its number modulo 4. -/
def inB (c : Int) (x : Acc) : Prop := ∃ b : Nat, b < 8 ∧ ((b % 4 : Nat) : Int) = c ∧ (b : Int) * 13 ≤ x.1 ∧ x.1 < (b : Int) * 13 + 13
def Apt (ts : List (List Acc)) : Prop := ∀ c : Int, 0 ≤ c → c < 4 → ∀ x ∈ tr ts c, inB c x
theorem Apt.cl (c : Int) (hc : 0 ≤ c ∧ c < 4) : Cl 4 Apt c (inB c) := by
  intro ts y hl h hy c' h0 h1 z hz
  rw [tr_noted y (by omega) h0] at hz
  by_cases e : c' = c
  · subst e
    rw [if_pos rfl] at hz
    rcases List.mem_append.1 hz with hz | hz
    · exact h c' h0 h1 z hz
    · obtain rfl : z = y := by simpa using hz
      exact hy
  · rw [if_neg e] at hz
    exact h c' h0 h1 z hz
theorem inB.of {s : ByteArray} {c i : Int} {bb : Bool} (hc : ((nbucket s % 4 : Nat) : Int) = c) (h1 : 0 + (nbucket s : Int) * 13 ≤ i) (h2 : i < 0 + (nbucket s : Int) * 13 + 13) : inB c (i, bb) := ⟨nbucket s, nbucket_lt s, hc, by omega, by omega⟩
theorem inB.apart {c c' : Int} {x y : Acc} (hx : inB c x) (hy : inB c' y) (hne : c ≠ c') : x.1 ≠ y.1 := by
  obtain ⟨b, _, hb, h1, h2⟩ := hx
  obtain ⟨b', _, hb', h1', h2'⟩ := hy
  intro e
  have : b = b' := by omega
  subst this
  exact hne (hb.symm.trans hb')
/-- The first k cores' traces are cleared. -/
def Clr (k : Nat) (ts : List (List Acc)) : Prop := ∀ c : Int, 0 ≤ c → c < k → tr ts c = []
theorem Clr.step {k : Nat} (hk : k < 4) (ts : List (List Acc)) (hl : ts.length = 4) (h : Clr k ts) : Clr (k + 1) (ts.set ((k : Nat) : Int).toNat []) := by
  intro c h0 h1
  rw [tr_clear hl (by omega) h0]
  by_cases e : c = k
  · rw [if_pos e]
  · rw [if_neg e]
    exact h c h0 (by omega)
theorem Clr.apt {ts : List (List Acc)} (h : Clr 4 ts) : Apt ts := fun c h0 h1 x hx => by
  rw [h c h0 (by omega)] at hx
  cases hx
theorem DS.weak {L : Nat → Prop} {w : World} {a d : Nat} {n m : Nat} {P P' : List (List Acc) → Prop} {f : Int} {D : List Ent} (h : DS L w d a f n m P D) (hp : ∀ ts, ts.length = n → P ts → P' ts) : DS L w d a f n m P' D := by
  obtain ⟨ws, T, h1, h2, h3, h4⟩ := h
  exact ⟨ws, T, h1, h2.weak hp, h3, h4⟩
set_option maxRecDepth 1000000 in
theorem apart_walk (w : World) {A : Option Addr} {len cap : Nat} {l : List ByteArray} (hx : Strs w A len cap l) (hz : ∀ s ∈ l, s.size ≤ 1000000000000000000) {A2 : Option Addr} {len2 cap2 : Nat} {xs : List Int} (hi : Ints w A2 len2 cap2 xs) :
    Calls Try.prog 7 #[.slice A len cap, .slice A2 len2 cap2] w fun e w' => e = .returned (.bool true) ∧ Below w.heap.size w w' := by
  have hle := hx.len_le
  have hle2 := hi.len_le
  have HX := Lib.hid hx
  have HI := Lib.hid hi
  have HZ := Lib.hid hz
  clear hx hi hz
  go_enter Try.func7, Try.ntmps7
  go_wp2_with (fail)
  refine (awake_d w).mono ?_
  rintro e w0 ⟨rfl, hB0⟩
  have HB0 := Lib.hid hB0
  clear hB0
  go_wp2_with (fail)
  refine (made_d w0 (P := fun _ => True) trivial).mono ?_
  rintro e w1 ⟨a, d, rfl, hge, hS, hB1⟩
  have hlt : ∀ b, b < w.heap.size → ins (fun b => b < w0.heap.size) d b := fun b hb => .inl (Nat.lt_of_lt_of_le hb HB0.out.size)
  have HB := Lib.hid (bel_then HB0.out hB1)
  have HS := Lib.hid hS
  clear hB1 hS
  go_wp2_with (fail)
  go_loopw [8] (fun i wr => ∃ (k : Nat) (D : List Ent), i = .int .i64 k ∧ k ≤ len ∧ k ≤ 20 ∧ DS (ins (fun b => b < w0.heap.size) d) wr d a 0 4 (100 * k) (fun _ => True) D ∧ Below w.heap.size w wr) (fun i _ => len - (intOf i).toNat)
  case atStart => exact ⟨0, [], rfl, by omega, by omega, HS.out, HB.out⟩
  case round =>
    obtain ⟨k, D, rfl, hk, hk1, hS, hBr⟩ := hrel
    clear HS HB
    by_cases hboth : k < len ∧ k < 20
    · obtain ⟨hlt1, hlt2⟩ := hboth
      obtain ⟨g, off, s, rfl, _, hcell, _⟩ := HX.out.at_ hlt1 hBr
      have hlt3 : (k : Int) < 20 := by omega
      have ek : IntKind.i64.wrap ((k : Int) + 1) = ((k + 1 : Nat) : Int) := by rw [IntWalk.i64_in _ (by omega)]; omega
      have HI2 := Lib.hid (insert_d hS (by omega) 0 s ((k + 1 : Nat) : Int) (S := fun _ => True) (Cl.true_ _ _ _) (fun _ _ _ _ => trivial))
      have HBR := Lib.hid hBr
      clear hS hBr
      go_wp2_with (fail)
      refine HI2.out.mono ?_
      rintro e w2 ⟨r, D2, rfl, _, hS2, hK2⟩
      have HB2 := Lib.hid (HBR.out.trans (hK2.below hlt))
      go_wp2_with (fail)
      go_roundw
      case rel => exact ⟨k + 1, D2, by first | rfl | (congr 1; omega), by omega, by omega, hS2.mono (by omega), HB2.out⟩
      case measure =>
        simp only [intOf]
        omega
    · have hor : ¬ (k : Int) < (len : Int) ∨ ((k : Int) < (len : Int) ∧ ¬ (k : Int) < 20) := by omega
      clear hboth
      have HS2 := Lib.hid (hS.mono (show 100 * k ≤ 2000 by omega))
      have HBR := Lib.hid hBr
      clear hS hBr
      rcases hor with hlt1 | ⟨hlt1, hlt3⟩
      case' inl => go_wp2_with (fail)
      case' inr => go_wp2_with (fail)
      all_goals (
        go_loopw [9] (fun i wr => ∃ (j : Nat) (D : List Ent), i = .int .i64 j ∧ j ≤ 4 ∧ DS (ins (fun b => b < w0.heap.size) d) wr d a 0 4 2000 (Clr j) D ∧ Below w.heap.size w wr) (fun i _ => 4 - (intOf i).toNat)
        case atStart => exact ⟨0, D, rfl, by omega, HS2.out.weak (fun ts _ _ c h0 h1 => absurd h1 (by omega)), HBR.out⟩
        case round =>
          clear HS2 HBR
          obtain ⟨j, D, rfl, hj, hS, hBr⟩ := hrel
          by_cases hj4 : j < 4
          · have hj5 : (j : Int) < 4 := by omega
            have HC := Lib.hid (clear_d (P' := Clr (j + 1)) hS (c := (j : Int)) (by omega) (Clr.step hj4))
            have HBR := Lib.hid hBr
            clear hS hBr
            go_wp2_with (fail)
            refine HC.out.mono ?_
            rintro e w4 ⟨rfl, hS4, hK4⟩
            have HB4 := Lib.hid (HBR.out.trans (hK4.below hlt))
            clear hK4 HC
            go_wp2_with (fail)
            go_roundw
            case rel => exact ⟨j + 1, D, by first | rfl | (congr 1; omega), by omega, hS4, HB4.out⟩
            case measure =>
              simp only [intOf]
              omega
          · have e : j = 4 := by omega
            have HS3 := Lib.hid (show DS (ins (fun b => b < w0.heap.size) d) wr d a 0 4 2000 Apt D from hS.weak (fun ts _ h => Clr.apt (e ▸ h)))
            have HBR := Lib.hid hBr
            obtain ⟨z, hz⟩ : ∃ z : Int, (j : Int) = z := ⟨_, rfl⟩
            have hz4 : ¬ z < 4 := by omega
            rw [hz]
            clear hS hBr hz e hj hj4
            go_wp2_with (fail)
            go_loopw [10] (fun i wr => ∃ (k2 : Nat) (D : List Ent), i = .int .i64 k2 ∧ k2 ≤ len2 ∧ k2 ≤ 60 ∧ DS (ins (fun b => b < w0.heap.size) d) wr d a 0 4 (2000 + 100 * k2) Apt D ∧ Below w.heap.size w wr) (fun i _ => len2 - (intOf i).toNat)
            case atStart => exact ⟨0, D, rfl, by omega, by omega, HS3.out, HBR.out⟩
            case round =>
              clear HS3 HBR
              obtain ⟨k2, D, rfl, hk2, hk3, hS, hBr⟩ := hrel
              by_cases hb3 : (k2 < len2 ∧ k2 < 60) ∧ 0 < len
              · obtain ⟨⟨q1, q2⟩, q3⟩ := hb3
                have q3i : (0 : Int) < (len : Int) := by omega
                have q2i : (k2 : Int) < 60 := by omega
                obtain ⟨g2, off2, rfl, hcp, hp1, hp2⟩ := HI.out.at_ q1 hBr
                generalize nth xs k2 = p at *
                obtain ⟨j, hj, hjl⟩ := u64_tmod p (len : Int) q3i
                obtain ⟨g, off, s, rfl, hls, hcell, _⟩ := HX.out.at_ (k := j) (by omega) hBr
                have hsz := HZ.out s (List.mem_of_getElem? hls)
                have htd : IntKind.i64.wrap (p.tdiv 32) = p.tdiv 32 := IntWalk.i64_in _ (by
                  have h8 := Int.natAbs_tdiv p 32
                  have : (p.tdiv 32).natAbs = p.natAbs / 32 := h8
                  omega)
                have HRB := Lib.hid (fun W => rbucket_calls s hsz W)
                have HS4 := Lib.hid hS
                have HBR := Lib.hid hBr
                clear hS hBr hls hsz
                have hnb := nbucket_lt s
                obtain ⟨q, hq, ec⟩ : ∃ q : Nat, ((nbucket s % 4 : Nat) : Int) = q ∧ (nbucket s : Int) % 4 = (q : Int) := ⟨nbucket s % 4, rfl, by omega⟩
                have hq4 : (0 : Int) ≤ (q : Int) ∧ (q : Int) < 4 := by omega
                have HCL := Lib.hid (Apt.cl (q : Int) hq4)
                have HQ := Lib.hid hq
                have HIN := Lib.hid (fun (i : Int) (bb : Bool) (h1 : 0 + (nbucket s : Int) * 13 ≤ i) (h2 : i < 0 + (nbucket s : Int) * 13 + 13) => (inB.of (c := (q : Int)) (bb := bb) HQ.out h1 h2 : inB (q : Int) (i, bb)))
                clear hq hnb
                have hsw : p.tdiv 32 % 4 = 0 ∨ p.tdiv 32 % 4 = 1 ∨ (¬ p.tdiv 32 % 4 = 0 ∧ ¬ p.tdiv 32 % 4 = 1) := by omega
                go_wp2_with (fail)
                refine (HRB.out _).mono ?_
                rintro e w4 ⟨rfl, k4, rfl⟩
                have HF := Lib.hid (find_d (HS4.out.drewN k4) (by omega) (q : Int) s HCL.out (fun i h1 h2 => HIN.out i false h1 h2))
                have HRM := Lib.hid (remove_d (HS4.out.drewN k4) (by omega) (q : Int) s HCL.out HIN.out)
                have HIS := Lib.hid (insert_d (HS4.out.drewN k4) (by omega) (q : Int) s 7 HCL.out HIN.out)
                have HB4 := Lib.hid (HBR.out.trans ((((Keeps.ofBelow (Below.refl wr.heap.size wr)).drewN k4).below fun _ h => h).mono HBR.out.size))
                rcases hsw with hs0 | hs1 | ⟨hs0, hs1⟩
                · have hs2 : (p.tdiv 32 % 4 == 0) = true := by rw [hs0]; rfl
                  go_wp2_with (fail)
                  refine HF.out.mono ?_
                  rintro e w5 ⟨x, y, rfl, _, hS5, hK5⟩
                  have HB5 := Lib.hid (HB4.out.trans (hK5.below hlt))
                  clear hK5 HF HRM HIS
                  go_wp2_with (fail)
                  go_roundw
                  case rel => exact ⟨k2 + 1, _, by first | rfl | (congr 1; omega), by omega, by omega, hS5.mono (by omega), HB5.out⟩
                  case measure =>
                    simp only [intOf]
                    omega
                · have hs2 : (p.tdiv 32 % 4 == 0) = false := by rw [hs1]; rfl
                  have hs3 : (p.tdiv 32 % 4 == 1) = true := by rw [hs1]; rfl
                  go_wp2_with (fail)
                  refine HRM.out.mono ?_
                  rintro e w5 ⟨r, D5, rfl, _, hS5, hK5⟩
                  have HB5 := Lib.hid (HB4.out.trans (hK5.below hlt))
                  clear hK5 HF HRM HIS
                  go_wp2_with (fail)
                  go_roundw
                  case rel => exact ⟨k2 + 1, _, by first | rfl | (congr 1; omega), by omega, by omega, hS5.mono (by omega), HB5.out⟩
                  case measure =>
                    simp only [intOf]
                    omega
                · have hs2 : (p.tdiv 32 % 4 == 0) = false := beq_eq_false_iff_ne.2 hs0
                  have hs3 : (p.tdiv 32 % 4 == 1) = false := beq_eq_false_iff_ne.2 hs1
                  go_wp2_with (fail)
                  refine HIS.out.mono ?_
                  rintro e w5 ⟨r, D5, rfl, _, hS5, hK5⟩
                  have HB5 := Lib.hid (HB4.out.trans (hK5.below hlt))
                  clear hK5 HF HRM HIS
                  go_wp2_with (fail)
                  go_roundw
                  case rel => exact ⟨k2 + 1, _, by first | rfl | (congr 1; omega), by omega, by omega, hS5.mono (by omega), HB5.out⟩
                  case measure =>
                    simp only [intOf]
                    omega
              · have hor2 : ¬ (k2 : Int) < (len2 : Int) ∨ ((k2 : Int) < (len2 : Int) ∧ ¬ (k2 : Int) < 60) ∨ ((k2 : Int) < (len2 : Int) ∧ (k2 : Int) < 60 ∧ ¬ (0 : Int) < (len : Int)) := by omega
                have HS4 := Lib.hid (hS.mono (show 2000 + 100 * k2 ≤ 10000 by omega))
                have HBR := Lib.hid hBr
                clear hS hBr hb3
                rcases hor2 with hq1 | ⟨hq1, hq2⟩ | ⟨hq1, hq2, hq3⟩
                case' inl => go_wp2_with (fail)
                case' inr.inl => go_wp2_with (fail)
                case' inr.inr => go_wp2_with (fail)
                all_goals (
                  go_loopw [13] (fun i wr => ∃ (c : Nat), i = .int .i64 c ∧ c ≤ 4 ∧ DS (ins (fun b => b < w0.heap.size) d) wr d a 0 4 10000 Apt D ∧ Below w.heap.size w wr) (fun i _ => 4 - (intOf i).toNat)
                  case atStart => exact ⟨0, rfl, by omega, HS4.out, HBR.out⟩
                  case round =>
                    clear HS4 HBR
                    obtain ⟨c, rfl, hc, hS, hBr⟩ := hrel
                    have HS5 := Lib.hid hS
                    have HBR := Lib.hid hBr
                    clear hS hBr
                    by_cases hc4 : c < 4
                    · have hc5 : (c : Int) < 4 := by omega
                      go_wp2_with (fail)
                      go_loopw [14] (fun i wr => ∃ (e : Nat), i = .int .i64 e ∧ e ≤ c ∧ DS (ins (fun b => b < w0.heap.size) d) wr d a 0 4 10000 Apt D ∧ Below w.heap.size w wr) (fun i _ => c - (intOf i).toNat)
                      case atStart => exact ⟨0, rfl, by omega, HS5.out, HBR.out⟩
                      case round =>
                        clear HS5 HBR
                        obtain ⟨e, rfl, he, hS, hBr⟩ := hrel
                        have HBR := Lib.hid hBr
                        by_cases hec : e < c
                        · have hec2 : (e : Int) < (c : Int) := by omega
                          have HT := Lib.hid (trace_d hS (by omega) (c := (c : Int)) (by omega) (Q := fun t => ∀ x ∈ t, inB (c : Int) x) (fun ts _ h => h (c : Int) (by omega) (by omega)))
                          clear hS hBr
                          go_wp2_with (fail)
                          refine HT.out.mono ?_
                          rintro e' wa ⟨va, ta, rfl, hta, hla, hsa, hSa, hBa⟩
                          have HBa := Lib.hid (bel_then HBR.out hBa)
                          have HSA := Lib.hid hsa
                          have HTA := Lib.hid hta
                          clear hBa hsa hta HT
                          go_wp2_with (fail)
                          refine (trace_d hSa (by omega) (c := (e : Int)) (by omega) (Q := fun t => ∀ x ∈ t, inB (e : Int) x) (fun ts _ h => h (e : Int) (by omega) (by omega))).mono ?_
                          rintro e' wb ⟨vb, tb, rfl, htb, hlb, hsb, hSb, hBb⟩
                          have HM := Lib.hid (meet_false ta tb va vb wb (HSA.out.below hBb) hsb hla hlb (fun x hx y hy hxy => absurd hxy ((HTA.out x hx).apart (htb y hy) (by omega))))
                          have HBb := Lib.hid (bel_then HBa.out hBb)
                          clear hSa hBb hsb htb
                          go_wp2_with (fail)
                          refine HM.out.mono ?_
                          rintro e' wc ⟨rfl, k1, rfl⟩
                          have HSb := Lib.hid (hSb.drewN k1)
                          clear hSb HM
                          go_wp2_with (fail)
                          go_roundw
                          case rel => exact ⟨e + 1, by first | rfl | (congr 1; omega), by omega, HSb.out, ((Keeps.ofBelow HBb.out).drewN _).below fun _ h => h⟩
                          case measure =>
                            simp only [intOf]
                            omega
                        · have hec2 : ¬ (e : Int) < (c : Int) := by omega
                          have HSe := Lib.hid hS
                          clear hS hBr
                          go_wp2_with (fail)
                          go_roundw
                          case rel => exact ⟨c + 1, by first | rfl | (congr 1; omega), by omega, HSe.out, HBR.out⟩
                          case measure =>
                            simp only [intOf]
                            omega
                    · have hc5 : ¬ (c : Int) < 4 := by omega
                      go_wp2_with (fail)
                      refine (clear_d (P' := Lk 1) HS5.out (c := 1) (by omega) (fun ts hl _ y hy => by rw [tr_clear hl (by omega) (by omega), if_pos rfl] at hy; cases hy)).mono ?_
                      rintro e w6 ⟨rfl, hS6, hK6⟩
                      have HB6 := Lib.hid (HBR.out.trans (hK6.below hlt))
                      have C1 := Lib.hid (Lk.cl 1 1 (by omega) (by omega))
                      clear hK6 HS5
                      go_wp2_with (fail)
                      refine (list_d hS6 (by omega) 1 C1.out (fun _ _ _ => rfl)).mono ?_
                      rintro e w7 ⟨v7, D7, rfl, _, _, hS7, hK7⟩
                      have hS7 := hS7.sub (fun b hb => (.inl hb : lo _ v7 b)) hS6.ld
                      have HB7 := Lib.hid (HB6.out.trans (hK7.below hlt))
                      clear hK7 hS6
                      go_wp2_with (fail)
                      refine (find_d hS7 (by omega) 1 _ C1.out (fun _ _ _ => rfl)).mono ?_
                      rintro e w8 ⟨x, y, rfl, _, hS8, hK8⟩
                      have HB8 := Lib.hid (HB7.out.trans (hK8.below hlt))
                      clear hK8 hS7
                      go_wp2_with (fail)
                      refine (trace_d hS8 (by omega) (c := 1) (by omega) (Q := fun t => ∀ x ∈ t, x.2 = false) (fun ts _ h => h)).mono ?_
                      rintro e wd ⟨vd, td, rfl, htd, hld, hsd, hSd, hBd⟩
                      have HBd := Lib.hid (bel_then HB8.out hBd)
                      have HW := Lib.hid (words_none td vd wd hsd hld htd)
                      clear hS8 hSd hBd hsd htd
                      go_wp2_with (fail)
                      refine HW.out.mono ?_
                      rintro e we ⟨rfl, k2, rfl⟩
                      go_wp2_with (fail)
                      go_ret
                      exact ⟨rfl, ((Keeps.ofBelow HBd.out).drewN _).below fun _ h => h⟩))
end Go.Proofs.Ytkbajjpdngfhbaa
