
/- DirLooks: the walk. -/
import Derived.Test.YtkbajjpdngfhbaaLawDMv
import Derived.Test.YtkbajjpdngfhbaaStrs
import Derived.Test.YtkbajjpdngfhbaaTraces
namespace Go.Proofs.Ytkbajjpdngfhbaa
open Go.RowKit
set_option maxHeartbeats 2000000
/-- Cores 1 and 2 have only looked. -/
def Lk (c : Int) (ts : List (List Acc)) : Prop := ∀ y ∈ tr ts c, y.2 = false
theorem Lk.cl (c d : Int) (hc : 0 ≤ c ∧ c < 4) (hd : 0 ≤ d) : Cl 4 (Lk d) c (fun y => y.2 = false) := by
  intro ts y hl h hy z hz
  rw [tr_noted y (by omega) hd] at hz
  by_cases e : d = c
  · rw [if_pos e] at hz
    rcases List.mem_append.1 hz with hz | hz
    · exact h z hz
    · obtain rfl : z = y := by simpa using hz
      exact hy
  · rw [if_neg e] at hz
    exact h z hz
theorem tr_clear {ts : List (List Acc)} {c d : Int} (hl : ts.length = 4) (hc : 0 ≤ c ∧ c < 4) (hd : 0 ≤ d) : tr (ts.set c.toNat []) d = if d = c then [] else tr ts d := by
  unfold tr
  by_cases e : d = c
  · subst e
    rw [if_pos rfl, List.getD_eq_getElem?_getD, List.getElem?_set_self (by omega)]
    rfl
  · rw [if_neg e, List.getD_eq_getElem?_getD, List.getElem?_set_ne (by omega), ← List.getD_eq_getElem?_getD]
theorem Cl.and {n : Nat} {P Q : List (List Acc) → Prop} {c : Int} {S : Acc → Prop} (h : Cl n P c S) (k : Cl n Q c S) : Cl n (fun ts => P ts ∧ Q ts) c S := fun ts x hl hp hs => ⟨h ts x hl hp.1 hs, k ts x hl hp.2 hs⟩
section
variable {L : Nat → Prop} {w : World} {a d : Nat} {n m : Nat} {P P' : List (List Acc) → Prop} {f : Int} {D : List Ent}
theorem clear_d (h : DS L w d a f n m P D) {c : Int} (h0 : 0 ≤ c ∧ c < n) (hp : ∀ ts, ts.length = n → P ts → P' (ts.set c.toNat [])) :
    Calls Try.prog 23 #[.pointer (some ⟨a, 0, none⟩), .int .i64 c] w fun e w' => e = .returned (.int .i64 0) ∧ DS L w' d a f n m P' D ∧ Keeps L w w' := by
  obtain ⟨ws, T, h1, h2, h3, h4⟩ := h
  refine (clear_p h2 h0 hp).mono ?_
  rintro e w' ⟨rfl, q1, q2⟩
  exact ⟨rfl, ⟨ws, T, h1.keep q2, q1, h3, h4⟩, q2⟩
theorem trace_d (h : DS L w d a f n m P D) (hm : m ≤ 1099511627776) {c : Int} (h0 : 0 ≤ c ∧ c < n) {Q : List Acc → Prop} (hq : ∀ ts, ts.length = n → P ts → Q (tr ts c)) :
    Calls Try.prog 25 #[.pointer (some ⟨a, 0, none⟩), .int .i64 c] w fun e w' => ∃ v t, e = .returned v ∧ Q t ∧ t.length ≤ 1099511627776 ∧ Sl w' 2 v t.length (encAccs t) ∧ DS L w' d a f n m P D ∧ Below w.heap.size w w' := by
  obtain ⟨ws, T, h1, h2, h3, h4⟩ := h
  have hbd := h2.bd
  refine (trace_p h2 hm h0 hq).mono ?_
  rintro e w' ⟨v, t, rfl, q1, q2, q3, q4⟩
  exact ⟨v, t, rfl, q1, q2, q3, ⟨ws, T, h1.keep ((Keeps.ofBelow q4).sub fun j hj => hbd j hj), h2.below q4, h3, h4⟩, q4⟩
end
theorem mayE_any {n : Nat} {c c' : Int} (l : List ByteArray) (h : 0 ≤ c ∧ c < n) (h' : 0 ≤ c' ∧ c' < n) : mayE n c l = mayE n c' l := by
  unfold mayE
  by_cases q : allOk l = true
  · rw [if_pos ⟨h, q⟩, if_pos ⟨h', q⟩]
  · rw [if_neg (fun k => q k.2), if_neg (fun k => q k.2)]
theorem FindD.same {D : List Ent} {s : ByteArray} {x y x' y' : Int} (h : FindD D 4 1 s x y) (h' : FindD D 4 2 s x' y') (hq : Uniq D) : x' = x ∧ y' = y ∧ (y = 0 ∨ x = 0) := by
  have e := mayE_any (n := 4) (c := 2) (c' := 1) [s] (by omega) (by omega)
  rcases h with ⟨h1, rfl, rfl⟩ | ⟨h1, ⟨v, hv, rfl, rfl⟩ | ⟨hn, rfl, rfl⟩⟩
  · obtain ⟨rfl, rfl⟩ := h'.err (by rw [e]; exact h1)
    exact ⟨rfl, rfl, .inr rfl⟩
  · obtain ⟨rfl, rfl⟩ := h'.yes (by rw [e]; exact h1) hq hv
    exact ⟨rfl, rfl, .inl rfl⟩
  · obtain ⟨rfl, rfl⟩ := h'.no (by rw [e]; exact h1) hn
    exact ⟨rfl, rfl, .inr rfl⟩
set_option maxRecDepth 1000000 in
theorem looks_walk (w : World) {A : Option Addr} {len cap : Nat} {l : List ByteArray} (hx : Strs w A len cap l) (v : Int) (_ : (Lit.int .i64 v).wf = true) :
    Calls Try.prog 8 #[.slice A len cap, .int .i64 v] w fun e w' => e = .returned (.bool true) ∧ Below w.heap.size w w' := by
  have hle := hx.len_le
  have HX := Lib.hid hx
  clear hx
  go_enter Try.func8, Try.ntmps8
  go_wp2_with (fail)
  refine (awake_d w).mono ?_
  rintro e w0 ⟨rfl, hB0⟩
  have HB0 := Lib.hid hB0
  clear hB0
  go_wp2_with (fail)
  refine (made_d w0 (P := fun _ => True) trivial).mono ?_
  rintro e w1 ⟨a, d, rfl, hge, hS, hB1⟩
  have hlt : ∀ b, b < w.heap.size → ins (fun b => b < w0.heap.size) d b := fun b hb => .inl (Nat.lt_of_lt_of_le hb HB0.out.size)
  have HB := Lib.hid (bel_then HB0.out hB1)
  have HS := Lib.hid hS
  clear hB1 hS
  go_wp2_with (fail)
  go_loopw [8] (fun i wr => ∃ (k : Nat) (D : List Ent), i = .int .i64 k ∧ k ≤ len ∧ k ≤ 20 ∧ DS (ins (fun b => b < w0.heap.size) d) wr d a 0 4 (100 * k) (fun _ => True) D ∧ Below w.heap.size w wr) (fun i _ => len - (intOf i).toNat)
  case atStart => exact ⟨0, [], rfl, by omega, by omega, HS.out, HB.out⟩
  case round =>
    obtain ⟨k, D, rfl, hk, hk1, hS, hBr⟩ := hrel
    clear HS HB
    by_cases hboth : k < len ∧ k < 20
    · obtain ⟨hlt1, hlt2⟩ := hboth
      obtain ⟨g, off, s, rfl, _, hcell, _⟩ := HX.out.at_ hlt1 hBr
      have hlt3 : (k : Int) < 20 := by omega
      have ek : IntKind.i64.wrap ((k : Int) + 1) = ((k + 1 : Nat) : Int) := by rw [IntWalk.i64_in _ (by omega)]; omega
      have HI := Lib.hid (insert_d hS (by omega) 0 s ((k + 1 : Nat) : Int) (S := fun _ => True) (Cl.true_ _ _ _) (fun _ _ _ _ => trivial))
      have HBR := Lib.hid hBr
      clear hS hBr
      go_wp2_with (fail)
      refine HI.out.mono ?_
      rintro e w2 ⟨r, D2, rfl, _, hS2, hK2⟩
      have HB2 := Lib.hid (HBR.out.trans (hK2.below hlt))
      go_wp2_with (fail)
      go_roundw
      case rel => exact ⟨k + 1, D2, by first | rfl | (congr 1; omega), by omega, by omega, hS2.mono (by omega), HB2.out⟩
      case measure =>
        simp only [intOf]
        omega
    · have hor : ¬ (k : Int) < (len : Int) ∨ ((k : Int) < (len : Int) ∧ ¬ (k : Int) < 20) := by omega
      clear hboth
      rcases hor with hlt1 | ⟨hlt1, hlt3⟩
      all_goals (
        have HBR := Lib.hid hBr
        clear hBr
        go_wp2_with (fail)
        refine (clear_d (P' := Lk 1) hS (c := 1) (by omega) (fun ts hl _ y hy => by rw [tr_clear hl (by omega) (by omega), if_pos rfl] at hy; cases hy)).mono ?_
        rintro e w4 ⟨rfl, hS4, hK4⟩
        have HB4 := Lib.hid (HBR.out.trans (hK4.below hlt))
        clear hS hK4
        go_wp2_with (fail)
        refine (clear_d (P' := fun ts => Lk 1 ts ∧ Lk 2 ts) hS4 (c := 2) (by omega) (fun ts hl h1 => ⟨fun y hy => by rw [tr_clear hl (by omega) (by omega), if_neg (by decide)] at hy; exact h1 y hy, fun y hy => by rw [tr_clear hl (by omega) (by omega), if_pos rfl] at hy; cases hy⟩)).mono ?_
        rintro e w5 ⟨rfl, hS5, hK5⟩
        have HB5 := Lib.hid (HB4.out.trans (hK5.below hlt))
        have HS5 := Lib.hid (hS5.mono (show 100 * k ≤ 2000 by omega))
        clear hS4 hK5 hS5
        have C1 := Lib.hid (Cl.and (Lk.cl 1 1 (by omega) (by omega)) (Lk.cl 1 2 (by omega) (by omega)))
        have C2 := Lib.hid (Cl.and (Lk.cl 2 1 (by omega) (by omega)) (Lk.cl 2 2 (by omega) (by omega)))
        by_cases hz : len = 0
        case' pos =>
          have hz1 : ¬ (0 : Int) < (len : Int) := by omega
          go_wp2_with (fail)
        case' neg =>
          have hz1 : (0 : Int) < (len : Int) := by omega
          obtain ⟨j, hj, hjl⟩ := u64_tmod v (len : Int) hz1
          obtain ⟨g, off, s, rfl, _, hcell, _⟩ := HX.out.at_ (k := j) (by omega) HB5.out
          go_wp2_with (fail)
        all_goals (
          refine (find_d HS5.out (by omega) 1 _ C1.out (fun _ _ _ => rfl)).mono ?_
          rintro e w6 ⟨x, y, rfl, hf, hS6, hK6⟩
          have HF := Lib.hid hf
          have HB6 := Lib.hid (HB5.out.trans (hK6.below hlt))
          clear hf hK6
          go_wp2_with (fail)
          refine (find_d hS6 (by omega) 2 _ C2.out (fun _ _ _ => rfl)).mono ?_
          rintro e w7 ⟨x', y', rfl, hf, hS7, hK7⟩
          obtain ⟨rfl, rfl, hxy⟩ := HF.out.same hf hS6.uniq
          have HB7 := Lib.hid (HB6.out.trans (hK7.below hlt))
          have HXY := Lib.hid hxy
          clear hf hK7 hS6 HF hxy
          go_wp2_with (fail)
          refine (list_d hS7 (by omega) 2 C2.out (fun _ _ _ => rfl)).mono ?_
          rintro e w8 ⟨v8, D8, rfl, _, _, hS8, hK8⟩
          have hS8 := hS8.sub (fun b hb => (.inl hb : lo _ v8 b)) hS7.ld
          have HB8 := Lib.hid (HB7.out.trans (hK8.below hlt))
          clear hK8 hS7
          go_wp2_with (fail)
          refine (list_d hS8 (by omega) 1 C1.out (fun _ _ _ => rfl)).mono ?_
          rintro e w9 ⟨v9, D9, rfl, _, _, hS9, hK9⟩
          have hS9 := hS9.sub (fun b hb => (.inl hb : lo _ v9 b)) hS8.ld
          have HB9 := Lib.hid (HB8.out.trans (hK9.below hlt))
          clear hK9 hS8
          go_wp2_with (go_at_call 11; refine (num_calls _ _).mono ?_; rintro e w' ⟨rfl, rfl⟩)
          refine (trace_d hS9 (by omega) (c := 1) (by omega) (Q := fun t => ∀ x ∈ t, x.2 = false) (fun ts _ h => h.1)).mono ?_
          rintro e wa ⟨va, ta, rfl, hta, hla, hsa, hSa, hBa⟩
          have HBa := Lib.hid (bel_then HB9.out hBa)
          have HSA := Lib.hid hsa
          have HTA := Lib.hid hta
          clear hS9 hBa hsa hta
          go_wp2_with (fail)
          refine (trace_d hSa (by omega) (c := 2) (by omega) (Q := fun t => ∀ x ∈ t, x.2 = false) (fun ts _ h => h.2)).mono ?_
          rintro e wb ⟨vb, tb, rfl, htb, hlb, hsb, hSb, hBb⟩
          have HSA2 := Lib.hid (HSA.out.below hBb)
          have HSB := Lib.hid hsb
          have HTB := Lib.hid htb
          have HBb := Lib.hid (bel_then HBa.out hBb)
          clear hSa hBb hsb htb
          go_wp2_with (fail)
          refine (meet_false ta tb va vb wb HSA2.out HSB.out hla hlb (fun x hx y hy _ => ⟨HTA.out x hx, HTB.out y hy⟩)).mono ?_
          rintro e wc ⟨rfl, k1, rfl⟩
          go_wp2_with (fail)
          refine (trace_d (hSb.drewN k1) (by omega) (c := 1) (by omega) (Q := fun t => ∀ x ∈ t, x.2 = false) (fun ts _ h => h.1)).mono ?_
          rintro e wd ⟨vd, td, rfl, htd, hld, hsd, hSd, hBd⟩
          have HBd := Lib.hid (bel_then HBb.out (show Below wb.heap.size wb wd from (Keeps.undrewN (Keeps.ofBelow hBd)).below fun _ h => h))
          have HSD := Lib.hid hsd
          have HTD := Lib.hid htd
          clear hSb hSd hBd hsd htd
          go_wp2_with (fail)
          refine (words_none td vd wd HSD.out hld HTD.out).mono ?_
          rintro e we ⟨rfl, k2, rfl⟩
          rcases HXY.out with rfl | rfl
          all_goals (
            go_wp2_with (go_at_call 11; refine (num_calls _ _).mono ?_; rintro e w' ⟨rfl, rfl⟩)
            all_goals (
              go_ret
              exact ⟨by simp, ((Keeps.ofBelow HBd.out).drewN _).below fun _ h => h⟩))))
end Go.Proofs.Ytkbajjpdngfhbaa
