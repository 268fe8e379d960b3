/- Texts of one's own that a claim's last text rests on: Mf13 Mf14 Mf15 Un2. -/
import Derived.Test.YtkebjgebkneijaaGreatDoorMG7
import Derived.Deep.MidRow
import Derived.Defers
import Derived.Recover
import Derived.Laws.Pointers
import Derived.Test.YtkebjgebkneijaaGreatDoorMG5
set_option linter.unusedVariables false
set_option linter.unusedSimpArgs false
namespace Go.Proofs.YtkebjgebkneijaaGreatDoor
section
open Go.RowKit
set_option maxHeartbeats 2000000
theorem nm_init {w : World} {A : Option Addr} {cap : Nat} {ns : List ByteArray} {nm : ByteArray} (h : NmB w (.slice A (ns.length + 1) cap) (ns ++ [nm])) : ∃ g off cs, A = some ⟨g, off, none⟩ /\ ns.length + 1 <= cap /\ Blk w g 9 cs /\ NmB w (.slice (some ⟨g, off, none⟩) ns.length cap) ns /\ w.cell? ⟨g, off + ns.length, none⟩ = some (.string nm) := by
 have hl : (ns ++ [nm]).length = ns.length + 1 := by simp
 obtain ⟨A', cap', e, h2, h3⟩ := h
 injection e with e1 e2 e3
 subst e1 e3
 obtain ⟨g, off, cs, rfl, h4, h5, h6⟩ := h3 (by omega)
 refine ⟨g, off, cs, rfl, by omega, h5, ⟨_, _, rfl, by omega, fun _ => ⟨g, off, cs, rfl, h4, h5, fun i j hi hj => ?_⟩⟩, ?_⟩
 ·rw [h6 i j (by omega) hj]
  unfold nmC
  simp only [List.getD_eq_getElem?_getD]
  rw [List.getElem?_append_left hi]
 ·have h7 := h6 ns.length 0 (by omega) (by omega)
  rw [Nat.mul_one, Nat.add_zero] at h7
  rw [h5.cell, h7]
  unfold nmC
  simp [List.getD_eq_getElem?_getD]
structure Mem.same (M M' : Mem) : Prop where
 ws : M'.ws = M.ws
 nm : M'.nm = M.nm
 ts : M'.ts.length = M.ts.length
theorem Mem.same.refl (M : Mem) : M.same M := ⟨rfl, rfl, rfl⟩
theorem Mem.same.trans {M M' M'' : Mem} (h : M.same M') (k : M'.same M'') : M.same M'' := ⟨k.ws.trans h.ws, k.nm.trans h.nm, k.ts.trans h.ts⟩
theorem Mem.same.see (M : Mem) (c i : Int) : M.same (M.see c i) := by
 unfold Mem.see Mem.note
 split
 ·exact ⟨rfl, rfl, rfl⟩
 ·exact ⟨rfl, rfl, by simp⟩
theorem Mem.same.thing {M M' : Mem} (h : M.same M') (n : Int) : M'.thing n = M.thing n := by unfold Mem.thing; rw [h.nm]
theorem Mem.same.at_ {M M' : Mem} (h : M.same M') (i : Int) : M'.at_ i = M.at_ i := by unfold Mem.at_; rw [h.thing, h.ws]
theorem Mem.same.bkt {M M' : Mem} (h : M.same M') (n b : Int) : M'.bkt n b = M.bkt n b := by unfold Mem.bkt; rw [h.at_]
theorem Mem.same.bas {M M' : Mem} (h : M.same M') (n : Int) : M'.bas n = M.bas n := by unfold Mem.bas; rw [h.at_]
theorem Mem.same.fine {M M' : Mem} (h : M.same M') (i : Int) : M'.fine i ↔ M.fine i := by unfold Mem.fine; rw [h.thing, h.ws]
theorem Mem.same.fit {M M' : Mem} (h : M.same M') (hf : M.fit) : M'.fit := by
 refine ⟨fun num b h1 h2 => ?_, fun num b h1 h2 => ?_⟩
 ·obtain ⟨⟨q1, q2⟩, q3⟩ := hf.bk num b h1 h2
  exact ⟨⟨(h.fine _).2 q1, fun t ht => q2 t (by rw [<- h.at_]; exact ht)⟩, by rw [h.ws]; exact q3⟩
 ·rw [h.bkt]; exact hf.it num b h1 h2
theorem walkM_same (c : Int) : ∀ (ns : List ByteArray) (M : Mem) (it : Item), M.same (walkM c ns M it).2
 | [], M, it => Mem.same.refl M
 | n :: ns, M, it => by
  rw [walkM]
  split
  ·exact Mem.same.refl M
  ·split
   ·exact Mem.same.see _ _ _
   ·exact (Mem.same.see _ _ _).trans (walkM_same c ns _ _)
theorem walkM_ok (c : Int) : ∀ (ns : List ByteArray) (M : Mem) (it : Item) (m : Nat), M.ok m -> (walkM c ns M it).2.ok (m + ns.length)
 | [], M, it, m, h => h
 | n :: ns, M, it, m, h => by
  rw [walkM]
  split
  ·exact h.mono (by simp)
  ·split
   ·exact (h.see _ _).mono (by simp only [List.length_cons]; omega)
   ·have := walkM_ok c ns (M.see c (wd it.num (nbucket n : Nat))) (by assumption) (m + 1) (h.see _ _)
    rw [List.length_cons, show m + (ns.length + 1) = m + 1 + ns.length by omega]
    exact this
theorem walkM_num (c : Int) : ∀ (ns : List ByteArray) (M : Mem) (it it' : Item), M.fit -> (1 <= it.num /\ it.num <= 257) -> (walkM c ns M it).1 = .at_ it' -> 1 <= it'.num /\ it'.num <= 257
 | [], M, it, it', _, h, e => by
  have : it = it' := by injection e
  exact this ▸ h
 | n :: ns, M, it, it', hf, h, e => by
  rw [walkM] at e
  split at e
  ·cases e
  ·split at e
   ·cases e
   ·rename_i i hi
    refine walkM_num c ns _ i it' (hf.see _ _) ?_ e
    exact (hf.it it.num (nbucket n : Nat) h (by have := nbucket_lt n; omega)).2 _ (List.mem_of_find?_eq_some hi)
theorem there_of_blk {W : World} {g n : Nat} {t : TypeId} {cs : Array Value} (h : Blk W g t cs) (hn : n <= cs.size) : W.there g 0 n := fun j hj => by
 rw [Nat.zero_add, h.cell]
 refine ⟨?_, h.frozen j⟩
 rw [Array.getElem?_eq_getElem (by omega)]; rfl
def fillA (cs : Array Value) : Nat -> List Value -> Array Value
 | _, [] => cs
 | i, u :: us => fillA (cs.setIfInBounds i u) (i + 1) us
theorem KI.setsC {g : Nat} {t : TypeId} : ∀ (us : List Value) (i : Nat) {W : World} {cs : Array Value}, Blk W g t cs -> ¬ still t -> KI W (W.setCells g i us)
 | [], _, _, _, _, _ => KI.refl _
 | u :: us, i, _, _, h, ht => (KI.set h ht i u).trans (KI.setsC us (i + 1) (h.set_ i u) ht)
namespace Wk
theorem setAll {L : Nat -> Prop} {w : World} {s : Nat} {M : Mem} {Bs : List LB} {Rs : List RB} (hl : Bd L w) {g : Nat} {t : TypeId} : ∀ (us : List Value) (i : Nat) (cs : Array Value) (W : World), Wk L w s M (⟨g, t, cs⟩ :: Bs) Rs W -> Wk L w s M (⟨g, t, fillA cs i us⟩ :: Bs) Rs (W.setCells g i us)
 | [], _, _, _, h => h
 | u :: us, i, cs, W, h => setAll hl us (i + 1) _ _ (h.set0 hl i u)
theorem walk_wk {L : Nat -> Prop} {w W : World} {s : Nat} {M : Mem} {Bs : List LB} {Rs : List RB} {m : Nat} (h : Wk L w s M Bs Rs W) (hok : M.ok m) (hm : m <= 900000000) {c : Int} (hc : 0 <= c /\ c < M.ts.length) (hf : M.fit) {sp : Nat} (hL : L sp)
  (s0 : w.cell? ⟨sp, 0, none⟩ = some (.pointer (some ⟨s, 0, none⟩))) (s1 : w.cell? ⟨sp, 1, none⟩ = some (.int .i64 c)) {v : Value} {ns : List ByteArray} (hv : NmB W v ns) (hn : ns.length <= 100) {it : Item} {M1 : Mem} (hw : walkM c ns M rootItem = (.at_ it, M1)) :
  Calls Tryz.prog 170 #[.pointer (some ⟨sp, 0, none⟩), v] W fun e w' => (∃ tn tc ta, e = .returned (.agg #[.string it.name, .int .i64 it.num, .bool it.dir, .slice ta tn tc])) /\ Wk L w s M1 Bs Rs w' :=
 h.callL fun K hKL _ hK => by
  refine (walk_calls hK hok hm hc hf (hKL _ hL) (h.old hL s0) (h.old hL s1) hv hn).mono ?_
  rintro e w' ⟨h1, h2⟩
  rw [hw] at h1 h2
  exact ⟨h1, h2⟩
end Wk
set_option maxRecDepth 1000000 in
theorem parent_ok {L : Nat -> Prop} {w : World} {s : Nat} {M M1 : Mem} {m : Nat} (h : MemAt L w s M) (hok : M.ok m) (hm : m <= 800000000) {c : Int} (hc : 0 <= c /\ c < M.ts.length) (hf : M.fit)
  {sp : Nat} (hL : L sp) (s0 : w.cell? ⟨sp, 0, none⟩ = some (.pointer (some ⟨s, 0, none⟩))) (s1 : w.cell? ⟨sp, 1, none⟩ = some (.int .i64 c)) {path : ByteArray} (hs : path.size <= 4611686018427387904)
  {ns : List ByteArray} {nm : ByteArray} (hp : parseF path = .ok (ns ++ [nm])) (hn : ns.length <= 100) {it : Item} (hw : walkM c ns M rootItem = (.at_ it, M1)) (hd : it.dir = true) :
  Calls Tryz.prog 166 #[.pointer (some ⟨sp, 0, none⟩), .string path] w fun e w' => (∃ tn tc ta bv, e = .returned (.agg (spotA it (.slice ta tn tc) nm (wd it.num (nbucket nm : Nat)) bv)) /\ ItB w' bv (M.bkt it.num (nbucket nm : Nat))) /\ MemAt L w' s (M1.see c (wd it.num (nbucket nm : Nat))) /\ Kp L w w' := by
 have hsame := walkM_same c ns M rootItem
 have hok1 := walkM_ok c ns M rootItem m hok
 have hnum := walkM_num c ns M rootItem it hf ⟨by decide, by decide⟩ (by rw [hw])
 rw [hw] at hsame hok1
 have HOK1 := lhi (show M1.ok (m + ns.length) from hok1)
 have HF1 := lhi (hsame.fit hf)
 have HTS := lhi (show Who M1 c from .inr ⟨hc.1, by rw [hsame.ts]; exact hc.2⟩)
 have HSB := lhi (hsame.bkt it.num (nbucket nm : Nat))
 have HNB := lhi (show (0 : Int) <= (nbucket nm : Nat) /\ ((nbucket nm : Nat) : Int) < 8 by have := nbucket_lt nm; omega)
 have HNU := lhi hnum
 have HBD := lhi h.bd
 have HL := lhi hL
 obtain ⟨p4, hp4⟩ : ∃ p, p = w.heap.size := ⟨_, rfl⟩
 have HW0 := lhi ((Wk.start h).allocAt h.bd #[.string ⟨#[]⟩, .int .i64 0, .bool false, .slice none 0 0, .string ⟨#[]⟩, .int .i64 0, .slice none 0 0] 260 hp4)
 have HNA := lhi (fun W => names_ok hs W hp)
 have HWA := lhi (fun (W : World) (v : Value) (Bs : List LB) (hW : Wk L w s M Bs [] W) (hv : NmB W v ns) => hW.walk_wk hok (by omega) hc hf hL s0 s1 hv hn hw)
 have HS := lhi (show ∀ (M' : Mem) (Bs : List LB) (W : World), Wk L w s M' Bs [] W -> W.cell? ⟨sp, 0, none⟩ = some (.pointer (some ⟨s, 0, none⟩)) /\ W.cell? ⟨sp, 1, none⟩ = some (.int .i64 c) from fun M' Bs W hW => ⟨hW.old hL s0, hW.old hL s1⟩)
 have hml : m + ns.length <= 1000000000 := by omega
 have HML := lhi hml
 have HPL := lhi (show ∀ v, NmB w v (ns ++ [nm]) -> True from fun _ _ => trivial)
 clear h hok hc hf hs hp hw hsame hok1 hnum hL hml HPL
 obtain ⟨inm, inu, idr⟩ := it
 obtain rfl : idr = true := hd
 go_enter Tryz.func166, Tryz.ntmps166
 go_wp2_with (fail)
 rw [<- hp4]
 clear hp4
 generalize w.alloc (.cells #[.string ⟨#[]⟩, .int .i64 0, .bool false, .slice none 0 0, .string ⟨#[]⟩, .int .i64 0, .slice none 0 0] 260) = w1 at *
 refine (HNA.out _).mono ?_
 rintro e w2 ⟨⟨v, rfl, hv, hvq⟩, hb⟩
 obtain ⟨A, cap, rfl, -, -⟩ := RowT.at' hv
 have hvl : (ns ++ [nm]).length = ns.length + 1 := by simp
 rw [hvl] at hv hvq ⊢
 obtain ⟨g, off, cs, rfl, hcap, hblk, hinit, hlast⟩ := nm_init hv
 have HINIT := lhi hinit
 have HW2 := lhi (HW0.out.adopt HBD.out hb hblk (hvq g ⟨_, _, _, rfl⟩))
 have HCS := lhi (show cs[off + ns.length]? = some (.string nm) by rw [<- hblk.cell]; exact hlast)
 clear hv hvq hb hinit hblk hlast hvl HNA HW0
 obtain ⟨k, hk⟩ : ∃ k, ns.length = k := ⟨_, rfl⟩
 rw [hk] at HINIT HCS hcap hn HOK1 HML ⊢
 have e0 : (((k + 1 : Nat) : Int) == 0) = false := by rw [beq_eq_false_iff_ne]; omega
 go_wp2_with (go_at_call 168; refine (throw_no _ _).mono ?_; rintro e w' ⟨rfl, rfl⟩)
 refine (HWA.out _ _ _ HW2.out HINIT.out).mono ?_
 rintro e w3 ⟨⟨tn, tc, ta, rfl⟩, hW3⟩
 obtain ⟨p7, hp7⟩ : ∃ p, p = w3.heap.size := ⟨_, rfl⟩
 have HW4 := lhi ((hW3.allocAt HBD.out #[.string inm, .int .i64 inu, .bool true, .slice ta tn tc] 258 hp7).permB (Bs' := [⟨p4, 260, #[.string ⟨#[]⟩, .int .i64 0, .bool false, .slice none 0 0, .string ⟨#[]⟩, .int .i64 0, .slice none 0 0]⟩, ⟨p7, 258, #[.string inm, .int .i64 inu, .bool true, .slice ta tn tc]⟩, ⟨g, 9, cs⟩]) (by
  refine (List.Perm.cons _ (List.Perm.swap ..)).trans (List.Perm.swap ..)))
 have b1 : (w3.alloc (.cells #[.string inm, .int .i64 inu, .bool true, .slice ta tn tc] 258)).cell? ⟨g, off + k, none⟩ = some (.string nm) := ((HW4.out.bk (.tail _ (.tail _ (.head _)))).cell _).trans HCS.out
 clear hW3 HW2 HWA HINIT
 go_upto_region 7 with (first
  | (go_at_call 168; refine (throw_no _ _).mono ?_; rintro e w' ⟨rfl, rfl⟩)
  | (go_at_call 75; refine (bucket_calls nm _).mono ?_; rintro e w4 ⟨rfl, hb4⟩; have HW5 := lhi (HW4.out.below hb4 HBD.out); clear hb4))
 rw [<- hp7]
 clear hp7 b1
 have HS2 := lhi (show ∀ (M' : Mem) (W : World) (x : LB), Wk L w s M' [x, ⟨p7, 258, #[.string inm, .int .i64 inu, .bool true, .slice ta tn tc]⟩, ⟨g, 9, cs⟩] [] W -> (W.cell? ⟨p7, 0, none⟩ = some (.string inm) /\ W.cell? ⟨p7, 1, none⟩ = some (.int .i64 inu) /\ W.cell? ⟨p7, 2, none⟩ = some (.bool true) /\ W.cell? ⟨p7, 3, none⟩ = some (.slice ta tn tc) /\ W.cell? ⟨g, off + k, none⟩ = some (.string nm) /\ W.cell? ⟨sp, 0, none⟩ = some (.pointer (some ⟨s, 0, none⟩)) /\ W.cell? ⟨sp, 1, none⟩ = some (.int .i64 c)) from fun M' W x hW => by
  have h1 := hW.bk (.tail _ (.head _))
  have h2 := hW.bk (.tail _ (.tail _ (.head _)))
  obtain ⟨h3, h4⟩ := HS.out _ _ _ hW
  exact ⟨h1.cell 0, h1.cell 1, h1.cell 2, h1.cell 3, (h2.cell _).trans HCS.out, h3, h4⟩)
 have H0 := lhi HW5.out.drew
 have HWD := lhi (fun W => word_calls inu (nbucket nm : Nat) (by have h : 1 <= inu /\ inu <= 257 := HNU.out; omega) (by have := HNB.out; omega) W)
 clear HS
 have hk0 : (0 : Int) <= (k : Int) := by omega
 have hk1 : (k : Int) < ((k + 1 : Nat) : Int) := by omega
 have hk2 : (k : Int) < (k : Int) + 1 := by omega
 have hk3 : k < k + 1 := by omega
 refine wp_region_held_drew (S := fun w' => (w'.cell? ⟨p7, 0, none⟩ = some (.string inm) /\ w'.cell? ⟨p7, 1, none⟩ = some (.int .i64 inu) /\ w'.cell? ⟨p7, 2, none⟩ = some (.bool true) /\ w'.cell? ⟨p7, 3, none⟩ = some (.slice ta tn tc) /\ w'.cell? ⟨g, off + k, none⟩ = some (.string nm) /\ w'.cell? ⟨sp, 0, none⟩ = some (.pointer (some ⟨s, 0, none⟩)) /\ w'.cell? ⟨sp, 1, none⟩ = some (.int .i64 c))) (by kernel_rfl) (HS2.out _ _ _ H0.out) (fun hHeld => ?_)
 refine wpAnyH_take (i := 0) (oi := ⟨some 33, _, _, _, _, _⟩) (v := .agg #[.string inm, .int .i64 inu, .bool true, .slice ta tn tc]) rfl (by kernel_rfl) (by kernel_rfl) (by kernel_rfl) (fun _ _ _ h => h) (Or.inl ⟨by kernel_rfl, fun w hSw => by go_simp⟩) (by assumption) ?_
 simp only [Act.put, lTA, lC0, lCS]
 refine wpAnyH_take (i := 1) (oi := ⟨some 34, _, _, _, _, _⟩) (v := .slice (some ⟨g, off, none⟩) (k + 1) cap) rfl (by kernel_rfl) (by kernel_rfl) (by kernel_rfl) (fun _ _ _ h => h) (Or.inl ⟨by kernel_rfl, fun w hSw => by go_simp⟩) (by assumption) ?_
 simp only [Act.put, lTA, lC0, lCS]
 refine wpAnyH_take (i := 2) (oi := ⟨some 35, _, _, _, _, _⟩) (v := .int .i64 (k : Int)) rfl (by kernel_rfl) (by kernel_rfl) (by kernel_rfl) (fun _ _ _ h => h) (Or.inl ⟨by kernel_rfl, fun w hSw => by go_simp⟩) (by assumption) ?_
 simp only [Act.put, lTA, lC0, lCS]
 refine wpAnyH_take (i := 3) (oi := ⟨some 36, _, _, _, _, _⟩) (v := .pointer (some ⟨g, off + k, none⟩)) rfl (by kernel_rfl) (by kernel_rfl) (by kernel_rfl) (fun _ _ _ h => h) (Or.inl ⟨by kernel_rfl, fun w hSw => by go_simp⟩) (by assumption) ?_
 simp only [Act.put, lTA, lC0, lCS]
 refine wpAnyH_take (i := 4) (oi := ⟨some 37, _, _, _, _, _⟩) (v := .string nm) rfl (by kernel_rfl) (by kernel_rfl) (by kernel_rfl) (fun _ _ _ h => h) (Or.inl ⟨by kernel_rfl, fun w hSw => by go_simp⟩) (by assumption) ?_
 simp only [Act.put, lTA, lC0, lCS]
 refine wpAnyH_take (i := 5) (oi := ⟨some 38, _, _, _, _, _⟩) (v := .pointer (some ⟨p7, 0, none⟩)) rfl (by kernel_rfl) (by kernel_rfl) (by kernel_rfl) (fun _ _ _ h => h) (Or.inl ⟨by kernel_rfl, fun w hSw => by go_simp⟩) (by assumption) ?_
 simp only [Act.put, lTA, lC0, lCS]
 refine wpAnyH_take (i := 6) (oi := ⟨some 39, _, _, _, _, _⟩) (v := .pointer (some ⟨p7, 1, none⟩)) rfl (by kernel_rfl) (by kernel_rfl) (by kernel_rfl) (fun _ _ _ h => h) (Or.inl ⟨by kernel_rfl, fun w hSw => by go_simp⟩) (by assumption) ?_
 simp only [Act.put, lTA, lC0, lCS]
 refine wpAnyH_take (i := 7) (oi := ⟨some 40, _, _, _, _, _⟩) (v := .int .i64 inu) rfl (by kernel_rfl) (by kernel_rfl) (by kernel_rfl) (fun _ _ _ h => h) (Or.inl ⟨by kernel_rfl, fun w hSw => by go_simp⟩) (by assumption) ?_
 simp only [Act.put, lTA, lC0, lCS]
 refine wpAnyH_take (i := 8) (oi := ⟨some 41, _, _, _, _, _⟩) (v := .int .i64 (nbucket nm : Nat)) rfl (by kernel_rfl) (by kernel_rfl) (by kernel_rfl) (fun _ _ _ h => h) (Or.inl ⟨by kernel_rfl, fun w hSw => by go_simp⟩) (by assumption) ?_
 simp only [Act.put, lTA, lC0, lCS]
 refine wpAnyH_take (i := 10) (oi := ⟨some 43, _, _, _, _, _⟩) (v := .pointer (some ⟨sp, 0, none⟩)) rfl (by kernel_rfl) (by kernel_rfl) (by kernel_rfl) (fun _ _ _ h => h) (Or.inl ⟨by kernel_rfl, fun w hSw => by go_simp⟩) (by assumption) ?_
 simp only [Act.put, lTA, lC0, lCS]
 refine wpAnyH_take (i := 11) (oi := ⟨some 44, _, _, _, _, _⟩) (v := .pointer (some ⟨sp, 0, none⟩)) rfl (by kernel_rfl) (by kernel_rfl) (by kernel_rfl) (fun _ _ _ h => h) (Or.inl ⟨by kernel_rfl, fun w hSw => by go_simp⟩) (by assumption) ?_
 simp only [Act.put, lTA, lC0, lCS]
 refine wpAnyH_take (i := 12) (oi := ⟨some 45, _, _, _, _, _⟩) (v := .pointer (some ⟨sp, 0, none⟩)) rfl (by kernel_rfl) (by kernel_rfl) (by kernel_rfl) (fun _ _ _ h => h) (Or.inl ⟨by kernel_rfl, fun w hSw => by go_simp⟩) (by assumption) ?_
 simp only [Act.put, lTA, lC0, lCS]
 refine wpAnyH_take (i := 13) (oi := ⟨some 46, _, _, _, _, _⟩) (v := .agg #[.pointer (some ⟨s, 0, none⟩), .int .i64 c]) rfl (by kernel_rfl) (by kernel_rfl) (by kernel_rfl) (fun _ _ _ h => h) (Or.inl ⟨by kernel_rfl, fun w hSw => by go_simp⟩) (by assumption) ?_
 simp only [Act.put, lTA, lC0, lCS]
 refine wpAnyH_take (i := 14) (oi := ⟨some 47, _, _, _, _, _⟩) (v := .pointer (some ⟨p7, 0, none⟩)) rfl (by kernel_rfl) (by kernel_rfl) (by kernel_rfl) (fun _ _ _ h => h) (Or.inl ⟨by kernel_rfl, fun w hSw => by go_simp⟩) (by assumption) ?_
 simp only [Act.put, lTA, lC0, lCS]
 refine wpAnyH_take (i := 15) (oi := ⟨some 48, _, _, _, _, _⟩) (v := .pointer (some ⟨p7, 1, none⟩)) rfl (by kernel_rfl) (by kernel_rfl) (by kernel_rfl) (fun _ _ _ h => h) (Or.inl ⟨by kernel_rfl, fun w hSw => by go_simp⟩) (by assumption) ?_
 simp only [Act.put, lTA, lC0, lCS]
 refine wpAnyH_take (i := 16) (oi := ⟨some 49, _, _, _, _, _⟩) (v := .int .i64 inu) rfl (by kernel_rfl) (by kernel_rfl) (by kernel_rfl) (fun _ _ _ h => h) (Or.inl ⟨by kernel_rfl, fun w hSw => by go_simp⟩) (by assumption) ?_
 simp only [Act.put, lTA, lC0, lCS]
 refine wpAnyH_take (i := 17) (oi := ⟨some 50, _, _, _, _, _⟩) (v := .int .i64 (nbucket nm : Nat)) rfl (by kernel_rfl) (by kernel_rfl) (by kernel_rfl) (fun _ _ _ h => h) (Or.inl ⟨by kernel_rfl, fun w hSw => by go_simp⟩) (by assumption) ?_
 simp only [Act.put, lTA, lC0, lCS]
 refine wpAnyH_ready (rs := [9]) (by kernel_rfl) (by simp) ?_
 refine AllReadyH.cons rfl (fun K hK => ?_) AllReadyH.nil
 go_simp
 refine (HWD.out _).mono ?_
 rintro e w' ⟨rfl, rfl⟩
 show K _ _
 refine hK.out _ _ (hHeld) (fun hHeld => ?_)
 clear hK K
 refine wpAnyH_ready (rs := [18]) (by kernel_rfl) (by simp) ?_
 refine AllReadyH.cons rfl (fun K hK => ?_) AllReadyH.nil
 go_simp
 refine (Wk.bucket_wk H0.out HOK1.out HML.out HTS.out HNU.out HNB.out HF1.out).mono ?_
 rintro e w5 ⟨⟨bv, rfl, hbv⟩, hq⟩
 have HQ := lhi hq
 have HBV := lhi hbv
 obtain ⟨BA, bcap, rfl, -, -⟩ := RowT.at' hbv
 clear hq hbv
 obtain ⟨bn, hbn⟩ : ∃ n, (M1.bkt inu (nbucket nm : Nat)).length = n := ⟨_, rfl⟩
 have HBN := lhi hbn
 rw [hbn] at HBV
 rw [hbn]
 clear hbn
 show K _ _
 refine hK.out _ _ (HS2.out _ _ _ HQ.out) (fun hHeld => ?_)
 clear hK K
 refine wpAnyH_take (i := 19) (oi := ⟨some 52, _, _, _, _, _⟩) (v := .agg #[.string inm, .int .i64 inu, .bool true, .slice ta tn tc, .string nm, .int .i64 (wd inu (nbucket nm : Nat)), .slice BA bn bcap]) rfl (by kernel_rfl) (by kernel_rfl) (by kernel_rfl) (fun _ _ _ h => h) (Or.inl ⟨by kernel_rfl, fun w hSw => by go_simp⟩) (by assumption) ?_
 simp only [Act.put, lTA, lC0, lCS]
 refine wpAnyH_ready (rs := [20]) (by kernel_rfl) (by simp) ?_
 refine AllReadyH.cons rfl (fun K hK => ?_) AllReadyH.nil
 rw [if_pos (by kernel_rfl)]
 refine wp_store_mid 260 (.tmp 4) (.tmp 52) rfl p4 0 #[.string inm, .int .i64 inu, .bool true, .slice ta tn tc, .string nm, .int .i64 (wd inu (nbucket nm : Nat)), .slice BA bn bcap] rfl rfl (there_of_blk (HQ.out.bk (.head _)) (Nat.le_refl 7)) (by kernel_rfl) (by simp [Value.oneCell']) ?_
 have HQF := lhi (show Wk L w s (M1.see c (wd inu (nbucket nm : Nat))) [⟨p4, 260, fillA #[.string ⟨#[]⟩, .int .i64 0, .bool false, .slice none 0 0, .string ⟨#[]⟩, .int .i64 0, .slice none 0 0] 0 [.string inm, .int .i64 inu, .bool true, .slice ta tn tc, .string nm, .int .i64 (wd inu (nbucket nm : Nat)), .slice BA bn bcap]⟩, ⟨p7, 258, #[.string inm, .int .i64 inu, .bool true, .slice ta tn tc]⟩, ⟨g, 9, cs⟩] [] (w5.setCells p4 0 [.string inm, .int .i64 inu, .bool true, .slice ta tn tc, .string nm, .int .i64 (wd inu (nbucket nm : Nat)), .slice BA bn bcap]) from Wk.setAll HBD.out [.string inm, .int .i64 inu, .bool true, .slice ta tn tc, .string nm, .int .i64 (wd inu (nbucket nm : Nat)), .slice BA bn bcap] 0 _ _ HQ.out)
 show K _ _
 refine hK.out _ _ (HS2.out _ _ _ HQF.out) (fun hHeld => ?_)
 clear hK K
 refine wpAnyH_done (by kernel_rfl) ?_ _
 go_wp2_with (fail)
 have hki := KI.setsC (t := 260) [.string inm, .int .i64 inu, .bool true, .slice ta tn tc, .string nm, .int .i64 (wd inu (nbucket nm : Nat)), .slice BA bn bcap] 0 (HQ.out.bk (.head _)) (by unfold still; decide)
 have hb := HQF.out.bk (.head _)
 have c0 := hb.cell 0
 have c1 := hb.cell 1
 have c2 := hb.cell 2
 have c3 := hb.cell 3
 have c4 := hb.cell 4
 have c5 := hb.cell 5
 have c6 := hb.cell 6
 simp [fillA] at c0 c1 c2 c3 c4 c5 c6
 have hbv := HSB.out ▸ HBV.out.ki hki
 refine bodyPost_ret (v := .agg #[.string inm, .int .i64 inu, .bool true, .slice ta tn tc, .string nm, .int .i64 (wd inu (nbucket nm : Nat)), .slice BA bn bcap]) (by simp [results, Tryz.results166, go_sem, c0, c1, c2, c3, c4, c5, c6]) rfl ⟨⟨tn, tc, ta, _, rfl, hbv⟩, HQF.out.mem, HQF.out.kp⟩
end
section
open Go.RowKit
set_option maxHeartbeats 2000000
theorem num_in (c n : Int) (hc : 0 <= c /\ c < 8) (hn : 0 <= n /\ n < 1000) (w : World) : Calls Tryz.prog 169 #[.int .i64 c, .int .i64 n] w fun e w' => e = .returned (.int .i64 (2 + c + 8 * n)) /\ w = w' := by
 obtain ⟨h1, h2⟩ := hc
 obtain ⟨h3, h4⟩ := hn
 go_enter Tryz.func169, Tryz.ntmps169
 go_wp2
 go_ret
 exact ⟨rfl, rfl⟩
theorem load_v' {L : Nat -> Prop} {w : World} {s : Nat} {M : Mem} {m : Nat} (h : MemAt L w s M) (hok : M.ok m) (hm : m <= 1000000000) {c i : Int} (hc : Who M c) (hi : 0 <= i /\ i < 9549) {r : Int} (hr : rd M.ws i = r) :
  Calls Tryz.prog 121 #[.agg #[.pointer (some ⟨s, 0, none⟩), .int .i64 c], .int .i64 i] w fun e w' => e = .returned (.int .i64 r) /\ MemAt L w' s (M.see c i) /\ Kp L w w' := hr ▸ load_v h hok hm hc hi
namespace Wk
variable {L : Nat -> Prop} {w W W' : World} {s : Nat} {M M' : Mem} {Bs : List LB} {Rs : List RB} {m : Nat}
theorem store_wk (h : Wk L w s M Bs Rs W) (hok : M.ok m) (hm : m <= 1000000000) {c i v : Int} (hc : 0 <= c /\ c < M.ts.length) (hi : 0 <= i /\ i < 9549) {a : Nat} (ha : W.cell? ⟨s, 0, none⟩ = some (.pointer (some ⟨a, 0, none⟩))) :
  Calls Tryz.prog 130 #[.pointer (some ⟨a, 0, none⟩), .int .i64 c, .int .i64 i, .int .i64 v] W fun e w' => (e = .returned (.int .i64 0) /\ w'.cell? ⟨s, 0, none⟩ = W.cell? ⟨s, 0, none⟩) /\ Wk L w s ((M.put i v).note c (i, true)) Bs Rs w' :=
 h.call fun K hK => store_m hK hok hm hc hi ha
theorem arena (h : Wk L w s M Bs Rs W) : ∃ a, W.cell? ⟨s, 0, none⟩ = some (.pointer (some ⟨a, 0, none⟩)) := by
 obtain ⟨a, L1, h0, -⟩ := h.mem.lend
 exact ⟨a, h0⟩
theorem callKI (h : Wk L w s M Bs Rs W) {P : FuncId} {args : Array Value} {R : Ending -> Prop}
  (hc : ∀ K, MemAt K W s M -> Calls Tryz.prog P args W fun e w' => R e /\ MemAt K w' s M' /\ Kp K W w') :
  Calls Tryz.prog P args W fun e w' => R e /\ Wk L w s M' Bs Rs w' /\ KI W w' := by
 refine (h.call (R := fun e w' => R e /\ KI W w') fun K hK => (hc K hK).mono fun e w' ⟨h1, h2, h3⟩ => ⟨⟨h1, h3.i⟩, h2, h3⟩).mono ?_
 rintro e w' ⟨⟨h1, h2⟩, h3⟩
 exact ⟨h1, h3, h2⟩
theorem set_wk {W0 : World} (h : Wk L w s M Bs Rs W0) (hl : Bd L w) (hb : Below W0.heap.size W0 W) (hok : M.ok m) (hm : m <= 900000000) {c i : Int} (hc : 0 <= c /\ c < M.ts.length) (hi : 0 <= i /\ i < 9549) {sp : Nat} (hL : L sp) (s0 : w.cell? ⟨sp, 0, none⟩ = some (.pointer (some ⟨s, 0, none⟩))) (s1 : w.cell? ⟨sp, 1, none⟩ = some (.int .i64 c))
  {sv : Value} {l : List Item} (hi2 : ItB W sv l) (hn : ∀ q, svBlk sv q -> W0.heap.size <= q) :
  Calls Tryz.prog 164 #[.pointer (some ⟨sp, 0, none⟩), .int .i64 i, .iface 161 sv] W fun e w' => e = .returned (.tuple #[]) /\ Wk L w s (M.setW c i (.bucket l)) Bs Rs w' :=
 h.callNew hl hb fun K hKL hKB hK => set_calls hK hok hm hc hi (hKL _ hL) ((h.below hb hl).old hL s0) ((h.below hb hl).old hL s1) ⟨sv, rfl, hi2, fun _ q hq hk => absurd (hKB q hk) (by have := hn q hq; omega)⟩
end Wk
def createM (M : Mem) (c : Int) (it : Item) (nm : ByteArray) (kind n : Int) : Mem :=
 let b : Int := (nbucket nm : Nat)
 let num := 2 + c + 8 * n
 let M1 := M.see c (mdw c)
 let M2 := (M1.put (mdw c) (n + 1)).note c (mdw c, true)
 let M3 := M2.setW c (wd it.num b) (.bucket (M.bkt it.num b ++ [⟨nm, num, kind == 1⟩]))
 if kind = 0 then (M3.put (wd num (8 + c)) 1).note c (wd num (8 + c), true) else M3
theorem rd_wr_other' {ws : List Int} {i j v : Int} (h : j.toNat ≠ i.toNat) : rd (wr ws i v) j = rd ws j := by
 unfold rd wr
 simp [List.getD, Ne.symm h]
set_option maxRecDepth 1000000 in
theorem create_ok {L : Nat -> Prop} {w : World} {s : Nat} {M M1 : Mem} {m : Nat} (h : MemAt L w s M) (hok : M.ok m) (hm : m <= 700000000) {c : Int} (hc : 0 <= c /\ c < M.ts.length) (hf : M.fit)
  {sp : Nat} (hL : L sp) (s0 : w.cell? ⟨sp, 0, none⟩ = some (.pointer (some ⟨s, 0, none⟩))) (s1 : w.cell? ⟨sp, 1, none⟩ = some (.int .i64 c)) {kind : Int} (s2 : w.cell? ⟨sp, 2, none⟩ = some (.int .i64 kind)) (hkind : kind = 0 ∨ kind = 1) {path : ByteArray} (s7 : w.cell? ⟨sp, 7, none⟩ = some (.string path)) (hs : path.size <= 4611686018427387904)
  {ns : List ByteArray} {nm : ByteArray} (hp : parseF path = .ok (ns ++ [nm])) (hn : ns.length <= 100) {it : Item} (hw : walkM c ns M rootItem = (.at_ it, M1)) (hd : it.dir = true) (hfr : freshC (M.bkt it.num (nbucket nm : Nat)) nm = 0)
  {n : Int} (hmade : rd M.ws (mdw c) = n) (hn0 : 0 <= n /\ n < 32) :
  Calls Tryz.prog 127 #[.pointer (some ⟨sp, 0, none⟩)] w fun e w' => e = .returned (.tuple #[]) /\ MemAt L w' s (createM (M1.see c (wd it.num (nbucket nm : Nat))) c it nm kind n) /\ Kp L w w' := by
 have hsame := walkM_same c ns M rootItem
 have hok1 := walkM_ok c ns M rootItem m hok
 have hnum := walkM_num c ns M rootItem it hf ⟨by decide, by decide⟩ (by rw [hw])
 rw [hw] at hsame hok1
 have hts8 := h.tsl
 have HPA := lhi (parent_ok h hok (by omega) hc hf hL s0 s1 hs hp hn hw hd)
 have HBD := lhi h.bd
 have HL := lhi hL
 obtain ⟨inm, inu, idr⟩ := it
 obtain rfl : idr = true := hd
 have hnum : 1 <= inu /\ inu <= 257 := hnum
 have hnum0 := hnum
 obtain ⟨M2, hM2⟩ : ∃ X, M1.see c (wd inu (nbucket nm : Nat)) = X := ⟨_, rfl⟩
 have hsame2 : M.same M2 := hM2 ▸ hsame.trans (Mem.same.see _ _ _)
 have hok2 : M2.ok (m + ns.length + 1) := hM2 ▸ hok1.see _ _
 obtain ⟨l, hl⟩ : ∃ X, M.bkt inu (nbucket nm : Nat) = X := ⟨_, rfl⟩
 have hl2 : M2.bkt inu (nbucket nm : Nat) = l := by rw [hsame2.bkt, hl]
 have hll : l.length <= 1000 := hl ▸ (hf.it inu (nbucket nm : Nat) hnum (by have := nbucket_lt nm; omega)).1
 rw [hl] at hfr
 have HPA := lhi (show Calls Tryz.prog 166 #[.pointer (some ⟨sp, 0, none⟩), .string path] w fun e w' => (∃ tn tc ta bv, e = .returned (.agg #[.string inm, .int .i64 inu, .bool true, .slice ta tn tc, .string nm, .int .i64 (wd inu (nbucket nm : Nat)), bv]) /\ ItB w' bv l) /\ MemAt L w' s M2 /\ Kp L w w' by have := HPA.out; rw [hl, hM2] at this; exact this)
 have HOK2 := lhi hok2
 have HC2 := lhi (show 0 <= c /\ c < M2.ts.length by rw [hsame2.ts]; exact hc)
 have HNB := lhi (show (0 : Int) <= (nbucket nm : Nat) /\ ((nbucket nm : Nat) : Int) < 8 by have := nbucket_lt nm; omega)
 have HMD := lhi (show rd M2.ws (mdw c) = n by rw [hsame2.ws]; exact hmade)
 have HFR := lhi hfr
 have HLL := lhi hll
 have HCR := lhi (show createM M2 c ⟨inm, inu, true⟩ nm kind n = (let M4 := (((M2.see c (mdw c)).put (mdw c) (n + 1)).note c (mdw c, true)).setW c (wd inu (nbucket nm : Nat)) (.bucket (l ++ [⟨nm, 2 + c + 8 * n, kind == 1⟩])); if kind = 0 then (M4.put (wd (2 + c + 8 * n) (8 + c)) 1).note c (wd (2 + c + 8 * n) (8 + c), true) else M4) by rw [<- hl2]; rfl)
 rw [hM2]
 have hc8 : 0 <= c /\ c < 8 := ⟨hc.1, by omega⟩
 obtain ⟨hc0, hc1⟩ := hc8
 have hmn : m + ns.length + 100 <= 800000000 := by omega
 obtain ⟨mm, hmm⟩ : ∃ y, m + ns.length = y := ⟨_, rfl⟩
 rw [hmm] at HOK2 hmn
 clear h hok hc hf hp hw hsame hok1 hsame2 hok2 hM2 hl2 hl hfr hll hmade hs hmm hts8
 go_enter Tryz.func127, Tryz.ntmps127
 go_upto_region 2 with (first
  | (go_at_call 166; refine HPA.out.mono ?_; rintro e w1 ⟨⟨tn, tc, ta, bv, rfl, hbv⟩, hM, hK⟩; have HM := lhi hM; have HK := lhi hK; have HBV := lhi hbv; obtain ⟨BA, bcap, rfl, -, -⟩ := RowT.at' hbv; clear hM hK hbv; obtain ⟨bn, hbn⟩ : ∃ y, l.length = y := ⟨_, rfl⟩; have HBN := lhi hbn; rw [hbn] at HBV HLL; rw [hbn]; clear hbn)
  | (go_at_call 167; refine (fresh_ok (it := ⟨inm, inu, true⟩) (show Blk (w1.alloc (.cells #[.string inm, .int .i64 inu, .bool true, .slice ta tn tc, .string nm, .int .i64 (wd inu (nbucket nm : Nat)), .slice BA bn bcap] 260)) w1.heap.size 260 #[.string inm, .int .i64 inu, .bool true, .slice ta tn tc, .string nm, .int .i64 (wd inu (nbucket nm : Nat)), .slice BA bn bcap] from Blk.new _ _ _) (HBV.out.ki (KI.below (below_alloc _ _))) (by rw [HBN.out]; exact HLL.out) HFR.out).mono ?_; rintro e w2 ⟨rfl, hb2⟩; have HB2 := lhi hb2; clear hb2))
 obtain ⟨p2, hp2⟩ : ∃ p, p = w1.heap.size := ⟨_, rfl⟩
 have HW2 := lhi (((Wk.start HM.out).allocAt HM.out.bd #[.string inm, .int .i64 inu, .bool true, .slice ta tn tc, .string nm, .int .i64 (wd inu (nbucket nm : Nat)), .slice BA bn bcap] 260 hp2).below HB2.out HM.out.bd)
 have HBV2 := lhi (show ItB w2 (.slice BA bn bcap) l from (HBV.out.ki (KI.below (below_alloc _ _))).ki (KI.below HB2.out))
 have HBD1 := lhi HM.out.bd
 rw [<- hp2]
 have t0 := HK.out.cellOf (p := ⟨sp, 0, none⟩) HL.out s0
 have t1 := HK.out.cellOf (p := ⟨sp, 1, none⟩) HL.out s1
 have t2 := HK.out.cellOf (p := ⟨sp, 2, none⟩) HL.out s2
 have HS := lhi (show ∀ (M' : Mem) (W : World), Wk L w1 s M' [⟨p2, 260, #[.string inm, .int .i64 inu, .bool true, .slice ta tn tc, .string nm, .int .i64 (wd inu (nbucket nm : Nat)), .slice BA bn bcap]⟩] [] W -> (W.cell? ⟨sp, 0, none⟩ = some (.pointer (some ⟨s, 0, none⟩)) /\ W.cell? ⟨sp, 1, none⟩ = some (.int .i64 c) /\ W.cell? ⟨sp, 2, none⟩ = some (.int .i64 kind) /\ W.cell? ⟨p2, 4, none⟩ = some (.string nm) /\ W.cell? ⟨p2, 5, none⟩ = some (.int .i64 (wd inu (nbucket nm : Nat))) /\ W.cell? ⟨p2, 6, none⟩ = some (.slice BA bn bcap)) from fun M' W hW => by
  have h1 := hW.bk (.head _)
  exact ⟨hW.old HL.out t0, hW.old HL.out t1, hW.old HL.out t2, h1.cell 4, h1.cell 5, h1.cell 6⟩)
 have HT0 := lhi t0
 have HT1 := lhi t1
 clear hp2 HM HB2 HBV s0 s1 s2 s7 t0 t1 t2 HPA HFR
 have H0 := lhi HW2.out.drew
 have HWH := lhi (show Who M2 c from .inr HC2.out)
 have HMI := lhi (show 0 <= mdw c /\ mdw c < 9549 by unfold mdw; omega)
 go_cut [3] (fun s3 wx => s3 = .int .i64 n /\ Wk L w1 s (M2.see c (mdw c)) [⟨p2, 260, #[.string inm, .int .i64 inu, .bool true, .slice ta tn tc, .string nm, .int .i64 (wd inu (nbucket nm : Nat)), .slice BA bn bcap]⟩] [] wx /\ KI w2 wx)
 case first =>
  go_region_held3 (fun w' => (w'.cell? ⟨sp, 0, none⟩ = some (.pointer (some ⟨s, 0, none⟩)) /\ w'.cell? ⟨sp, 1, none⟩ = some (.int .i64 c) /\ w'.cell? ⟨sp, 2, none⟩ = some (.int .i64 kind) /\ w'.cell? ⟨p2, 4, none⟩ = some (.string nm) /\ w'.cell? ⟨p2, 5, none⟩ = some (.int .i64 (wd inu (nbucket nm : Nat))) /\ w'.cell? ⟨p2, 6, none⟩ = some (.slice BA bn bcap)))
   (with_reducible first | exact HS.out _ _ H0.out | exact HS.out _ _ HQ.out)
   ((first
    | (go_at_call 46; refine (mfmade_calls c (by omega) _).mono ?_; rintro e w' ⟨rfl, rfl⟩)
    | (go_at_call 121; refine (H0.out.callKI (fun K hK => load_v' hK HOK2.out (by omega) HWH.out HMI.out HMD.out)).mono ?_; rintro e wv1 ⟨rfl, hq, hki⟩; have HQ := lhi hq; have HKI := lhi hki; clear hq hki)))
  all_goals
   go_wp2_with (fail)
   go_meet
   case rel => exact ⟨rfl, HQ.out, HKI.out⟩
 case rest =>
  obtain ⟨rfl, hq, hki⟩ := hcut
  have HQ := lhi hq
  have HBV3 := lhi (HBV2.out.ki hki)
  obtain ⟨r0, r1, r2, r3, r4, r5⟩ := HS.out _ _ hq
  obtain ⟨a, ra⟩ := hq.arena
  have HRA := lhi ra
  have hd32 : decide ((32 : Int) <= n) = false := by simp; omega
  obtain ⟨Ma, hMa⟩ : ∃ X, M2.see c (mdw c) = X := ⟨_, rfl⟩
  have HMA := lhi hMa
  have HOKA := lhi (show Ma.ok (mm + 2) from hMa ▸ HOK2.out.see _ _)
  have HCA := lhi (show 0 <= c /\ c < Ma.ts.length by rw [<- hMa, (Mem.same.see M2 _ _).ts]; exact HC2.out)
  rw [hMa] at HQ
  obtain ⟨num, hnum⟩ : ∃ x, 2 + c + 8 * n = x := ⟨_, rfl⟩
  have HNUM := lhi hnum
  have hnb : 2 <= num /\ num <= 257 := by omega
  rw [hnum] at HCR
  have HNI := lhi (fun W => hnum ▸ num_in c n ⟨hc0, hc1⟩ ⟨hn0.1, by omega⟩ W)
  clear hq hki H0 HW2 HBV2 hMa hnum
  obtain ⟨wb, hwb⟩ : ∃ x : World, x = wc := ⟨_, rfl⟩
  subst hwb
  go_upto_region 5 with (first
   | (go_at_call 168; refine (throw_no _ _).mono ?_; rintro e w' ⟨rfl, rfl⟩)
   | (go_at_call 169; refine (HNI.out _).mono ?_; rintro e w' ⟨rfl, rfl⟩))
  have H0 := lhi HQ.out.drew
  have HZC := lhi (show (wb.drew.cell? ⟨sp, 0, none⟩ = some (.pointer (some ⟨s, 0, none⟩)) /\ wb.drew.cell? ⟨sp, 1, none⟩ = some (.int .i64 c) /\ wb.drew.cell? ⟨s, 0, none⟩ = some (.pointer (some ⟨a, 0, none⟩))) from ⟨r0, r1, ra⟩)
  have e1 : IntKind.i64.wrap (n + 1) = n + 1 := IntWalk.i64_in _ (by omega)
  clear r0 r1 r2 r3 r4 r5 ra
  obtain ⟨Mb, hMb⟩ : ∃ X, (Ma.put (mdw c) (n + 1)).note c (mdw c, true) = X := ⟨_, rfl⟩
  have HMB := lhi hMb
  have HST := lhi (show Calls Tryz.prog 130 #[.pointer (some ⟨a, 0, none⟩), .int .i64 c, .int .i64 (mdw c), .int .i64 (n + 1)] wb.drew fun e w' => ((e = .returned (.int .i64 0) /\ w'.cell? ⟨s, 0, none⟩ = wb.drew.cell? ⟨s, 0, none⟩) /\ KI wb.drew w') /\ Wk L w1 s Mb [⟨p2, 260, #[.string inm, .int .i64 inu, .bool true, .slice ta tn tc, .string nm, .int .i64 (wd inu (nbucket nm : Nat)), .slice BA bn bcap]⟩] [] w' by
   rw [<- hMb]
   exact H0.out.call (R := fun e w' => (e = .returned (.int .i64 0) /\ w'.cell? ⟨s, 0, none⟩ = wb.drew.cell? ⟨s, 0, none⟩) /\ KI wb.drew w') fun K hK => (store_m hK HOKA.out (by omega) HCA.out HMI.out HRA.out).mono fun e w' ⟨h1, h2, h3⟩ => ⟨⟨h1, h3.i⟩, h2, h3⟩)
  have HOKB := lhi (show Mb.ok (mm + 3) from hMb ▸ (HOKA.out.put _ _).note _ _)
  have HCB := lhi (show 0 <= c /\ c < Mb.ts.length by rw [<- hMb]; simp only [Mem.note, Mem.put, noted_length]; exact HCA.out)
  clear hMb
  go_cut [4] (fun s4 wx => s4 = .int .i64 num /\ Wk L w1 s Mb [⟨p2, 260, #[.string inm, .int .i64 inu, .bool true, .slice ta tn tc, .string nm, .int .i64 (wd inu (nbucket nm : Nat)), .slice BA bn bcap]⟩] [] wx /\ KI wb wx)
  case first =>
   go_region_held3 (fun w' => (w'.cell? ⟨sp, 0, none⟩ = some (.pointer (some ⟨s, 0, none⟩)) /\ w'.cell? ⟨sp, 1, none⟩ = some (.int .i64 c) /\ w'.cell? ⟨s, 0, none⟩ = some (.pointer (some ⟨a, 0, none⟩))))
    (with_reducible first | exact HZC.out | exact ⟨z0, z1, z2⟩)
    ((first
     | (go_at_call 46; refine (mfmade_calls c (by omega) _).mono ?_; rintro e w' ⟨rfl, rfl⟩)
     | (go_at_call 130; refine HST.out.mono ?_; rintro e wv1 ⟨⟨⟨rfl, hc0'⟩, hki⟩, hq⟩; have HQ5 := lhi hq; have HKI := lhi hki; obtain ⟨z0, z1, -⟩ := HS.out _ _ hq; have z2 := hc0'.trans HRA.out; clear hq hki hc0')))
   all_goals
    go_wp2_with (fail)
    go_meet
    case rel => exact ⟨rfl, HQ5.out, HKI.out⟩
  case rest =>
   obtain ⟨rfl, hq, hki⟩ := hcut
   have HQ6 := lhi hq
   have HBV4 := lhi (HBV3.out.ki hki)
   clear hq hki H0 HQ HBV3 HST HZC e1
   obtain ⟨wd6, hwd6⟩ : ∃ x : World, x = wc := ⟨_, rfl⟩
   subst hwd6
   have H6 := lhi HQ6.out.drew
   obtain ⟨r0, r1, r2, r3, r4, r5⟩ := HS.out _ _ H6.out
   have HZD := lhi (HS.out _ _ H6.out)
   clear r0 r1 r2 r3 r4 r5
   obtain ⟨kb, hkb⟩ : ∃ x, (kind == 1) = x := ⟨_, rfl⟩
   have HKB := lhi hkb
   have HWT := lhi (with_calls (HBV4.out.ki (KI.refl _) : ItB wd6.drew _ l) (by rw [HBN.out]; exact HLL.out) ⟨nm, num, kb⟩)
   have HWI := lhi (show 0 <= wd inu (nbucket nm : Nat) /\ wd inu (nbucket nm : Nat) < 9549 from wd_in hnum0 (by have := HNB.out; omega))
   obtain ⟨Mc, hMc⟩ : ∃ X, Mb.setW c (wd inu (nbucket nm : Nat)) (.bucket (l ++ [⟨nm, num, kb⟩])) = X := ⟨_, rfl⟩
   have HSE := lhi (show ∀ (W : World) (sv : Value), Below wd6.drew.heap.size wd6.drew W -> ItB W sv (l ++ [⟨nm, num, kb⟩]) -> (∀ q, svBlk sv q -> wd6.drew.heap.size <= q) -> Calls Tryz.prog 164 #[.pointer (some ⟨sp, 0, none⟩), .int .i64 (wd inu (nbucket nm : Nat)), .iface 161 sv] W fun e w' => e = .returned (.tuple #[]) /\ Wk L w1 s Mc [⟨p2, 260, #[.string inm, .int .i64 inu, .bool true, .slice ta tn tc, .string nm, .int .i64 (wd inu (nbucket nm : Nat)), .slice BA bn bcap]⟩] [] w' from fun W sv h1 h2 h3 => hMc ▸ H6.out.set_wk HBD1.out h1 HOKB.out (by omega) HCB.out HWI.out HL.out HT0.out HT1.out h2 h3)
   have HOKC := lhi (show Mc.ok (mm + 5) from hMc ▸ HOKB.out.setW _ _ _)
   have HCC := lhi (show 0 <= c /\ c < Mc.ts.length by rw [<- hMc]; simp only [Mem.setW, Mem.note, Mem.put, Mem.give, noted_length]; exact HCB.out)
   have HMC := lhi hMc
   clear hMc
   go_upto_region 6 with (fail)
   go_region_held3 (fun w' => (w'.cell? ⟨sp, 0, none⟩ = some (.pointer (some ⟨s, 0, none⟩)) /\ w'.cell? ⟨sp, 1, none⟩ = some (.int .i64 c) /\ w'.cell? ⟨sp, 2, none⟩ = some (.int .i64 kind) /\ w'.cell? ⟨p2, 4, none⟩ = some (.string nm) /\ w'.cell? ⟨p2, 5, none⟩ = some (.int .i64 (wd inu (nbucket nm : Nat))) /\ w'.cell? ⟨p2, 6, none⟩ = some (.slice BA bn bcap)))
    (with_reducible first | exact HZD.out | exact HS.out _ _ HQ61.out | exact HS.out _ _ HQ62.out)
    ((first
     | (go_at_call 83; refine HWT.out.mono ?_; rintro e wv1 ⟨⟨nv, rfl, hnv, hnq⟩, hb⟩; have HNV := lhi hnv; have HNQ := lhi hnq; have HNB2 := lhi hb; have HQ61 := lhi (H6.out.below hb HBD1.out); clear hnv hnq hb)
     | (go_at_call 164; refine (HSE.out _ _ HNB2.out HNV.out HNQ.out).mono ?_; rintro e wv2 ⟨rfl, hq⟩; have HQ62 := lhi hq; clear hq)))
   obtain ⟨r0, r1, r2, r3, r4, r5⟩ := HS.out _ _ HQ62.out
   rcases hkind with rfl | rfl
   ·have HR := lhi (show createM M2 c ⟨inm, inu, true⟩ nm 0 n = (Mc.put (wd num (8 + c)) 1).note c (wd num (8 + c), true) by rw [HCR.out, <- HMC.out, <- HMB.out, <- HMA.out, <- HKB.out]; rfl)
    have HDI := lhi (show 0 <= wd num (8 + c) /\ wd num (8 + c) < 9549 from wd_in ⟨by omega, hnb.2⟩ ⟨by omega, by omega⟩)
    go_upto_region 8 with (fail)
    obtain ⟨a8, ra8⟩ := HQ62.out.arena
    have H8 := lhi HQ62.out.drew
    have HZE := lhi (show (wv2.drew.cell? ⟨sp, 0, none⟩ = some (.pointer (some ⟨s, 0, none⟩)) /\ wv2.drew.cell? ⟨sp, 1, none⟩ = some (.int .i64 c) /\ wv2.drew.cell? ⟨s, 0, none⟩ = some (.pointer (some ⟨a8, 0, none⟩))) from ⟨r0, r1, ra8⟩)
    have HST := lhi (H8.out.store_wk HOKC.out (by omega) HCC.out HDI.out (v := 1) (a := a8) ra8)
    have HWD := lhi (fun W => word_calls num (8 + c) (by omega) (by omega) W)
    have HRA8 := lhi ra8
    have e8 : IntKind.i64.wrap (8 + c) = 8 + c := IntWalk.i64_in _ (by omega)
    clear r0 r1 r2 r3 r4 r5 ra8
    go_region_held3 (fun w' => (w'.cell? ⟨sp, 0, none⟩ = some (.pointer (some ⟨s, 0, none⟩)) /\ w'.cell? ⟨sp, 1, none⟩ = some (.int .i64 c) /\ w'.cell? ⟨s, 0, none⟩ = some (.pointer (some ⟨a8, 0, none⟩))))
     (with_reducible first | exact HZE.out | exact ⟨z0, z1, z2⟩)
     ((first
      | (go_at_call 85; refine (HWD.out _).mono ?_; rintro e w' ⟨rfl, rfl⟩)
      | (go_at_call 130; refine HST.out.mono ?_; rintro e wv3 ⟨⟨rfl, hc0'⟩, hq⟩; have HQ8 := lhi hq; obtain ⟨z0, z1, -⟩ := HS.out _ _ hq; have z2 := hc0'.trans HRA8.out; clear hq hc0')))
    all_goals
     go_wp2_with (fail)
     go_end0
     exact ⟨rfl, by rw [HR.out]; exact HQ8.out.mem, HK.out.trans HQ8.out.kp⟩
   ·have HR := lhi (show createM M2 c ⟨inm, inu, true⟩ nm 1 n = Mc by rw [HCR.out, <- HMC.out, <- HMB.out, <- HMA.out, <- HKB.out]; rfl)
    go_wp2_with (fail)
    go_end0
    exact ⟨rfl, by rw [HR.out]; exact HQ62.out.mem, HK.out.trans HQ62.out.kp⟩
end
section
open Go.RowKit
set_option maxHeartbeats 1000000
abbrev begunV : Value := .iface 112 (.agg #[])
theorem ta_looked (W : World) : (Instr.typeAssert (.iface 112 (.agg #[])) 20 221 true).run Tryz.prog W = .ok (.tuple #[.agg #[.int .i64 0, .string ⟨#[]⟩, .bool false, .slice none 0 0, .string ⟨#[]⟩, .string ⟨#[]⟩, .bool false], .bool false]) W := by kernel_rfl
theorem ta_holds (W : World) : (Instr.typeAssert (.iface 112 (.agg #[])) 20 225 true).run Tryz.prog W = .ok (.tuple #[.agg #[.int .i64 0, .string ⟨#[]⟩, .bool false, .string ⟨#[]⟩, .int .i64 0], .bool false]) W := by kernel_rfl
set_option maxRecDepth 1000000 in
theorem run_create {w : World} {sp : Nat} {kind : Int} (s2 : w.cell? ⟨sp, 2, none⟩ = some (.int .i64 kind)) (hk : kind = 0 ∨ kind = 1) {P : World -> Prop}
  (hC : ∀ W, Below w.heap.size w W -> Calls Tryz.prog 127 #[.pointer (some ⟨sp, 0, none⟩)] W fun e w' => e = .returned (.tuple #[]) /\ P w') :
  Calls Tryz.prog 96 #[.pointer (some ⟨sp, 0, none⟩), begunV] w fun e w' => e = .returned (.tuple #[]) /\ P w' := by
 have hsl := World.block_lt_of_cell? w _ s2
 have h1 := ta_looked
 have h2 := ta_holds
 have HC := lhi (hC ((w.alloc (.cells #[.int .i64 0, .string ⟨#[]⟩, .bool false, .slice none 0 0, .string ⟨#[]⟩, .string ⟨#[]⟩, .bool false] 221)).alloc (.cells #[.int .i64 0, .string ⟨#[]⟩, .bool false, .string ⟨#[]⟩, .int .i64 0] 225)) (((Below.refl _ _).alloc (Nat.le_refl _) _).alloc (by simp) _))
 clear hC
 rcases hk with rfl | rfl
 all_goals
  go_enter Tryz.func96, Tryz.ntmps96
  go_wp2_with (go_at_call 127; refine HC.out.mono ?_; rintro e w' ⟨rfl, hp⟩; have HP := lhi hp; clear hp)
  go_end0
  exact ⟨rfl, HP.out⟩
set_option maxRecDepth 1000000 in
theorem run_create_bad {w : World} {sp : Nat} {kind code : Int} (s2 : w.cell? ⟨sp, 2, none⟩ = some (.int .i64 kind)) (hk : kind = 0 ∨ kind = 1) {P : World -> Prop}
  (hC : ∀ W, Below w.heap.size w W -> Calls Tryz.prog 127 #[.pointer (some ⟨sp, 0, none⟩)] W fun e w' => e = thrown code /\ P w') :
  Calls Tryz.prog 96 #[.pointer (some ⟨sp, 0, none⟩), begunV] w fun e w' => e = thrown code /\ P w' := by
 have hsl := World.block_lt_of_cell? w _ s2
 have h1 := ta_looked
 have h2 := ta_holds
 have HC := lhi (hC ((w.alloc (.cells #[.int .i64 0, .string ⟨#[]⟩, .bool false, .slice none 0 0, .string ⟨#[]⟩, .string ⟨#[]⟩, .bool false] 221)).alloc (.cells #[.int .i64 0, .string ⟨#[]⟩, .bool false, .string ⟨#[]⟩, .int .i64 0] 225)) (((Below.refl _ _).alloc (Nat.le_refl _) _).alloc (by simp) _))
 clear hC
 rcases hk with rfl | rfl
 all_goals
  go_enter Tryz.func96, Tryz.ntmps96
  go_wp2_with (go_at_call 127; refine HC.out.mono ?_; rintro e w' ⟨rfl, hp⟩; have HP := lhi hp; clear hp)
  (try simp only [Exit.inBlock, Exit.then])
  exact ⟨rfl, rfl, HP.out⟩
theorem ta_fault (c : Int) (W : World) : (Instr.typeAssert (.iface 186 (.agg #[.int .i64 c])) 20 186 true).run Tryz.prog W = .ok (.tuple #[.agg #[.int .i64 c], .bool true]) W := by kernel_rfl
def DoneQ (R : World -> Prop) (e : Exit) (a : Act) (w : World) : Prop := (e = .normal ∨ e = .ret) /\ a.defers = [] /\ R w
theorem catch_idle (p q : Addr) (w : World) :
  CallsD Tryz.prog 95 #[.pointer (some p), .pointer (some q)] .returning w fun e u' w' => e = .returned (.tuple #[]) /\ u' = .returning /\ w' = w := by
 refine callsD_of_wpS Tryz.func95 rfl fun c₀ cs hu => ?_
 simp only [Tryz.ntmps95, List.size_toArray, List.length_cons, List.length_nil, Nat.reduceAdd, Nat.reduceSub, Array.replicate_succ, Array.replicate_zero, List.push_toArray, List.append_toArray, List.nil_append, List.cons_append]
 apply wpS_seq
 apply wpS_region
 simp [wpOpsS, go_sem, recoverD, hu, Exit.thenS]
 refine wpS_of_wp (Code.wp_mono (Q := DoneQ (fun w' => w' = w)) ?_ ?_)
 ·rintro e a w' ⟨he, hd, rfl⟩
  cases c₀
  rcases he with rfl | rfl <;> simp_all [bodyPostS, results, Tryz.results95]
 ·clear hu
  go_wp2_with (fail)
  exact ⟨.inr rfl, rfl, rfl⟩
def codeRes (c : Int) : List Value := [.int .i64 c, .int .i64 0, .int .i64 0, .bool false, .string ⟨#[]⟩, .slice none 0 0]
set_option maxRecDepth 1000000 in
theorem catch_fault {p q : Nat} {c : Int} {w : World} {cs : Array Value} (hpq : p ≠ q) (hs : cs.size = 6) (hp : Blk w p 37 cs) {v : Value} (hq : Blk w q 20 #[v]) (older : List PanicEntry) :
  CallsD Tryz.prog 95 #[.pointer (some ⟨p, 0, none⟩), .pointer (some ⟨q, 0, none⟩)] (.panicking ({ v := faultV c, recovered := false } :: older)) w fun e u' w' => e = .returned (.tuple #[]) /\ u' = .panicking ({ v := faultV c, recovered := true } :: older) /\ w' = ((w.setCells p 0 (codeRes c)).setCell ⟨q, 0, none⟩ .nilIface).alloc (.cells #[.int .i64 c] 186) := by
 have h1 := ta_fault c
 obtain ⟨v0, v1, v2, v3, v4, v5, rfl⟩ : ∃ v0 v1 v2 v3 v4 v5, cs = #[v0, v1, v2, v3, v4, v5] := by
  rcases cs with ⟨_ | ⟨v0, _ | ⟨v1, _ | ⟨v2, _ | ⟨v3, _ | ⟨v4, _ | ⟨v5, _ | ⟨v6, l⟩⟩⟩⟩⟩⟩⟩⟩ <;> simp at hs ⊢
 clear hs
 have hqs := hq.lt
 have hps := hp.lt
 have c0 : w.cell? ⟨p, 0, none⟩ = some v0 := hp.cell 0
 have f0 : w.frozen? ⟨p, 0, none⟩ = false := hp.frozen 0
 have c1 : w.cell? ⟨p, 1, none⟩ = some v1 := hp.cell 1
 have f1 : w.frozen? ⟨p, 1, none⟩ = false := hp.frozen 1
 have c2 : w.cell? ⟨p, 2, none⟩ = some v2 := hp.cell 2
 have f2 : w.frozen? ⟨p, 2, none⟩ = false := hp.frozen 2
 have c3 : w.cell? ⟨p, 3, none⟩ = some v3 := hp.cell 3
 have f3 : w.frozen? ⟨p, 3, none⟩ = false := hp.frozen 3
 have c4 : w.cell? ⟨p, 4, none⟩ = some v4 := hp.cell 4
 have f4 : w.frozen? ⟨p, 4, none⟩ = false := hp.frozen 4
 have c5 : w.cell? ⟨p, 5, none⟩ = some v5 := hp.cell 5
 have f5 : w.frozen? ⟨p, 5, none⟩ = false := hp.frozen 5
 have cq : w.cell? ⟨q, 0, none⟩ = some v := hq.cell 0
 have fq : w.frozen? ⟨q, 0, none⟩ = false := hq.frozen 0
 have hpq' : q ≠ p := Ne.symm hpq
 clear hp hq
 refine callsD_of_wpS Tryz.func95 rfl fun c₀ cs hu => ?_
 simp only [Tryz.ntmps95, List.size_toArray, List.length_cons, List.length_nil, Nat.reduceAdd, Nat.reduceSub, Array.replicate_succ, Array.replicate_zero, List.push_toArray, List.append_toArray, List.nil_append, List.cons_append]
 apply wpS_seq
 apply wpS_region
 simp [wpOpsS, go_sem, recoverD, hu, Exit.thenS, faultV]
 refine wpS_of_wp (Code.wp_mono (Q := DoneQ (fun w' => w' = ((w.setCells p 0 (codeRes c)).setCell ⟨q, 0, none⟩ .nilIface).alloc (.cells #[.int .i64 c] 186))) ?_ ?_)
 ·rintro e a w' ⟨he, hd, rfl⟩
  cases c₀
  rcases he with rfl | rfl <;> simp_all [bodyPostS, results, Tryz.results95]
 ·clear hu
  go_wp2_with (fail)
  exact ⟨.inl rfl, rfl, rfl⟩
end
section
open Go.RowKit
set_option maxHeartbeats 1000000
theorem findV_form (l : List Item) (s : ByteArray) : ∃ a0 a1 a2 b, findV l s = .tuple #[.agg #[.string a0, .int .i64 a1, .bool a2], .bool b] /\ (b = true -> l.find? (Item.is s) = some ⟨a0, a1, a2⟩) /\ (b = false -> l.find? (Item.is s) = none) := by
 unfold findV
 cases h : l.find? (Item.is s) with
 | some x => exact ⟨x.name, x.num, x.dir, true, rfl, fun _ => rfl, (fun h => by cases h)⟩
 | none => exact ⟨_, _, _, false, rfl, (fun h => by cases h), fun _ => rfl⟩
def ThereR (l : List Item) (nm : ByteArray) (e : Ending) : Prop := match l.find? (Item.is nm) with
 | some x => e = .returned (itV x)
 | none => e = thrown 1
set_option maxRecDepth 1000000 in
theorem there_calls {w : World} {xp : Nat} {it : Item} {tv bv : Value} {nm : ByteArray} {wdn : Int} {l : List Item} (hx : Blk w xp 260 (spotA it tv nm wdn bv)) (hb : ItB w bv l) (hl : l.length <= 1000) :
  Calls Tryz.prog 178 #[.pointer (some ⟨xp, 0, none⟩)] w fun e w' => ThereR l nm e /\ Below w.heap.size w w' := by
 obtain ⟨a0, a1, a2, fb, hfv, hft, hff⟩ := findV_form l nm
 have HTR := lhi (show ∀ e, (fb = true -> e = .returned (.agg #[.string a0, .int .i64 a1, .bool a2])) -> (fb = false -> e = thrown 1) -> ThereR l nm e from fun e h1 h2 => by
  unfold ThereR
  rcases bool_tf fb with rfl | rfl
  ·rw [hft rfl]; exact h1 rfl
  ·rw [hff rfl]; exact h2 rfl)
 obtain ⟨A, cap, rfl, hcap, -⟩ := RowT.at' hb
 obtain ⟨n, hn⟩ : ∃ n, l.length = n := ⟨_, rfl⟩
 obtain ⟨w0, hw0⟩ : ∃ X, X = w.alloc (.cells #[.string ⟨#[]⟩, .int .i64 0, .bool false] 165) := ⟨_, rfl⟩
 obtain ⟨p, hp⟩ : ∃ X, X = w.heap.size := ⟨_, rfl⟩
 have hsz : w0.heap.size = p + 1 := by rw [hw0, hp]; simp
 have HBW := lhi (show Below w.heap.size w w0 by rw [hw0]; exact below_alloc _ _)
 have HBP := lhi (show Blk w0 p 165 #[.string ⟨#[]⟩, .int .i64 0, .bool false] by rw [hw0, hp]; exact Blk.new _ _ _)
 have HC := lhi (show ∀ W, Below w0.heap.size w0 W -> Calls Tryz.prog 181 #[.slice A n cap, .string nm] W fun e w' => e = .returned (.tuple #[.agg #[.string a0, .int .i64 a1, .bool a2], .bool fb]) /\ Below W.heap.size W w' from fun W hW => by
  have := find_calls ((hb.ki (KI.below HBW.out)).ki (KI.below hW)) hl nm
  rw [hfv, hn] at this
  exact this)
 have hx0 := Blk.of_heap (HBW.out.block _ hx.lt) hx
 have hxl : xp < w0.heap.size := hx0.lt
 have x1 : w0.cell? ⟨xp, 4, none⟩ = some (.string nm) := hx0.cell 4
 have x3 : w0.cell? ⟨xp, 6, none⟩ = some (.slice A l.length cap) := hx0.cell 6
 rw [hn] at x3 hcap hl
 have HPP := lhi hp
 have HSZ := lhi hsz
 clear hb hx hx0 hn hfv hft hff hsz
 have HPD := lhi (show w0.drew.cell? ⟨xp, 4, none⟩ = some (.string nm) /\ w0.drew.cell? ⟨xp, 6, none⟩ = some (.slice A n cap) from ⟨x1, x3⟩)
 have HPA := lhi (show (w0.alloc (.cells #[.string ⟨#[]⟩, .int .i64 0, .bool false] 165)).drew.cell? ⟨xp, 4, none⟩ = some (.string nm) /\ (w0.alloc (.cells #[.string ⟨#[]⟩, .int .i64 0, .bool false] 165)).drew.cell? ⟨xp, 6, none⟩ = some (.slice A n cap) from ⟨(World.cell?_alloc_past _ _ _ hxl).trans x1, (World.cell?_alloc_past _ _ _ hxl).trans x3⟩)
 have HBL := lhi (show Blk (w0.alloc (.cells #[.string ⟨#[]⟩, .int .i64 0, .bool false] 165)).drew w0.heap.size 165 #[.string ⟨#[]⟩, .int .i64 0, .bool false] from Blk.new _ _ _)
 have hne : xp ≠ w0.heap.size := by omega
 go_enter Tryz.func178, Tryz.ntmps178
 go_upto_region 1 with (fail)
 rw [<- hp, <- hw0]
 clear hp hw0
 go_cut [3, 4] (fun s3 s4 wx => ∃ q, s3 = .pointer (some ⟨q, 0, none⟩) /\ s4 = .bool fb /\ Blk wx q 165 #[.string a0, .int .i64 a1, .bool a2] /\ w0.heap.size <= q /\ Below w0.heap.size w0 wx)
 case first =>
  go_region_held3 (fun w' => w'.cell? ⟨xp, 4, none⟩ = some (.string nm) /\ w'.cell? ⟨xp, 6, none⟩ = some (.slice A n cap))
   (with_reducible first | exact HPD.out | exact HPA.out | exact ⟨z1, z3⟩ | exact ⟨(World.cell?_alloc_past _ _ _ zl).trans z1, (World.cell?_alloc_past _ _ _ zl).trans z3⟩ | exact ⟨cell_set3 hne z1, cell_set3 hne z3⟩)
   ((go_at_call 181; first
    | ((with_reducible refine (HC.out _ (below_drew w0)).mono ?_); rintro e wv1 ⟨rfl, hq⟩; have HQ := lhi (show Below w0.heap.size w0 wv1 from (below_drew w0).trans hq); clear hq; have z1 : wv1.cell? ⟨xp, 4, none⟩ = some (.string nm) := (HQ.out.cell (p := ⟨xp, 4, none⟩) hxl).trans x1; have z3 : wv1.cell? ⟨xp, 6, none⟩ = some (.slice A n cap) := (HQ.out.cell (p := ⟨xp, 6, none⟩) hxl).trans x3; have zl : xp < wv1.heap.size := Nat.lt_of_lt_of_le hxl HQ.out.size; have HEA := lhi (show ∃ q, Value.pointer (some ⟨wv1.heap.size, 0, none⟩) = .pointer (some ⟨q, 0, none⟩) /\ Blk (wv1.alloc (.cells #[.string a0, .int .i64 a1, .bool a2] 165)) q 165 #[.string a0, .int .i64 a1, .bool a2] /\ w0.heap.size <= q /\ Below w0.heap.size w0 (wv1.alloc (.cells #[.string a0, .int .i64 a1, .bool a2] 165)) from ⟨_, rfl, Blk.new _ _ _, HQ.out.size, HQ.out.alloc HQ.out.size _⟩))
    | ((with_reducible refine (HC.out _ (below_ad w0 (.cells #[.string ⟨#[]⟩, .int .i64 0, .bool false] 165))).mono ?_); rintro e wv1 ⟨rfl, hq⟩; have HQ := lhi (show Below w0.heap.size w0 wv1 from (below_ad w0 _).trans (hq.mono (by simp))); have hB : Blk wv1 w0.heap.size 165 #[.string ⟨#[]⟩, .int .i64 0, .bool false] := Blk.of_heap (hq.block w0.heap.size (by simp)) (HBL.out); have z1 : wv1.cell? ⟨xp, 4, none⟩ = some (.string nm) := (HQ.out.cell (p := ⟨xp, 4, none⟩) hxl).trans x1; have z3 : wv1.cell? ⟨xp, 6, none⟩ = some (.slice A n cap) := (HQ.out.cell (p := ⟨xp, 6, none⟩) hxl).trans x3; have zl : xp < wv1.heap.size := Nat.lt_of_lt_of_le hxl HQ.out.size; have HEA := lhi (show ∃ q, Value.pointer (some ⟨w0.heap.size, 0, none⟩) = .pointer (some ⟨q, 0, none⟩) /\ Blk (((wv1.setCell ⟨w0.heap.size, 0, none⟩ (.string a0)).setCell ⟨w0.heap.size, 1, none⟩ (.int .i64 a1)).setCell ⟨w0.heap.size, 2, none⟩ (.bool a2)) q 165 #[.string a0, .int .i64 a1, .bool a2] /\ w0.heap.size <= q /\ Below w0.heap.size w0 (((wv1.setCell ⟨w0.heap.size, 0, none⟩ (.string a0)).setCell ⟨w0.heap.size, 1, none⟩ (.int .i64 a1)).setCell ⟨w0.heap.size, 2, none⟩ (.bool a2)) from ⟨_, rfl, ((hB.set_ 0 _).set_ 1 _).set_ 2 _, Nat.le_refl _, below_set3 HQ.out _ _ _⟩); have y0 : wv1.cell? ⟨w0.heap.size, 0, none⟩ = some (.string ⟨#[]⟩) := hB.cell 0; have y1 : wv1.cell? ⟨w0.heap.size, 1, none⟩ = some (.int .i64 0) := hB.cell 1; have y2 : wv1.cell? ⟨w0.heap.size, 2, none⟩ = some (.bool false) := hB.cell 2; have u0 := hB.frozen 0; have u1 := hB.frozen 1; have u2 := hB.frozen 2; clear hq hB)))
  all_goals
   go_wp2_with (fail)
   go_meet
   case rel =>
    obtain ⟨q, h1, h2⟩ := HEA.out
    exact ⟨q, h1, rfl, h2⟩
 case rest =>
  obtain ⟨q, rfl, rfl, hbq, hqn, hb⟩ := hcut
  have HB2 := lhi (HBW.out.trans (hb.mono (show w.heap.size <= w0.heap.size by have := HSZ.out; have := HPP.out; omega)))
  have q0 : wc.cell? ⟨q, 0, none⟩ = some (.string a0) := hbq.cell 0
  have q1 : wc.cell? ⟨q, 1, none⟩ = some (.int .i64 a1) := hbq.cell 1
  have q2 : wc.cell? ⟨q, 2, none⟩ = some (.bool a2) := hbq.cell 2
  have hr := Blk.of_heap (hb.block p HBP.out.lt) HBP.out
  have HRR := lhi hr
  have r0 : wc.cell? ⟨p, 0, none⟩ = some (.string ⟨#[]⟩) := hr.cell 0
  have r1 : wc.cell? ⟨p, 1, none⟩ = some (.int .i64 0) := hr.cell 1
  have r2 : wc.cell? ⟨p, 2, none⟩ = some (.bool false) := hr.cell 2
  have f0 := hr.frozen 0
  have f1 := hr.frozen 1
  have f2 := hr.frozen 2
  have hpq : p ≠ q := by have := HSZ.out; omega
  clear hbq hqn hb hr x1 x3
  rcases bool_tf fb with rfl | rfl
  ·go_wp2_with (go_at_call 168; refine (throw_no _ _).mono ?_; rintro e w' ⟨rfl, rfl⟩)
   obtain ⟨c0, c1, c2⟩ := set3_cells HRR.out (.string a0) (.int .i64 a1) (.bool a2)
   refine bodyPost_ret (v := .agg #[.string a0, .int .i64 a1, .bool a2]) (by simp [results, Tryz.results178, go_sem, c0, c1, c2]) rfl ⟨HTR.out _ (fun _ => rfl) (fun h => by cases h), ?_⟩
   have hle : w.heap.size <= p := by have := HPP.out; omega
   exact ((HB2.out.setCell (p := ⟨p, 0, none⟩) hle _).setCell (p := ⟨p, 1, none⟩) hle _).setCell (p := ⟨p, 2, none⟩) hle _
  ·go_wp2_with (go_at_call 168; refine (throw_yes _ _).mono ?_; rintro e w' ⟨rfl, rfl⟩)
   (try simp only [Exit.inBlock, Exit.then])
   exact ⟨rfl, HTR.out _ (fun h => by cases h) (fun _ => rfl), HB2.out⟩
end
end Go.Proofs.YtkebjgebkneijaaGreatDoor
