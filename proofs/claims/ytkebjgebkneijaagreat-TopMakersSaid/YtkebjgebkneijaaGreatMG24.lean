/- Texts of one's own that a claim's last text rests on: Mr1 Mr2 Mr3. -/
import Derived.Test.YtkebjgebkneijaaGreatMG16
set_option linter.unusedVariables false
set_option linter.unusedSimpArgs false
namespace Go.Proofs.YtkebjgebkneijaaGreat
section
open Go.RowKit
set_option maxHeartbeats 1000000
structure Says (M : Mem) (i : Int) (o : Option Thing) : Prop where
 f : M.fine i
 a : M.at_ i = o
 z : rd M.ws i <= 1000000000000
namespace Says
variable {M : Mem} {i j c v : Int} {o : Option Thing} {m : Nat}
theorem note (h : Says M i o) (c : Int) (x : Acc) : Says (M.note c x) i o := ⟨h.f, h.a, h.z⟩
theorem see (h : Says M i o) (c j : Int) : Says (M.see c j) i o := by
 unfold Mem.see
 split
 ·exact h
 ·exact h.note _ _
theorem put (h : Says M i o) (hij : i.toNat ≠ j.toNat) (v : Int) : Says (M.put j v) i o := by
 have e : rd (M.put j v).ws i = rd M.ws i := rd_wr_other' hij
 exact ⟨by have := h.f; unfold Mem.fine at this ⊢; rw [e]; exact this, by have := h.a; unfold Mem.at_ at this ⊢; rw [e]; exact this, by rw [e]; exact h.z⟩
theorem thing_give (M : Mem) (c : Int) (t : Thing) {n : Int} {x : Thing} (h : M.thing n = some x) : (M.give c t).thing n = some x := by
 unfold Mem.thing at h ⊢
 split at h
 ·cases h
 ·rename_i hn
  rw [if_neg hn]
  simp only [Mem.give]
  by_cases hc : c.toNat < M.nm.length
  ·rw [getD_set _ _ _ _ _ hc]
   split
   ·rename_i e
    rw [e] at h
    rw [List.getElem?_append_left (List.getElem?_eq_some_iff.1 h).1]
    exact h
   ·exact h
  ·rw [List.set_eq_of_length_le (by omega)]
   exact h
theorem give (h : Says M i o) (c : Int) (t : Thing) : Says (M.give c t) i o := by
 obtain ⟨h1, h2, h3⟩ := h
 rcases h1 with h0 | ⟨h0, hs⟩
 ·refine ⟨.inl h0, ?_, h3⟩
  unfold Mem.at_ at h2 ⊢
  show (M.give c t).thing (rd M.ws i) = o
  rw [h0] at h2 ⊢
  exact h2
 ·obtain ⟨x, hx⟩ := Option.isSome_iff_exists.1 hs
  have hg := thing_give M c t hx
  refine ⟨.inr ⟨h0, ?_⟩, ?_, h3⟩
  ·show ((M.give c t).thing (rd M.ws i)).isSome = true
   rw [hg]; rfl
  ·unfold Mem.at_ at h2 ⊢
   show (M.give c t).thing (rd M.ws i) = o
   rw [hg, <- h2, hx]
theorem thing_next (M : Mem) {c : Int} (hc : 0 <= c /\ c < M.nm.length) (h8 : c < 8) (t : Thing) : (M.give c t).thing (M.next c) = some t := by
 have hcn : c.toNat < M.nm.length := by omega
 unfold Mem.thing Mem.next
 rw [if_neg (by omega)]
 have e1 : ((1 + c + 8 * ((M.nm.getD c.toNat []).length : Int) - 1) % 8).toNat = c.toNat := by omega
 have e2 : ((1 + c + 8 * ((M.nm.getD c.toNat []).length : Int) - 1) / 8).toNat = (M.nm.getD c.toNat []).length := by omega
 rw [e1, e2]
 simp only [Mem.give]
 rw [getD_set _ _ _ _ _ hcn, if_pos rfl]
 simp
theorem put_self {t : Thing} (hok : M.ok m) (hm : m <= 1000000000) (hc : 0 <= c /\ c < M.nm.length) (h8 : c < 8) (hi : 0 <= i /\ i < 9549) : Says ((M.give c t).put i (M.next c)) i (some t) := by
 have e : rd ((M.give c t).put i (M.next c)).ws i = M.next c := by
  have hl := hok.wl
  unfold rd Mem.put wr
  simp only [Mem.give]
  rw [getD_set _ _ _ _ _ (by omega), if_pos rfl]
 have hn := thing_next M hc h8 t
 have hpos : 0 < M.next c := by unfold Mem.next; omega
 have hnl := hok.nl c.toNat
 refine ⟨.inr ⟨by rw [e]; exact hpos, ?_⟩, ?_, ?_⟩
 ·rw [e]
  show ((M.give c t).thing (M.next c)).isSome = true
  rw [hn]; rfl
 ·unfold Mem.at_
  rw [e]
  exact hn
 ·rw [e]
  unfold Mem.next
  omega
end Says
structure Dk (M : Mem) (D : Int -> Int -> List Item) : Prop where
 s : ∀ num b, 1 <= num /\ num <= 257 -> 0 <= b /\ b < 8 -> ∃ o, Says M (wd num b) o /\ ((o = none /\ D num b = []) ∨ o = some (.bucket (D num b)))
 i : ∀ num b, 1 <= num /\ num <= 257 -> 0 <= b /\ b < 8 -> (D num b).length <= 1000 /\ ∀ x ∈ D num b, 1 <= x.num /\ x.num <= 257
namespace Dk
variable {M M' : Mem} {D : Int -> Int -> List Item} {c : Int} {m : Nat}
theorem bkt (h : Dk M D) {num b : Int} (hn : 1 <= num /\ num <= 257) (hb : 0 <= b /\ b < 8) : M.bkt num b = D num b := by
 obtain ⟨o, h1, h2⟩ := h.s num b hn hb
 unfold Mem.bkt
 rw [h1.a]
 rcases h2 with ⟨rfl, h2⟩ | rfl
 ·rw [h2]
 ·rfl
theorem fit (h : Dk M D) : M.fit := by
 refine ⟨fun num b hn hb => ?_, fun num b hn hb => ?_⟩
 ·obtain ⟨o, h1, h2⟩ := h.s num b hn hb
  refine ⟨⟨h1.f, fun t ht => ?_⟩, h1.z⟩
  rw [h1.a] at ht
  rcases h2 with ⟨rfl, -⟩ | rfl
  ·cases ht
  ·exact ⟨_, (Option.some.inj ht).symm⟩
 ·rw [h.bkt hn hb]
  exact h.i num b hn hb
theorem keep (h : Dk M D) (hs : ∀ num b o, 1 <= num /\ num <= 257 -> 0 <= b /\ b < 8 -> Says M (wd num b) o -> Says M' (wd num b) o) : Dk M' D :=
 ⟨fun num b hn hb => by obtain ⟨o, h1, h2⟩ := h.s num b hn hb; exact ⟨o, hs num b o hn hb h1, h2⟩, h.i⟩
theorem note (h : Dk M D) (c : Int) (x : Acc) : Dk (M.note c x) D := h.keep fun _ _ _ _ _ k => k.note c x
theorem see (h : Dk M D) (c j : Int) : Dk (M.see c j) D := h.keep fun _ _ _ _ _ k => k.see c j
theorem clear (h : Dk M D) (k : Nat) : Dk (M.clear k) D := h.keep fun _ _ _ _ _ q => ⟨q.f, q.a, q.z⟩
theorem put (h : Dk M D) {j : Int} (hj : ∀ num b, 1 <= num /\ num <= 257 -> 0 <= b /\ b < 8 -> (wd num b).toNat ≠ j.toNat) (v : Int) : Dk (M.put j v) D := h.keep fun num b _ hn hb k => k.put (hj num b hn hb) v
theorem give (h : Dk M D) (c : Int) (t : Thing) : Dk (M.give c t) D := h.keep fun _ _ _ _ _ k => k.give c t
theorem wd_ne {num b num' b' : Int} (hn : 1 <= num /\ num <= 257) (hb : 0 <= b /\ b < 37) (hn' : 1 <= num' /\ num' <= 257) (hb' : 0 <= b' /\ b' < 37) (h : ¬ (num = num' /\ b = b')) : (wd num b).toNat ≠ (wd num' b').toNat := by
 unfold wd
 omega
theorem put_set (h : Dk M D) (hok : M.ok m) (hm : m <= 1000000000) (hc : 0 <= c /\ c < M.nm.length) (h8 : c < 8) {num b : Int} (hn : 1 <= num /\ num <= 257) (hb : 0 <= b /\ b < 8) {l : List Item} (hl : l.length <= 1000 /\ ∀ x ∈ l, 1 <= x.num /\ x.num <= 257) :
  Dk ((M.give c (.bucket l)).put (wd num b) (M.next c)) (fun n' b' => if n' = num /\ b' = b then l else D n' b') := by
 refine ⟨fun n' b' hn' hb' => ?_, fun n' b' hn' hb' => ?_⟩
 ·by_cases e : n' = num /\ b' = b
  ·obtain ⟨rfl, rfl⟩ := e
   exact ⟨_, Says.put_self hok hm hc h8 (by unfold wd; omega), .inr (by rw [if_pos ⟨rfl, rfl⟩])⟩
  ·obtain ⟨o, h1, h2⟩ := h.s n' b' hn' hb'
   refine ⟨o, (h1.give c _).put (wd_ne hn' ⟨hb'.1, by omega⟩ hn ⟨hb.1, by omega⟩ e) _, ?_⟩
   rw [if_neg e]
   exact h2
 ·by_cases e : n' = num /\ b' = b
  ·rw [if_pos e]; exact hl
  ·rw [if_neg e]; exact h.i n' b' hn' hb'
theorem setW (h : Dk M D) (hok : M.ok m) (hm : m <= 1000000000) (hc : 0 <= c /\ c < M.nm.length) (h8 : c < 8) {num b : Int} (hn : 1 <= num /\ num <= 257) (hb : 0 <= b /\ b < 8) {l : List Item} (hl : l.length <= 1000 /\ ∀ x ∈ l, 1 <= x.num /\ x.num <= 257) :
  Dk (M.setW c (wd num b) (.bucket l)) (fun n' b' => if n' = num /\ b' = b then l else D n' b') := (h.put_set hok hm hc h8 hn hb hl).note _ _
end Dk
end
section
open Go.RowKit
set_option maxHeartbeats 1000000
abbrev DkT := Int -> Int -> List Item
theorem Dk.congr {M : Mem} {D D' : DkT} (h : Dk M D) (e : ∀ num b, 1 <= num /\ num <= 257 -> 0 <= b /\ b < 8 -> D num b = D' num b) : Dk M D' :=
 ⟨fun num b hn hb => by rw [<- e num b hn hb]; exact h.s num b hn hb, fun num b hn hb => by rw [<- e num b hn hb]; exact h.i num b hn hb⟩
theorem rd_zero' (i : Int) : rd zeroWs i = 0 := by
 unfold rd zeroWs
 simp only [List.getD_eq_getElem?_getD, List.getElem?_replicate]
 split <;> rfl
theorem dk_new (n : Nat) : Dk (Mem.new n) (fun _ _ => []) := by
 refine ⟨fun num b hn hb => ⟨none, ⟨.inl (rd_zero' _), ?_, ?_⟩, .inl ⟨rfl, rfl⟩⟩, fun num b hn hb => ⟨by simp, fun x hx => by cases hx⟩⟩
 ·show (Mem.new n).thing (rd zeroWs _) = none
  rw [rd_zero']; rfl
 ·show rd zeroWs _ <= _
  rw [rd_zero']; decide
def dB (S : St) (i : Nat) (D : DkT) (k : Nat) : DkT := fun num b => if num = S.num i /\ b < k /\ bkItems S (S.ino i).ents b.toNat ≠ [] then bkItems S (S.ino i).ents b.toNat else D num b
def dI (S : St) (D : DkT) : Nat -> DkT
 | 0 => D
 | i + 1 => dB S i (dI S D i) 8
theorem loadB_nm (S : St) (i : Nat) (M : Mem) (b : Nat) : (loadB S i M b).nm.length = M.nm.length := by
 unfold loadB
 split
 ·rfl
 ·simp [Mem.put, Mem.give]
theorem loadBs_nm (S : St) (i : Nat) (M : Mem) : ∀ k, (loadBs S i M k).nm.length = M.nm.length
 | 0 => rfl
 | k + 1 => (loadB_nm S i _ k).trans (loadBs_nm S i M k)
theorem loadI_nm (S : St) (M : Mem) (i : Nat) : (loadI S M i).nm.length = M.nm.length := by
 unfold loadI
 split
 ·exact loadBs_nm S i M 8
 ·rw [<- loadBs_nm S i M 8]
  simp [loadFile, Mem.put, Mem.give]
theorem loadIs_nm (S : St) (M : Mem) : ∀ i, (loadIs S M i).nm.length = M.nm.length
 | 0 => rfl
 | i + 1 => (loadI_nm S _ i).trans (loadIs_nm S M i)
theorem dk_loadBs {S : St} {i : Nat} {M : Mem} {D : DkT} {m : Nat} (h : Dk M D) (hok : M.ok m) (hm : m <= 900000000) (hl : 0 < M.nm.length) (hn : 1 <= S.num i /\ S.num i <= 257) (hi : ∀ b, b < 8 -> (bkItems S (S.ino i).ents b).length <= 1000 /\ ∀ x ∈ bkItems S (S.ino i).ents b, 1 <= x.num /\ x.num <= 257) :
  ∀ k, k <= 8 -> Dk (loadBs S i M k) (dB S i D k)
 | 0, _ => h.congr fun num b _ hb => by unfold dB; rw [if_neg (fun q => by have := q.2.1; omega)]
 | k + 1, hk => by
  have ih := dk_loadBs h hok hm hl hn hi k (by omega)
  have hok' := loadBs_ok (S := S) (i := i) hok k
  show Dk (loadB S i (loadBs S i M k) k) _
  unfold loadB
  by_cases e : (bkItems S (S.ino i).ents k).length = 0
  ·rw [if_pos e]
   have e2 : bkItems S (S.ino i).ents k = [] := List.length_eq_zero_iff.1 e
   refine ih.congr fun num b _ hb => ?_
   unfold dB
   by_cases q : b = (k : Int)
   ·subst q
    rw [if_neg (fun q => by have := q.2.1; omega), if_neg (fun q => q.2.2 (by simpa using e2))]
   ·have : (b < (k : Int)) ↔ (b < ((k + 1 : Nat) : Int)) := by omega
    simp only [this]
  ·rw [if_neg e]
   have e2 : bkItems S (S.ino i).ents k ≠ [] := fun q => e (by rw [q]; rfl)
   refine (ih.put_set hok' (by omega) ⟨by omega, by rw [loadBs_nm]; omega⟩ (by omega) hn (b := (k : Int)) ⟨by omega, by omega⟩ (hi k (by omega))).congr fun num b _ hb => ?_
   by_cases q : num = S.num i /\ b = (k : Int)
   ·obtain ⟨rfl, rfl⟩ := q
    rw [if_pos ⟨rfl, rfl⟩]
    unfold dB
    rw [if_pos ⟨rfl, by omega, by simpa using e2⟩]
    simp
   ·rw [if_neg q]
    unfold dB
    by_cases r : num = S.num i
    ·have hb' : b ≠ (k : Int) := fun e => q ⟨r, e⟩
     have : (b < (k : Int)) ↔ (b < ((k + 1 : Nat) : Int)) := by omega
     simp only [this]
    ·rw [if_neg (fun x => r x.1), if_neg (fun x => r x.1)]
theorem dk_loadI {S : St} {i : Nat} {M : Mem} {D : DkT} {m : Nat} (h : Dk M D) (hok : M.ok m) (hm : m <= 900000000) (hl : 0 < M.nm.length) (hn : 1 <= S.num i /\ S.num i <= 257) (hi : ∀ b, b < 8 -> (bkItems S (S.ino i).ents b).length <= 1000 /\ ∀ x ∈ bkItems S (S.ino i).ents b, 1 <= x.num /\ x.num <= 257) : Dk (loadI S M i) (dB S i D 8) := by
 have h8 := dk_loadBs h hok hm hl hn hi 8 (Nat.le_refl _)
 unfold loadI
 split
 ·exact h8
 ·unfold loadFile
  exact ((h8.put (fun num b hn' hb => Dk.wd_ne hn' ⟨hb.1, by omega⟩ hn ⟨by decide, by decide⟩ (fun e => by omega)) _).give _ _).put (fun num b hn' hb => Dk.wd_ne hn' ⟨hb.1, by omega⟩ hn ⟨by decide, by decide⟩ (fun e => by omega)) _
theorem far_put {num b j : Int} (hn : 1 <= num /\ num <= 257) (hb : 0 <= b /\ b < 8) (hj : 9509 <= j) : (wd num b).toNat ≠ j.toNat := by unfold wd; omega
theorem dk_load {S : St} (hI : Inv S) (hb : ∀ i, i < S.inodes.length -> ∀ b, b < 8 -> (bkItems S (S.ino i).ents b).length <= 1000 /\ ∀ x ∈ bkItems S (S.ino i).ents b, 1 <= x.num /\ x.num <= 257) : Dk (loadM S) (dI S (fun _ _ => []) S.inodes.length) := by
 have hni := hI.small.ni
 have hloads : ∀ k, k <= S.inodes.length -> Dk (loadIs S (Mem.new S.made.length) k) (dI S (fun _ _ => []) k) := by
  intro k
  induction k with
  | zero => exact fun _ => dk_new _
  | succ k ih =>
   intro hk
   have hnum := hI.num_bound (Inv.ino_mem (show k < S.inodes.length by omega))
   exact dk_loadI (ih (by omega)) (loadIs_ok (Mem.new_ok _) k) (by omega) (by rw [loadIs_nm]; have := hI.m1; simp [Mem.new]; omega) hnum (hb k (by omega))
 have hmade : ∀ k, Dk (loadMade S (loadIs S (Mem.new S.made.length) S.inodes.length) k) (dI S (fun _ _ => []) S.inodes.length) := by
  intro k
  induction k with
  | zero => exact hloads _ (Nat.le_refl _)
  | succ k ih => exact ih.put (fun num b hn hb => far_put hn hb (by unfold mdw; omega)) _
 have hopen : ∀ k, k <= S.opens.length -> Dk (loadOpen S (loadMade S (loadIs S (Mem.new S.made.length) S.inodes.length) S.made.length) k) (dI S (fun _ _ => []) S.inodes.length) := by
  intro k
  induction k with
  | zero => exact fun _ => hmade _
  | succ k ih =>
   intro hk
   have ho := hI.ok (S.opens.getD k (0, 0, 0)) (getD_mem (by omega))
   exact (ih (by omega)).put (fun num b hn hb => far_put hn hb (by
    have h1 : 0 <= S.oc k := ho.1
    have h2 : 0 <= S.of k := ho.2.2.1
    unfold fdw; omega)) _
 exact hopen _ (Nat.le_refl _)
end
section
open Go.RowKit
set_option maxHeartbeats 1000000
theorem rd_put {M : Mem} (hl : M.ws.length = 9549) {i : Int} (hi : 0 <= i /\ i < 9549) {j : Int} (hj : 0 <= j) (v : Int) : rd (M.put i v).ws j = if j = i then v else rd M.ws j := by
 by_cases e : j = i
 ·subst e
  rw [if_pos rfl]
  unfold rd Mem.put wr
  simp only
  rw [getD_set _ _ _ _ _ (by rw [hl]; omega), if_pos rfl]
 ·rw [if_neg e]
  exact rd_wr_other' (by omega)
theorem see_ws (M : Mem) (c i : Int) : (M.see c i).ws = M.ws := by unfold Mem.see; split <;> rfl
theorem see_nm (M : Mem) (c i : Int) : (M.see c i).nm = M.nm := by unfold Mem.see; split <;> rfl
theorem put_wl {M : Mem} (hl : M.ws.length = 9549) (i v : Int) : (M.put i v).ws.length = 9549 := by simp only [Mem.put, wr_length]; exact hl
theorem setW_ws (M : Mem) (c i : Int) (t : Thing) : (M.setW c i t).ws = (M.put i (M.next c)).ws := rfl
theorem rd_loadB {S : St} {i : Nat} {M : Mem} {b : Nat} (hl : M.ws.length = 9549) (hb : b < 8) (hn : 1 <= S.num i /\ S.num i <= 257) {j : Int} (hj : 9509 <= j) : rd (loadB S i M b).ws j = rd M.ws j /\ (loadB S i M b).ws.length = 9549 := by
 unfold loadB
 split
 ·exact ⟨rfl, hl⟩
 ·refine ⟨?_, put_wl hl _ _⟩
  have e : ((M.give 0 (.bucket (bkItems S (S.ino i).ents b))).put (wd (S.num i) b) (M.next 0)).ws = (M.put (wd (S.num i) b) (M.next 0)).ws := rfl
  rw [e, rd_put hl (by unfold wd; omega) (by omega), if_neg (by unfold wd; omega)]
theorem rd_loadBs {S : St} {i : Nat} {M : Mem} (hl : M.ws.length = 9549) (hn : 1 <= S.num i /\ S.num i <= 257) {j : Int} (hj : 9509 <= j) : ∀ k, k <= 8 -> rd (loadBs S i M k).ws j = rd M.ws j /\ (loadBs S i M k).ws.length = 9549
 | 0, _ => ⟨rfl, hl⟩
 | k + 1, hk => by
  obtain ⟨h1, h2⟩ := rd_loadBs hl hn hj k (by omega)
  obtain ⟨h3, h4⟩ := rd_loadB (S := S) (i := i) h2 (show k < 8 by omega) hn hj
  exact ⟨h3.trans h1, h4⟩
theorem rd_loadI {S : St} {i : Nat} {M : Mem} (hl : M.ws.length = 9549) (hn : 1 <= S.num i /\ S.num i <= 257) {j : Int} (hj : 9509 <= j) : rd (loadI S M i).ws j = rd M.ws j /\ (loadI S M i).ws.length = 9549 := by
 obtain ⟨h1, h2⟩ := rd_loadBs (S := S) (i := i) hl hn hj 8 (Nat.le_refl _)
 unfold loadI
 split
 ·exact ⟨h1, h2⟩
 ·unfold loadFile
  refine ⟨?_, put_wl (put_wl h2 _ _) _ _⟩
  have e : ∀ (N : Mem) (t : Thing) (p q : Int), ((N.give 0 t).put p q).ws = (N.put p q).ws := fun _ _ _ _ => rfl
  simp only []
  rw [e, rd_put (put_wl h2 _ _) (by unfold wd; omega) (by omega), if_neg (by unfold wd; omega), rd_put h2 (by unfold wd; omega) (by omega), if_neg (by unfold wd; omega), h1]
theorem rd_loadIs {S : St} (hI : Inv S) {M : Mem} (hl : M.ws.length = 9549) {j : Int} (hj : 9509 <= j) : ∀ k, k <= S.inodes.length -> rd (loadIs S M k).ws j = rd M.ws j /\ (loadIs S M k).ws.length = 9549
 | 0, _ => ⟨rfl, hl⟩
 | k + 1, hk => by
  obtain ⟨h1, h2⟩ := rd_loadIs hI hl hj k (by omega)
  have hn := hI.num_bound (Inv.ino_mem (show k < S.inodes.length by omega))
  obtain ⟨h3, h4⟩ := rd_loadI (S := S) (i := k) h2 hn hj
  exact ⟨h3.trans h1, h4⟩
theorem rd_loadMade {S : St} (h8 : S.made.length <= 8) {M : Mem} (hl : M.ws.length = 9549) : ∀ k, k <= S.made.length -> (loadMade S M k).ws.length = 9549 /\ (∀ c : Nat, rd (loadMade S M k).ws (mdw (c : Nat)) = if c < k then S.mad c else rd M.ws (mdw (c : Nat))) /\ ∀ j, 9517 <= j -> rd (loadMade S M k).ws j = rd M.ws j
 | 0, _ => ⟨hl, fun c => by rw [if_neg (by omega)]; rfl, fun _ _ => rfl⟩
 | k + 1, hk => by
  obtain ⟨h1, h2, h3⟩ := rd_loadMade h8 hl k (by omega)
  refine ⟨put_wl h1 _ _, fun c => ?_, fun j hj => ?_⟩
  ·show rd ((loadMade S M k).put (mdw k) (S.mad k)).ws (mdw (c : Nat)) = _
   rw [rd_put h1 (by unfold mdw; omega) (by unfold mdw; omega)]
   by_cases e : c = k
   ·subst e
    rw [if_pos rfl, if_pos (by omega)]
   ·rw [if_neg (by unfold mdw; omega), h2 c]
    by_cases q : c < k
    ·rw [if_pos q, if_pos (by omega)]
    ·rw [if_neg q, if_neg (by omega)]
  ·show rd ((loadMade S M k).put (mdw k) (S.mad k)).ws j = _
   rw [rd_put h1 (by unfold mdw; omega) (by omega), if_neg (by unfold mdw; omega), h3 j hj]
theorem load_words {S : St} (hI : Inv S) (ho : S.opens = []) : (∀ c : Nat, c < S.made.length -> rd (loadM S).ws (mdw (c : Nat)) = S.mad c) /\ ∀ c k : Nat, c < 8 -> k < 4 -> rd (loadM S).ws (fdw (c : Nat) (k : Nat)) = 0 := by
 have h0 : (loadIs S (Mem.new S.made.length) S.inodes.length).ws.length = 9549 := (rd_loadIs hI (M := Mem.new S.made.length) zeroWs_len (j := 9509) (by omega) _ (Nat.le_refl _)).2
 have e : loadM S = loadMade S (loadIs S (Mem.new S.made.length) S.inodes.length) S.made.length := by
  unfold loadM
  rw [ho]; rfl
 obtain ⟨h1, h2, h3⟩ := rd_loadMade (S := S) hI.m8 h0 S.made.length (Nat.le_refl _)
 rw [e]
 refine ⟨fun c hc => by rw [h2 c, if_pos hc], fun c k hc hk => ?_⟩
 rw [h3 _ (by unfold fdw; omega), (rd_loadIs hI (M := Mem.new S.made.length) zeroWs_len (j := fdw (c : Nat) (k : Nat)) (by unfold fdw; omega) _ (Nat.le_refl _)).1]
 exact rd_zero' _
def Bz (M : Mem) : Prop := ∀ num, 1 <= num /\ num <= 257 -> Says M (wd num 16) none
theorem bz_new (n : Nat) : Bz (Mem.new n) := fun num _ => ⟨.inl (rd_zero' _), by
 show (Mem.new n).thing (rd zeroWs _) = none
 rw [rd_zero']; rfl, by
 show rd zeroWs _ <= _
 rw [rd_zero']; decide⟩
theorem Bz.put {M : Mem} (h : Bz M) {j : Int} (hj : ∀ num, 1 <= num /\ num <= 257 -> (wd num 16).toNat ≠ j.toNat) (v : Int) : Bz (M.put j v) := fun num hn => (h num hn).put (hj num hn) v
theorem Bz.give {M : Mem} (h : Bz M) (c : Int) (t : Thing) : Bz (M.give c t) := fun num hn => (h num hn).give c t
theorem Bz.note {M : Mem} (h : Bz M) (c : Int) (x : Acc) : Bz (M.note c x) := fun num hn => (h num hn).note c x
theorem Bz.see {M : Mem} (h : Bz M) (c j : Int) : Bz (M.see c j) := fun num hn => (h num hn).see c j
theorem Bz.clear {M : Mem} (h : Bz M) (k : Nat) : Bz (M.clear k) := fun num hn => ⟨(h num hn).f, (h num hn).a, (h num hn).z⟩
theorem bz_loadBs {S : St} {i : Nat} {M : Mem} (h : Bz M) (hn : 1 <= S.num i /\ S.num i <= 257) : ∀ k, k <= 8 -> Bz (loadBs S i M k)
 | 0, _ => h
 | k + 1, hk => by
  have ih := bz_loadBs h hn k (by omega)
  show Bz (loadB S i (loadBs S i M k) k)
  unfold loadB
  split
  ·exact ih
  ·exact (ih.give _ _).put (fun num hn' => Dk.wd_ne hn' ⟨by decide, by decide⟩ hn ⟨by omega, by omega⟩ (fun e => by omega)) _
theorem bz_load {S : St} (hI : Inv S) (ho : S.opens = []) (hd : ∀ i, i < S.inodes.length -> S.dir i = true) : Bz (loadM S) := by
 have h1 : ∀ k, k <= S.inodes.length -> Bz (loadIs S (Mem.new S.made.length) k) := by
  intro k
  induction k with
  | zero => exact fun _ => bz_new _
  | succ k ih =>
   intro hk
   show Bz (loadI S _ k)
   unfold loadI
   rw [if_pos (hd k (by omega))]
   exact bz_loadBs (ih (by omega)) (hI.num_bound (Inv.ino_mem (show k < S.inodes.length by omega))) 8 (Nat.le_refl _)
 have h2 : ∀ k, Bz (loadMade S (loadIs S (Mem.new S.made.length) S.inodes.length) k) := by
  intro k
  induction k with
  | zero => exact h1 _ (Nat.le_refl _)
  | succ k ih => exact ih.put (fun num hn => by unfold wd mdw; omega) _
 unfold loadM
 rw [ho]
 exact h2 _
theorem Bz.base {M : Mem} (h : Bz M) {num : Int} (hn : 1 <= num /\ num <= 257) : M.isBase num /\ rd M.ws (wd num 16) <= 1000000000000 /\ (M.bas num).2.1 = ⟨#[]⟩ := by
 obtain ⟨h1, h2, h3⟩ := h num hn
 refine ⟨⟨h1, fun t ht => by rw [h2] at ht; cases ht⟩, h3, ?_⟩
 unfold Mem.bas
 rw [h2]
section
variable {M : Mem} {D : DkT} {c n kind : Int} {it : Item} {nm : ByteArray} {m : Nat}
theorem nb_lt (nm : ByteArray) : 0 <= ((nbucket nm : Nat) : Int) /\ ((nbucket nm : Nat) : Int) < 8 := by
 have : nbucket nm < 8 := by unfold nbucket; omega
 omega
theorem dk_create (h : Dk M D) (hok : M.ok m) (hm : m <= 900000000) (hc : 0 <= c /\ c < M.nm.length) (h8 : c < 8) (hn : 0 <= n /\ n < 32) (hi : 1 <= it.num /\ it.num <= 257) (hl : (D it.num (nbucket nm : Nat)).length < 1000) :
  Dk (createM M c it nm kind n) (fun n' b' => if n' = it.num /\ b' = (nbucket nm : Nat) then D it.num (nbucket nm : Nat) ++ [⟨nm, 2 + c + 8 * n, kind == 1⟩] else D n' b') := by
 have hb := nb_lt nm
 have h1 := ((h.see c (mdw c)).put (j := mdw c) (fun num b hn hb => far_put hn hb (by unfold mdw; omega)) (n + 1)).note c (mdw c, true)
 have hk1 := ((hok.see c (mdw c)).put (mdw c) (n + 1)).note c (mdw c, true)
 have hbk : M.bkt it.num (nbucket nm : Nat) = D it.num (nbucket nm : Nat) := h.bkt hi hb
 have hit := h.i it.num (nbucket nm : Nat) hi hb
 have h2 := h1.setW hk1 (by omega) (c := c) ⟨hc.1, by simp only [Mem.note, Mem.put, see_nm]; exact hc.2⟩ h8 hi hb (l := D it.num (nbucket nm : Nat) ++ [⟨nm, 2 + c + 8 * n, kind == 1⟩]) ⟨by rw [List.length_append]; simp; omega, fun x hx => by
  rcases List.mem_append.1 hx with hx | hx
  ·exact hit.2 x hx
  ·rw [List.mem_singleton.1 hx]; simp only; omega⟩
 unfold createM
 simp only [hbk]
 split
 ·exact (h2.put (fun num b hn' hb' => Dk.wd_ne hn' ⟨hb'.1, by omega⟩ (show 1 <= 2 + c + 8 * n /\ 2 + c + 8 * n <= 257 by omega) (show 0 <= 8 + c /\ 8 + c < 37 by omega) (fun e => by omega)) _).note _ _
 ·exact h2
theorem ok_create (hok : M.ok m) : (createM M c it nm kind n).ok (m + 6) := by
 have h1 := ((hok.see c (mdw c)).put (mdw c) (n + 1)).note c (mdw c, true)
 unfold createM
 simp only
 split
 ·exact (((h1.setW c _ _).put _ _).note _ _).mono (by omega)
 ·exact (h1.setW c _ _).mono (by omega)
theorem bz_create (h : Bz M) (hc : 0 <= c /\ c < 8) (hn : 0 <= n /\ n < 32) (hi : 1 <= it.num /\ it.num <= 257) : Bz (createM M c it nm kind n) := by
 have hb := nb_lt nm
 have h1 := ((h.see c (mdw c)).put (j := mdw c) (fun num hn => by unfold wd mdw; omega) (n + 1)).note c (mdw c, true)
 have h2 : ∀ t, Bz ((((M.see c (mdw c)).put (mdw c) (n + 1)).note c (mdw c, true)).setW c (wd it.num (nbucket nm : Nat)) t) := fun t => ((h1.give c t).put (fun num hn' => Dk.wd_ne hn' ⟨by decide, by decide⟩ hi ⟨hb.1, by omega⟩ (fun e => by omega)) _).note _ _
 unfold createM
 simp only
 split
 ·exact ((h2 _).put (fun num hn' => Dk.wd_ne hn' ⟨by decide, by decide⟩ (show 1 <= 2 + c + 8 * n /\ 2 + c + 8 * n <= 257 by omega) (show 0 <= 8 + c /\ 8 + c < 37 by omega) (fun e => by omega)) _).note _ _
 ·exact h2 _
theorem rd_create (hok : M.ok m) (hc : 0 <= c /\ c < 8) (hn : 0 <= n /\ n < 32) (hi : 1 <= it.num /\ it.num <= 257) {j : Int} (hj : 9509 <= j) : rd (createM M c it nm kind n).ws j = if j = mdw c then n + 1 else rd M.ws j := by
 have hb := nb_lt nm
 have hl : (M.see c (mdw c)).ws.length = 9549 := by rw [see_ws]; exact hok.wl
 have hl1 := put_wl hl (mdw c) (n + 1)
 have e1 : rd ((M.see c (mdw c)).put (mdw c) (n + 1)).ws j = if j = mdw c then n + 1 else rd M.ws j := by
  rw [rd_put hl (by unfold mdw; omega) (by omega), see_ws]
 have e2 : ∀ t, rd ((((M.see c (mdw c)).put (mdw c) (n + 1)).note c (mdw c, true)).setW c (wd it.num (nbucket nm : Nat)) t).ws j = if j = mdw c then n + 1 else rd M.ws j := fun t => by
  rw [setW_ws, rd_put (show (((M.see c (mdw c)).put (mdw c) (n + 1)).note c (mdw c, true)).ws.length = 9549 from hl1) (by unfold wd; omega) (by omega), if_neg (by unfold wd; omega)]
  exact e1
 unfold createM
 simp only
 split
 ·exact (rd_wr_other' (show j.toNat ≠ (wd (2 + c + 8 * n) (8 + c)).toNat by unfold wd; omega)).trans (e2 _)
 ·exact e2 _
end
end
end Go.Proofs.YtkebjgebkneijaaGreat
