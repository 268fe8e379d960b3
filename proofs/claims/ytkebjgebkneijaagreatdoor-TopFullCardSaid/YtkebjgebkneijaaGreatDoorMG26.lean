/- Texts of one's own that a claim's last text rests on: Mr6 Uf1 Uf2 Reads ArP Ints WordsP Words Out Decg. -/
import Derived.Test.YtkebjgebkneijaaGreatDoorMG25
import Derived.Test.YtkebjgebkneijaaGreatDoorMG12
import Derived.Test.YtkebjgebkneijaaGreatDoorMG1
import Derived.Below
import Derived.Laws.OwnMore
import Derived.Deep.AppendLies
import Derived.Deep.Draws
import Derived.Maps.AppendAt
import Derived.RegionTactic
import Derived.OwnWalk
import Derived.Deep.RegionHeld3
import Derived.Deep.Slices
import Derived.Handy
set_option linter.unusedVariables false
set_option linter.unusedSimpArgs false
namespace Go.Proofs.YtkebjgebkneijaaGreatDoor
section
open Go.RowKit
set_option maxHeartbeats 1000000
theorem tr_note {M : Mem} {c : Int} (hc : 0 <= c /\ c < M.ts.length) (x : Acc) : tr (M.note c x).ts c = tr M.ts c ++ [x] := by
 unfold tr Mem.note noted
 simp only
 rw [getD_set _ _ _ _ _ (by omega), if_pos rfl]
 rfl
theorem note_len (M : Mem) (c : Int) (x : Acc) : (M.note c x).ts.length = M.ts.length := by simp [Mem.note, noted]
theorem tr_see {M : Mem} {c : Int} (hc : 0 <= c /\ c < M.ts.length) (i : Int) : tr (M.see c i).ts c = tr M.ts c ++ [(i, false)] := by
 unfold Mem.see
 rw [if_neg (by omega)]
 exact tr_note hc _
theorem see_len (M : Mem) (c i : Int) : (M.see c i).ts.length = M.ts.length := by
 unfold Mem.see
 split
 ·rfl
 ·exact note_len _ _ _
def accC (c : Int) (num : Int) (b : Int) (kind n : Int) : List Acc := [(mdw c, false), (mdw c, true), (wd num b, true)] ++ if kind = 0 then [(wd (2 + c + 8 * n) (8 + c), true)] else []
theorem tr_create {M : Mem} {c : Int} {it : Item} {nm : ByteArray} {kind n : Int} (hc : 0 <= c /\ c < M.ts.length) : tr (createM M c it nm kind n).ts c = tr M.ts c ++ accC c it.num (nbucket nm : Nat) kind n /\ (createM M c it nm kind n).ts.length = M.ts.length := by
 have h1 := tr_see hc (mdw c)
 have l1 := see_len M c (mdw c)
 have h2 : tr (((M.see c (mdw c)).put (mdw c) (n + 1)).note c (mdw c, true)).ts c = tr M.ts c ++ [(mdw c, false)] ++ [(mdw c, true)] := by
  rw [tr_note (M := (M.see c (mdw c)).put (mdw c) (n + 1)) ⟨hc.1, by show c < (M.see c (mdw c)).ts.length; rw [l1]; exact hc.2⟩]
  show tr (M.see c (mdw c)).ts c ++ _ = _
  rw [h1]
 have l2 : (((M.see c (mdw c)).put (mdw c) (n + 1)).note c (mdw c, true)).ts.length = M.ts.length := by
  rw [note_len]
  exact l1
 have h3 : ∀ t, tr ((((M.see c (mdw c)).put (mdw c) (n + 1)).note c (mdw c, true)).setW c (wd it.num (nbucket nm : Nat)) t).ts c = tr M.ts c ++ [(mdw c, false)] ++ [(mdw c, true)] ++ [(wd it.num (nbucket nm : Nat), true)] := fun t => by
  unfold Mem.setW
  rw [tr_note ⟨hc.1, by show c < (((M.see c (mdw c)).put (mdw c) (n + 1)).note c (mdw c, true)).ts.length; rw [l2]; exact hc.2⟩]
  show tr (((M.see c (mdw c)).put (mdw c) (n + 1)).note c (mdw c, true)).ts c ++ _ = _
  rw [h2]
 have l3 : ∀ t, ((((M.see c (mdw c)).put (mdw c) (n + 1)).note c (mdw c, true)).setW c (wd it.num (nbucket nm : Nat)) t).ts.length = M.ts.length := fun t => by
  unfold Mem.setW
  rw [note_len]
  exact l2
 unfold createM accC
 simp only
 split
 ·refine ⟨?_, ?_⟩
  ·rw [tr_note ⟨hc.1, by show c < (Mem.setW _ _ _ _).ts.length; rw [l3]; exact hc.2⟩]
   show tr (Mem.setW _ _ _ _).ts c ++ _ = _
   rw [h3]
   simp
  ·rw [note_len]
   exact l3 _
 ·refine ⟨?_, l3 _⟩
  rw [h3]
  simp
theorem accC_num {c num b kind n : Int} (hc : 0 <= c /\ c < 8) (hn : 1 <= num /\ num <= 257) (hb : 0 <= b /\ b < 8) (h : 0 <= n /\ n < 32) : ∀ y ∈ accC c num b kind n, 0 <= y.1 /\ y.1 <= 1000000 := by
 intro y hy
 unfold accC at hy
 rcases List.mem_append.1 hy with hy | hy
 ·simp at hy
  rcases hy with rfl | rfl | rfl <;> simp only [mdw, wd] <;> omega
 ·split at hy
  ·rw [List.mem_singleton.1 hy]
   simp only [wd]; omega
  ·cases hy
end
section
open Go.RowKit
set_option maxHeartbeats 1000000
theorem create_nm (M : Mem) (c : Int) (it : Item) (nm : ByteArray) (kind n : Int) : (createM M c it nm kind n).nm.length = M.nm.length := by
 have e : (M.see c (mdw c)).nm.length = M.nm.length := by rw [see_nm]
 unfold createM
 simp only
 split
 ·simpa [Mem.note, Mem.put, Mem.setW, Mem.give] using e
 ·simpa [Mem.note, Mem.put, Mem.setW, Mem.give] using e
theorem remove_nm (M : Mem) (c : Int) (it : Item) (nm : ByteArray) (num : Int) : (removeM M c it nm num).nm.length = M.nm.length := by
 simp [removeM, Mem.note, Mem.put, Mem.setW, Mem.give]
def accR (c num x b : Int) : List Acc := [(wd x (8 + c), true), (wd num b, true)]
theorem tr_remove {M : Mem} {c : Int} {it : Item} {nm : ByteArray} {x : Int} (hc : 0 <= c /\ c < M.ts.length) : tr (removeM M c it nm x).ts c = tr M.ts c ++ accR c it.num x (nbucket nm : Nat) /\ (removeM M c it nm x).ts.length = M.ts.length := by
 obtain ⟨r, hr⟩ : ∃ r, wrap64 (rd M.ws (wd x (8 + c)) + (-1)) = r := ⟨_, rfl⟩
 have h2 : tr ((M.put (wd x (8 + c)) r).note c (wd x (8 + c), true)).ts c = tr M.ts c ++ [(wd x (8 + c), true)] := tr_note (M := M.put (wd x (8 + c)) r) hc _
 have l2 : ((M.put (wd x (8 + c)) r).note c (wd x (8 + c), true)).ts.length = M.ts.length := note_len _ _ _
 unfold removeM accR
 simp only [hr]
 refine ⟨?_, ?_⟩
 ·unfold Mem.setW
  rw [tr_note ⟨hc.1, by show c < ((M.put (wd x (8 + c)) r).note c (wd x (8 + c), true)).ts.length; rw [l2]; exact hc.2⟩]
  show tr ((M.put (wd x (8 + c)) r).note c (wd x (8 + c), true)).ts c ++ _ = _
  rw [h2]
  simp
 ·unfold Mem.setW
  rw [note_len]
  exact l2
section
variable {M : Mem} {D : DkT} {c x : Int} {it : Item} {nm : ByteArray} {m : Nat}
theorem dk_remove (h : Dk M D) (hok : M.ok m) (hm : m <= 900000000) (hc : 0 <= c /\ c < M.nm.length) (h8 : c < 8) (hx : 1 <= x /\ x <= 257) (hi : 1 <= it.num /\ it.num <= 257) :
  Dk (removeM M c it nm x) (fun n' b' => if n' = it.num /\ b' = (nbucket nm : Nat) then withoutL (D it.num (nbucket nm : Nat)) nm else D n' b') := by
 have hb := nb_lt nm
 obtain ⟨r, hr⟩ : ∃ r, wrap64 (rd M.ws (wd x (8 + c)) + (-1)) = r := ⟨_, rfl⟩
 have h1 := (h.put (j := wd x (8 + c)) (fun num b hn hb => Dk.wd_ne hn ⟨hb.1, by omega⟩ hx ⟨by omega, by omega⟩ (fun e => by omega)) r).note c (wd x (8 + c), true)
 have hk1 := (hok.put (wd x (8 + c)) r).note c (wd x (8 + c), true)
 have hbk : M.bkt it.num (nbucket nm : Nat) = D it.num (nbucket nm : Nat) := h.bkt hi hb
 have hit := h.i it.num (nbucket nm : Nat) hi hb
 have h2 := h1.setW hk1 (by omega) (c := c) hc h8 hi hb (l := withoutL (D it.num (nbucket nm : Nat)) nm) ⟨Nat.le_trans (without_len _ _) hit.1, fun y hy => hit.2 y (List.mem_filter.1 hy).1⟩
 unfold removeM
 simp only [hr, hbk]
 exact h2
theorem ok_remove (hok : M.ok m) : (removeM M c it nm x).ok (m + 6) := by
 unfold removeM
 exact (((hok.put _ _).note _ _).setW _ _ _).mono (by omega)
theorem bz_remove (h : Bz M) (hc : 0 <= c /\ c < 8) (hx : 1 <= x /\ x <= 257) (hi : 1 <= it.num /\ it.num <= 257) : Bz (removeM M c it nm x) := by
 have hb := nb_lt nm
 unfold removeM
 have h1 : ∀ r, Bz ((M.put (wd x (8 + c)) r).note c (wd x (8 + c), true)) := fun r => (h.put (fun num hn' => Dk.wd_ne hn' ⟨by decide, by decide⟩ hx ⟨by omega, by omega⟩ (fun e => by omega)) _).note _ _
 exact (((h1 _).give c _).put (fun num hn' => Dk.wd_ne hn' ⟨by decide, by decide⟩ hi ⟨hb.1, by omega⟩ (fun e => by omega)) _).note _ _
theorem rd_remove (hok : M.ok m) (hc : 0 <= c /\ c < 8) (hx : 1 <= x /\ x <= 257) (hi : 1 <= it.num /\ it.num <= 257) {j : Int} (hj : 9509 <= j) : rd (removeM M c it nm x).ws j = rd M.ws j := by
 have hb := nb_lt nm
 unfold removeM
 simp only [setW_ws]
 refine (rd_wr_other' (show j.toNat ≠ (wd it.num (nbucket nm : Nat)).toNat by unfold wd; omega)).trans ?_
 exact rd_wr_other' (show j.toNat ≠ (wd x (8 + c)).toNat by unfold wd; omega)
end
structure Fm (M : Mem) (c i m : Nat) (D : DkT) : Prop where
 c1 : c <= 1
 ok : M.ok m
 tl : M.ts.length = 2
 nl : M.nm.length = 2
 dk : Dk M D
 bz : Bz M
 mc : rd M.ws (mdw (c : Nat)) = i
 md : rd M.ws (mdw ((1 - c : Nat) : Nat)) = 0
 fd : ∀ a k : Nat, a < 8 -> k < 4 -> rd M.ws (fdw (a : Nat) (k : Nat)) = 0
def D0 : DkT := fun _ _ => []
def DF (nm : ByteArray) (num : Int) : DkT := fun n b => if n = 1 /\ b = (nbucket nm : Nat) then [⟨nm, num, false⟩] else []
namespace Fm
variable {M : Mem} {c i m : Nat} {D : DkT}
theorem clear (h : Fm M c i m D) (k : Nat) : Fm (M.clear k) c i m D := ⟨h.c1, h.ok.clear k, by simpa [Mem.clear] using h.tl, h.nl, h.dk.clear k, h.bz.clear k, h.mc, h.md, h.fd⟩
theorem see (h : Fm M c i m D) (k j : Int) : Fm (M.see k j) c i (m + 1) D := ⟨h.c1, h.ok.see k j, by rw [see_len]; exact h.tl, by rw [see_nm]; exact h.nl, h.dk.see k j, h.bz.see k j, by rw [see_ws]; exact h.mc, by rw [see_ws]; exact h.md, fun a b ha hb => by rw [see_ws]; exact h.fd a b ha hb⟩
theorem mono (h : Fm M c i m D) {m' : Nat} (hm : m <= m') : Fm M c i m' D := { h with ok := h.ok.mono hm }
theorem create (h : Fm M c i m D0) (hi : i < 32) (hm : m <= 900000000) (nm : ByteArray) : Fm (createM M (c : Nat) rootItem nm 0 (i : Nat)) c (i + 1) (m + 6) (DF nm (2 + (c : Int) + 8 * (i : Int))) := by
 have h1 := h.c1
 have hrd : ∀ j, 9509 <= j -> rd (createM M (c : Nat) rootItem nm 0 (i : Nat)).ws j = if j = mdw (c : Nat) then (i : Int) + 1 else rd M.ws j := fun j hj => rd_create h.ok ⟨by omega, by omega⟩ ⟨by omega, by omega⟩ (by decide) hj
 refine ⟨h1, ok_create h.ok, (tr_create ⟨by omega, by rw [h.tl]; omega⟩).2.trans h.tl, (create_nm _ _ _ _ _ _).trans h.nl, ?_, bz_create h.bz ⟨by omega, by omega⟩ ⟨by omega, by omega⟩ (by decide), ?_, ?_, ?_⟩
 ·refine (dk_create h.dk h.ok hm ⟨by omega, by rw [h.nl]; omega⟩ (by omega) ⟨by omega, by omega⟩ (by decide) (by simp [D0])).congr fun num b _ _ => ?_
  rfl
 ·rw [hrd _ (by unfold mdw; omega), if_pos rfl]; omega
 ·rw [hrd _ (by unfold mdw; omega), if_neg (by unfold mdw; omega)]; exact h.md
 ·intro a k ha hk
  rw [hrd _ (by unfold fdw; omega), if_neg (by unfold fdw mdw; omega)]; exact h.fd a k ha hk
theorem remove {nm : ByteArray} {x : Int} (h : Fm M c i m (DF nm x)) (hx : 1 <= x /\ x <= 257) (hm : m <= 900000000) {d : Nat} (hd : d <= 1) : Fm (removeM M (d : Nat) rootItem nm x) c i (m + 6) D0 := by
 have hrd : ∀ j, 9509 <= j -> rd (removeM M (d : Nat) rootItem nm x).ws j = rd M.ws j := fun j hj => rd_remove h.ok ⟨by omega, by omega⟩ hx (by decide) hj
 refine ⟨h.c1, ok_remove h.ok, (tr_remove ⟨by omega, by rw [h.tl]; omega⟩).2.trans h.tl, (remove_nm _ _ _ _ _).trans h.nl, ?_, bz_remove h.bz ⟨by omega, by omega⟩ hx (by decide), ?_, ?_, ?_⟩
 ·refine (dk_remove h.dk h.ok hm ⟨by omega, by rw [h.nl]; omega⟩ (by omega) hx (by decide)).congr fun num b _ _ => ?_
  show (if num = 1 /\ b = (nbucket nm : Nat) then withoutL (DF nm x 1 (nbucket nm : Nat)) nm else DF nm x num b) = []
  by_cases e : num = 1 /\ b = (nbucket nm : Nat)
  ·rw [if_pos e]
   simp [DF, withoutL]
  ·rw [if_neg e]
   unfold DF
   rw [if_neg e]
 ·rw [hrd _ (by unfold mdw; omega)]; exact h.mc
 ·rw [hrd _ (by unfold mdw; omega)]; exact h.md
 ·intro a k ha hk
  rw [hrd _ (by unfold fdw; omega)]; exact h.fd a k ha hk
theorem step_create (h : Fm M c i m D0) (hi : i < 32) (hm : m <= 600000000) {cv : CallV} (hk : cv.kind = 0) (hs : cv.path.size <= 4611686018427387904) {nm : ByteArray} (hp : parseF cv.path = .ok [nm]) (fb s : Nat) :
  ∃ M', (∀ w1, StepC w1 fb s (M.clear c) M' c cv 112 (.agg #[]) noRes) /\ Fm M' c (i + 1) (m + 7) (DF nm (2 + (c : Int) + 8 * (i : Int))) /\ M'.ts.length = (M.clear c).ts.length /\ (tr (M.clear c).ts (c : Nat)).length <= (tr M'.ts (c : Nat)).length /\ ∀ y ∈ tr M'.ts (c : Nat), 0 <= y.1 /\ y.1 <= 1000000 := by
 have h1 := h.clear c
 have hc1 := h.c1
 have h2 := h1.see (c : Nat) (wd 1 (nbucket nm : Nat))
 have h3 := h2.create hi (by omega) nm
 have h0 : tr (M.clear c).ts (c : Nat) = [] := by
  unfold Mem.clear tr
  simp only
  rw [getD_set _ _ _ _ _ (by rw [h.tl]; omega), if_pos rfl]
 have ht := (tr_create (M := (M.clear c).see (c : Nat) (wd 1 (nbucket nm : Nat))) (c := (c : Nat)) (it := rootItem) (nm := nm) (kind := 0) (n := (i : Nat)) ⟨by omega, by rw [h2.tl]; omega⟩).1
 rw [tr_see ⟨by omega, by rw [h1.tl]; omega⟩, h0] at ht
 have hb := nb_lt nm
 refine ⟨_, fun w1 => ?_, h3, h3.tl.trans h1.tl.symm, ?_, ?_⟩
 ·have := stepC_create (w := w1) (fb := fb) (s := s) (M := M.clear c) (M1 := M.clear c) h1.ok (by omega) (k := c) (by rw [h1.tl]; omega) h1.dk.fit (cv := cv) (.inl hk) hs (ns := []) (nm := nm) hp (by simp) (it := rootItem) rfl rfl (by
   rw [h1.dk.bkt (by decide) (nb_lt nm)]; rfl) (n := (i : Nat)) h1.mc ⟨by omega, by omega⟩
  exact hk ▸ this
 ·rw [h0]; exact Nat.zero_le _
 ·intro y hy
  rw [ht] at hy
  rcases List.mem_append.1 hy with hy | hy
  ·have e : y = (wd 1 (nbucket nm : Nat), false) := by simpa using hy
   rw [e]
   simp only [wd]; omega
  ·exact accC_num ⟨by omega, by omega⟩ (by decide) hb ⟨by omega, by omega⟩ y hy
theorem step_full (h : Fm M c 32 m D0) (hm : m <= 600000000) {cv : CallV} (hk : cv.kind = 0) (hs : cv.path.size <= 4611686018427387904) {nm : ByteArray} (hp : parseF cv.path = .ok [nm]) (fb s : Nat) :
  ∃ M', (∀ w1, StepC w1 fb s (M.clear c) M' c cv 112 (.agg #[]) (codeR 5)) /\ Fm M' c 32 (m + 7) D0 /\ M'.ts.length = (M.clear c).ts.length /\ (tr (M.clear c).ts (c : Nat)).length <= (tr M'.ts (c : Nat)).length /\ ∀ y ∈ tr M'.ts (c : Nat), 0 <= y.1 /\ y.1 <= 1000000 := by
 have h1 := h.clear c
 have hc1 := h.c1
 have h2 := h1.see (c : Nat) (wd 1 (nbucket nm : Nat))
 have h3 := h2.see (c : Nat) (mdw (c : Nat))
 have h0 : tr (M.clear c).ts (c : Nat) = [] := by
  unfold Mem.clear tr
  simp only
  rw [getD_set _ _ _ _ _ (by rw [h.tl]; omega), if_pos rfl]
 have ht : tr (((M.clear c).see (c : Nat) (wd 1 (nbucket nm : Nat))).see (c : Nat) (mdw (c : Nat))).ts (c : Nat) = [(wd 1 (nbucket nm : Nat), false), (mdw (c : Nat), false)] := by
  rw [tr_see ⟨by omega, by rw [h2.tl]; omega⟩, tr_see ⟨by omega, by rw [h1.tl]; omega⟩, h0]; rfl
 have hb := nb_lt nm
 refine ⟨_, fun w1 => ?_, h3.mono (by omega), h3.tl.trans h1.tl.symm, ?_, ?_⟩
 ·exact stepC_full (w := w1) (fb := fb) (s := s) (M := M.clear c) (M1 := M.clear c) h1.ok (by omega) (k := c) (by rw [h1.tl]; omega) h1.dk.fit (cv := cv) (.inl hk) hs (ns := []) (nm := nm) hp (by simp) (it := rootItem) rfl rfl (by
   rw [h1.dk.bkt (by decide) (nb_lt nm)]; rfl) (n := (32 : Nat)) h1.mc (by omega)
 ·rw [h0]; exact Nat.zero_le _
 ·intro y hy
  rw [ht] at hy
  simp at hy
  rcases hy with rfl | rfl <;> simp only [wd, mdw] <;> omega
theorem step_remove {nm : ByteArray} {x : Int} (h : Fm M c i m (DF nm x)) (hx : 1 <= x /\ x <= 257) (hm : m <= 600000000) {d : Nat} (hd : d <= 1) {cv : CallV} (hk : cv.kind = 9) (hs : cv.path.size <= 4611686018427387904) (hp : parseF cv.path = .ok [nm]) (fb s : Nat) :
  ∃ M', (∀ w1, StepC w1 fb s (M.clear d) M' d cv 112 (.agg #[]) noRes) /\ Fm M' c i (m + 7) D0 /\ M'.ts.length = (M.clear d).ts.length /\ (tr (M.clear d).ts (d : Nat)).length <= (tr M'.ts (d : Nat)).length /\ ∀ y ∈ tr M'.ts (d : Nat), 0 <= y.1 /\ y.1 <= 1000000 := by
 have h1 := h.clear d
 have h2 := h1.see (d : Nat) (wd 1 (nbucket nm : Nat))
 have h3 := h2.remove hx (by omega) hd
 have h0 : tr (M.clear d).ts (d : Nat) = [] := by
  unfold Mem.clear tr
  simp only
  rw [getD_set _ _ _ _ _ (by rw [h.tl]; omega), if_pos rfl]
 have ht := (tr_remove (M := (M.clear d).see (d : Nat) (wd 1 (nbucket nm : Nat))) (c := (d : Nat)) (it := rootItem) (nm := nm) (x := x) ⟨by omega, by rw [h2.tl]; omega⟩).1
 rw [tr_see ⟨by omega, by rw [h1.tl]; omega⟩, h0] at ht
 have hb := nb_lt nm
 refine ⟨_, fun w1 => ?_, h3, h3.tl.trans h1.tl.symm, ?_, ?_⟩
 ·exact stepC_remove (w := w1) (fb := fb) (s := s) (M := M.clear d) (M1 := M.clear d) h1.ok (by omega) (k := d) (by rw [h1.tl]; omega) h1.dk.fit (cv := cv) hk hs (ns := []) (nm := nm) hp (by simp) (it := rootItem) rfl rfl (xn := nm) (xu := x) (by
   rw [h1.dk.bkt (by decide) (nb_lt nm)]
   simp [DF, rootItem, Item.is])
 ·rw [h0]; exact Nat.zero_le _
 ·intro y hy
  rw [ht] at hy
  simp [accR, rootItem] at hy
  rcases hy with rfl | rfl | rfl <;> simp only [wd] <;> omega
theorem step_none {nm : ByteArray} (h : Fm M c i m D0) (hm : m <= 600000000) {d : Nat} (hd : d <= 1) {cv : CallV} (hk : cv.kind = 9) (hs : cv.path.size <= 4611686018427387904) (hp : parseF cv.path = .ok [nm]) (fb s : Nat) :
  ∃ M', (∀ w1, StepC w1 fb s (M.clear d) M' d cv 112 (.agg #[]) (codeR 1)) /\ Fm M' c i (m + 7) D0 /\ M'.ts.length = (M.clear d).ts.length /\ (tr (M.clear d).ts (d : Nat)).length <= (tr M'.ts (d : Nat)).length /\ ∀ y ∈ tr M'.ts (d : Nat), 0 <= y.1 /\ y.1 <= 1000000 := by
 have h1 := h.clear d
 have h2 := h1.see (d : Nat) (wd 1 (nbucket nm : Nat))
 have h0 : tr (M.clear d).ts (d : Nat) = [] := by
  unfold Mem.clear tr
  simp only
  rw [getD_set _ _ _ _ _ (by rw [h.tl]; omega), if_pos rfl]
 have ht : tr ((M.clear d).see (d : Nat) (wd 1 (nbucket nm : Nat))).ts (d : Nat) = [(wd 1 (nbucket nm : Nat), false)] := by
  rw [tr_see ⟨by omega, by rw [h1.tl]; omega⟩, h0]; rfl
 have hb := nb_lt nm
 refine ⟨_, fun w1 => ?_, h2.mono (by omega), h2.tl.trans h1.tl.symm, ?_, ?_⟩
 ·exact stepC_remove_no (w := w1) (fb := fb) (s := s) (M := M.clear d) (M1 := M.clear d) h1.ok (by omega) (k := d) (by rw [h1.tl]; omega) h1.dk.fit (cv := cv) hk hs (ns := []) (nm := nm) hp (by simp) (it := rootItem) rfl rfl (by
   rw [h1.dk.bkt (by decide) (nb_lt nm)]
   simp [D0])
 ·rw [h0]; exact Nat.zero_le _
 ·intro y hy
  rw [ht] at hy
  rw [List.mem_singleton.1 hy]
  simp only [wd]; omega
end Fm
end
section
open Go.RowKit
set_option maxHeartbeats 1000000
def SF (c n : Nat) : St := ⟨[⟨1, true, [], ⟨#[]⟩⟩], [], if c = 0 then [(n : Int), 0] else [0, (n : Int)]⟩
theorem inv_SF {c n : Nat} (hn : n <= 32) : Inv (SF c n) := by
 have one : ∀ {x}, x ∈ (SF c n).inodes -> x = ⟨1, true, [], ⟨#[]⟩⟩ := fun hx => List.mem_singleton.1 hx
 have hl : (SF c n).made.length = 2 := by unfold SF; by_cases e : c = 0 <;> simp [e]
 refine ⟨by omega, by omega, ?_, ⟨_, rfl, rfl, rfl⟩, List.pairwise_singleton _ _, ?_, ?_, ?_, ?_, ?_, ?_, ?_, ?_, ?_, ?_, ?_, ?_, List.Pairwise.nil⟩
 ·intro m hm
  unfold SF at hm
  by_cases e : c = 0
  ·simp [e] at hm; omega
  ·simp [e] at hm; omega
 ·intro x hx hn; rw [one hx] at hn; exact absurd rfl hn
 ·intro x hx _; rw [one hx]; rfl
 ·intro x hx hn; rw [one hx] at hn; cases hn
 ·intro x hx; rw [one hx]; decide
 ·intro x hx e he; rw [one hx] at he; cases he
 ·intro x hx e he; rw [one hx] at he; cases he
 ·intro x hx; rw [one hx]; exact List.Pairwise.nil
 ·intro x hx q; rw [one hx]; exact Nat.zero_le _
 ·intro x hx _ hn; rw [one hx] at hn; exact absurd rfl hn
 ·intro x hx _; rw [one hx]; exact .root
 ·intro x hx hn; rw [one hx] at hn; cases hn
 ·intro o ho; cases ho
theorem filter_one {f : Nat -> Option Ino} {x : Ino} (h0 : f 0 = some x) (h2 : ∀ j, 1 <= j -> f j = none) : ∀ m, (List.range (m + 1)).filterMap f = [x]
 | 0 => by simp [List.range_succ, h0]
 | m + 1 => by
  rw [List.range_succ, List.filterMap_append, filter_one h0 h2 m]
  simp [h2 (m + 1) (by omega)]
namespace Fm
variable {M : Mem} {c i m : Nat} {D : DkT}
theorem ops (h : Fm M c i m D) : opsTo M 2 = [] := by
 have : ∀ c, c < 8 -> opsC M c 4 = [] := fun c hc => by
  unfold opsC
  rw [List.filterMap_eq_nil_iff]
  intro k hk
  rw [if_pos (h.fd c k hc (List.mem_range.1 hk))]
 unfold opsTo
 rw [List.flatMap_eq_nil_iff]
 intro q hq
 exact this q (by have := List.mem_range.1 hq; omega)
theorem mades (h : Fm M c i m D) : madeTo M 2 = if c = 0 then [(i : Int), 0] else [0, (i : Int)] := by
 have h1 := h.mc
 have h2 := h.md
 show [rd M.ws (mdw (0 : Nat)), rd M.ws (mdw (1 : Nat))] = _
 rcases (by have := h.c1; omega : c = 0 ∨ c = 1) with rfl | rfl
 ·rw [if_pos rfl, h1]
  rw [show rd M.ws (mdw ((1 : Nat) : Int)) = 0 from h2]
 ·rw [if_neg (by decide), h1]
  rw [show rd M.ws (mdw ((0 : Nat) : Int)) = 0 from h2]
theorem its0 (h : Fm M c i m D0) : itsM M 1 = [] := by
 rw [itsM_dk h.dk ⟨by omega, by omega⟩]
 simp [D0]
theorem itsF {nm : ByteArray} {x : Int} (h : Fm M c i m (DF nm x)) : itsM M 1 = [⟨nm, x, false⟩] := by
 rw [itsM_dk h.dk ⟨by omega, by omega⟩]
 have hb : nbucket nm < 8 := by have := nb_lt nm; omega
 have : ∀ k, ((List.range k).flatMap fun q => DF nm x 1 (q : Nat)) = if nbucket nm < k then [⟨nm, x, false⟩] else [] := by
  intro k
  induction k with
  | zero => rfl
  | succ k ih =>
   rw [List.range_succ, List.flatMap_append, ih]
   simp only [List.flatMap_cons, List.flatMap_nil, List.append_nil, DF]
   by_cases e : nbucket nm = k
   ·rw [if_neg (by omega), if_pos ⟨trivial, by omega⟩, if_pos (by omega)]; rfl
   ·rw [if_neg (show ¬(True /\ (k : Int) = (nbucket nm : Nat)) by omega), List.append_nil]
    by_cases q : nbucket nm < k
    ·rw [if_pos q, if_pos (by omega)]
    ·rw [if_neg q, if_neg (by omega)]
 rw [this 8, if_pos hb]
theorem gather0 (h : Fm M c i m D0) : gDir M 1 1 ⟨[], []⟩ = ⟨[], [1]⟩ := by
 unfold gDir
 rw [h.its0]
 rfl
theorem gatherF {nm : ByteArray} {x : Int} (h : Fm M c i m (DF nm x)) : gDir M 1 1 ⟨[], []⟩ = ⟨[x], [1]⟩ := by
 unfold gDir
 rw [h.itsF]
 rfl
theorem deep0 (h : Fm M c i m D0) : Deep M 1 1 := ⟨⟨by omega, by omega⟩, fun y hy hd => by
 rw [h.its0] at hy
 cases hy⟩
theorem deepF {nm : ByteArray} {x : Int} (h : Fm M c i m (DF nm x)) : Deep M 1 1 := ⟨⟨by omega, by omega⟩, fun y hy hd => by
 rw [h.itsF] at hy
 rw [List.mem_singleton.1 hy] at hd
 cases hd⟩
theorem data (h : Fm M c i m D) (hm : m <= 900000000) (s : Nat) {fs : List Int} (hf : ∀ x ∈ fs, 1 <= x /\ x <= 257) : DataC M s (fun i => (filesO fs (opsTo M 2) i).isSome = true) (fun _ => ⟨#[]⟩) := by
 intro K W num hn hM
 have hn : (filesO fs (opsTo M 2) num).isSome = true := hn
 rw [h.ops] at hn
 have e : num ∈ fs := by
  unfold filesO at hn
  split at hn
  ·rename_i q
   simpa using q
  ·cases hn
 obtain ⟨h1, h2, h3⟩ := h.bz.base (num := num) (hf num e)
 exact data_none hM h.ok (by omega) (hf num e) h1 h2 h3
theorem state0 (h : Fm M c i m D0) {S : St} (hs : IsState M ⟨[], [1]⟩ (fun _ => ⟨#[]⟩) 2 S) : S = SF c i := by
 obtain ⟨h1, h2, A, h3, h4⟩ := hs
 rw [h.ops] at h2 h4
 rw [h.mades] at h1
 have hf : ∀ i : Int, ¬ (filesO [] [] i).isSome = true := fun i => by
  unfold filesO
  simp
 have a1 : A 1 = some ⟨1, true, [], ⟨#[]⟩⟩ := by
  obtain ⟨q1, q2⟩ := (h4 1).2 (hf 1)
  obtain ⟨p, hp⟩ := Option.isSome_iff_exists.1 (show (A 1).isSome = true by rw [q1]; rfl)
  obtain ⟨r1, r2, r3, r4, -⟩ := q2 p hp
  rw [hp]
  obtain ⟨pn, pd, pe, pdat⟩ := p
  simp only at r1 r2 r3 r4
  subst r1 r2 r3
  rw [h.its0] at r4
  have r5 : pe = [] := List.perm_nil.1 r4
  rw [r5]
 have aN : ∀ j : Nat, 1 <= j -> A ((j : Int) + 1) = none := fun j hj => by
  obtain ⟨q1, -⟩ := (h4 ((j : Int) + 1)).2 (hf _)
  cases hA : A ((j : Int) + 1) with
  | none => rfl
  | some p =>
   rw [hA] at q1
   simp at q1
   omega
 have hi : S.inodes = (SF c i).inodes := by
  rw [h3]
  exact filter_one (f := fun (j : Nat) => A ((j : Int) + 1)) (by simpa using a1) aN 256
 obtain ⟨S1, S2, S3⟩ := S
 simp only at h1 h2 hi
 subst h1 h2 hi
 rfl
end Fm
theorem fm_new {c : Nat} (hc : c <= 1) : Fm (loadM (newS 2)) c 0 9000 D0 := by
 obtain ⟨h1, h2⟩ := load_words inv2 rfl
 have hm : ∀ c : Nat, c < 2 -> rd (loadM (newS 2)).ws (mdw (c : Nat)) = 0 := fun c hc => by
  rw [h1 c hc]
  have : c = 0 ∨ c = 1 := by omega
  rcases this with rfl | rfl <;> rfl
 refine ⟨hc, loadM_ok (S := newS 2) (by simp [newS]), by rw [loadM_ts]; simp [newS], by rw [loadM_nm]; simp [newS], dk_new2, bz_load inv2 rfl (fun i hi => by
  have : i < 1 := hi
  obtain rfl : i = 0 := by omega
  rfl), hm c (by omega), hm (1 - c) (by omega), h2⟩
end
section
open Go.RowKit
theorem block_of_add (a : Addr) (n : Nat) : (a.add n).block = a.block := by unfold Addr.add; split <;> rfl
def Reads (w : World) (B size : Nat) (A : Option Addr) (n : Nat) (xs : List Value) : Prop :=
 xs.length = n * size /\ (0 < n -> ∃ ad, A = some ad /\ ad.block < B /\ ∀ j u, xs[j]? = some u -> w.cell? (ad.add j) = some u)
section
variable {w w' : World} {B B' size n : Nat} {A : Option Addr} {xs : List Value}
theorem Reads.at_ {k : Nat} (h : Reads w B 1 A n xs) (hk : k < n) : ∃ ad u, A = some ad /\ ad.block < B /\ xs[k]? = some u /\ w.cell? (ad.add k) = some u := by
 obtain ⟨ad, e, hb, hc⟩ := h.2 (by omega)
 have hl : k < xs.length := by have := h.1; omega
 exact ⟨ad, xs[k], e, hb, List.getElem?_eq_getElem hl, hc k _ (List.getElem?_eq_getElem hl)⟩
theorem Reads.keep (h : Reads w B size A n xs) (hk : ∀ p : Addr, p.block < B -> w'.cell? p = w.cell? p) : Reads w' B size A n xs :=
 ⟨h.1, fun hn => by
  obtain ⟨ad, e, hb, hc⟩ := h.2 hn
  exact ⟨ad, e, hb, fun j u hu => (hk _ (by rw [block_of_add]; exact hb)).trans (hc j u hu)⟩⟩
theorem Reads.more (h : Reads w B size A n xs) (hB : B <= B') : Reads w B' size A n xs :=
 ⟨h.1, fun hn => by
  obtain ⟨ad, e, hb, hc⟩ := h.2 hn
  exact ⟨ad, e, by omega, hc⟩⟩
theorem Reads.below (h : Reads w B size A n xs) (hb : Below B w w') : Reads w' B size A n xs := h.keep fun _ hp => hb.cell hp
theorem Reads.drew (h : Reads w B size A n xs) : Reads w.drew B size A n xs := h
theorem Reads.drewN (h : Reads w B size A n xs) (k : Nat) : Reads (w.drewN k) B size A n xs := h
theorem Reads.alloc (h : Reads w B size A n xs) (hB : B <= w.heap.size) (o : Obj) : Reads (w.alloc o) B size A n xs := h.keep fun p hp => World.cell?_alloc_lt w o p (by omega)
theorem Reads.setCell (h : Reads w B size A n xs) {p : Addr} (hB : B <= p.block) (u : Value) : Reads (w.setCell p u) B size A n xs :=
 h.keep fun q hq => World.cell?_setCell_other w p q u (fun e => by subst e; omega)
theorem Reads.grown (h : Reads w B size A n xs) {row : Option Nat} (hg : w.grownBy w' row) (hB : B <= w.heap.size) (hr : ∀ g, row = some g -> B <= g) : Reads w' B size A n xs :=
 h.keep fun p hp => World.cell?_of_block (hg.block p.block (by omega) (fun e => by have := hr _ e.symm; omega))
end
section
variable {P : Program} (w : World)
theorem run_append_of_nil (base : Nat) (t ty e : TypeId) (i : TypeInfo) (size : Nat) (ht : P.underlying t = some (.slice e)) (hi : P.info? e = some i)
  (v : Value) (n : Nat) (xs : List Value) (hown : w.ownsRow base e size v n xs) (c : Nat) : (Builtin.append_ #[t, t] ty #[v, .slice none 0 c]).run P w = .ok v w := by
 rcases hown.2 with ⟨rfl, rfl⟩ | ⟨g, cap, cur, rfl, _, _, hnc, _⟩
 ·simp [Builtin.append_, run_underlying ht, sizeOf, typeInfo, hi, Builtin.lenOf, Builtin.firstCells]
 ·simp [Builtin.append_, run_underlying ht, sizeOf, typeInfo, hi, Builtin.lenOf, Builtin.firstCells, hnc, storeCells]
theorem run_append_any (base : Nat) (t ty e : TypeId) (i : TypeInfo) (z : Value) (size bytes : Nat) (ht : P.underlying t = some (.slice e)) (hi : P.info? e = some i) (hz : i.zero = some z)
  (hsize : i.size = size) (hby : i.bytes = bytes) (hzs : z.cells.size = size) (hsz : 0 < size)
  (v : Value) (n : Nat) (xs : List Value) (hown : w.ownsRow base e size v n xs)
  (B : Nat) (A : Option Addr) (m c : Nat) (news : List Value) (hr : Reads w B size A m news) (h1 : ∀ u ∈ news, u.oneCell' = true)
  (h63 : n + m <= maxLen) (hbytes : (n + m) * bytes <= 140737488355328) (hbase : base <= w.heap.size) :
  ∃ v' w', (Builtin.append_ #[t, t] ty #[v, .slice A m c]).run P w = .ok v' w' /\ w'.ownsRow base e size v' (n + m) (xs ++ news) /\ w.grownBy w' v.ownBlock /\
   (v'.ownBlock = v.ownBlock ∨ v'.ownBlock = some w.heap.size) := by
 rcases A with _ | ad
 ·have hm : m = 0 := by
   rcases Nat.eq_zero_or_pos m with h0 | h0
   ·exact h0
   ·obtain ⟨ad, h, _⟩ := hr.2 h0
    cases h
  subst hm
  have hn : news = [] := List.eq_nil_of_length_eq_zero (by simpa using hr.1)
  subst hn
  exact ⟨v, w, run_append_of_nil w base t ty e i size ht hi v n xs hown c, by simpa using hown, World.grownBy.refl w _, .inl rfl⟩
 ·have hcells : ∀ j u, news[j]? = some u -> w.cell? (ad.add j) = some u := by
   intro j u hu
   rcases Nat.eq_zero_or_pos m with h0 | h0
   ·subst h0
    have hn : news = [] := List.eq_nil_of_length_eq_zero (by simpa using hr.1)
    subst hn
    simp at hu
   ·obtain ⟨ad', h, _, hc⟩ := hr.2 h0
    injection h with h
    subst h
    exact hc j u hu
  obtain ⟨v', w', hrun, h2, h3, _, h5⟩ := run_append_own_at (P := P) w base t ty e i z size bytes ht hi hz hsize hby hzs hsz v n xs hown ad m c news hr.1 hcells h1 h63 hbytes hbase
  exact ⟨v', w', hrun, h2, h3, h5⟩
theorem wp_append_any {o : Oper} {a : Act} {K : Act -> World -> Prop} {Q : Exit -> Act -> World -> Prop} (s x : Operand) (t : TypeId)
  (ho : o.op = .call { callee := .builtin .append, args := #[s, x], argTypes := #[t, t] })
  (base : Nat) (e : TypeId) (i : TypeInfo) (z : Value) (size bytes : Nat) (ht : P.underlying t = some (.slice e)) (hi : P.info? e = some i) (hz : i.zero = some z)
  (hsize : i.size = size) (hby : i.bytes = bytes) (hzs : z.cells.size = size) (hsz : 0 < size)
  (v : Value) (n : Nat) (xs : List Value) (hs : a.eval s = v) (hown : w.ownsRow base e size v n xs)
  (B : Nat) (A : Option Addr) (m c : Nat) (news : List Value) (hx : a.eval x = .slice A m c) (hr : Reads w B size A m news) (h1 : ∀ u ∈ news, u.oneCell' = true)
  (h63 : n + m <= maxLen) (hbytes : (n + m) * bytes <= 140737488355328) (hbase : base <= w.heap.size)
  (h : ∀ v' w', w'.ownsRow base e size v' (n + m) (xs ++ news) -> w.grownBy w' v.ownBlock -> (v'.ownBlock = v.ownBlock ∨ v'.ownBlock = some w.heap.size) -> K (a.put o.dst v') w') : o.wp P a w K Q := by
 obtain ⟨v', w', hrun, h2, h3, h4⟩ := run_append_any (P := P) w base t o.type e i z size bytes ht hi hz hsize hby hzs hsz v n xs hown B A m c news hr h1 h63 hbytes hbase
 unfold Oper.wp execOp
 simp only [ho, resolve, invoke, builtin, Sem.run_bind, Sem.run_pure, Result.andThen_ok, List.map_toArray, List.map_cons, List.map_nil, hs, hx, hrun]
 exact h v' w' h2 h3 h4
theorem wpList_append_any {ops : Array Oper} {rest : List Oper} {o : Oper} {a : Act} {Q : Exit -> Act -> World -> Prop} (hgd : o.guard = none) (s x : Operand) (t : TypeId)
  (ho : o.op = .call { callee := .builtin .append, args := #[s, x], argTypes := #[t, t] })
  (base : Nat) (e : TypeId) (i : TypeInfo) (z : Value) (size bytes : Nat) (ht : P.underlying t = some (.slice e)) (hi : P.info? e = some i) (hz : i.zero = some z)
  (hsize : i.size = size) (hby : i.bytes = bytes) (hzs : z.cells.size = size) (hsz : 0 < size)
  (v : Value) (n : Nat) (xs : List Value) (hs : a.eval s = v) (hown : w.ownsRow base e size v n xs)
  (B : Nat) (A : Option Addr) (m c : Nat) (news : List Value) (hx : a.eval x = .slice A m c) (hr : Reads w B size A m news) (h1 : ∀ u ∈ news, u.oneCell' = true)
  (h63 : n + m <= maxLen) (hbytes : (n + m) * bytes <= 140737488355328) (hbase : base <= w.heap.size)
  (h : ∀ v' w', w'.ownsRow base e size v' (n + m) (xs ++ news) -> w.grownBy w' v.ownBlock -> (v'.ownBlock = v.ownBlock ∨ v'.ownBlock = some w.heap.size) -> wpList P ops Q rest (a.put o.dst v') w') : wpList P ops Q (o :: rest) a w :=
 wpList_plain hgd fun _ hK => wp_append_any w s x t ho base e i z size bytes ht hi hz hsize hby hzs hsz v n xs hs hown B A m c news hx hr h1 h63 hbytes hbase fun v' w' h2 h3 h4 => hK _ _ (h v' w' h2 h3 h4)
end
section
variable {w w' : World} {B size n k : Nat} {A : Option Addr} {xs : List Value}
end
end
section
open Go.RowKit
set_option maxHeartbeats 400000
def ArP (L : Nat -> Prop) (w : World) (a : Nat) (ws : List Int) (n m : Nat) (P : List (List Acc) -> Prop) : Prop :=
 ∃ ts, ts.length = n /\ Short m ts /\ P ts /\ ArAt L w a ws ts
def Cl (n : Nat) (P : List (List Acc) -> Prop) (c : Int) (S : Acc -> Prop) : Prop := ∀ ts x, ts.length = n -> P ts -> S x -> P (noted ts c x)
theorem Cl.sub {n : Nat} {P : List (List Acc) -> Prop} {c : Int} {S S' : Acc -> Prop} (h : Cl n P c S) (hs : ∀ x, S' x -> S x) : Cl n P c S' := fun ts x h1 h2 h3 => h ts x h1 h2 (hs x h3)
section
variable {L L' : Nat -> Prop} {w w' : World} {a : Nat} {ws : List Int} {n m : Nat} {P P' : List (List Acc) -> Prop}
theorem ArP.of {ts : List (List Acc)} (h : ArAt L w a ws ts) (hn : ts.length = n) (hm : Short m ts) (hp : P ts) : ArP L w a ws n m P := ⟨ts, hn, hm, hp, h⟩
theorem ArP.new (k : Nat) (hp : P (List.replicate k [])) (h : ArAt L w a ws (List.replicate k [])) : ArP L w a ws k 0 P := ⟨_, by simp, by intro t ht; simp at ht; simp [ht], hp, h⟩
theorem ArP.mono (h : ArP L w a ws n m P) {m' : Nat} (hm : m <= m') : ArP L w a ws n m' P := by
 obtain ⟨ts, h1, h2, h3, h4⟩ := h
 exact ⟨ts, h1, h2.mono hm, h3, h4⟩
theorem ArP.map (h : ArP L w a ws n m P) (hp : ∀ ts, ArAt L w a ws ts -> ArAt L' w' a ws ts) : ArP L' w' a ws n m P := by
 obtain ⟨ts, h1, h2, h3, h4⟩ := h
 exact ⟨ts, h1, h2, h3, hp ts h4⟩
theorem ArP.bd (h : ArP L w a ws n m P) : Bd L w := by obtain ⟨ts, h1, h2, h3, h4⟩ := h; exact h4.bd
theorem ArP.lt (h : ArP L w a ws n m P) : a < w.heap.size := by obtain ⟨ts, h1, h2, h3, h4⟩ := h; exact h4.lt
theorem ArP.wsl (h : ArP L w a ws n m P) : ws.length <= 65536 := by obtain ⟨ts, h1, h2, h3, h4⟩ := h; exact h4.wsl
theorem ArP.tsl (h : ArP L w a ws n m P) : n <= 8 := by obtain ⟨ts, h1, h2, h3, h4⟩ := h; have := h4.tsl; omega
theorem ArP.drew (h : ArP L w a ws n m P) : ArP L w.drew a ws n m P := h.map fun _ h => h.drew
theorem ArP.drewN (h : ArP L w a ws n m P) (k : Nat) : ArP L (w.drewN k) a ws n m P := h.map fun _ h => h.drewN k
theorem ArP.alloc (h : ArP L w a ws n m P) (o : Obj) : ArP L (w.alloc o) a ws n m P := h.map fun _ h => h.alloc o
theorem ArP.allocIns (h : ArP L w a ws n m P) (o : Obj) : ArP (ins L w.heap.size) (w.alloc o) a ws n m P := h.map fun _ h => h.allocIns o
theorem ArP.setCell (h : ArP L w a ws n m P) {p : Addr} (hp : L p.block) (u : Value) : ArP L (w.setCell p u) a ws n m P := h.map fun _ h => h.setCell hp u
theorem ArP.below (h : ArP L w a ws n m P) (hb : Below w.heap.size w w') : ArP L w' a ws n m P := h.map fun _ h => h.below hb
theorem ArP.sub (h : ArP L w a ws n m P) (hs : ∀ b, L' b -> L b) : ArP L' w a ws n m P := h.map fun _ h => h.sub hs
end
end
section
open Go.RowKit
def nth (xs : List Int) (k : Nat) : Int := xs.getD k 0
def Ints (w : World) (A : Option Addr) (len cap : Nat) (xs : List Int) : Prop :=
 xs.length = len /\ len <= cap /\ cap <= maxLen /\ (∀ x ∈ xs, -9223372036854775808 <= x /\ x <= 9223372036854775807) /\
 (0 < len -> ∃ g off, A = some ⟨g, off, none⟩ /\ ∀ j, j < len -> w.cell? ⟨g, off + j, none⟩ = some (.int .i64 (nth xs j)))
theorem Ints.nil_ (w : World) : Ints w none 0 0 [] := ⟨rfl, Nat.le_refl _, Nat.zero_le _, by simp, fun h => absurd h (by omega)⟩
theorem Ints.at_ {w wr : World} {A : Option Addr} {len cap k : Nat} {xs : List Int} (h : Ints w A len cap xs) (hk : k < len) (hb : Below w.heap.size w wr) :
  ∃ g off, A = some ⟨g, off, none⟩ /\ wr.cell? ⟨g, off + k, none⟩ = some (.int .i64 (nth xs k)) /\ -9223372036854775808 <= nth xs k /\ nth xs k <= 9223372036854775807 := by
 obtain ⟨h1, _, _, h3, h4⟩ := h
 obtain ⟨g, off, hA, hc⟩ := h4 (by omega)
 have hc' := hc k hk
 refine ⟨g, off, hA, (hb.cell (World.block_lt_of_cell? w _ hc')).trans hc', ?_⟩
 have hm : nth xs k ∈ xs := by
  unfold nth
  rw [List.getD_eq_getElem?_getD, List.getElem?_eq_getElem (by omega)]
  exact List.getElem_mem _
 exact h3 _ hm
end
section
def Rises (xs : List Int) : Prop := xs.Pairwise (· < ·)
theorem nth_eq {xs : List Int} {j : Nat} (h : j < xs.length) : nth xs j = xs[j] := by
 unfold nth
 rw [List.getD_eq_getElem?_getD, List.getElem?_eq_getElem h]; rfl
theorem Rises.lt {xs : List Int} (h : Rises xs) {i j : Nat} (hij : i < j) (hj : j < xs.length) : nth xs i < nth xs j := by
 rw [nth_eq (by omega), nth_eq hj]
 exact List.pairwise_iff_getElem.1 h i j (by omega) hj hij
theorem Rises.nil : Rises [] := List.Pairwise.nil
def Hi (xs : List Int) (x : Int) (j : Nat) : Prop := ∀ i, j <= i -> i < xs.length -> x < nth xs i
theorem Hi.down {xs : List Int} {x : Int} {j : Nat} (h : Hi xs x (j + 1)) (hj : x < nth xs j) : Hi xs x j := fun i h1 h2 => by
 by_cases e : i = j
 ·subst e; exact hj
 ·exact h i (by omega) h2
def put (xs : List Int) (x : Int) (j : Nat) : List Int := xs.take j ++ x :: xs.drop j
theorem put_length {xs : List Int} {x : Int} {j : Nat} (hj : j <= xs.length) : (put xs x j).length = xs.length + 1 := by
 simp [put]; omega
theorem mem_put {xs : List Int} {x : Int} {j : Nat} (y : Int) : y ∈ put xs x j ↔ y = x ∨ y ∈ xs := by
 unfold put
 rw [List.mem_append, List.mem_cons]
 have h := List.take_append_drop j xs
 constructor
 ·rintro (h1 | h1 | h1)
  ·exact .inr (List.mem_of_mem_take h1)
  ·exact .inl h1
  ·exact .inr (List.mem_of_mem_drop h1)
 ·rintro (h1 | h1)
  ·exact .inr (.inl h1)
  ·rw [<- h, List.mem_append] at h1
   rcases h1 with h1 | h1
   ·exact .inl h1
   ·exact .inr (.inr h1)
theorem Rises.put {xs : List Int} {x : Int} {j : Nat} (h : Rises xs) (hj : j <= xs.length) (hlo : 0 < j -> nth xs (j - 1) < x) (hhi : Hi xs x j) : Rises (put xs x j) := by
 have lo : ∀ y ∈ xs.take j, y < x := by
  intro y hy
  obtain ⟨i, hi, rfl⟩ := List.getElem_of_mem hy
  rw [List.length_take] at hi
  rw [List.getElem_take]
  by_cases e : i = j - 1
  ·have := hlo (by omega)
   rw [nth_eq (by omega)] at this
   subst e; exact this
  ·have h1 := h.lt (i := i) (j := j - 1) (by omega) (by omega)
   have h2 := hlo (by omega)
   rw [nth_eq (by omega)] at h1
   omega
 have hi : ∀ y ∈ xs.drop j, x < y := by
  intro y hy
  obtain ⟨i, hi, rfl⟩ := List.getElem_of_mem hy
  rw [List.length_drop] at hi
  rw [List.getElem_drop, <- nth_eq (by omega)]
  exact hhi (j + i) (by omega) (by omega)
 unfold Proofs.YtkebjgebkneijaaGreatDoor.put
 refine List.pairwise_append.2 ⟨List.Pairwise.sublist (List.take_sublist _ _) h, List.pairwise_cons.2 ⟨hi, List.Pairwise.sublist (List.drop_sublist _ _) h⟩, ?_⟩
 intro y hy z hz
 rcases List.mem_cons.1 hz with rfl | hz
 ·exact lo y hy
 ·have h1 := lo y hy
  have h2 := hi z hz
  omega
theorem Rises.ext {xs ys : List Int} (h : Rises xs) (h' : Rises ys) (hm : ∀ y, y ∈ xs ↔ y ∈ ys) : xs = ys := by
 induction xs generalizing ys with
 | nil =>
  cases ys with
  | nil => rfl
  | cons y ys => exact absurd ((hm y).2 (List.mem_cons_self ..)) (by simp)
 | cons x xs ih =>
  cases ys with
  | nil => exact absurd ((hm x).1 (List.mem_cons_self ..)) (by simp)
  | cons y ys =>
   obtain ⟨hx, hxs⟩ := List.pairwise_cons.1 h
   obtain ⟨hy, hys⟩ := List.pairwise_cons.1 h'
   have e : x = y := by
    rcases List.mem_cons.1 ((hm x).1 (List.mem_cons_self ..)) with e | e
    ·exact e
    ·rcases List.mem_cons.1 ((hm y).2 (List.mem_cons_self ..)) with e2 | e2
     ·exact e2.symm
     ·have := hx y e2
      have := hy x e
      omega
   subst e
   congr 1
   refine ih hxs hys fun z => ⟨fun hz => ?_, fun hz => ?_⟩
   ·rcases List.mem_cons.1 ((hm z).1 (List.mem_cons_of_mem _ hz)) with e | e
    ·have := hx z hz; omega
    ·exact e
   ·rcases List.mem_cons.1 ((hm z).2 (List.mem_cons_of_mem _ hz)) with e | e
    ·have := hy z hz; omega
    ·exact e
structure WSt (t : List (Int × Bool)) (b : Bool) (us : List Int) : Prop where
 len : us.length <= t.length
 up : Rises us
 mem : ∀ y, y ∈ us ↔ ∃ x ∈ t, (b = true -> x.2 = true) /\ x.1 = y
theorem WSt.nil (b : Bool) : WSt [] b [] := ⟨Nat.le_refl _, Rises.nil, by simp⟩
theorem WSt.skip {t : List (Int × Bool)} {b : Bool} {us : List Int} (h : WSt t b us) {x : Int × Bool} (hb : b = true) (hx : x.2 = false) : WSt (t ++ [x]) b us := by
 refine ⟨by have := h.len; simp; omega, h.up, fun y => ?_⟩
 rw [h.mem]
 constructor
 ·rintro ⟨z, h1, h2⟩; exact ⟨z, List.mem_append_left _ h1, h2⟩
 ·rintro ⟨z, h1, h2, h3⟩
  rcases List.mem_append.1 h1 with h1 | h1
  ·exact ⟨z, h1, h2, h3⟩
  ·rw [List.mem_singleton.1 h1, hx] at h2
   exact absurd (h2 hb) (by simp)
theorem WSt.same {t : List (Int × Bool)} {b : Bool} {us : List Int} (h : WSt t b us) {x : Int × Bool} (hx : x.1 ∈ us) : WSt (t ++ [x]) b us := by
 refine ⟨by have := h.len; simp; omega, h.up, fun y => ?_⟩
 constructor
 ·intro hy
  obtain ⟨z, h1, h2⟩ := (h.mem y).1 hy
  exact ⟨z, List.mem_append_left _ h1, h2⟩
 ·rintro ⟨z, h1, h2, h3⟩
  rcases List.mem_append.1 h1 with h1 | h1
  ·exact (h.mem y).2 ⟨z, h1, h2, h3⟩
  ·rw [List.mem_singleton.1 h1] at h3
   rw [<- h3]; exact hx
theorem WSt.put {t : List (Int × Bool)} {b : Bool} {us : List Int} (h : WSt t b us) {x : Int × Bool} (hb : b = true -> x.2 = true) {j : Nat} (hj : j <= us.length) (hlo : 0 < j -> nth us (j - 1) < x.1) (hhi : Hi us x.1 j) : WSt (t ++ [x]) b (put us x.1 j) := by
 refine ⟨by have := h.len; rw [put_length hj]; simp; omega, h.up.put hj hlo hhi, fun y => ?_⟩
 rw [mem_put, h.mem]
 constructor
 ·rintro (e | ⟨z, h1, h2⟩)
  ·exact ⟨x, by simp, hb, e.symm⟩
  ·exact ⟨z, List.mem_append_left _ h1, h2⟩
 ·rintro ⟨z, h1, h2, h3⟩
  rcases List.mem_append.1 h1 with h1 | h1
  ·exact .inr ⟨z, h1, h2, h3⟩
  ·rw [List.mem_singleton.1 h1] at h3
   exact .inl h3.symm
end
section
open Go.RowKit
set_option maxHeartbeats 1000000
theorem ints_at {xs : List Int} {k : Nat} (h : k < xs.length) : (xs.map (Value.int .i64))[k]? = some (.int .i64 (nth xs k)) := by
 rw [List.getElem?_map, List.getElem?_eq_getElem h, nth_eq h]; rfl
def IntRow (w : World) (B : Nat) (v : Value) (us : List Int) : Prop := w.ownsRow B 3 1 v us.length (us.map (Value.int .i64))
theorem IntRow.nil (w : World) (B : Nat) : IntRow w B (.slice none 0 0) [] := World.ownsRow_nil _ _ _ _
theorem IntRow.form {w : World} {B : Nat} {v : Value} {us : List Int} (h : IntRow w B v us) : ∃ A cap, v = .slice A us.length cap /\ us.length <= cap /\ cap <= maxLen /\ (0 < us.length -> ∃ g, A = some ⟨g, 0, none⟩ /\ B <= g /\ ∀ j, j < us.length -> w.cell? ⟨g, j, none⟩ = some (.int .i64 (nth us j)) /\ w.frozen? ⟨g, j, none⟩ = false) := by
 have h' := h
 rcases h.2 with ⟨rfl, h0⟩ | ⟨g, cap, cur, rfl, hb, hg, hnc, hcm, _⟩
 ·exact ⟨none, 0, by rw [h0], by omega, by simp [maxLen], fun h => absurd h (by omega)⟩
 ·refine ⟨some ⟨g, 0, none⟩, cap, rfl, hnc, hcm, fun _ => ⟨g, rfl, hb, fun j hj => ⟨?_, Blk.frozen (t := 3) hg j⟩⟩⟩
  have := h.cells (g := g) rfl j _ (ints_at hj)
  rw [Addr.add_lit, Nat.zero_add] at this
  exact this
theorem IntRow.sl {w : World} {B : Nat} {v : Value} {us : List Int} (h : IntRow w B v us) : Sl w 1 v us.length (us.map (Value.int .i64)) := Sl.ofOwn h
theorem IntRow.drewN {w : World} {B : Nat} {v : Value} {us : List Int} (h : IntRow w B v us) (d : Nat) : IntRow (w.drewN d) B v us := h
structure WdAt (t : List Acc) (b : Bool) (w : World) (v : Value) (k : Nat) (wr : World) (us : List Int) : Prop where
 st : WSt (t.take k) b us
 own : IntRow wr w.heap.size v us
 keeps : Below w.heap.size w wr
theorem WdAt.start (t : List Acc) (b : Bool) (w : World) : WdAt t b w (.slice none 0 0) 0 w [] := ⟨WSt.nil b, IntRow.nil _ _, Below.refl _ _⟩
theorem take_snocA {t : List Acc} {k : Nat} (h : k < t.length) : t.take (k + 1) = t.take k ++ [t[k]] := List.take_succ_eq_append_getElem h
theorem below_drewN' {B : Nat} {a w : World} (h : Below B a w) (n : Nat) : Below B a (w.drewN n) := ⟨h.os, h.tape, h.output, h.size, h.block⟩
theorem WdAt.skip {t : List Acc} {b : Bool} {w wr : World} {v : Value} {k : Nat} {us : List Int} (h : WdAt t b w v k wr us) (hk : k < t.length) (hb : b = true) (hx : t[k].2 = false) (d : Nat) : WdAt t b w v (k + 1) (wr.drewN d) us :=
 ⟨by rw [take_snocA hk]; exact h.st.skip hb hx, h.own, below_drewN' h.keeps d⟩
theorem WdAt.same {t : List Acc} {b : Bool} {w wr : World} {v : Value} {k : Nat} {us : List Int} (h : WdAt t b w v k wr us) (hk : k < t.length) (hx : t[k].1 ∈ us) (d : Nat) : WdAt t b w v (k + 1) (wr.drewN d) us :=
 ⟨by rw [take_snocA hk]; exact h.st.same hx, h.own, below_drewN' h.keeps d⟩
theorem WdAt.put {t : List Acc} {b : Bool} {w wr w' : World} {v v' : Value} {k j n : Nat} {us : List Int} (h : WdAt t b w v k wr us) (hk : k < t.length) (hb : b = true -> t[k].2 = true) (hj : j <= us.length) (hlo : 0 < j -> nth us (j - 1) < t[k].1) (hhi : Hi us t[k].1 j)
  (hown : w'.ownsRow w.heap.size 3 1 v' n ((us.take j).map (Value.int .i64) ++ [.int .i64 t[k].1] ++ (us.drop j).map (Value.int .i64))) (hn : n = us.length + 1) (hB : Below w.heap.size w w') : WdAt t b w v' (k + 1) w' (put us t[k].1 j) := by
 refine ⟨by rw [take_snocA hk]; exact h.st.put hb hj hlo hhi, ?_, hB⟩
 unfold IntRow
 rw [put_length hj, <- hn]
 simpa [Proofs.YtkebjgebkneijaaGreatDoor.put] using hown
end
section
open Go.RowKit
set_option maxHeartbeats 400000
def lo (L : Nat -> Prop) (v : Value) : Nat -> Prop := fun b => L b ∨ v.ownBlock = some b
section
variable {L : Nat -> Prop} {w w' : World} {a : Nat} {ws : List Int} {n m : Nat} {P : List (List Acc) -> Prop}
theorem ArP.grown {v v' : Value} (h : ArP (lo L v) w a ws n m P) (hg : w.grownBy w' v.ownBlock) (hv : ∀ g, v'.ownBlock = some g -> (v.ownBlock = some g ∨ w.heap.size <= g) /\ g < w'.heap.size) : ArP (lo L v') w' a ws n m P :=
 h.map fun _ h => h.move (fun b hb => by
  rcases hb with hb | hb
  ·exact Nat.lt_of_lt_of_le (h.bd b (.inl hb)) hg.size
  ·exact (hv b hb).2) (fun b hb hlt => by
  rcases hb with hb | hb
  ·exact .inl hb
  ·rcases (hv b hb).1 with e | e
   ·exact .inr e
   ·omega) (fun b hlt hn => hg.block b hlt (fun e => hn (.inr e.symm)))
end
end
section
open Go.RowKit
set_option maxHeartbeats 1000000
def dig : Nat -> Nat -> List Nat
 | 0, _ => []
 | b + 1, n => if n = 0 then [] else dig b (n / 10) ++ [n % 10]
def dgs (n : Nat) : List Nat := if n = 0 then [0] else dig 20 n
def lenV : Value -> Nat
 | .slice _ n _ => n
 | _ => 0
def encDg (l : List Nat) : List Value := l.map fun b => Value.int .u8 ((48 + b : Nat) : Int)
theorem encDg_one (l : List Nat) : ∀ u ∈ encDg l, u.oneCell' = true := by
 intro u hu
 obtain ⟨b, _, rfl⟩ := List.mem_map.1 hu
 rfl
def strD (l : List Nat) : ByteArray := ⟨(l.map fun b => UInt8.ofNat (48 + b)).toArray⟩
theorem own_reads {w : World} {base n cap : Nat} {A : Option Addr} {e : TypeId} {xs : List Value} (h : w.ownsRow base e 1 (.slice A n cap) n xs) : Reads w w.heap.size 1 A n xs := by
 refine ⟨h.1, fun hn => ?_⟩
 rcases h.2 with ⟨h0, _⟩ | ⟨g, c, cur, hv, hb, hh, _⟩
 ·cases h0; omega
 ·have hA : A = some ⟨g, 0, none⟩ := by injection hv
  refine ⟨⟨g, 0, none⟩, hA, Blk.lt (show Blk w g _ cur from hh), fun j u hu => ?_⟩
  exact h.cells (g := g) (by rw [hA]; rfl) j u hu
theorem info_byteDg : (Tryz.prog.info? 5).map (fun i => (i.zero, i.size, i.bytes)) = some (some (.int .u8 0), 1, 1) := by kernel_rfl
theorem info_byteD : ∃ i z, Tryz.prog.info? 5 = some i /\ i.zero = some z /\ i.size = 1 /\ i.bytes = 1 /\ z.cells.size = 1 := by
 obtain ⟨i0, hi, hz0, hz1, hz2⟩ := info_parts info_byteDg
 exact ⟨i0, _, hi, hz0, hz1, hz2, rfl⟩
theorem dig_succ (b n : Nat) : dig (b + 1) n = if n = 0 then [] else dig b (n / 10) ++ [n % 10] := rfl
theorem dig_zero : ∀ b, dig b 0 = []
 | 0 => rfl
 | b + 1 => by unfold dig; rw [if_pos rfl]
theorem cv_digits {w : World} {base cap : Nat} {A : Option Addr} {l : List Nat} (hl : l ≠ []) (hd : ∀ b ∈ l, b < 10) (h : w.ownsRow base 5 1 (.slice A l.length cap) l.length (encDg l)) : (convert 63 9 (.slice A l.length cap)).run Tryz.prog w = .ok (.string (strD l)) w := by
 rcases h.2 with ⟨h0, h1⟩ | ⟨g, c, cur, hv, hb, hh, _⟩
 ·exact absurd (List.length_eq_zero_iff.1 h1) hl
 ·have hA : A = some ⟨g, 0, none⟩ := by injection hv
  subst hA
  have hc := run_convert_bytes_back (P := Tryz.prog) w 63 9 5 ⟨g, 0, none⟩ cap (l.map fun b => UInt8.ofNat (48 + b)) Tryz.underlying63 Tryz.underlying5 Tryz.underlying9 (fun j hj => by
   have hj' : j < l.length := by simpa using hj
   have := h.cells (g := g) rfl j (Value.int .u8 ((48 + l[j] : Nat) : Int)) (by unfold encDg; rw [List.getElem?_map, List.getElem?_eq_getElem hj']; rfl)
   rw [this]
   have hb := hd l[j] (List.getElem_mem hj')
   simp only [List.getElem_map]
   rw [UInt8.toNat_ofNat', Nat.mod_eq_of_lt (by omega)])
  rw [List.length_map] at hc
  exact hc
theorem dig_lt : ∀ b n, ∀ d ∈ dig b n, d < 10
 | 0, _, d, h => by cases h
 | b + 1, n, d, h => by
  unfold dig at h
  by_cases hn : n = 0
  ·rw [if_pos hn] at h; cases h
  ·rw [if_neg hn, List.mem_append, List.mem_singleton] at h
   rcases h with h | rfl
   ·exact dig_lt b _ d h
   ·exact Nat.mod_lt _ (by omega)
theorem dgs_lt (n : Nat) : ∀ d ∈ dgs n, d < 10 := by
 intro d h
 unfold dgs at h
 by_cases hn : n = 0
 ·rw [if_pos hn, List.mem_singleton] at h; omega
 ·rw [if_neg hn] at h
  exact dig_lt 20 n d h
set_option maxRecDepth 1000000 in
theorem decimal_calls (x : Nat) (hx : x < 1000) (w : World) :
  Calls Tryz.prog 9 #[.int .i64 x] w fun e w' => e = .returned (.string (strD (dgs x))) /\ Below w.heap.size w w' := by
 obtain ⟨z, hz⟩ : ∃ z : Int, (x : Int) = z := ⟨_, rfl⟩
 have hz0 : ¬ z < 0 := by omega
 have hzw : IntKind.u64.wrap z = z := by rw [IntKind.wrap_u64]; omega
 obtain ⟨i0, dz, hi, hy0, hy1, hy2, hy3⟩ := info_byteD
 rw [hz]
 go_enter Tryz.func9, Tryz.ntmps9
 go_wp2_with (fail)
 go_loopw [4, 3] (fun v q wr => ∃ (k : Nat) (l : List Nat) (b : Nat), q = .int .u64 k /\ k < 1000 /\ l.length <= 40 - 2 * b /\ b <= 20 /\ k < 10 ^ b /\ ((l = [] /\ k = x /\ v = .slice none 0 0) ∨ (l ≠ [] /\ dig b k ++ l = dgs x)) /\ (∃ A cap, v = .slice A l.length cap) /\ wr.ownsRow w.heap.size 5 1 v l.length (encDg l) /\ Below w.heap.size w wr) (fun v q _ => 2 * (intOf q).toNat + (if lenV v = 0 then 1 else 0))
 case atStart => exact ⟨x, [], 20, by rw [hz], hx, by simp, by omega, Nat.lt_of_lt_of_le hx (by decide), .inl ⟨rfl, rfl, rfl⟩, ⟨none, 0, rfl⟩, World.ownsRow_nil _ _ _ _, Below.refl _ _⟩
 case round =>
  obtain ⟨k, l, b, rfl, hk, hll, hb, hkb, hrel, ⟨A, cap, rfl⟩, hown, hBr⟩ := hrel
  have HO := lhi hown
  have HBR := lhi hBr
  clear hown hBr
  by_cases hgo : 0 < k ∨ l.length = 0
  ·obtain ⟨y, hy⟩ : ∃ y : Int, (k : Int) = y := ⟨_, rfl⟩
   have hyn : 0 <= y := by omega
   have hbase := HBR.out.size
   have OWN0 := lhi (show (wr.alloc (.cells #[.int .u8 (48 + y % 10)] 5)).ownsRow w.heap.size 5 1 (.slice (some ⟨wr.heap.size, 0, none⟩) 1 1) 1 [.int .u8 (48 + y % 10)] from
    ⟨rfl, .inr ⟨wr.heap.size, 1, #[.int .u8 (48 + y % 10)], rfl, hbase, heap_alloc_new wr _, Nat.le_refl _, by decide, rfl, rfl⟩⟩)
   have HRD := lhi ((own_reads HO.out).alloc (Nat.le_refl _) (Obj.cells #[.int .u8 (48 + y % 10)] 5))
   rw [hy]
   have HY := lhi hy
   have HGO := lhi hgo
   have hll2 : l.length <= 40 := by omega
   have hsp : l ≠ [] /\ 0 < y ∨ (l = [] /\ A = none /\ cap = 0) := by
    by_cases q : l = []
    ·refine .inr ⟨q, ?_⟩
     rcases hrel with ⟨_, _, h⟩ | ⟨h, _⟩
     ·injection h with h1 h2 h3
      exact ⟨h1, h3⟩
     ·exact absurd q h
    ·refine .inl ⟨q, ?_⟩
     rcases hgo with h | h
     ·omega
     ·exact absurd (List.length_eq_zero_iff.1 h) q
   have hq10 : IntKind.u64.wrap (y.tdiv 10) = ((k / 10 : Nat) : Int) := by
    rw [<- hy, Int.tdiv_eq_ediv_of_nonneg (by omega), IntKind.wrap_u64]
    omega
   have HQ10 := lhi hq10
   have hdig : (48 + y % 10 : Int) = ((48 + k % 10 : Nat) : Int) := by omega
   have HDG := lhi hdig
   clear hy hgo hq10 hdig
   have HREL := lhi hrel
   clear hrel
   rcases hsp with ⟨hsp0, hsp⟩ | ⟨rfl, rfl, rfl⟩
   ·go_wp2_with (first | (at_builtin; refine wpList_append_any _ rfl (.tmp 25) (.tmp 26) 63 rfl w.heap.size 5 i0 dz 1 1 Tryz.underlying63 hi hy0 hy1 hy2 hy3 (by omega) (.slice (some ⟨wr.heap.size, 0, none⟩) 1 1) 1 _ rfl OWN0.out wr.heap.size A l.length cap (encDg l) rfl HRD.out (encDg_one l) (by simp only [maxLen]; omega) (by omega) (by simp; omega) ?_; intro v1 w1 hown1 hg1 hat1))
    go_roundw
    case rel =>
     have hk0 : k ≠ 0 := by have := HY.out; omega
     obtain ⟨b, rfl⟩ : ∃ b', b = b' + 1 := ⟨b - 1, by
      rcases Nat.eq_zero_or_pos b with h | h
      ·subst h; omega
      ·omega⟩
     obtain ⟨g1, c1, rfl, _, _⟩ := hown1.form (by omega)
     have hdd : dig (b + 1) k ++ l = dgs x := by
      rcases HREL.out with ⟨h, _⟩ | ⟨_, h⟩
      ·exact absurd h hsp0
      ·exact h
     refine ⟨k / 10, (k % 10) :: l, b, by rw [HQ10.out], by omega, by simp; omega, by omega, ?_, .inr ⟨by simp, ?_⟩, ⟨_, _, by rw [List.length_cons, Nat.add_comm]⟩, ?_, (HBR.out.alloc HBR.out.size _).grown hg1 (by simp; omega) fun g hg => ?_⟩
     ·rw [Nat.pow_succ] at hkb
      omega
     ·rw [<- hdd, dig_succ, if_neg hk0]
      simp
     ·rw [HDG.out] at hown1
      rw [List.length_cons, Nat.add_comm l.length 1]
      exact hown1
     ·have : wr.heap.size = g := by simpa [Value.ownBlock] using hg
      have := HBR.out.size
      omega
    case measure =>
     obtain ⟨g1, c1, rfl, _, _⟩ := hown1.form (by omega)
     have hl0 : l.length ≠ 0 := fun h => hsp0 (List.length_eq_zero_iff.1 h)
     have hk0 : k ≠ 0 := by have := HY.out; omega
     rw [HQ10.out, <- HY.out]
     simp only [intOf, lenV]
     have h1l : ¬ 1 + l.length = 0 := by omega
     simp only [h1l, hl0, if_false]
     omega
   ·have hkx : k = x := by
     rcases HREL.out with ⟨_, h, _⟩ | ⟨h, _⟩
     ·exact h
     ·exact absurd rfl h
    have hfin : dig 19 (k / 10) ++ [k % 10] = dgs x := by
     subst hkx
     unfold dgs
     by_cases h0 : k = 0
     ·rw [if_pos h0, h0, show (0 : Nat) / 10 = 0 by rfl, dig_zero]
      rfl
     ·rw [if_neg h0, dig_succ 19 k, if_neg h0]
    have h19 : k / 10 < 10 ^ 19 := by
     have : (1000 : Nat) <= 10 ^ 19 := by decide
     omega
    have HFIN := lhi hfin
    clear hfin hkx
    by_cases hy1' : 0 < y
    ·go_wp2_with (fail)
     go_roundw
     case rel =>
      have HO0 := OWN0.out
      rw [HDG.out] at HO0
      refine ⟨k / 10, [k % 10], 19, by rw [HQ10.out], by omega, by show 1 <= 40 - 2 * 19; omega, by omega, h19, .inr ⟨by simp, HFIN.out⟩, ⟨_, _, rfl⟩, ?_, ?_⟩
      ·rw [HDG.out]; exact HO0
      ·exact HBR.out.alloc HBR.out.size _
     case measure =>
      have h := HY.out
      have h3 : y.toNat = k := by omega
      have h4 : 0 < k := by omega
      rw [HQ10.out]
      simp only [intOf, lenV, h3]
      simp
      omega
    ·have y0 : y = 0 := by omega
     have k0 : k = 0 := by have := HY.out; omega
     subst y0 k0
     go_wp2_with (fail)
     go_roundw
     case rel =>
      refine ⟨0, [0], 19, rfl, by omega, by show 1 <= 40 - 2 * 19; omega, by omega, h19, .inr ⟨by simp, HFIN.out⟩, ⟨_, _, rfl⟩, OWN0.out, HBR.out.alloc HBR.out.size _⟩
     case measure =>
      simp [intOf, lenV]
  ·have hk0 : k = 0 := by omega
   have hl0 : l.length ≠ 0 := by omega
   subst hk0
   have hln : l ≠ [] := fun h => hl0 (by rw [h]; rfl)
   have hdd : l = dgs x := by
    rcases hrel with ⟨h, _⟩ | ⟨_, h⟩
    ·exact absurd h hln
    ·rw [dig_zero] at h
     exact h
   have hcv := cv_digits hln (by rw [hdd]; exact dgs_lt x) HO.out
   have hl1 : ((l.length : Int) == 0) = false := beq_eq_false_iff_ne.2 (by omega)
   have hl2 : 0 < l.length := by omega
   have HDD := lhi hdd
   clear hdd hrel
   go_wp2_with (fail)
   go_ret
   rw [<- HDD.out]
   exact ⟨rfl, HBR.out⟩
end
end Go.Proofs.YtkebjgebkneijaaGreatDoor
