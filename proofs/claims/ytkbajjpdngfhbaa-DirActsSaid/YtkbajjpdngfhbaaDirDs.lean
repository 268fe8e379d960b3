
/- A directory as a list of entries: what each call does. -/
import Derived.Test.YtkbajjpdngfhbaaDirD
import Derived.Test.YtkbajjpdngfhbaaDirList2
import Derived.Test.YtkbajjpdngfhbaaDirNew
namespace Go.Proofs.Ytkbajjpdngfhbaa
open Go.RowKit

/-- A directory at d in the arena at a: its entries are D. -/
def DS (L : Nat → Prop) (w : World) (d a : Nat) (f : Int) (n m : Nat) (P : List (List Acc) → Prop) (D : List Ent) : Prop := ∃ ws T, DAt L w d a f ∧ ArP L w a ws n m P ∧ Tab ws f T ∧ (ents T).Perm D
section
variable {L L' : Nat → Prop} {w w' : World} {a d : Nat} {n m : Nat} {P P' : List (List Acc) → Prop} {f : Int} {D : List Ent}
theorem DS.bd (h : DS L w d a f n m P D) : Bd L w := by obtain ⟨ws, T, h1, h2, h3, h4⟩ := h; exact h2.bd
theorem DS.ld (h : DS L w d a f n m P D) : L d := by obtain ⟨ws, T, h1, h2, h3, h4⟩ := h; exact h1.1
theorem DS.mono (h : DS L w d a f n m P D) {m' : Nat} (hm : m ≤ m') : DS L w d a f n m' P D := by obtain ⟨ws, T, h1, h2, h3, h4⟩ := h; exact ⟨ws, T, h1, h2.mono hm, h3, h4⟩
theorem DS.perm (h : DS L w d a f n m P D) {D' : List Ent} (hp : D.Perm D') : DS L w d a f n m P D' := by obtain ⟨ws, T, h1, h2, h3, h4⟩ := h; exact ⟨ws, T, h1, h2, h3, h4.trans hp⟩
theorem DS.uniq (h : DS L w d a f n m P D) : Uniq D := by obtain ⟨ws, T, h1, h2, h3, h4⟩ := h; exact h3.uniq.perm h4
theorem DS.ok (h : DS L w d a f n m P D) {e : Ent} (he : e ∈ D) : EntOk e := by obtain ⟨ws, T, h1, h2, h3, h4⟩ := h; exact h3.ok_mem (h4.mem_iff.2 he)
theorem DS.below (h : DS L w d a f n m P D) (hb : Below w.heap.size w w') : DS L w' d a f n m P D := by
  obtain ⟨ws, T, h1, h2, h3, h4⟩ := h
  exact ⟨ws, T, h1.keep ((Keeps.ofBelow hb).sub fun j hj => h2.bd j hj), h2.below hb, h3, h4⟩
theorem DS.alloc (h : DS L w d a f n m P D) (o : Obj) : DS L (w.alloc o) d a f n m P D := h.below (below_alloc _ _)
theorem DS.allocIns (h : DS L w d a f n m P D) (o : Obj) : DS (ins L w.heap.size) (w.alloc o) d a f n m P D := by
  obtain ⟨ws, T, h1, h2, h3, h4⟩ := h
  exact ⟨ws, T, ⟨ins.old h1.1, (h1.keep ((Keeps.refl L w).alloc h2.bd o)).2⟩, h2.allocIns o, h3, h4⟩
theorem DS.drewN (h : DS L w d a f n m P D) (k : Nat) : DS L (w.drewN k) d a f n m P D := by
  obtain ⟨ws, T, h1, h2, h3, h4⟩ := h
  exact ⟨ws, T, h1.drewN k, h2.drewN k, h3, h4⟩
theorem DS.drew (h : DS L w d a f n m P D) : DS L w.drew d a f n m P D := h.drewN 1
theorem DS.sub (h : DS L w d a f n m P D) (hs : ∀ b, L' b → L b) (hd : L' d) : DS L' w d a f n m P D := by
  obtain ⟨ws, T, h1, h2, h3, h4⟩ := h
  exact ⟨ws, T, ⟨hd, h1.2⟩, h2.sub hs, h3, h4⟩
theorem DS.setCell (h : DS L w d a f n m P D) {p : Addr} (hp : L p.block) (hd : d ≠ p.block) (u : Value) : DS L (w.setCell p u) d a f n m P D := by
  obtain ⟨ws, T, h1, h2, h3, h4⟩ := h
  exact ⟨ws, T, ⟨h1.1, h1.2.1.far hd u, h1.2.2⟩, h2.setCell hp u, h3, h4⟩

def FindD (D : List Ent) (n : Nat) (c : Int) (s : ByteArray) (r e : Int) : Prop :=
  (mayE n c [s] = 900 ∧ r = 0 ∧ e = 900) ∨ (mayE n c [s] = 0 ∧ ((∃ v : Nat, (s, v) ∈ D ∧ r = (v : Int) ∧ e = 0) ∨ ((∀ v, (s, v) ∉ D) ∧ r = 0 ∧ e = 903)))
theorem find_d (h : DS L w d a f n m P D) (hm : m ≤ 1099511620000) (c : Int) (s : ByteArray) {S : Acc → Prop} (hcl : Cl n P c S) (hS : ∀ i, f + (nbucket s : Int) * 13 ≤ i → i < f + (nbucket s : Int) * 13 + 13 → S (i, false)) :
    Calls Try.prog 14 #[.pointer (some ⟨d, 0, none⟩), .int .i64 c, .string s] w fun e w' => ∃ x y, e = .returned (.tuple #[.int .i64 x, .int .i64 y]) ∧ FindD D n c s x y ∧ DS L w' d a f n (m + 100) P D ∧ Keeps L w w' := by
  obtain ⟨ws, T, h1, h2, h3, h4⟩ := h
  rcases mayE_or n c [s] with hc | hc
  · refine (Find_ok h1 h2 h3 hm hc hcl hS).mono ?_
    rintro e w' ⟨⟨x, y, rfl, hf⟩, q1, q2, q3⟩
    refine ⟨x, y, rfl, .inr ⟨hc, ?_⟩, ⟨ws, T, q1, q2.mono (by omega), h3, h4⟩, q3⟩
    rcases hf with ⟨k, v, hk, hv, rfl, rfl⟩ | ⟨hv, rfl, rfl⟩
    · exact .inl ⟨v, h4.mem_iff.1 (h3.mem.2 ⟨k, hk, hv⟩), rfl, rfl⟩
    · refine .inr ⟨fun v hm => ?_, rfl, rfl⟩
      obtain ⟨k, hk, he⟩ := h3.mem.1 (h4.mem_iff.2 hm)
      exact hv k v hk he
  · refine (Find_err h1 h2 hc).mono ?_
    rintro e w' ⟨rfl, q1, q2, q3⟩
    exact ⟨0, 900, rfl, .inl ⟨hc, rfl, rfl⟩, ⟨ws, T, q1, q2.mono (by omega), h3, h4⟩, q3⟩
def InsD (D : List Ent) (n : Nat) (c : Int) (s : ByteArray) (v : Int) (e : Int) (D' : List Ent) : Prop :=
  (e = 900 ∧ D' = D ∧ (mayE n c [s] = 900 ∨ v < 1 ∨ 2147483648 ≤ v)) ∨
  ((mayE n c [s] = 0 ∧ 1 ≤ v ∧ v < 2147483648) ∧
    ((∃ u, (s, u) ∈ D) ∧ e = 901 ∧ D' = D ∨
     (∀ u, (s, u) ∉ D) ∧ (4 ≤ cntB D (nbucket s) ∧ e = 902 ∧ D' = D ∨ cntB D (nbucket s) < 4 ∧ e = 0 ∧ D' = (s, v.toNat) :: D)))
theorem insert_d (h : DS L w d a f n m P D) (hm : m ≤ 1099511620000) (c : Int) (s : ByteArray) (v : Int) {S : Acc → Prop} (hcl : Cl n P c S) (hS : ∀ i bb, f + (nbucket s : Int) * 13 ≤ i → i < f + (nbucket s : Int) * 13 + 13 → S (i, bb)) :
    Calls Try.prog 10 #[.pointer (some ⟨d, 0, none⟩), .int .i64 c, .string s, .int .i64 v] w fun e w' => ∃ r D', e = .returned (.int .i64 r) ∧ InsD D n c s v r D' ∧ DS L w' d a f n (m + 100) P D' ∧ Keeps L w w' := by
  obtain ⟨ws, T, h1, h2, h3, h4⟩ := h
  rcases mayE_or n c [s] with hc | hc
  · by_cases hv : 1 ≤ v ∧ v < 2147483648
    · obtain ⟨u, rfl⟩ : ∃ u : Nat, v = u := ⟨v.toNat, by omega⟩
      refine (Insert_ok h1 h2 h3 hm hc (v := u) (by omega) (by omega) hcl hS).mono ?_
      rintro e w' ⟨r, ws', T', rfl, hr, q0, q1, q2, q3⟩
      have hb := nbucket_lt s
      have hcnt := cntB_perm h4 (nbucket s)
      have hfull := h3.full hb
      have hno : (∀ k u, k < 4 → T (nbucket s) k ≠ some (s, u)) → ∀ u, (s, u) ∉ D := fun hn u hm => by
        obtain ⟨k, hk, he⟩ := h3.mem.1 (h4.mem_iff.2 hm)
        exact hn k u hk he
      rcases hr with ⟨⟨k, x, hk, hx⟩, rfl, rfl⟩ | ⟨hn, hf, rfl, rfl⟩ | ⟨hn, k, hk, hk2, rfl, rfl⟩
      · exact ⟨901, D, rfl, .inr ⟨⟨hc, hv⟩, .inl ⟨⟨x, h4.mem_iff.1 (h3.mem.2 ⟨k, hk, hx⟩)⟩, rfl, rfl⟩⟩, ⟨ws', T', q1, q2.mono (by omega), q0, h4⟩, q3⟩
      · exact ⟨902, D, rfl, .inr ⟨⟨hc, hv⟩, .inr ⟨hno hn, .inl ⟨by rw [← hcnt]; exact hfull.1 hf, rfl, rfl⟩⟩⟩, ⟨ws', T', q1, q2.mono (by omega), q0, h4⟩, q3⟩
      · have hlt : cntB D (nbucket s) < 4 := by
          rcases Nat.lt_or_ge (cntB D (nbucket s)) 4 with h | h
          · exact h
          · rw [← hcnt] at h
            exact absurd hk2 (hfull.2 h k hk)
        have hp := ents_upd T hb hk (s, u)
        rw [← hk2, updS_self] at hp
        refine ⟨0, (s, u) :: D, rfl, .inr ⟨⟨hc, hv⟩, .inr ⟨hno hn, .inr ⟨hlt, rfl, by rw [Int.toNat_natCast]⟩⟩⟩, ⟨ws', _, q1, q2.mono (by omega), q0, hp.trans (h4.cons _)⟩, q3⟩
    · have hv2 : v < 1 ∨ 2147483648 ≤ v := by omega
      refine (Insert_num h1 h2 hc hv2).mono ?_
      rintro e w' ⟨rfl, q1, q2, q3⟩
      exact ⟨900, D, rfl, .inl ⟨rfl, rfl, .inr hv2⟩, ⟨ws, T, q1, q2.mono (by omega), h3, h4⟩, q3⟩
  · refine (Insert_err h1 h2 hc).mono ?_
    rintro e w' ⟨rfl, q1, q2, q3⟩
    exact ⟨900, D, rfl, .inl ⟨rfl, rfl, .inl hc⟩, ⟨ws, T, q1, q2.mono (by omega), h3, h4⟩, q3⟩
def RemD (D : List Ent) (n : Nat) (c : Int) (s : ByteArray) (e : Int) (D' : List Ent) : Prop :=
  (mayE n c [s] = 900 ∧ e = 900 ∧ D' = D) ∨ (mayE n c [s] = 0 ∧ ((∃ u, D.Perm ((s, u) :: D') ∧ e = 0) ∨ ((∀ u, (s, u) ∉ D) ∧ e = 903 ∧ D' = D)))
theorem remove_d (h : DS L w d a f n m P D) (hm : m ≤ 1099511620000) (c : Int) (s : ByteArray) {S : Acc → Prop} (hcl : Cl n P c S) (hS : ∀ i bb, f + (nbucket s : Int) * 13 ≤ i → i < f + (nbucket s : Int) * 13 + 13 → S (i, bb)) :
    Calls Try.prog 12 #[.pointer (some ⟨d, 0, none⟩), .int .i64 c, .string s] w fun e w' => ∃ r D', e = .returned (.int .i64 r) ∧ RemD D n c s r D' ∧ DS L w' d a f n (m + 100) P D' ∧ Keeps L w w' := by
  obtain ⟨ws, T, h1, h2, h3, h4⟩ := h
  rcases mayE_or n c [s] with hc | hc
  · refine (Remove_ok h1 h2 h3 hm hc hcl hS).mono ?_
    rintro e w' ⟨r, ws', T', rfl, hr, q0, q1, q2, q3⟩
    have hb := nbucket_lt s
    rcases hr with ⟨k, u, hk, hu, rfl, rfl⟩ | ⟨hn, rfl, rfl⟩
    · have hp := ents_upd T hb hk (s, u)
      rw [← hu, updS_self] at hp
      exact ⟨0, _, rfl, .inr ⟨hc, .inl ⟨u, h4.symm.trans hp, rfl⟩⟩, ⟨ws', _, q1, q2.mono (by omega), q0, .refl _⟩, q3⟩
    · refine ⟨903, D, rfl, .inr ⟨hc, .inr ⟨fun u hm => ?_, rfl, rfl⟩⟩, ⟨ws', T', q1, q2.mono (by omega), q0, h4⟩, q3⟩
      obtain ⟨k, hk, he⟩ := h3.mem.1 (h4.mem_iff.2 hm)
      exact hn k u hk he
  · refine (Remove_err h1 h2 hc).mono ?_
    rintro e w' ⟨rfl, q1, q2, q3⟩
    exact ⟨900, D, rfl, .inl ⟨hc, rfl, rfl⟩, ⟨ws, T, q1, q2.mono (by omega), h3, h4⟩, q3⟩
def MovD (D : List Ent) (n : Nat) (c : Int) (s t : ByteArray) (e : Int) (D' : List Ent) : Prop :=
  (mayE n c [s, t] = 900 ∧ e = 900 ∧ D' = D) ∨ (mayE n c [s, t] = 0 ∧
    (((∀ u, (s, u) ∉ D) ∧ e = 903 ∧ D' = D) ∨
     (∃ u, (s, u) ∈ D ∧
       ((∃ v, (t, v) ∈ D) ∧ e = 901 ∧ D' = D ∨
        (∀ v, (t, v) ∉ D) ∧ (nbucket t ≠ nbucket s ∧ 4 ≤ cntB D (nbucket t) ∧ e = 902 ∧ D' = D ∨
          (nbucket t = nbucket s ∨ cntB D (nbucket t) < 4) ∧ e = 0 ∧ ∃ R, D.Perm ((s, u) :: R) ∧ D' = (t, u) :: R)))))
theorem move_d (h : DS L w d a f n m P D) (hm : m ≤ 1099511620000) (c : Int) (s t : ByteArray) {S : Acc → Prop} (hcl : Cl n P c S) (hS : ∀ i bb, (f + (nbucket s : Int) * 13 ≤ i ∧ i < f + (nbucket s : Int) * 13 + 13) ∨ (f + (nbucket t : Int) * 13 ≤ i ∧ i < f + (nbucket t : Int) * 13 + 13) → S (i, bb)) :
    Calls Try.prog 13 #[.pointer (some ⟨d, 0, none⟩), .int .i64 c, .string s, .string t] w fun e w' => ∃ r D', e = .returned (.int .i64 r) ∧ MovD D n c s t r D' ∧ DS L w' d a f n (m + 100) P D' ∧ Keeps L w w' := by
  obtain ⟨ws, T, h1, h2, h3, h4⟩ := h
  rcases mayE_or n c [s, t] with hc | hc
  · refine (Move_ok h1 h2 h3 hm hc hcl hS).mono ?_
    rintro e w' ⟨r, ws', T', rfl, hr, q0, q1, q2, q3⟩
    have hb := nbucket_lt s
    have hbt := nbucket_lt t
    have hcnt := cntB_perm h4 (nbucket t)
    have hfull := h3.full hbt
    rcases hr with ⟨hn, rfl, rfl⟩ | ⟨k, u, hk, hu, hr⟩
    · refine ⟨903, D, rfl, .inr ⟨hc, .inl ⟨fun u hm => ?_, rfl, rfl⟩⟩, ⟨ws', T', q1, q2.mono (by omega), q0, h4⟩, q3⟩
      obtain ⟨k, hk, he⟩ := h3.mem.1 (h4.mem_iff.2 hm)
      exact hn k u hk he
    · have hmu : (s, u) ∈ D := h4.mem_iff.1 (h3.mem.2 ⟨k, hk, hu⟩)
      have hp := ents_upd T hb hk (s, u)
      rw [← hu, updS_self] at hp
      rcases hr with ⟨⟨j, v, hj, hv⟩, rfl, rfl⟩ | ⟨hn, hr⟩
      · exact ⟨901, D, rfl, .inr ⟨hc, .inr ⟨u, hmu, .inl ⟨⟨v, h4.mem_iff.1 (h3.mem.2 ⟨j, hj, hv⟩)⟩, rfl, rfl⟩⟩⟩, ⟨ws', T', q1, q2.mono (by omega), q0, h4⟩, q3⟩
      · have hno : ∀ v, (t, v) ∉ D := fun v hm => by
          obtain ⟨j, hj, he⟩ := h3.mem.1 (h4.mem_iff.2 hm)
          exact hn j v hj he
        rcases hr with ⟨hne, hf, rfl, rfl⟩ | ⟨he, rfl, rfl⟩ | ⟨hne, j, hj, hj2, rfl, rfl⟩
        · exact ⟨902, D, rfl, .inr ⟨hc, .inr ⟨u, hmu, .inr ⟨hno, .inl ⟨hne, by rw [← hcnt]; exact hfull.1 hf, rfl, rfl⟩⟩⟩⟩, ⟨ws', T', q1, q2.mono (by omega), q0, h4⟩, q3⟩
        · have hp2 := ents_upd T hb hk (t, u)
          exact ⟨0, _, rfl, .inr ⟨hc, .inr ⟨u, hmu, .inr ⟨hno, .inr ⟨.inl he, rfl, ents (updS T (nbucket s) k none), h4.symm.trans hp, rfl⟩⟩⟩⟩, ⟨ws', _, q1, q2.mono (by omega), q0, hp2⟩, q3⟩
        · have hlt : cntB D (nbucket t) < 4 := by
            rcases Nat.lt_or_ge (cntB D (nbucket t)) 4 with h | h
            · exact h
            · rw [← hcnt] at h
              exact absurd hj2 (hfull.2 h j hj)
          have hp2 := ents_upd T hbt hj (t, u)
          rw [← hj2, updS_self] at hp2
          have hu2 : updS T (nbucket t) j (some (t, u)) (nbucket s) k = some (s, u) := by
            unfold updS
            rw [if_neg (fun h => hne h.1.symm)]
            exact hu
          have hp3 := ents_upd (updS T (nbucket t) j (some (t, u))) hb hk (s, u)
          rw [← hu2, updS_self] at hp3
          have hp4 : ((t, u) :: ents (updS T (nbucket s) k none)).Perm (ents (updS (updS T (nbucket t) j (some (t, u))) (nbucket s) k none)) := by
            have e1 : ((s, u) :: (t, u) :: ents (updS T (nbucket s) k none)).Perm ((s, u) :: ents (updS (updS T (nbucket t) j (some (t, u))) (nbucket s) k none)) :=
              (List.Perm.swap _ _ _).trans (((hp.symm.cons (t, u)).trans hp2.symm).trans hp3)
            exact (List.perm_cons _).1 e1
          exact ⟨0, _, rfl, .inr ⟨hc, .inr ⟨u, hmu, .inr ⟨hno, .inr ⟨.inr hlt, rfl, ents (updS T (nbucket s) k none), h4.symm.trans hp, rfl⟩⟩⟩⟩, ⟨ws', _, q1, q2.mono (by omega), q0, hp4.symm⟩, q3⟩
  · refine (Move_err h1 h2 hc).mono ?_
    rintro e w' ⟨rfl, q1, q2, q3⟩
    exact ⟨900, D, rfl, .inl ⟨hc, rfl, rfl⟩, ⟨ws, T, q1, q2.mono (by omega), h3, h4⟩, q3⟩
/-- What List hands back: rows of entries. -/
theorem list_d (h : DS L w d a f n m P D) (hm : m ≤ 1099511620000) (c : Int) {S : Acc → Prop} (hcl : Cl n P c S) (hS : ∀ i, f ≤ i → i < f + 104 → S (i, false)) :
    Calls Try.prog 15 #[.pointer (some ⟨d, 0, none⟩), .int .i64 c] w fun e w' => ∃ v D', e = .returned v ∧ ((mayE n c [] = 900 ∧ D' = []) ∨ (mayE n c [] = 0 ∧ D'.Perm D ∧ Rise D')) ∧
      w'.ownsRow w.heap.size 54 2 v D'.length (D'.flatMap encE) ∧ DS (lo L v) w' d a f n (m + 100) P D ∧ Keeps L w w' := by
  obtain ⟨ws, T, h1, h2, h3, h4⟩ := h
  rcases mayE_or n c [] with hc | hc
  · refine (List_ok h1 h2 h3 hm hc hcl hS).mono ?_
    rintro e w' ⟨v, D', rfl, hp, hr, hS⟩
    exact ⟨v, D', rfl, .inr ⟨hc, hp.trans h4, hr⟩, hS.own, ⟨ws, T, hS.dat, hS.ar.mono (by omega), h3, h4⟩, hS.keep⟩
  · refine (List_err h1 h2 hc).mono ?_
    rintro e w' ⟨rfl, q1, q2, q3⟩
    exact ⟨_, [], rfl, .inl ⟨hc, rfl⟩, World.ownsRow_nil _ _ _ _, by rw [lo_nil]; exact ⟨ws, T, q1, q2.mono (by omega), h3, h4⟩, q3⟩
end
end Go.Proofs.Ytkbajjpdngfhbaa
