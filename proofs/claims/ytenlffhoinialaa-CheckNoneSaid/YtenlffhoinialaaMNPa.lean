/- CheckNone, plainly: what is found is all that is reached. CheckNone, plainly: a state in which nothing is wrong. CheckNone, plainly: where nothing is wrong nothing is found. -/
import Derived.Test.YtenlffhoinialaaMCkState
import Derived.Test.YtenlffhoinialaaMCkEv
section
namespace Go.Proofs.Ytenlffhoinialaa
set_option maxHeartbeats 1000000
theorem mem_add1 {F : List Int} {x y : Int} : y ∈ add1 F x ↔ y ∈ F ∨ y = x := by
  unfold add1
  by_cases h : F.contains x = true
  · rw [if_pos h]
    have h2 : x ∈ F := by simpa using h
    exact ⟨Or.inl, fun q => q.elim id fun e => e ▸ h2⟩
  · rw [if_neg h]; simp
theorem mem_addAll {y : Int} : ∀ {es F : List Int}, y ∈ addAll F es ↔ y ∈ F ∨ y ∈ es
  | [], F => by simp [addAll]
  | e :: es, F => by
    have h := mem_addAll (y := y) (es := es) (F := add1 F e)
    show y ∈ addAll (add1 F e) es ↔ _
    rw [h, mem_add1, List.mem_cons, or_assoc]
theorem add1_pre (F : List Int) (x : Int) : F <+: add1 F x := by
  unfold add1
  split
  · exact List.prefix_rfl
  · exact List.prefix_append _ _
theorem addAll_pre : ∀ (es F : List Int), F <+: addAll F es
  | [], _ => List.prefix_rfl
  | e :: es, F => (add1_pre F e).trans (addAll_pre es (add1 F e))
theorem addAll_meas {U : List Int} : ∀ (es F : List Int), (∀ x ∈ es, x ∈ U) → (addAll F es).length + out U (addAll F es) ≤ F.length + out U F
  | [], _, _ => Nat.le_refl _
  | e :: es, F, h => by
    have h1 := addAll_meas es (add1 F e) fun x hx => h x (List.mem_cons_of_mem _ hx)
    have h2 : (add1 F e).length + out U (add1 F e) ≤ F.length + out U F := by
      unfold add1
      by_cases hc : F.contains e = true
      · rw [if_pos hc]; exact Nat.le_refl _
      · rw [if_neg hc]; exact add1_out (h e (List.mem_cons_self ..)) (by simpa using hc)
    exact Nat.le_trans h1 h2
theorem firstIx_some {S : St} {x : Int} {i : Nat} (h : firstIx S x = some i) : i < S.inodes.length ∧ S.num i = x := by
  unfold firstIx at h
  have h1 := List.find?_some h
  have h2 := List.mem_of_find?_eq_some h
  exact ⟨by simpa using h2, by simpa using h1⟩
theorem kids_univ {S : St} {x y : Int} (h : y ∈ kids S x) : y ∈ univ S := by
  unfold kids at h
  cases hf : firstIx S x with
  | none => rw [hf] at h; cases h
  | some i =>
    rw [hf] at h
    have hi := (firstIx_some hf).1
    simp only at h
    split at h
    · unfold univ
      rw [List.mem_flatMap]
      exact ⟨i, by simpa using hi, h⟩
    · cases h
/-- What has been taken is closed below p. -/
def ClosedTo (S : St) (F : List Int) (p : Nat) : Prop := ∀ j x, j < p → F[j]? = some x → ∀ y ∈ kids S x, y ∈ F
theorem bfs_closed (S : St) : ∀ (f : Nat) (F : List Int) (p : Nat), p ≤ F.length → F.length + out (univ S) F < p + f → ClosedTo S F p →
    (∀ x ∈ F, x ∈ bfs S f F p) ∧ ∀ x ∈ bfs S f F p, ∀ y ∈ kids S x, y ∈ bfs S f F p
  | 0, F, p, hp, hm, _ => absurd hm (by omega)
  | f + 1, F, p, hp, hm, hc => by
    unfold bfs
    cases hx : F[p]? with
    | none =>
      have hl : F.length ≤ p := by simpa using hx
      show (∀ x ∈ F, x ∈ F) ∧ ∀ x ∈ F, ∀ y ∈ kids S x, y ∈ F
      refine ⟨fun x h => h, fun x h y hy => ?_⟩
      obtain ⟨j, hj, e⟩ := List.getElem_of_mem h
      exact hc j x (by omega) (by rw [List.getElem?_eq_getElem hj, e]) y hy
    | some x =>
      have hl : p < F.length := by
        rcases Nat.lt_or_ge p F.length with q | q
        · exact q
        · rw [List.getElem?_eq_none q] at hx; cases hx
      have hpre := addAll_pre (kids S x) F
      have hlen := hpre.length_le
      have hms := addAll_meas (U := univ S) (kids S x) F fun y hy => kids_univ hy
      have ih := bfs_closed S f (addAll F (kids S x)) (p + 1) (by omega) (by omega) (fun j z hj hz y hy => by
        have hjl : j < F.length := by omega
        have hz2 : F[j]? = some z := by
          obtain ⟨T, hT⟩ := hpre
          rw [← hT, List.getElem?_append_left hjl] at hz
          exact hz
        rw [mem_addAll]
        by_cases e : j = p
        · subst e
          rw [hx] at hz2
          obtain rfl := Option.some.inj hz2
          exact .inr hy
        · exact .inl (hc j z (by omega) hz2 y hy))
      exact ⟨fun y hy => ih.1 y (mem_addAll.2 (.inl hy)), ih.2⟩
theorem found_closed (S : St) : (1 : Int) ∈ foundF S ∧ ∀ x ∈ foundF S, ∀ y ∈ kids S x, y ∈ foundF S := by
  have h := bfs_closed S ((univ S).length + 2) [1] 0 (by simp) (by
    have : out (univ S) [1] ≤ (univ S).length := List.length_filter_le _ _
    simp only [List.length_singleton]
    omega) (fun j x hj => absurd hj (by omega))
  exact ⟨h.1 1 (by simp), h.2⟩
end Go.Proofs.Ytenlffhoinialaa
end

section
namespace Go.Proofs.Ytenlffhoinialaa
set_option maxHeartbeats 1000000
/-- From a directory to what it names. -/
def Edge (S : St) (d y : Int) : Prop := ∃ x ∈ S.inodes, x.num = d ∧ x.dir = true ∧ ∃ e ∈ x.ents, e.2 = y
inductive Reach (S : St) : Int → Prop where
  | root : Reach S 1
  | step {d y : Int} : Reach S d → Edge S d y → Reach S y
def linksOf (x : Ino) : List Int := if x.dir then x.ents.map (·.2) else []
def links (S : St) : List Int := S.inodes.flatMap linksOf
/-- A number that was given. -/
def Given (made : List Int) (x : Int) : Prop := 2 ≤ x ∧ (x - 2) % 8 < made.length ∧ (x - 2) / 8 < made.getD ((x - 2) % 8).toNat 0
structure Inv (S : St) : Prop where
  m1 : 1 ≤ S.made.length
  m8 : S.made.length ≤ 8
  mb : ∀ m ∈ S.made, 0 ≤ m ∧ m ≤ 32
  root : ∃ x, S.inodes[0]? = some x ∧ x.num = 1 ∧ x.dir = true
  rise : S.inodes.Pairwise (fun x y => x.num < y.num)
  given : ∀ x ∈ S.inodes, x.num ≠ 1 → Given S.made x.num
  isDir : ∀ x ∈ S.inodes, x.dir = true → x.data.size = 0
  isFile : ∀ x ∈ S.inodes, x.dir = false → x.ents = []
  dat : ∀ x ∈ S.inodes, x.data.size ≤ 256
  nam : ∀ x ∈ S.inodes, ∀ e ∈ x.ents, ncheck e.1 = 0
  goal : ∀ x ∈ S.inodes, ∀ e ∈ x.ents, e.2 ≠ 1 ∧ ∃ y ∈ S.inodes, y.num = e.2
  up : ∀ x ∈ S.inodes, x.ents.Pairwise (fun a b => nlt a.1 b.1 = true)
  slots : ∀ x ∈ S.inodes, ∀ q, (x.ents.filter fun e => nbucket e.1 == q).length ≤ 4
  one : ∀ x ∈ S.inodes, x.dir = true → x.num ≠ 1 → (links S).count x.num = 1
  reach : ∀ x ∈ S.inodes, x.dir = true → Reach S x.num
  file : ∀ x ∈ S.inodes, x.dir = false → x.num ∈ links S ∨ ∃ o ∈ S.opens, o.2.2 = x.num
  ok : ∀ o ∈ S.opens, 0 ≤ o.1 ∧ o.1 < S.made.length ∧ 0 ≤ o.2.1 ∧ o.2.1 < 4 ∧ ∃ y ∈ S.inodes, y.num = o.2.2 ∧ y.dir = false
  osort : S.opens.Pairwise (fun a b => a.1 < b.1 ∨ a.1 = b.1 ∧ a.2.1 < b.2.1)
theorem getD_mem {A : Type} {l : List A} {i : Nat} {d : A} (h : i < l.length) : l.getD i d ∈ l := by
  rw [List.getD_eq_getElem?_getD, List.getElem?_eq_getElem h]
  exact List.getElem_mem h
theorem getD_get {A : Type} {l : List A} {i : Nat} {d : A} (h : i < l.length) : l.getD i d = l[i] := by
  rw [List.getD_eq_getElem?_getD, List.getElem?_eq_getElem h]; rfl
namespace Inv
variable {S : St}
theorem pos (h : Inv S) : 0 < S.inodes.length := by
  obtain ⟨x, hx, _⟩ := h.root
  rcases Nat.lt_or_ge 0 S.inodes.length with q | q
  · exact q
  · rw [List.getElem?_eq_none q] at hx; cases hx
theorem ino_mem {i : Nat} (hi : i < S.inodes.length) : S.ino i ∈ S.inodes := getD_mem hi
theorem num_lt (h : Inv S) {i j : Nat} (hj : j < S.inodes.length) (hij : i < j) : S.num i < S.num j := by
  have h1 := List.pairwise_iff_getElem.1 h.rise i j (by omega) hj hij
  unfold St.num St.ino
  rw [getD_get (by omega : i < _), getD_get hj]
  exact h1
theorem num0 (h : Inv S) : S.num 0 = 1 ∧ S.dir 0 = true := by
  obtain ⟨x, hx, h1, h2⟩ := h.root
  unfold St.num St.dir St.ino
  rw [List.getD_eq_getElem?_getD, hx]
  exact ⟨h1, h2⟩
theorem num_inj (h : Inv S) {i j : Nat} (hi : i < S.inodes.length) (hj : j < S.inodes.length) (e : S.num i = S.num j) : i = j := by
  rcases Nat.lt_trichotomy i j with q | q | q
  · have := h.num_lt hj q; omega
  · exact q
  · have := h.num_lt hi q; omega
theorem ino_inj (h : Inv S) {x y : Ino} (hx : x ∈ S.inodes) (hy : y ∈ S.inodes) (e : x.num = y.num) : x = y := by
  obtain ⟨i, hi, rfl⟩ := List.getElem_of_mem hx
  obtain ⟨j, hj, rfl⟩ := List.getElem_of_mem hy
  have : i = j := h.num_inj hi hj (by unfold St.num St.ino; rw [getD_get hi, getD_get hj]; exact e)
  subst this; rfl
theorem firstIx_at (h : Inv S) {i : Nat} (hi : i < S.inodes.length) : firstIx S (S.num i) = some i := by
  cases hf : firstIx S (S.num i) with
  | none =>
    unfold firstIx at hf
    rw [List.find?_eq_none] at hf
    exact absurd (hf i (by simpa using hi)) (by simp)
  | some j =>
    have hj := firstIx_some hf
    rw [h.num_inj hj.1 hi hj.2]
theorem firstIx_mem (h : Inv S) {y : Ino} (hy : y ∈ S.inodes) : ∃ i, i < S.inodes.length ∧ S.ino i = y ∧ firstIx S y.num = some i := by
  obtain ⟨i, hi, e⟩ := List.getElem_of_mem hy
  have h1 : S.ino i = y := by unfold St.ino; rw [getD_get hi, e]
  exact ⟨i, hi, h1, by have := h.firstIx_at hi; unfold St.num at this; rwa [h1] at this⟩
theorem num_bound (h : Inv S) {x : Ino} (hx : x ∈ S.inodes) : 1 ≤ x.num ∧ x.num ≤ 257 := by
  by_cases e : x.num = 1
  · omega
  · obtain ⟨h1, h2, h3⟩ := h.given x hx e
    have h4 : S.made.getD ((x.num - 2) % 8).toNat 0 ≤ 32 := (h.mb _ (getD_mem (by omega))).2
    have h8 := h.m8
    omega
end Inv
theorem rise_len : ∀ {l : List Ino} {a b : Int}, l.Pairwise (fun x y => x.num < y.num) → (∀ x ∈ l, a ≤ x.num ∧ x.num ≤ b) → a ≤ b + 1 → (l.length : Int) ≤ b + 1 - a
  | [], a, b, _, _, hab => by simp; omega
  | x :: l, a, b, hp, hb, hab => by
    obtain ⟨h1, h2⟩ := List.pairwise_cons.1 hp
    have hx := hb x (List.mem_cons_self ..)
    have ih := rise_len (a := x.num + 1) (b := b) h2 (fun y hy => ⟨by have := h1 y hy; omega, (hb y (List.mem_cons_of_mem _ hy)).2⟩) (by omega)
    simp only [List.length_cons]
    omega
theorem bucket_len {A : Type} (f : A → Nat) (c : Nat) : ∀ (n : Nat) (l : List A), (∀ x ∈ l, f x < n) → (∀ q, (l.filter fun x => f x == q).length ≤ c) → l.length ≤ n * c
  | 0, l, h, _ => by
    cases l with
    | nil => simp
    | cons x l => exact absurd (h x (List.mem_cons_self ..)) (by omega)
  | n + 1, l, h, hq => by
    have h1 := bucket_len f c n (l.filter fun x => !(f x == n)) (fun x hx => by
      rw [List.mem_filter] at hx
      have h2 := h x hx.1
      have h3 : f x ≠ n := by simpa using hx.2
      omega) (fun q => by
      refine Nat.le_trans ?_ (hq q)
      rw [List.filter_filter, show (fun a => (f a == q) && !(f a == n)) = fun a => !(f a == n) && (f a == q) from funext fun a => Bool.and_comm _ _, ← List.filter_filter]
      exact List.length_filter_le _ _)
    have h2 := hq n
    have h3 : ∀ l : List A, l.length = (l.filter fun x => f x == n).length + (l.filter fun x => !(f x == n)).length := by
      intro l
      induction l with
      | nil => rfl
      | cons x l ih =>
        rw [List.filter_cons, List.filter_cons]
        cases f x == n <;> simp <;> omega
    have h3 := h3 l
    rw [Nat.succ_mul]
    omega
theorem pair_len : ∀ {l : List (Int × Int × Int)} {a : Int}, l.Pairwise (fun x y => x.1 < y.1 ∨ x.1 = y.1 ∧ x.2.1 < y.2.1) → (∀ o ∈ l, 0 ≤ o.2.1 ∧ o.2.1 < 4 ∧ a ≤ o.1 * 4 + o.2.1 ∧ o.1 < 8) → a ≤ 32 → (l.length : Int) ≤ 32 - a
  | [], a, _, _, ha => by simp; omega
  | x :: l, a, hp, hb, ha => by
    obtain ⟨h1, h2⟩ := List.pairwise_cons.1 hp
    have hx := hb x (List.mem_cons_self ..)
    have ih := pair_len (l := l) (a := x.1 * 4 + x.2.1 + 1) h2 (fun o ho => by
      have h3 := h1 o ho
      have h4 := hb o (List.mem_cons_of_mem _ ho)
      refine ⟨h4.1, h4.2.1, ?_, h4.2.2.2⟩
      rcases h3 with q | ⟨q, q2⟩ <;> omega) (by omega)
    simp only [List.length_cons]
    omega
namespace Inv
variable {S : St}
theorem ni (h : Inv S) : S.inodes.length ≤ 257 := by
  have := rise_len (a := 1) (b := 257) h.rise (fun x hx => h.num_bound hx) (by omega)
  omega
theorem no (h : Inv S) : S.opens.length ≤ 32 := by
  have := pair_len (a := 0) (l := S.opens) h.osort (fun o ho => by
    have h1 := h.ok o ho
    have h2 := h.m8
    refine ⟨h1.2.2.1, h1.2.2.2.1, by omega, by omega⟩) (by omega)
  omega
theorem en (h : Inv S) {x : Ino} (hx : x ∈ S.inodes) : x.ents.length ≤ 32 :=
  bucket_len (fun e : ByteArray × Int => nbucket e.1) 4 8 x.ents (fun _ _ => nbucket_lt _) (h.slots x hx)
theorem small (h : Inv S) : S.small := by
  have h1 := h.ni
  have h2 := h.no
  have h3 := h.m8
  refine ⟨by omega, by omega, by omega, fun i => ?_, fun i => ?_, fun i k => ?_, fun i => ?_⟩
  · exact getD_case (fun x : Ino => x.ents.length ≤ 1000) S.inodes noIno (fun x hx => by have := h.en hx; omega) (by decide) i
  · exact getD_case (fun x : Ino => -1000000 ≤ x.num ∧ x.num ≤ 1000000) S.inodes noIno (fun x hx => by have := h.num_bound hx; omega) (by decide) i
  · exact getD_case (fun x : Ino => -1000000 ≤ (x.ents.getD k (ByteArray.empty, 0)).2 ∧ (x.ents.getD k (ByteArray.empty, 0)).2 ≤ 1000000) S.inodes noIno (fun x hx => getD_case (fun e : ByteArray × Int => -1000000 ≤ e.2 ∧ e.2 ≤ 1000000) x.ents _ (fun e he => by
      obtain ⟨-, y, hy, e2⟩ := h.goal x hx e he
      have := h.num_bound hy
      omega) (by decide) k) (getD_case (fun e : ByteArray × Int => -1000000 ≤ e.2 ∧ e.2 ≤ 1000000) [] _ (fun e he => absurd he (by simp)) (by decide) k) i
  · exact getD_case (fun m : Int => -1000000 ≤ m ∧ m ≤ 1000000) S.made 0 (fun m hm => by have := h.mb m hm; omega) (by decide) i
end Inv
end Go.Proofs.Ytenlffhoinialaa
end

section
namespace Go.Proofs.Ytenlffhoinialaa
set_option maxHeartbeats 1000000
theorem flat_nil {A : Type} {f : Nat → List A} {n : Nat} (h : ∀ i, i < n → f i = []) : (List.range n).flatMap f = [] := by
  rw [List.flatMap_eq_nil_iff]
  intro i hi
  exact h i (by simpa using hi)
theorem one_nil {k x : Int} {s : ByteArray} {b : Bool} (h : b = false) : one k x s b = [] := by subst h; rfl
theorem range_flat {A B : Type} (g : A → List B) (d : A) : ∀ l : List A, (List.range l.length).flatMap (fun i => g (l.getD i d)) = l.flatMap g
  | [] => rfl
  | x :: l => by
    rw [List.length_cons, List.range_succ_eq_map, List.flatMap_cons, List.flatMap_cons, List.flatMap_map]
    have h := range_flat g d l
    congr 1
theorem entsOf_eq (S : St) (i : Nat) : entsOf S i = (S.ino i).ents.map (·.2) := by
  unfold entsOf St.ne St.enu
  refine List.ext_getElem? fun k => ?_
  rw [List.getElem?_map, List.getElem?_map]
  rcases Nat.lt_or_ge k (S.ino i).ents.length with q | q
  · rw [List.getElem?_range q, List.getElem?_eq_getElem q]
    simp only [Option.map_some]
    rw [getD_get q]
  · rw [List.getElem?_eq_none (by simpa using q), List.getElem?_eq_none q]; rfl
theorem manyF_eq (S : St) (x : Int) : manyF S x = (links S).count x := by
  unfold manyF manyTo links
  have h : (fun i => if S.dir i then entsOf S i else []) = fun i => linksOf (S.inodes.getD i noIno) := by
    funext i
    rw [entsOf_eq]
    rfl
  rw [h, range_flat linksOf noIno]
theorem mem_links {S : St} {y : Int} : y ∈ links S ↔ ∃ d, Edge S d y := by
  unfold links Edge linksOf
  rw [List.mem_flatMap]
  constructor
  · rintro ⟨x, hx, hy⟩
    by_cases hd : x.dir = true
    · rw [if_pos hd] at hy
      obtain ⟨e, he, rfl⟩ := List.mem_map.1 hy
      exact ⟨x.num, x, hx, rfl, hd, e, he, rfl⟩
    · rw [if_neg hd] at hy; cases hy
  · rintro ⟨d, x, hx, rfl, hd, e, he, rfl⟩
    exact ⟨x, hx, by rw [if_pos hd]; exact List.mem_map.2 ⟨e, he, rfl⟩⟩
theorem bl_asymm {s t : ByteArray} (h : nlt s t = true) : nle t s = false := by
  unfold nle
  rw [Bool.or_eq_false_iff]
  constructor
  · cases h2 : Op.bytesLess t.toList s.toList with
    | false => rfl
    | true => have := nlt_trans h (show nlt t s = true from h2); rw [nlt_irrefl] at this; cases this
  · rw [Bool.eq_false_iff]
    intro h2
    have h3 : t.toList = s.toList := by simpa using h2
    unfold nlt at h
    rw [h3, bl_irrefl] at h
    cases h
namespace Inv
variable {S : St}
theorem found_of_reach (h : Inv S) {x : Int} (hr : Reach S x) : x ∈ foundF S := by
  have hc := found_closed S
  induction hr with
  | root => exact hc.1
  | step _ he ih =>
    obtain ⟨z, hz, rfl, hd, e, hm, rfl⟩ := he
    obtain ⟨i, hi, e1, e2⟩ := h.firstIx_mem hz
    refine hc.2 _ ih _ ?_
    unfold kids
    rw [e2]
    show _ ∈ if S.dir i = true then entsOf S i else []
    rw [if_pos (by unfold St.dir; rw [e1]; exact hd), entsOf_eq, e1]
    exact List.mem_map.2 ⟨e, hm, rfl⟩
theorem numbers_nil (h : Inv S) : numbersF S = [] := by
  unfold numbersF
  have h0 := h.num0
  rw [one_nil (by unfold rootB; have := h.pos; simp only [Bool.or_eq_false_iff, decide_eq_false_iff_not]; exact ⟨⟨by omega, by rw [h0.1]; rfl⟩, by rw [h0.2]; rfl⟩), one_nil (b := manyB S) (by unfold manyB; have := h.m1; have := h.m8; simp only [Bool.or_eq_false_iff, decide_eq_false_iff_not]; omega),
    flat_nil (fun i hi => ?_), flat_nil (fun i hi => ?_)]
  · rfl
  · refine one_nil ?_
    have := h.mb _ (getD_mem (d := 0) hi)
    unfold madB St.mad
    simp only [Bool.or_eq_false_iff, decide_eq_false_iff_not]; omega
  · have hb := h.num_bound (ino_mem hi)
    have e1 : b1 S i = false := by
      unfold b1
      have h1 : 1 ≤ S.num i := hb.1
      by_cases hp : 0 < i
      · have := h.num_lt hi (by omega : i - 1 < i)
        simp; omega
      · simp; omega
    have e8 : b8 S i = false := by
      unfold b8
      by_cases e : S.num i = 1
      · simp [e]
      · obtain ⟨h1, h2, h3⟩ := h.given _ (ino_mem hi) e
        have hc : coreF (S.num i) = (S.num i - 2) % 8 := by
          unfold coreF
          rw [if_neg (by show ¬ (S.ino i).num < 2; omega)]
        rw [hc]
        have h2' : (S.num i - 2) % 8 < S.made.length := h2
        have h3' : (S.num i - 2) / 8 < S.mad ((S.num i - 2) % 8).toNat := h3
        unfold madeF
        simp; omega
    unfold numAt
    rw [one_nil e1, one_nil e8]; rfl
theorem bodies_nil (h : Inv S) : bodiesF S = [] := by
  unfold bodiesF
  refine flat_nil fun i hi => ?_
  have hm := ino_mem hi
  unfold bodyAt
  have e6 : b6 S i = false := by
    have h1 := h.dat _ hm
    unfold b6 St.dir St.dat St.ne
    cases hd : (S.ino i).dir with
    | true =>
      have h2 := h.isDir _ hm hd
      have h3 : (S.ino i).data.toList = [] := by
        rw [ByteArray.toList_eq]
        exact List.length_eq_zero_iff.1 (by rw [Array.length_toList]; exact h2)
      simp [h3]; omega
    | false =>
      have h2 := h.isFile _ hm hd
      simp [h2]; omega
  rw [one_nil e6]
  show (if S.dir i = true then _ else _) = []
  by_cases hd : S.dir i = true
  · rw [if_pos hd]
    refine flat_nil fun k hk => ?_
    have hke : k < (S.ino i).ents.length := hk
    have hmem : (S.ino i).ents.getD k (ByteArray.empty, 0) ∈ (S.ino i).ents := getD_mem hke
    obtain ⟨g1, y, hy, g2⟩ := h.goal _ hm _ hmem
    have e2 : b2 S i k = false := by
      obtain ⟨j, -, -, hj⟩ := h.firstIx_mem hy
      unfold b2 St.enu
      rw [← g2, hj]
      have : y.num ≠ 1 := by rw [g2]; exact g1
      simp [this]
    have e5 : b5 S i k = false := by
      have hn := h.nam _ hm _ hmem
      unfold b5 St.enm
      rw [hn]
      by_cases hp : 0 < k
      · have h1 := List.pairwise_iff_getElem.1 (h.up _ hm) (k - 1) k (by omega) hke (by omega)
        rw [getD_get hke, getD_get (by omega : k - 1 < _), bl_asymm h1]
        simp
      · have : k = 0 := by omega
        subst this; simp
    have e7 : b7 S i k = false := by
      unfold b7 cnt
      rw [Bool.eq_false_iff]
      intro hc
      have hc : ((List.range k).filter fun j => nbucket (S.enm i j) == nbucket (S.enm i k)).length = 4 := by simpa using hc
      have h4 := h.slots _ hm (nbucket (S.enm i k))
      have h5 : ((S.ino i).ents.take (k + 1)).length = k + 1 := by simp; omega
      have h6 : (((S.ino i).ents.take (k + 1)).filter fun e => nbucket e.1 == nbucket (S.enm i k)).length ≤ 4 :=
        Nat.le_trans ((List.take_sublist _ _).filter _).length_le h4
      have h7 : (S.ino i).ents.take (k + 1) = (List.range (k + 1)).map fun j => (S.ino i).ents.getD j (ByteArray.empty, 0) := by
        refine List.ext_getElem? fun j => ?_
        rw [List.getElem?_map, List.getElem?_take]
        by_cases q : j < k + 1
        · rw [if_pos q, List.getElem?_range q, List.getElem?_eq_getElem (by omega)]
          simp only [Option.map_some]
          rw [getD_get (by omega : j < _)]
        · rw [if_neg q, List.getElem?_eq_none (by simpa using q)]; rfl
      rw [h7, List.filter_map, List.length_map, List.range_succ, List.filter_append, List.length_append] at h6
      have h8 : (List.filter ((fun e : ByteArray × Int => nbucket e.1 == nbucket (S.enm i k)) ∘ fun j => (S.ino i).ents.getD j (ByteArray.empty, 0)) [k]).length = 1 := by
        rw [List.filter_cons, if_pos (by simp [St.enm])]; rfl
      have h9 : (List.filter ((fun e : ByteArray × Int => nbucket e.1 == nbucket (S.enm i k)) ∘ fun j => (S.ino i).ents.getD j (ByteArray.empty, 0)) (List.range k)).length = 4 := hc
      omega
    unfold entAt
    rw [one_nil e2, one_nil e5, one_nil e7]; rfl
  · rw [if_neg hd]
theorem tree_nil (h : Inv S) : treeF S = [] := by
  unfold treeF
  refine flat_nil fun i hi => ?_
  have hm := ino_mem hi
  unfold treeAt
  have e3 : b3 S i = false := by
    unfold b3
    rw [manyF_eq]
    by_cases hd : S.dir i = true
    · by_cases e : S.num i = 1
      · simp [e]
      · have h1 := h.one _ hm hd e
        have h1 : (links S).count (S.num i) = 1 := h1
        simp [h1]
    · simp [hd]
  have e4 : b4 S i = false := by
    unfold b4 opB foundB
    rw [h.firstIx_at hi]
    have hf : (foundF S).contains (S.num i) = true ∨ (!S.dir i && isOpenB S (S.num i)) = true := by
      by_cases hd : S.dir i = true
      · exact .inl (by rw [List.contains_eq_mem]; exact decide_eq_true (h.found_of_reach (h.reach _ hm hd)))
      · have hd : S.dir i = false := by simpa using hd
        rcases h.file _ hm hd with q | ⟨o, ho, q⟩
        · obtain ⟨d, hE⟩ := mem_links.1 q
          obtain ⟨x, hx, rfl, hxd, e⟩ := id hE
          exact .inl (by rw [List.contains_eq_mem]; exact decide_eq_true (h.found_of_reach ((h.reach x hx hxd).step hE)))
        · refine .inr ?_
          rw [hd]
          obtain ⟨j, hj, e⟩ := List.getElem_of_mem ho
          unfold isOpenB
          simp only [Bool.not_false, Bool.true_and, List.any_eq_true]
          refine ⟨j, by simpa using hj, ?_⟩
          unfold St.on
          rw [getD_get hj, e, q]
          simp [St.num]
    rcases hf with q | q
    · rw [q]; simp
    · rw [q]; simp
  rw [one_nil e3, one_nil e4]; rfl
theorem open_nil (h : Inv S) : openF S = [] := by
  unfold openF
  refine flat_nil fun i hi => one_nil ?_
  have hmem : S.opens.getD i (0, 0, 0) ∈ S.opens := getD_mem hi
  obtain ⟨h1, h2, h3, h4, y, hy, h5, h6⟩ := h.ok _ hmem
  have ea : b9a S i = false := by
    obtain ⟨j, -, e1, hj⟩ := h.firstIx_mem hy
    unfold b9a dirAt St.on St.oc St.of
    rw [← h5, hj]
    show (S.dir j || _ || _ || _ || _) = false
    unfold St.dir
    rw [e1, h6]
    simp only [Bool.or_eq_false_iff, decide_eq_false_iff_not]; exact ⟨⟨⟨⟨trivial, by omega⟩, by omega⟩, by omega⟩, by omega⟩
  unfold b9
  rw [ea]
  by_cases hp : 0 < i
  · have h7 := List.pairwise_iff_getElem.1 h.osort (i - 1) i (by omega) hi (by omega)
    unfold St.oc St.of
    rw [getD_get hi, getD_get (by omega : i - 1 < _)]
    simp; omega
  · simp; omega
theorem raw_nil (h : Inv S) : rawF S = [] := by
  unfold rawF
  rw [h.numbers_nil, h.bodies_nil, h.tree_nil, h.open_nil]; rfl
end Inv
end Go.Proofs.Ytenlffhoinialaa
end

