/- CheckNone, plainly: rows that are put together in their order; sums over inodes. CheckNone, plainly: bytes of a file; a descriptor more. CheckNone, plainly: a directory's entries are others. CheckNone, plainly: a name more, a name less. CheckNone, plainly: what nobody has any more goes. CheckNone, plainly: a descriptor less; a name less. CheckNone, plainly: a name less. CheckNone, plainly: Unlink, Rmdir. CheckNone, plainly: Create, Mkdir. CheckNone, plainly: Rename. CheckNone, plainly: chains from the root. -/
import Derived.Test.YtenlffhoinialaaMNPa
section
namespace Go.Proofs.Ytenlffhoinialaa
set_option maxHeartbeats 1000000
/-- Put in ahead of the first that it stands below. -/
def insBy {A : Type} (lt : A → A → Bool) (p : A) : List A → List A
  | [] => [p]
  | e :: l => if lt p e = true then p :: e :: l else e :: insBy lt p l
section
variable {A : Type} {lt : A → A → Bool} {p : A}
theorem perm_insBy : ∀ l : List A, (insBy lt p l).Perm (p :: l)
  | [] => .rfl
  | e :: l => by
    unfold insBy
    split
    · exact .rfl
    · exact ((perm_insBy l).cons e).trans (List.Perm.swap ..)
theorem mem_insBy {l : List A} {y : A} : y ∈ insBy lt p l ↔ y = p ∨ y ∈ l := by
  rw [(perm_insBy l).mem_iff, List.mem_cons]
theorem pair_insBy {R : A → A → Prop} (ht : ∀ a b c, R a b → R b c → R a c) : ∀ {l : List A}, l.Pairwise R → (∀ e ∈ l, lt p e = true → R p e) → (∀ e ∈ l, lt p e = false → R e p) → (insBy lt p l).Pairwise R
  | [], _, _, _ => List.pairwise_singleton ..
  | e :: l, h, h1, h2 => by
    obtain ⟨ha, hb⟩ := List.pairwise_cons.1 h
    unfold insBy
    by_cases q : lt p e = true
    · rw [if_pos q]
      refine List.pairwise_cons.2 ⟨fun y hy => ?_, h⟩
      have hpe := h1 e (List.mem_cons_self ..) q
      rcases List.mem_cons.1 hy with rfl | hy
      · exact hpe
      · exact ht _ _ _ hpe (ha y hy)
    · rw [if_neg q]
      refine List.pairwise_cons.2 ⟨fun y hy => ?_, pair_insBy ht hb (fun e he => h1 e (List.mem_cons_of_mem _ he)) fun e he => h2 e (List.mem_cons_of_mem _ he)⟩
      rcases mem_insBy.1 hy with rfl | hy
      · exact h2 e (List.mem_cons_self ..) (by simpa using q)
      · exact ha y hy
theorem insBy_head {a : A} {l : List A} (h : lt p a = false) : insBy lt p (a :: l) = a :: insBy lt p l := by
  show (if lt p a = true then _ else _) = _
  rw [if_neg (by simp [h])]
/-- As a loop puts it together: what has been gone through, and whether p is in. -/
theorem insBy_none : ∀ {l : List A}, (∀ e ∈ l, lt p e = false) → insBy lt p l = l ++ [p]
  | [], _ => rfl
  | e :: l, h => by
    rw [insBy_head (h e (List.mem_cons_self ..)), insBy_none fun x hx => h x (List.mem_cons_of_mem _ hx)]; rfl
theorem insBy_snoc_in {e : A} : ∀ {l : List A}, (∃ x ∈ l, lt p x = true) → insBy lt p (l ++ [e]) = insBy lt p l ++ [e]
  | [], h => by obtain ⟨x, hx, _⟩ := h; cases hx
  | a :: l, h => by
    by_cases q : lt p a = true
    · show (if lt p a = true then _ else _) = (if lt p a = true then _ else _) ++ _
      rw [if_pos q, if_pos q]; rfl
    · have q : lt p a = false := by simpa using q
      rw [List.cons_append, insBy_head q, insBy_head q, insBy_snoc_in]; rfl
      obtain ⟨x, hx, h2⟩ := h
      rcases List.mem_cons.1 hx with rfl | hx
      · rw [q] at h2; cases h2
      · exact ⟨x, hx, h2⟩
theorem insBy_snoc_at {e : A} (he : lt p e = true) : ∀ {l : List A}, (∀ x ∈ l, lt p x = false) → insBy lt p (l ++ [e]) = l ++ [p] ++ [e]
  | [], _ => by
    show (if lt p e = true then _ else _) = _
    rw [if_pos he]; rfl
  | a :: l, h => by
    rw [List.cons_append, insBy_head (h a (List.mem_cons_self ..)), insBy_snoc_at he fun x hx => h x (List.mem_cons_of_mem _ hx)]; rfl
end
/-- One of a row's parts is another: the sum's turn. -/
theorem sum_turn {h h' : Ino → Nat} {d : Int} : ∀ {l : List Ino}, l.Pairwise (fun x y => x.num < y.num) → ∀ {x0 : Ino}, x0 ∈ l → x0.num = d → (∀ x ∈ l, x.num ≠ d → h' x = h x) → (l.map h').sum + h x0 = (l.map h).sum + h' x0
  | [], _, _, hx, _, _ => by cases hx
  | x :: l, hp, x0, hx, hd, hh => by
    obtain ⟨ha, hb⟩ := List.pairwise_cons.1 hp
    simp only [List.map_cons, List.sum_cons]
    rcases List.mem_cons.1 hx with rfl | hx
    · have : l.map h' = l.map h := List.map_congr_left fun y hy => hh y (List.mem_cons_of_mem _ hy) (by have := ha y hy; omega)
      rw [this]; omega
    · have h1 := hh x (List.mem_cons_self ..) (by have := ha x0 hx; omega)
      have ih := sum_turn hb hx hd fun y hy => hh y (List.mem_cons_of_mem _ hy)
      rw [h1]; omega
theorem count_links (S : St) (y : Int) : (links S).count y = (S.inodes.map fun x => (linksOf x).count y).sum := by
  unfold links
  rw [List.count_flatMap]; rfl
end Go.Proofs.Ytenlffhoinialaa
end

section
namespace Go.Proofs.Ytenlffhoinialaa
set_option maxHeartbeats 1000000
/-- One inode is turned. -/
def mapIno (S : St) (d : Int) (f : Ino → Ino) : St := { S with inodes := S.inodes.map fun x => if x.num = d then f x else x }
def setD (S : St) (d : Int) (b : ByteArray) : St := mapIno S d fun x => { x with data := b }
def setE (S : St) (d : Int) (L : List (ByteArray × Int)) : St := mapIno S d fun x => { x with ents := L }
theorem mapIno_num (S : St) (d : Int) (f : Ino → Ino) (hf : ∀ x, (f x).num = x.num) : (mapIno S d f).inodes.map Ino.num = S.inodes.map Ino.num := by
  unfold mapIno
  rw [List.map_map]
  refine List.map_congr_left fun x _ => ?_
  show (if x.num = d then f x else x).num = x.num
  split
  · exact hf x
  · rfl
theorem mem_mapIno {S : St} {d : Int} {f : Ino → Ino} {y : Ino} : y ∈ (mapIno S d f).inodes ↔ ∃ x ∈ S.inodes, (if x.num = d then f x else x) = y := by
  unfold mapIno
  exact List.mem_map
theorem rise_map {S : St} {d : Int} {f : Ino → Ino} (hf : ∀ x, (f x).num = x.num) (h : S.inodes.Pairwise (fun x y => x.num < y.num)) : (mapIno S d f).inodes.Pairwise (fun x y => x.num < y.num) := by
  unfold mapIno
  rw [List.pairwise_map]
  refine h.imp fun {x y} hxy => ?_
  have e : ∀ x : Ino, (if x.num = d then f x else x).num = x.num := fun x => by
    split
    · exact hf x
    · rfl
  rw [e, e]; exact hxy
theorem root_map {S : St} {d : Int} {f : Ino → Ino} (hf : ∀ x, (f x).num = x.num ∧ (f x).dir = x.dir) (h : ∃ x, S.inodes[0]? = some x ∧ x.num = 1 ∧ x.dir = true) : ∃ x, (mapIno S d f).inodes[0]? = some x ∧ x.num = 1 ∧ x.dir = true := by
  obtain ⟨x, h0, h1, h2⟩ := h
  refine ⟨if x.num = d then f x else x, ?_, ?_, ?_⟩
  · unfold mapIno
    rw [List.getElem?_map, h0]; rfl
  · split
    · rw [(hf x).1]; exact h1
    · exact h1
  · split
    · rw [(hf x).2]; exact h2
    · exact h2
/-- What looks at names, kinds and entries alone does not see bytes. -/
theorem edge_setD {S : St} {d a y : Int} {b : ByteArray} : Edge (setD S d b) a y ↔ Edge S a y := by
  unfold Edge
  constructor
  · rintro ⟨x, hx, h1, h2, h3⟩
    obtain ⟨z, hz, rfl⟩ := mem_mapIno.1 hx
    refine ⟨z, hz, ?_⟩
    revert h1 h2 h3
    split <;> exact fun h1 h2 h3 => ⟨h1, h2, h3⟩
  · rintro ⟨x, hx, h1, h2, h3⟩
    refine ⟨_, mem_mapIno.2 ⟨x, hx, rfl⟩, ?_⟩
    split <;> exact ⟨h1, h2, h3⟩
theorem reach_of {S S' : St} (h : ∀ a y, Edge S a y → Edge S' a y) {x : Int} (hr : Reach S x) : Reach S' x := by
  induction hr with
  | root => exact .root
  | step _ he ih => exact .step ih (h _ _ he)
theorem links_setD (S : St) (d : Int) (b : ByteArray) : links (setD S d b) = links S := by
  unfold links setD mapIno
  rw [List.flatMap_map]
  congr 1
  funext x
  unfold linksOf
  split <;> rfl
theorem Inv.data {S : St} (h : Inv S) {d : Int} {b : ByteArray} (hb : b.size ≤ 256) (hf : ∃ y ∈ S.inodes, y.num = d ∧ y.dir = false) : Inv (setD S d b) := by
  have hE : ∀ {y : Ino}, y ∈ (setD S d b).inodes → ∃ x ∈ S.inodes, y.num = x.num ∧ y.dir = x.dir ∧ y.ents = x.ents ∧ (y.data = x.data ∨ (x.num = d ∧ y.data = b)) := by
    intro y hy
    obtain ⟨x, hx, rfl⟩ := mem_mapIno.1 hy
    refine ⟨x, hx, ?_⟩
    by_cases e : x.num = d
    · rw [if_pos e]; exact ⟨rfl, rfl, rfl, .inr ⟨e, rfl⟩⟩
    · rw [if_neg e]; exact ⟨rfl, rfl, rfl, .inl rfl⟩
  have hI : ∀ {x : Ino}, x ∈ S.inodes → ∃ y ∈ (setD S d b).inodes, y.num = x.num ∧ y.dir = x.dir := by
    intro x hx
    refine ⟨_, mem_mapIno.2 ⟨x, hx, rfl⟩, ?_⟩
    split <;> exact ⟨rfl, rfl⟩
  obtain ⟨z, hz, hzd, hzf⟩ := hf
  refine ⟨h.m1, h.m8, h.mb, root_map (fun _ => ⟨rfl, rfl⟩) h.root, rise_map (fun _ => rfl) h.rise, ?_, ?_, ?_, ?_, ?_, ?_, ?_, ?_, ?_, ?_, ?_, ?_, h.osort⟩
  · intro y hy; obtain ⟨x, hx, e1, e2, e3, e4⟩ := hE hy; rw [e1]; exact h.given x hx
  · intro y hy hd
    obtain ⟨x, hx, e1, e2, e3, e4⟩ := hE hy
    rcases e4 with e4 | ⟨e4, _⟩
    · rw [e4]; exact h.isDir x hx (e2 ▸ hd)
    · have : x = z := h.ino_inj hx hz (by omega)
      subst this
      rw [e2, hzf] at hd; cases hd
  · intro y hy hd; obtain ⟨x, hx, e1, e2, e3, e4⟩ := hE hy; rw [e3]; exact h.isFile x hx (e2 ▸ hd)
  · intro y hy
    obtain ⟨x, hx, e1, e2, e3, e4⟩ := hE hy
    rcases e4 with e4 | ⟨_, e4⟩
    · rw [e4]; exact h.dat x hx
    · rw [e4]; exact hb
  · intro y hy; obtain ⟨x, hx, e1, e2, e3, e4⟩ := hE hy; rw [e3]; exact h.nam x hx
  · intro y hy e he
    obtain ⟨x, hx, e1, e2, e3, e4⟩ := hE hy
    rw [e3] at he
    obtain ⟨g1, q, hq, g2⟩ := h.goal x hx e he
    obtain ⟨q2, hq2, e5, -⟩ := hI hq
    exact ⟨g1, q2, hq2, e5.trans g2⟩
  · intro y hy; obtain ⟨x, hx, e1, e2, e3, e4⟩ := hE hy; rw [e3]; exact h.up x hx
  · intro y hy; obtain ⟨x, hx, e1, e2, e3, e4⟩ := hE hy; rw [e3]; exact h.slots x hx
  · intro y hy hd; obtain ⟨x, hx, e1, e2, e3, e4⟩ := hE hy; rw [e1, links_setD]; exact h.one x hx (e2 ▸ hd)
  · intro y hy hd; obtain ⟨x, hx, e1, e2, e3, e4⟩ := hE hy; rw [e1]; exact reach_of (fun a y q => edge_setD.2 q) (h.reach x hx (e2 ▸ hd))
  · intro y hy hd; obtain ⟨x, hx, e1, e2, e3, e4⟩ := hE hy; rw [e1, links_setD]; exact h.file x hx (e2 ▸ hd)
  · intro o ho
    obtain ⟨h1, h2, h3, h4, q, hq, h5, h6⟩ := h.ok o ho
    obtain ⟨q2, hq2, e5, e6⟩ := hI hq
    exact ⟨h1, h2, h3, h4, q2, hq2, e5.trans h5, e6.trans h6⟩
/-- A descriptor's place is behind another's. -/
def ltO (a b : Int × Int × Int) : Bool := decide (a.1 < b.1) || (a.1 == b.1 && decide (a.2.1 < b.2.1))
def grabS (S : St) (o : Int × Int × Int) : St := { S with opens := insBy ltO o S.opens }
theorem Inv.grab {S : St} (h : Inv S) {o : Int × Int × Int} (h1 : 0 ≤ o.1) (h2 : o.1 < S.made.length) (h3 : 0 ≤ o.2.1) (h4 : o.2.1 < 4) (h5 : ∃ y ∈ S.inodes, y.num = o.2.2 ∧ y.dir = false) (h6 : ∀ q ∈ S.opens, ¬ (q.1 = o.1 ∧ q.2.1 = o.2.1)) : Inv (grabS S o) := by
  refine ⟨h.m1, h.m8, h.mb, h.root, h.rise, h.given, h.isDir, h.isFile, h.dat, h.nam, h.goal, h.up, h.slots, h.one, fun x hx hd => reach_of (S := S) (S' := grabS S o) (fun _ _ q => q) (h.reach x hx hd), fun x hx hd => ?_, fun q hq => ?_, ?_⟩
  · rcases h.file x hx hd with q | ⟨q, hq, e⟩
    · exact .inl q
    · exact .inr ⟨q, mem_insBy.2 (.inr hq), e⟩
  · rcases mem_insBy.1 hq with rfl | hq
    · exact ⟨h1, h2, h3, h4, h5⟩
    · exact h.ok q hq
  · refine pair_insBy (fun a b c hab hbc => ?_) h.osort (fun e _ hl => ?_) fun e he hl => ?_
    · rcases hab with q | ⟨q, q2⟩ <;> rcases hbc with q3 | ⟨q3, q4⟩ <;> omega
    · unfold ltO at hl
      simp at hl
      omega
    · unfold ltO at hl
      have h7 := h6 e he
      simp at hl
      omega
end Go.Proofs.Ytenlffhoinialaa
end

section
namespace Go.Proofs.Ytenlffhoinialaa
set_option maxHeartbeats 1000000
section
variable {S : St} {d : Int} {L : List (ByteArray × Int)}
theorem edge_setE {x0 : Ino} (hx : x0 ∈ S.inodes) (hd : x0.num = d) (hdir : x0.dir = true) {a y : Int} : Edge (setE S d L) a y ↔ (a ≠ d ∧ Edge S a y) ∨ (a = d ∧ ∃ e ∈ L, e.2 = y) := by
  unfold Edge
  constructor
  · rintro ⟨x, hx1, h1, h2, e, he, h3⟩
    obtain ⟨z, hz, rfl⟩ := mem_mapIno.1 hx1
    by_cases q : z.num = d
    · rw [if_pos q] at h1 h2 he
      exact .inr ⟨h1.symm.trans q, e, he, h3⟩
    · rw [if_neg q] at h1 h2 he
      exact .inl ⟨fun e2 => q (h1.trans e2), z, hz, h1, h2, e, he, h3⟩
  · rintro (⟨q, x, hx1, h1, h2, h3⟩ | ⟨rfl, e, he, h3⟩)
    · exact ⟨_, mem_mapIno.2 ⟨x, hx1, rfl⟩, by rw [if_neg (by omega)]; exact h1, by rw [if_neg (by omega)]; exact h2, by rw [if_neg (by omega)]; exact h3⟩
    · exact ⟨_, mem_mapIno.2 ⟨x0, hx, rfl⟩, by rw [if_pos hd]; exact hd, by rw [if_pos hd]; exact hdir, by rw [if_pos hd]; exact ⟨e, he, h3⟩⟩
theorem count_setE (h : Inv S) {x0 : Ino} (hx : x0 ∈ S.inodes) (hd : x0.num = d) (hdir : x0.dir = true) (y : Int) : (links (setE S d L)).count y + (x0.ents.map (·.2)).count y = (links S).count y + (L.map (·.2)).count y := by
  rw [count_links, count_links]
  have e : ((setE S d L).inodes.map fun x => (linksOf x).count y) = S.inodes.map fun x => (linksOf (if x.num = d then { x with ents := L } else x)).count y := by
    unfold setE mapIno
    rw [List.map_map]; rfl
  rw [e]
  have h1 := sum_turn (h := fun x => (linksOf x).count y) (h' := fun x => (linksOf (if x.num = d then { x with ents := L } else x)).count y) h.rise hx hd (fun x _ q => by simp only [if_neg q])
  have e1 : linksOf x0 = x0.ents.map (·.2) := by unfold linksOf; rw [if_pos hdir]
  have e2 : linksOf (if x0.num = d then { x0 with ents := L } else x0) = L.map (·.2) := by
    rw [if_pos hd]; unfold linksOf; rw [if_pos (show ({ x0 with ents := L } : Ino).dir = true from hdir)]
  rw [e1, e2] at h1
  exact h1
theorem of_setE {y : Ino} (hy : y ∈ (setE S d L).inodes) : ∃ x ∈ S.inodes, y.num = x.num ∧ y.dir = x.dir ∧ y.data = x.data ∧ ((x.num ≠ d ∧ y.ents = x.ents) ∨ (x.num = d ∧ y.ents = L)) := by
  obtain ⟨x, hx, rfl⟩ := mem_mapIno.1 hy
  refine ⟨x, hx, ?_⟩
  by_cases e : x.num = d
  · rw [if_pos e]; exact ⟨rfl, rfl, rfl, .inr ⟨e, rfl⟩⟩
  · rw [if_neg e]; exact ⟨rfl, rfl, rfl, .inl ⟨e, rfl⟩⟩
theorem to_setE {x : Ino} (hx : x ∈ S.inodes) : ∃ y ∈ (setE S d L).inodes, y.num = x.num ∧ y.dir = x.dir := by
  refine ⟨_, mem_mapIno.2 ⟨x, hx, rfl⟩, ?_⟩
  split <;> exact ⟨rfl, rfl⟩
/-- All of it but what goes from inode to inode. -/
theorem Inv.setE_ (h : Inv S) {x0 : Ino} (hx : x0 ∈ S.inodes) (hd : x0.num = d) (hdir : x0.dir = true)
    (hn : ∀ e ∈ L, ncheck e.1 = 0) (hu : L.Pairwise (fun a b => nlt a.1 b.1 = true)) (hs : ∀ q, (L.filter fun e => nbucket e.1 == q).length ≤ 4)
    (hg : ∀ e ∈ L, e.2 ≠ 1 ∧ ∃ y ∈ S.inodes, y.num = e.2)
    (h1 : ∀ x ∈ S.inodes, x.dir = true → x.num ≠ 1 → (links (setE S d L)).count x.num = 1)
    (h2 : ∀ x ∈ S.inodes, x.dir = true → Reach (setE S d L) x.num)
    (h3 : ∀ x ∈ S.inodes, x.dir = false → x.num ∈ links (setE S d L) ∨ ∃ o ∈ S.opens, o.2.2 = x.num) : Inv (setE S d L) := by
  refine ⟨h.m1, h.m8, h.mb, root_map (fun _ => ⟨rfl, rfl⟩) h.root, rise_map (fun _ => rfl) h.rise, ?_, ?_, ?_, ?_, ?_, ?_, ?_, ?_, ?_, ?_, ?_, ?_, h.osort⟩
  · intro y hy; obtain ⟨x, hx, e1, e2, e3, e4⟩ := of_setE hy; rw [e1]; exact h.given x hx
  · intro y hy hd; obtain ⟨x, hx, e1, e2, e3, e4⟩ := of_setE hy; rw [e3]; exact h.isDir x hx (e2 ▸ hd)
  · intro y hy hf
    obtain ⟨x, hx1, e1, e2, e3, e4⟩ := of_setE hy
    rcases e4 with ⟨-, e4⟩ | ⟨e4, -⟩
    · rw [e4]; exact h.isFile x hx1 (e2 ▸ hf)
    · have : x = x0 := h.ino_inj hx1 hx (by omega)
      subst this
      rw [e2, hdir] at hf; cases hf
  · intro y hy; obtain ⟨x, hx, e1, e2, e3, e4⟩ := of_setE hy; rw [e3]; exact h.dat x hx
  · intro y hy
    obtain ⟨x, hx, e1, e2, e3, e4⟩ := of_setE hy
    rcases e4 with ⟨-, e4⟩ | ⟨-, e4⟩
    · rw [e4]; exact h.nam x hx
    · rw [e4]; exact hn
  · intro y hy e he
    obtain ⟨x, hx, e1, e2, e3, e4⟩ := of_setE hy
    have hk : e.2 ≠ 1 ∧ ∃ y ∈ S.inodes, y.num = e.2 := by
      rcases e4 with ⟨-, e4⟩ | ⟨-, e4⟩
      · rw [e4] at he; exact h.goal x hx e he
      · rw [e4] at he; exact hg e he
    obtain ⟨k1, q, hq, k2⟩ := hk
    obtain ⟨q2, hq2, e5, -⟩ := to_setE (d := d) (L := L) hq
    exact ⟨k1, q2, hq2, e5.trans k2⟩
  · intro y hy
    obtain ⟨x, hx, e1, e2, e3, e4⟩ := of_setE hy
    rcases e4 with ⟨-, e4⟩ | ⟨-, e4⟩
    · rw [e4]; exact h.up x hx
    · rw [e4]; exact hu
  · intro y hy
    obtain ⟨x, hx, e1, e2, e3, e4⟩ := of_setE hy
    rcases e4 with ⟨-, e4⟩ | ⟨-, e4⟩
    · rw [e4]; exact h.slots x hx
    · rw [e4]; exact hs
  · intro y hy hd; obtain ⟨x, hx, e1, e2, e3, e4⟩ := of_setE hy; rw [e1]; exact h1 x hx (e2 ▸ hd)
  · intro y hy hd; obtain ⟨x, hx, e1, e2, e3, e4⟩ := of_setE hy; rw [e1]; exact h2 x hx (e2 ▸ hd)
  · intro y hy hd; obtain ⟨x, hx, e1, e2, e3, e4⟩ := of_setE hy; rw [e1]; exact h3 x hx (e2 ▸ hd)
  · intro o ho
    obtain ⟨h1, h2, h3, h4, q, hq, h5, h6⟩ := h.ok o ho
    obtain ⟨q2, hq2, e5, e6⟩ := to_setE (d := d) (L := L) hq
    exact ⟨h1, h2, h3, h4, q2, hq2, e5.trans h5, e6.trans h6⟩
end
end Go.Proofs.Ytenlffhoinialaa
end

section
namespace Go.Proofs.Ytenlffhoinialaa
set_option maxHeartbeats 1000000
def ltE (a b : ByteArray × Int) : Bool := nlt a.1 b.1
def insE (p : ByteArray × Int) (L : List (ByteArray × Int)) : List (ByteArray × Int) := insBy ltE p L
def dropE (nm : ByteArray) (L : List (ByteArray × Int)) : List (ByteArray × Int) := L.filter fun e => !decide (e.1 = nm)
theorem insE_up {p : ByteArray × Int} {L : List (ByteArray × Int)} (h : L.Pairwise (fun a b => nlt a.1 b.1 = true)) (hp : ∀ e ∈ L, e.1 ≠ p.1) : (insE p L).Pairwise (fun a b => nlt a.1 b.1 = true) :=
  pair_insBy (lt := ltE) (p := p) (R := fun a b : ByteArray × Int => nlt a.1 b.1 = true) (fun _ _ _ => nlt_trans) h (fun _ _ q => q) fun e he q => by
    rcases nlt_tri p.1 e.1 with q2 | q2 | q2
    · rw [show nlt p.1 e.1 = false from q] at q2; cases q2
    · exact absurd q2.symm (hp e he)
    · exact q2
theorem insE_slots {p : ByteArray × Int} {L : List (ByteArray × Int)} (h : ∀ q, (L.filter fun e => nbucket e.1 == q).length ≤ 4) (hp : (L.filter fun e => nbucket e.1 == nbucket p.1).length < 4) (q : Nat) : ((insE p L).filter fun e => nbucket e.1 == q).length ≤ 4 := by
  unfold insE
  rw [((perm_insBy L).filter _).length_eq, List.filter_cons]
  by_cases e : nbucket p.1 = q
  · subst e
    rw [if_pos (by simp)]
    simp only [List.length_cons]
    omega
  · rw [if_neg (by simpa using e)]
    exact h q
theorem mem_insE {p e : ByteArray × Int} {L : List (ByteArray × Int)} : e ∈ insE p L ↔ e = p ∨ e ∈ L := mem_insBy
theorem count_insE (p : ByteArray × Int) (L : List (ByteArray × Int)) (y : Int) : ((insE p L).map (·.2)).count y = (L.map (·.2)).count y + if p.2 = y then 1 else 0 := by
  unfold insE
  rw [((perm_insBy L).map _).count_eq, List.map_cons, List.count_cons]
  congr 1
  by_cases e : p.2 = y
  · rw [if_pos e, if_pos (by simpa using e)]
  · rw [if_neg e, if_neg (by simpa using e)]
section
variable {S : St} {d : Int}
/-- A name more: of a file. -/
theorem Inv.link (h : Inv S) {x0 : Ino} (hx : x0 ∈ S.inodes) (hd : x0.num = d) (hdir : x0.dir = true) {p : ByteArray × Int} (hn : ncheck p.1 = 0) (hp : ∀ e ∈ x0.ents, e.1 ≠ p.1)
    (hs : (x0.ents.filter fun e => nbucket e.1 == nbucket p.1).length < 4) (hf : ∃ y ∈ S.inodes, y.num = p.2 ∧ y.dir = false) : Inv (setE S d (insE p x0.ents)) := by
  obtain ⟨z, hz, hz1, hz2⟩ := hf
  have hE : ∀ a y, Edge S a y → Edge (setE S d (insE p x0.ents)) a y := by
    intro a y he
    rw [edge_setE hx hd hdir]
    by_cases q : a = d
    · obtain ⟨x, hx1, h1, h2, e, he, h3⟩ := he
      have : x = x0 := h.ino_inj hx1 hx (by omega)
      subst this
      exact .inr ⟨q, e, mem_insE.2 (.inr he), h3⟩
    · exact .inl ⟨q, he⟩
  have hc : ∀ y, (links (setE S d (insE p x0.ents))).count y = (links S).count y + if p.2 = y then 1 else 0 := by
    intro y
    have h1 := count_setE (L := insE p x0.ents) h hx hd hdir y
    rw [count_insE] at h1
    omega
  refine h.setE_ hx hd hdir (fun e he => ?_) (insE_up (h.up _ hx) hp) (insE_slots (h.slots _ hx) hs) (fun e he => ?_) (fun x hx1 h1 h2 => ?_) (fun x hx1 h1 => reach_of hE (h.reach x hx1 h1)) (fun x hx1 h1 => ?_)
  · rcases mem_insE.1 he with rfl | he
    · exact hn
    · exact h.nam _ hx e he
  · rcases mem_insE.1 he with rfl | he
    · refine ⟨fun q => ?_, z, hz, hz1⟩
      obtain ⟨r, hr, h1, h2⟩ := h.root
      have hr' : r ∈ S.inodes := List.mem_of_getElem? hr
      have : z = r := h.ino_inj hz hr' (by omega)
      subst this
      rw [h2] at hz2; cases hz2
    · exact h.goal _ hx e he
  · rw [hc, h.one x hx1 h1 h2, if_neg]
    intro q
    have : x = z := h.ino_inj hx1 hz (by omega)
    subst this
    rw [h1] at hz2; cases hz2
  · rcases h.file x hx1 h1 with q | q
    · left
      have h3 := List.count_pos_iff.2 q
      exact List.count_pos_iff.1 (by rw [hc]; omega)
    · exact .inr q
end
end Go.Proofs.Ytenlffhoinialaa
end

section
namespace Go.Proofs.Ytenlffhoinialaa
set_option maxHeartbeats 1000000
/-- Nothing is wrong, but maybe with n: it has no entries, and nothing leads to it, or it is a file. -/
structure InvB (S : St) (n : Int) : Prop where
  m1 : 1 ≤ S.made.length
  m8 : S.made.length ≤ 8
  mb : ∀ m ∈ S.made, 0 ≤ m ∧ m ≤ 32
  root : ∃ x, S.inodes[0]? = some x ∧ x.num = 1 ∧ x.dir = true
  rise : S.inodes.Pairwise (fun x y => x.num < y.num)
  given : ∀ x ∈ S.inodes, x.num ≠ 1 → Given S.made x.num
  isDir : ∀ x ∈ S.inodes, x.dir = true → x.data.size = 0
  isFile : ∀ x ∈ S.inodes, x.dir = false → x.ents = []
  dat : ∀ x ∈ S.inodes, x.data.size ≤ 256
  nam : ∀ x ∈ S.inodes, ∀ e ∈ x.ents, ncheck e.1 = 0
  goal : ∀ x ∈ S.inodes, ∀ e ∈ x.ents, e.2 ≠ 1 ∧ ∃ y ∈ S.inodes, y.num = e.2
  up : ∀ x ∈ S.inodes, x.ents.Pairwise (fun a b => nlt a.1 b.1 = true)
  slots : ∀ x ∈ S.inodes, ∀ q, (x.ents.filter fun e => nbucket e.1 == q).length ≤ 4
  one : ∀ x ∈ S.inodes, x.dir = true → x.num ≠ 1 → x.num ≠ n → (links S).count x.num = 1
  reach : ∀ x ∈ S.inodes, x.dir = true → x.num ≠ n → Reach S x.num
  file : ∀ x ∈ S.inodes, x.dir = false → x.num ≠ n → x.num ∈ links S ∨ ∃ o ∈ S.opens, o.2.2 = x.num
  ok : ∀ o ∈ S.opens, 0 ≤ o.1 ∧ o.1 < S.made.length ∧ 0 ≤ o.2.1 ∧ o.2.1 < 4 ∧ ∃ y ∈ S.inodes, y.num = o.2.2 ∧ y.dir = false
  osort : S.opens.Pairwise (fun a b => a.1 < b.1 ∨ a.1 = b.1 ∧ a.2.1 < b.2.1)
  n1 : n ≠ 1
  none : ∀ x ∈ S.inodes, x.num = n → x.ents = []
  nd : ∀ x ∈ S.inodes, x.num = n → x.dir = true → n ∉ links S ∧ ∀ o ∈ S.opens, o.2.2 ≠ n
open Classical in
noncomputable def sweepS (S : St) (n : Int) : St := if n ∈ links S ∨ ∃ o ∈ S.opens, o.2.2 = n then S else { S with inodes := S.inodes.filter fun x => !(x.num == n) }
theorem links_filter {n : Int} : ∀ {l : List Ino}, (∀ x ∈ l, x.num = n → x.ents = []) → (l.filter fun x => !(x.num == n)).flatMap linksOf = l.flatMap linksOf
  | [], _ => rfl
  | x :: l, h => by
    have ih := links_filter (l := l) fun y hy => h y (List.mem_cons_of_mem _ hy)
    rw [List.filter_cons, List.flatMap_cons]
    by_cases q : x.num = n
    · rw [if_neg (by simpa using q), ih]
      have : linksOf x = [] := by unfold linksOf; rw [h x (List.mem_cons_self ..) q]; split <;> rfl
      rw [this]; rfl
    · rw [if_pos (by simpa using q), List.flatMap_cons, ih]
theorem InvB.sweep {S : St} {n : Int} (h : InvB S n) : Inv (sweepS S n) := by
  unfold sweepS
  by_cases q : n ∈ links S ∨ ∃ o ∈ S.opens, o.2.2 = n
  · rw [if_pos q]
    have hnd : ∀ x ∈ S.inodes, x.num = n → x.dir = false := fun x hx e => by
      cases hd : x.dir with
      | false => rfl
      | true =>
        obtain ⟨h1, h2⟩ := h.nd x hx e hd
        rcases q with q | ⟨o, ho, q⟩
        · exact absurd q h1
        · exact absurd q (h2 o ho)
    refine ⟨h.m1, h.m8, h.mb, h.root, h.rise, h.given, h.isDir, h.isFile, h.dat, h.nam, h.goal, h.up, h.slots, fun x hx hd h1 => ?_, fun x hx hd => ?_, fun x hx hd => ?_, h.ok, h.osort⟩
    · exact h.one x hx hd h1 fun e => by rw [hnd x hx e] at hd; cases hd
    · exact h.reach x hx hd fun e => by rw [hnd x hx e] at hd; cases hd
    · by_cases e : x.num = n
      · rw [e]; exact q
      · exact h.file x hx hd e
  · rw [if_neg q]
    have hq1 : n ∉ links S := fun e => q (.inl e)
    have hq2 : ∀ o ∈ S.opens, o.2.2 ≠ n := fun o ho e => q (.inr ⟨o, ho, e⟩)
    generalize hS' : ({ S with inodes := S.inodes.filter fun x => !(x.num == n) } : St) = S'
    have hmem : ∀ {x : Ino}, x ∈ S'.inodes ↔ x ∈ S.inodes ∧ x.num ≠ n := by
      intro x; rw [← hS']; show x ∈ S.inodes.filter _ ↔ _
      rw [List.mem_filter]; simp
    have hL : links S' = links S := by rw [← hS']; exact links_filter h.none
    have hO : S'.opens = S.opens := by rw [← hS']
    have hM : S'.made = S.made := by rw [← hS']
    have hE : ∀ a y, Edge S a y → Edge S' a y := by
      rintro a y ⟨x, hx, h1, h2, e, he, h3⟩
      refine ⟨x, hmem.2 ⟨hx, fun q2 => ?_⟩, h1, h2, e, he, h3⟩
      rw [h.none x hx q2] at he; cases he
    refine ⟨hM ▸ h.m1, hM ▸ h.m8, hM ▸ h.mb, ?_, ?_, ?_, ?_, ?_, ?_, ?_, ?_, ?_, ?_, ?_, ?_, ?_, ?_, hO ▸ h.osort⟩
    · obtain ⟨r, h0, h1, h2⟩ := h.root
      refine ⟨r, ?_, h1, h2⟩
      rw [← hS']
      show (S.inodes.filter _)[0]? = some r
      have h3 := h.n1
      cases hl : S.inodes with
      | nil => rw [hl] at h0; cases h0
      | cons z l =>
        rw [hl] at h0
        obtain rfl : z = r := by simpa using h0
        rw [List.filter_cons, if_pos (by simp; omega)]; rfl
    · rw [← hS']; exact h.rise.filter _
    · intro x hx; rw [hM]; exact h.given x (hmem.1 hx).1
    · intro x hx; exact h.isDir x (hmem.1 hx).1
    · intro x hx; exact h.isFile x (hmem.1 hx).1
    · intro x hx; exact h.dat x (hmem.1 hx).1
    · intro x hx; exact h.nam x (hmem.1 hx).1
    · intro x hx e he
      obtain ⟨h1, y, hy, h2⟩ := h.goal x (hmem.1 hx).1 e he
      refine ⟨h1, y, hmem.2 ⟨hy, fun q2 => ?_⟩, h2⟩
      have hd : x.dir = true := by
        cases hd : x.dir with
        | true => rfl
        | false => rw [h.isFile x (hmem.1 hx).1 hd] at he; cases he
      exact hq1 (mem_links.2 ⟨x.num, x, (hmem.1 hx).1, rfl, hd, e, he, h2.symm.trans q2⟩)
    · intro x hx; exact h.up x (hmem.1 hx).1
    · intro x hx; exact h.slots x (hmem.1 hx).1
    · intro x hx hd h1; rw [hL]; exact h.one x (hmem.1 hx).1 hd h1 (hmem.1 hx).2
    · intro x hx hd; exact reach_of hE (h.reach x (hmem.1 hx).1 hd (hmem.1 hx).2)
    · intro x hx hd; rw [hL, hO]; exact h.file x (hmem.1 hx).1 hd (hmem.1 hx).2
    · intro o ho
      rw [hO] at ho
      obtain ⟨h1, h2, h3, h4, y, hy, h5, h6⟩ := h.ok o ho
      exact ⟨h1, hM ▸ h2, h3, h4, y, hmem.2 ⟨hy, fun e => hq2 o ho (h5.symm.trans e)⟩, h5, h6⟩
end Go.Proofs.Ytenlffhoinialaa
end

section
namespace Go.Proofs.Ytenlffhoinialaa
set_option maxHeartbeats 1000000
def closeS (S : St) (c f : Int) : St := { S with opens := S.opens.filter fun o => !(o.1 == c && o.2.1 == f) }
theorem key_inj {l : List (Int × Int × Int)} (h : l.Pairwise (fun a b => a.1 < b.1 ∨ a.1 = b.1 ∧ a.2.1 < b.2.1)) {a b : Int × Int × Int} (ha : a ∈ l) (hb : b ∈ l) (h1 : a.1 = b.1) (h2 : a.2.1 = b.2.1) : a = b := by
  obtain ⟨i, hi, rfl⟩ := List.getElem_of_mem ha
  obtain ⟨j, hj, rfl⟩ := List.getElem_of_mem hb
  rcases Nat.lt_trichotomy i j with q | q | q
  · have := List.pairwise_iff_getElem.1 h i j hi hj q; omega
  · subst q; rfl
  · have := List.pairwise_iff_getElem.1 h j i hj hi q; omega
theorem Inv.ne_root {S : St} (h : Inv S) {y : Ino} (hy : y ∈ S.inodes) (hd : y.dir = false) : y.num ≠ 1 := by
  intro e
  obtain ⟨r, hr, h1, h2⟩ := h.root
  have : y = r := h.ino_inj hy (List.mem_of_getElem? hr) (by omega)
  subst this
  rw [h2] at hd; cases hd
theorem Inv.close {S : St} (h : Inv S) {o : Int × Int × Int} (ho : o ∈ S.opens) : InvB (closeS S o.1 o.2.1) o.2.2 := by
  obtain ⟨-, -, -, -, z, hz, hz1, hz2⟩ := h.ok o ho
  have hm : ∀ {q}, q ∈ (closeS S o.1 o.2.1).opens → q ∈ S.opens := fun hq => (List.mem_filter.1 hq).1
  have hzu : ∀ x ∈ S.inodes, x.num = o.2.2 → x = z := fun x hx e => h.ino_inj hx hz (by omega)
  refine ⟨h.m1, h.m8, h.mb, h.root, h.rise, h.given, h.isDir, h.isFile, h.dat, h.nam, h.goal, h.up, h.slots, fun x hx hd h1 _ => h.one x hx hd h1,
    fun x hx hd _ => reach_of (S := S) (S' := closeS S o.1 o.2.1) (fun _ _ q => q) (h.reach x hx hd), fun x hx hd hn => ?_, fun q hq => h.ok q (hm hq), h.osort.filter _, hz1 ▸ h.ne_root hz hz2,
    fun x hx e => h.isFile x hx (by rw [hzu x hx e]; exact hz2), fun x hx e hd => by rw [hzu x hx e, hz2] at hd; cases hd⟩
  rcases h.file x hx hd with q | ⟨q, hq, e⟩
  · exact .inl q
  · refine .inr ⟨q, List.mem_filter.2 ⟨hq, ?_⟩, e⟩
    by_cases h1 : q.1 = o.1
    · by_cases h2 : q.2.1 = o.2.1
      · have := key_inj h.osort hq ho h1 h2
        subst this
        exact absurd e.symm hn
      · simp [h2]
    · simp [h1]
end Go.Proofs.Ytenlffhoinialaa
end

section
namespace Go.Proofs.Ytenlffhoinialaa
set_option maxHeartbeats 1000000
theorem name_inj {L : List (ByteArray × Int)} (h : L.Pairwise (fun a b => nlt a.1 b.1 = true)) {a b : ByteArray × Int} (ha : a ∈ L) (hb : b ∈ L) (e : a.1 = b.1) : a = b := by
  obtain ⟨i, hi, rfl⟩ := List.getElem_of_mem ha
  obtain ⟨j, hj, rfl⟩ := List.getElem_of_mem hb
  rcases Nat.lt_trichotomy i j with q | q | q
  · have := List.pairwise_iff_getElem.1 h i j hi hj q
    rw [e, nlt_irrefl] at this; cases this
  · subst q; rfl
  · have := List.pairwise_iff_getElem.1 h j i hj hi q
    rw [e, nlt_irrefl] at this; cases this
theorem mem_dropE {nm : ByteArray} {L : List (ByteArray × Int)} {e : ByteArray × Int} : e ∈ dropE nm L ↔ e ∈ L ∧ e.1 ≠ nm := by
  unfold dropE
  rw [List.mem_filter]; simp
theorem count_dropE {L : List (ByteArray × Int)} (h : L.Pairwise (fun a b => nlt a.1 b.1 = true)) {p : ByteArray × Int} (hp : p ∈ L) (y : Int) : ((dropE p.1 L).map (·.2)).count y + (if p.2 = y then 1 else 0) = (L.map (·.2)).count y := by
  induction L with
  | nil => cases hp
  | cons a l ih =>
    obtain ⟨h1, h2⟩ := List.pairwise_cons.1 h
    unfold dropE
    rw [List.filter_cons]
    rcases List.mem_cons.1 hp with rfl | hp2
    · rw [if_neg (by simp), List.map_cons, List.count_cons]
      have : (l.filter fun e => !decide (e.1 = p.1)) = l := List.filter_eq_self.2 fun e he => by
        have := h1 e he
        have : e.1 ≠ p.1 := fun q => by rw [q, nlt_irrefl] at this; cases this
        simpa using this
      rw [this]
      congr 1
      by_cases q : p.2 = y
      · rw [if_pos q, if_pos (by simpa using q)]
      · rw [if_neg q, if_neg (by simpa using q)]
    · have hne : a.1 ≠ p.1 := fun q => by
        have := h1 p hp2
        rw [q, nlt_irrefl] at this; cases this
      rw [if_pos (by simpa using hne), List.map_cons, List.map_cons, List.count_cons, List.count_cons]
      have := ih h2 hp2
      unfold dropE at this
      omega
end Go.Proofs.Ytenlffhoinialaa
end

section
namespace Go.Proofs.Ytenlffhoinialaa
set_option maxHeartbeats 1000000
section
variable {S : St} {d : Int}
/-- Every edge but into n stays. -/
theorem edge_drop (h : Inv S) {x0 : Ino} (hx : x0 ∈ S.inodes) (hd : x0.num = d) (hdir : x0.dir = true) {p : ByteArray × Int} (hp : p ∈ x0.ents) {a y : Int} (he : Edge S a y) (hy : y ≠ p.2) : Edge (setE S d (dropE p.1 x0.ents)) a y := by
  rw [edge_setE hx hd hdir]
  by_cases q : a = d
  · obtain ⟨x, hx1, h1, h2, e, he, h3⟩ := he
    have : x = x0 := h.ino_inj hx1 hx (by omega)
    subst this
    refine .inr ⟨q, e, mem_dropE.2 ⟨he, fun q2 => ?_⟩, h3⟩
    have := name_inj (h.up _ hx) he hp q2
    subst this
    exact hy h3.symm
  · exact .inl ⟨q, he⟩
theorem Inv.drop (h : Inv S) {x0 : Ino} (hx : x0 ∈ S.inodes) (hd : x0.num = d) (hdir : x0.dir = true) {p : ByteArray × Int} (hp : p ∈ x0.ents) {y0 : Ino} (hy : y0 ∈ S.inodes) (hy1 : y0.num = p.2) (hy2 : y0.ents = []) : InvB (setE S d (dropE p.1 x0.ents)) p.2 := by
  have hg := h.goal _ hx p hp
  have hc : ∀ y, (links (setE S d (dropE p.1 x0.ents))).count y + (if p.2 = y then 1 else 0) = (links S).count y := by
    intro y
    have h1 := count_setE (L := dropE p.1 x0.ents) h hx hd hdir y
    have h2 := count_dropE (h.up _ hx) hp y
    omega
  have hne : y0.num ≠ d := fun e => by
    have : y0 = x0 := h.ino_inj hy hx (by omega)
    subst this
    rw [hy2] at hp; cases hp
  have hr : ∀ z, Reach S z → z ≠ p.2 → Reach (setE S d (dropE p.1 x0.ents)) z := by
    intro z hz
    induction hz with
    | root => exact fun _ => .root
    | step _ he ih =>
      intro hz2
      refine .step (ih fun e => ?_) (edge_drop h hx hd hdir hp he hz2)
      obtain ⟨x, hx1, h1, h2, q, hq, h3⟩ := he
      have : x = y0 := h.ino_inj hx1 hy (by omega)
      subst this
      rw [hy2] at hq; cases hq
  have hL : ∀ x ∈ S.inodes, x.num ≠ p.2 → (links (setE S d (dropE p.1 x0.ents))).count x.num = (links S).count x.num := fun x _ q => by
    have := hc x.num
    rw [if_neg (fun e => q e.symm)] at this
    omega
  have hT : ∀ {y : Ino}, y ∈ (setE S d (dropE p.1 x0.ents)).inodes → y.num = p.2 → ∃ x ∈ S.inodes, x = y0 ∧ y.dir = x.dir ∧ y.ents = [] := by
    intro y hy3 e
    obtain ⟨x, hx1, e1, e2, e3, e4⟩ := of_setE hy3
    have : x = y0 := h.ino_inj hx1 hy (by omega)
    subst this
    refine ⟨x, hx1, rfl, e2, ?_⟩
    rcases e4 with ⟨_, e4⟩ | ⟨e4, _⟩
    · rw [e4, hy2]
    · exact absurd e4 hne
  refine ⟨h.m1, h.m8, h.mb, root_map (fun _ => ⟨rfl, rfl⟩) h.root, rise_map (fun _ => rfl) h.rise, ?_, ?_, ?_, ?_, ?_, ?_, ?_, ?_, ?_, ?_, ?_, ?_, h.osort, hg.1, ?_, ?_⟩
  · intro y hy; obtain ⟨x, hx, e1, e2, e3, e4⟩ := of_setE hy; rw [e1]; exact h.given x hx
  · intro y hy hd; obtain ⟨x, hx, e1, e2, e3, e4⟩ := of_setE hy; rw [e3]; exact h.isDir x hx (e2 ▸ hd)
  · intro y hy hf
    obtain ⟨x, hx1, e1, e2, e3, e4⟩ := of_setE hy
    rcases e4 with ⟨-, e4⟩ | ⟨e4, -⟩
    · rw [e4]; exact h.isFile x hx1 (e2 ▸ hf)
    · have : x = x0 := h.ino_inj hx1 hx (by omega)
      subst this
      rw [e2, hdir] at hf; cases hf
  · intro y hy; obtain ⟨x, hx, e1, e2, e3, e4⟩ := of_setE hy; rw [e3]; exact h.dat x hx
  · intro y hy e he
    obtain ⟨x, hx1, e1, e2, e3, e4⟩ := of_setE hy
    rcases e4 with ⟨-, e4⟩ | ⟨-, e4⟩
    · rw [e4] at he; exact h.nam x hx1 e he
    · rw [e4] at he; exact h.nam x0 hx e (mem_dropE.1 he).1
  · intro y hy e he
    obtain ⟨x, hx1, e1, e2, e3, e4⟩ := of_setE hy
    have hk : e.2 ≠ 1 ∧ ∃ y ∈ S.inodes, y.num = e.2 := by
      rcases e4 with ⟨-, e4⟩ | ⟨-, e4⟩
      · rw [e4] at he; exact h.goal x hx1 e he
      · rw [e4] at he; exact h.goal x0 hx e (mem_dropE.1 he).1
    obtain ⟨k1, q, hq, k2⟩ := hk
    obtain ⟨q2, hq2, e5, -⟩ := to_setE (d := d) (L := dropE p.1 x0.ents) hq
    exact ⟨k1, q2, hq2, e5.trans k2⟩
  · intro y hy
    obtain ⟨x, hx1, e1, e2, e3, e4⟩ := of_setE hy
    rcases e4 with ⟨-, e4⟩ | ⟨-, e4⟩
    · rw [e4]; exact h.up x hx1
    · rw [e4]; exact (h.up x0 hx).filter _
  · intro y hy q
    obtain ⟨x, hx1, e1, e2, e3, e4⟩ := of_setE hy
    rcases e4 with ⟨-, e4⟩ | ⟨-, e4⟩
    · rw [e4]; exact h.slots x hx1 q
    · rw [e4]; exact Nat.le_trans ((List.filter_sublist (l := x0.ents)).filter _).length_le (h.slots x0 hx q)
  · intro y hy hd h1 h2; obtain ⟨x, hx, e1, e2, e3, e4⟩ := of_setE hy; rw [e1, hL x hx (e1 ▸ h2)]; exact h.one x hx (e2 ▸ hd) (e1 ▸ h1)
  · intro y hy hd h1; obtain ⟨x, hx, e1, e2, e3, e4⟩ := of_setE hy; rw [e1]; exact hr _ (h.reach x hx (e2 ▸ hd)) (e1 ▸ h1)
  · intro y hy hd h1
    obtain ⟨x, hx, e1, e2, e3, e4⟩ := of_setE hy
    rw [e1]
    rcases h.file x hx (e2 ▸ hd) with q | q
    · exact .inl (List.count_pos_iff.1 (by rw [hL x hx (e1 ▸ h1)]; exact List.count_pos_iff.2 q))
    · exact .inr q
  · intro o ho
    obtain ⟨h1, h2, h3, h4, q, hq, h5, h6⟩ := h.ok o ho
    obtain ⟨q2, hq2, e5, e6⟩ := to_setE (d := d) (L := dropE p.1 x0.ents) hq
    exact ⟨h1, h2, h3, h4, q2, hq2, e5.trans h5, e6.trans h6⟩
  · intro y hy e; obtain ⟨x, _, _, _, e2⟩ := hT hy e; exact e2
  · intro y hy3 e hdy
    obtain ⟨x, hx1, rfl, e2, _⟩ := hT hy3 e
    rw [e2] at hdy
    refine ⟨fun q => ?_, fun o ho q => ?_⟩
    · have h1 := List.count_pos_iff.2 q
      have h2 := h.one x hx1 hdy (by rw [hy1]; exact hg.1)
      have h3 := hc p.2
      rw [if_pos rfl] at h3
      rw [hy1] at h2
      omega
    · obtain ⟨-, -, -, -, z, hz, h5, h6⟩ := h.ok o ho
      have : z = x := h.ino_inj hz hx1 (by omega)
      subst this
      rw [h6] at hdy; cases hdy
end
end Go.Proofs.Ytenlffhoinialaa
end

section
namespace Go.Proofs.Ytenlffhoinialaa
set_option maxHeartbeats 1000000
def ltN (a b : Ino) : Bool := decide (a.num < b.num)
def makeS (S : St) (c : Nat) (d : Int) (L : List (ByteArray × Int)) (x : Ino) : St := { inodes := insBy ltN x (setE S d L).inodes, opens := S.opens, made := S.made.set c (S.mad c + 1) }
theorem given_more {M : List Int} {c : Nat} {x : Int} (hc : c < M.length) (h : Given M x) : Given (M.set c (M.getD c 0 + 1)) x := by
  obtain ⟨h1, h2, h3⟩ := h
  refine ⟨h1, by rw [List.length_set]; exact h2, ?_⟩
  rw [List.getD_eq_getElem?_getD, List.getElem?_set]
  by_cases q : c = ((x - 2) % 8).toNat
  · rw [if_pos q, if_pos (by omega)]
    show _ < M.getD c 0 + 1
    rw [← q] at h3
    omega
  · rw [if_neg q, ← List.getD_eq_getElem?_getD]
    exact h3
section
variable {S : St} {d : Int}
theorem Inv.fresh (h : Inv S) {c : Nat} (hc : c < S.made.length) : ∀ x ∈ S.inodes, x.num ≠ 2 + (c : Int) + 8 * S.mad c := by
  intro x hx e
  have h8 := h.m8
  have h0 := (h.mb _ (getD_mem (d := 0) hc)).1
  have h0 : 0 ≤ S.mad c := h0
  obtain ⟨h1, h2, h3⟩ := h.given x hx (by omega)
  have e1 : ((x.num - 2) % 8).toNat = c := by omega
  rw [e1] at h3
  have h3 : (x.num - 2) / 8 < S.mad c := h3
  omega
theorem Inv.make (h : Inv S) {x0 : Ino} (hx : x0 ∈ S.inodes) (hd : x0.num = d) (hdir : x0.dir = true) {c : Nat} (hc : c < S.made.length) (h32 : S.mad c < 32) {nm : ByteArray} {num : Int} (hnum : num = 2 + (c : Int) + 8 * S.mad c) (hn : ncheck nm = 0) (hp : ∀ e ∈ x0.ents, e.1 ≠ nm)
    (hs : (x0.ents.filter fun e => nbucket e.1 == nbucket nm).length < 4) (dr : Bool) : Inv (makeS S c d (insE (nm, num) x0.ents) ⟨num, dr, [], nm0⟩) := by
  generalize hS' : makeS S c d (insE (nm, num) x0.ents) ⟨num, dr, [], nm0⟩ = S'
  have hfr := h.fresh hc
  rw [← hnum] at hfr
  have hmc := h.mb _ (getD_mem (d := 0) hc)
  have hmc : 0 ≤ S.mad c ∧ S.mad c ≤ 32 := hmc
  have hI : S'.inodes = insBy ltN ⟨num, dr, [], nm0⟩ (setE S d (insE (nm, num) x0.ents)).inodes := by rw [← hS']; rfl
  have hO : S'.opens = S.opens := by rw [← hS']; rfl
  have hM : S'.made = S.made.set c (S.mad c + 1) := by rw [← hS']; rfl
  have hmem : ∀ {y : Ino}, y ∈ S'.inodes ↔ y = ⟨num, dr, [], nm0⟩ ∨ y ∈ (setE S d (insE (nm, num) x0.ents)).inodes := by intro y; rw [hI]; exact mem_insBy
  have hE1 : ∀ a y, Edge S a y → Edge S' a y := by
    intro a y he
    have : Edge (setE S d (insE (nm, num) x0.ents)) a y := by
      rw [edge_setE hx hd hdir]
      by_cases q : a = d
      · obtain ⟨x, hx1, h1, h2, e, he, h3⟩ := he
        have : x = x0 := h.ino_inj hx1 hx (by omega)
        subst this
        exact .inr ⟨q, e, mem_insE.2 (.inr he), h3⟩
      · exact .inl ⟨q, he⟩
    obtain ⟨x, hx1, h1⟩ := this
    exact ⟨x, hmem.2 (.inr hx1), h1⟩
  have hE2 : Edge S' d num := by
    have : Edge (setE S d (insE (nm, num) x0.ents)) d num := (edge_setE hx hd hdir).2 (.inr ⟨rfl, _, mem_insE.2 (.inl rfl), rfl⟩)
    obtain ⟨x, hx1, h1⟩ := this
    exact ⟨x, hmem.2 (.inr hx1), h1⟩
  have hc2 : ∀ y, (links S').count y = (links S).count y + if num = y then 1 else 0 := by
    intro y
    have h1 := count_setE (L := insE (nm, num) x0.ents) h hx hd hdir y
    rw [count_insE] at h1
    have h2 : (links S').count y = (links (setE S d (insE (nm, num) x0.ents))).count y := by
      unfold links
      rw [hI, ((perm_insBy _).flatMap_right linksOf).count_eq, List.flatMap_cons, List.count_append]
      have : (linksOf (⟨num, dr, [], nm0⟩ : Ino)).count y = 0 := by unfold linksOf; cases dr <;> rfl
      rw [this, Nat.zero_add]
    rw [h2]
    simp only at h1
    omega
  have hz : (links S).count num = 0 := by
    refine List.count_eq_zero.2 fun q => ?_
    obtain ⟨a, x, hx1, -, -, e, he, h3⟩ := mem_links.1 q
    obtain ⟨-, y, hy, h4⟩ := h.goal x hx1 e he
    exact hfr y hy (h4.trans h3)
  have hr0 : Reach S' num := .step (reach_of hE1 (hd ▸ h.reach x0 hx hdir)) hE2
  have hc0 : (c : Int) < S.made.length := by omega
  have hnew : Given S'.made num := by
    rw [hM]
    have e1 : ((num - 2) % 8).toNat = c := by have := h.m8; omega
    refine ⟨by omega, by rw [List.length_set]; have := h.m8; omega, ?_⟩
    rw [e1, List.getD_eq_getElem?_getD, List.getElem?_set, if_pos rfl, if_pos hc]
    show _ < S.mad c + 1
    have := h.m8
    omega
  have hroot : ∃ x, S'.inodes[0]? = some x ∧ x.num = 1 ∧ x.dir = true := by
    obtain ⟨r, g0, g1, g2⟩ := root_map (S := S) (d := d) (f := fun x => { x with ents := insE (nm, num) x0.ents }) (fun _ => ⟨rfl, rfl⟩) h.root
    refine ⟨r, ?_, g1, g2⟩
    rw [hI]
    show (insBy ltN _ (mapIno S d fun x => { x with ents := insE (nm, num) x0.ents }).inodes)[0]? = _
    cases hl : (mapIno S d fun x => { x with ents := insE (nm, num) x0.ents }).inodes with
    | nil => rw [hl] at g0; cases g0
    | cons z l =>
      rw [hl] at g0
      obtain rfl : z = r := by simpa using g0
      rw [insBy_head (by unfold ltN; simp; omega)]; rfl
  have hrise : S'.inodes.Pairwise (fun x y => x.num < y.num) := by
    rw [hI]
    refine pair_insBy (lt := ltN) (R := fun x y : Ino => x.num < y.num) (fun _ _ _ => Int.lt_trans) (rise_map (fun _ => rfl) h.rise) (fun e _ q => by unfold ltN at q; simpa using q) fun e he q => ?_
    obtain ⟨x, hx1, e1, -⟩ := of_setE he
    have := hfr x hx1
    have q2 : ¬ (num < e.num) := of_decide_eq_false q
    show e.num < num
    omega
  have hp2 : ∀ e ∈ x0.ents, e.1 ≠ ((nm, num) : ByteArray × Int).1 := hp
  have hne1 : num ≠ 1 := by omega
  refine ⟨by rw [hM, List.length_set]; exact h.m1, by rw [hM, List.length_set]; exact h.m8, ?_, hroot, hrise, ?_, ?_, ?_, ?_, ?_, ?_, ?_, ?_, ?_, ?_, ?_, ?_, by rw [hO]; exact h.osort⟩
  · intro m hm
    rw [hM] at hm
    rcases List.mem_or_eq_of_mem_set hm with q | q
    · exact h.mb m q
    · omega
  · intro y hy hy1
    rcases hmem.1 hy with rfl | hy
    · exact hnew
    · obtain ⟨x, hx1, e1, -⟩ := of_setE hy
      rw [e1, hM]
      exact given_more hc (h.given x hx1 (e1 ▸ hy1))
  · intro y hy hdy
    rcases hmem.1 hy with rfl | hy
    · rfl
    · obtain ⟨x, hx1, e1, e2, e3, e4⟩ := of_setE hy
      rw [e3]; exact h.isDir x hx1 (e2 ▸ hdy)
  · intro y hy hdy
    rcases hmem.1 hy with rfl | hy
    · rfl
    · obtain ⟨x, hx1, e1, e2, e3, e4⟩ := of_setE hy
      rcases e4 with ⟨-, e4⟩ | ⟨e4, -⟩
      · rw [e4]; exact h.isFile x hx1 (e2 ▸ hdy)
      · have : x = x0 := h.ino_inj hx1 hx (by omega)
        subst this
        rw [e2, hdir] at hdy; cases hdy
  · intro y hy
    rcases hmem.1 hy with rfl | hy
    · exact Nat.zero_le _
    · obtain ⟨x, hx1, e1, e2, e3, e4⟩ := of_setE hy
      rw [e3]; exact h.dat x hx1
  · intro y hy e he
    rcases hmem.1 hy with rfl | hy
    · cases he
    · obtain ⟨x, hx1, e1, e2, e3, e4⟩ := of_setE hy
      rcases e4 with ⟨-, e4⟩ | ⟨-, e4⟩
      · rw [e4] at he; exact h.nam x hx1 e he
      · rw [e4] at he
        rcases mem_insE.1 he with rfl | he
        · exact hn
        · exact h.nam x0 hx e he
  · intro y hy e he
    have hold : (e.2 ≠ 1 ∧ ∃ y ∈ S.inodes, y.num = e.2) → e.2 ≠ 1 ∧ ∃ y ∈ S'.inodes, y.num = e.2 := by
      rintro ⟨k1, q, hq, k2⟩
      obtain ⟨q2, hq2, e5, -⟩ := to_setE (d := d) (L := insE (nm, num) x0.ents) hq
      exact ⟨k1, q2, hmem.2 (.inr hq2), e5.trans k2⟩
    rcases hmem.1 hy with rfl | hy
    · cases he
    · obtain ⟨x, hx1, e1, e2, e3, e4⟩ := of_setE hy
      rcases e4 with ⟨-, e4⟩ | ⟨-, e4⟩
      · rw [e4] at he; exact hold (h.goal x hx1 e he)
      · rw [e4] at he
        rcases mem_insE.1 he with rfl | he
        · exact ⟨hne1, _, hmem.2 (.inl rfl), rfl⟩
        · exact hold (h.goal x0 hx e he)
  · intro y hy
    rcases hmem.1 hy with rfl | hy
    · exact .nil
    · obtain ⟨x, hx1, e1, e2, e3, e4⟩ := of_setE hy
      rcases e4 with ⟨-, e4⟩ | ⟨-, e4⟩
      · rw [e4]; exact h.up x hx1
      · rw [e4]; exact insE_up (h.up x0 hx) hp2
  · intro y hy q
    rcases hmem.1 hy with rfl | hy
    · exact Nat.zero_le _
    · obtain ⟨x, hx1, e1, e2, e3, e4⟩ := of_setE hy
      rcases e4 with ⟨-, e4⟩ | ⟨-, e4⟩
      · rw [e4]; exact h.slots x hx1 q
      · rw [e4]; exact insE_slots (h.slots x0 hx) hs q
  · intro y hy hdy hy1
    rw [hc2]
    rcases hmem.1 hy with rfl | hy
    · rw [if_pos rfl]
      show (links S).count num + 1 = 1
      omega
    · obtain ⟨x, hx1, e1, e2, e3, e4⟩ := of_setE hy
      rw [e1, h.one x hx1 (e2 ▸ hdy) (e1 ▸ hy1), if_neg (fun q => hfr x hx1 q.symm)]
  · intro y hy hdy
    rcases hmem.1 hy with rfl | hy
    · exact hr0
    · obtain ⟨x, hx1, e1, e2, e3, e4⟩ := of_setE hy
      rw [e1]; exact reach_of hE1 (h.reach x hx1 (e2 ▸ hdy))
  · intro y hy hdy
    rcases hmem.1 hy with rfl | hy
    · exact .inl (mem_links.2 ⟨d, hE2⟩)
    · obtain ⟨x, hx1, e1, e2, e3, e4⟩ := of_setE hy
      rw [e1, hO]
      rcases h.file x hx1 (e2 ▸ hdy) with q | q
      · obtain ⟨a, ha⟩ := mem_links.1 q
        exact .inl (mem_links.2 ⟨a, hE1 _ _ ha⟩)
      · exact .inr q
  · intro o ho
    rw [hO] at ho
    obtain ⟨h1, h2, h3, h4, q, hq, h5, h6⟩ := h.ok o ho
    obtain ⟨q2, hq2, e5, e6⟩ := to_setE (d := d) (L := insE (nm, num) x0.ents) hq
    exact ⟨h1, by rw [hM, List.length_set]; exact h2, h3, h4, q2, hmem.2 (.inr hq2), e5.trans h5, e6.trans h6⟩
end
end Go.Proofs.Ytenlffhoinialaa
end

section
namespace Go.Proofs.Ytenlffhoinialaa
set_option maxHeartbeats 1000000
inductive From (S : St) (n : Int) : Int → Prop where
  | refl : From S n n
  | step {d y : Int} : From S n d → Edge S d y → From S n y
theorem count_setE' {S : St} {d : Int} {L : List (ByteArray × Int)} (hr : S.inodes.Pairwise (fun x y => x.num < y.num)) {x0 : Ino} (hx : x0 ∈ S.inodes) (hd : x0.num = d) (hdir : x0.dir = true) (y : Int) : (links (setE S d L)).count y + (x0.ents.map (·.2)).count y = (links S).count y + (L.map (·.2)).count y := by
  rw [count_links, count_links]
  have e : ((setE S d L).inodes.map fun x => (linksOf x).count y) = S.inodes.map fun x => (linksOf (if x.num = d then { x with ents := L } else x)).count y := by
    unfold setE mapIno
    rw [List.map_map]; rfl
  rw [e]
  have h1 := sum_turn (h := fun x => (linksOf x).count y) (h' := fun x => (linksOf (if x.num = d then { x with ents := L } else x)).count y) hr hx hd (fun x _ q => by simp only [if_neg q])
  have e1 : linksOf x0 = x0.ents.map (·.2) := by unfold linksOf; rw [if_pos hdir]
  have e2 : linksOf (if x0.num = d then { x0 with ents := L } else x0) = L.map (·.2) := by
    rw [if_pos hd]; unfold linksOf; rw [if_pos (show ({ x0 with ents := L } : Ino).dir = true from hdir)]
  rw [e1, e2] at h1
  exact h1
section
variable {S : St} {d t : Int}
theorem Inv.rename (h : Inv S) {x0 : Ino} (hx : x0 ∈ S.inodes) (hd : x0.num = d) (hdir : x0.dir = true) {p : ByteArray × Int} (hp : p ∈ x0.ents) {x1 : Ino} (hx1 : x1 ∈ (setE S d (dropE p.1 x0.ents)).inodes) (ht : x1.num = t) (hdir1 : x1.dir = true)
    {nm : ByteArray} (hn : ncheck nm = 0) (hf : ∀ e ∈ x1.ents, e.1 ≠ nm) (hs : (x1.ents.filter fun e => nbucket e.1 == nbucket nm).length < 4) (hno : ¬ From S p.2 t) :
    Inv (setE (setE S d (dropE p.1 x0.ents)) t (insE (nm, p.2) x1.ents)) := by
  generalize hS1 : setE S d (dropE p.1 x0.ents) = S1 at hx1
  have hr1 : S1.inodes.Pairwise (fun x y => x.num < y.num) := by rw [← hS1]; exact rise_map (fun _ => rfl) h.rise
  generalize hS2 : setE S1 t (insE (nm, p.2) x1.ents) = S2
  have hO : S2.opens = S.opens := by rw [← hS2, ← hS1]; rfl
  have hM : S2.made = S.made := by rw [← hS2, ← hS1]; rfl
  have hg := h.goal _ hx p hp
  have hsub : ∀ {z : Ino}, z ∈ S1.inodes → ∃ x ∈ S.inodes, z.num = x.num ∧ z.dir = x.dir ∧ z.data = x.data ∧ z.ents.Sublist x.ents := by
    intro z hz
    rw [← hS1] at hz
    obtain ⟨x, hx2, e1, e2, e3, e4⟩ := of_setE hz
    refine ⟨x, hx2, e1, e2, e3, ?_⟩
    rcases e4 with ⟨-, e4⟩ | ⟨e4, e5⟩
    · rw [e4]; exact List.Sublist.refl _
    · have : x = x0 := h.ino_inj hx2 hx (by omega)
      subst this
      rw [e5]; exact List.filter_sublist
  have hto1 : ∀ {x : Ino}, x ∈ S.inodes → ∃ y ∈ S1.inodes, y.num = x.num ∧ y.dir = x.dir := by
    intro x hx2; rw [← hS1]; exact to_setE hx2
  have hto : ∀ {x : Ino}, x ∈ S.inodes → ∃ y ∈ S2.inodes, y.num = x.num ∧ y.dir = x.dir := by
    intro x hx2
    obtain ⟨y, hy, e1, e2⟩ := hto1 hx2
    obtain ⟨z, hz, e3, e4⟩ := to_setE (d := t) (L := insE (nm, p.2) x1.ents) hy
    exact ⟨z, hS2 ▸ hz, e3.trans e1, e4.trans e2⟩
  obtain ⟨x1o, hx1o, f1, f2, f3, f4⟩ := hsub hx1
  have hof : ∀ {z : Ino}, z ∈ S2.inodes → ∃ x ∈ S.inodes, z.num = x.num ∧ z.dir = x.dir ∧ z.data = x.data ∧ (z.ents.Sublist x.ents ∨ (x = x1o ∧ z.ents = insE (nm, p.2) x1.ents)) := by
    intro z hz
    rw [← hS2] at hz
    obtain ⟨y, hy, e1, e2, e3, e4⟩ := of_setE hz
    obtain ⟨x, hx2, g1, g2, g3, g4⟩ := hsub hy
    refine ⟨x, hx2, e1.trans g1, e2.trans g2, e3.trans g3, ?_⟩
    rcases e4 with ⟨-, e4⟩ | ⟨e4, e5⟩
    · rw [e4]; exact .inl g4
    · exact .inr ⟨h.ino_inj hx2 hx1o (by omega), e5⟩
  have hE1 : ∀ a y, Edge S a y → y ≠ p.2 → Edge S1 a y := fun a y he hy => by rw [← hS1]; exact edge_drop h hx hd hdir hp he hy
  have hin : ∀ {a b : Ino}, a ∈ S1.inodes → b ∈ S1.inodes → a.num = b.num → a = b := by
    intro a b ha hb e
    obtain ⟨i, hi, rfl⟩ := List.getElem_of_mem ha
    obtain ⟨j, hj, rfl⟩ := List.getElem_of_mem hb
    rcases Nat.lt_trichotomy i j with q | q | q
    · have := List.pairwise_iff_getElem.1 hr1 i j hi hj q; omega
    · subst q; rfl
    · have := List.pairwise_iff_getElem.1 hr1 j i hj hi q; omega
  have hE2 : ∀ a y, Edge S1 a y → Edge S2 a y := by
    intro a y he
    rw [← hS2, edge_setE hx1 ht hdir1]
    by_cases q : a = t
    · obtain ⟨x, hx2, h1, h2, e, he, h3⟩ := he
      have : x = x1 := hin hx2 hx1 (by omega)
      subst this
      exact .inr ⟨q, e, mem_insE.2 (.inr he), h3⟩
    · exact .inl ⟨q, he⟩
  have hEn : Edge S2 t p.2 := by
    rw [← hS2, edge_setE hx1 ht hdir1]
    exact .inr ⟨rfl, _, mem_insE.2 (.inl rfl), rfl⟩
  have hA : ∀ x, Reach S x → ¬ From S p.2 x → Reach S2 x := by
    intro x hr
    induction hr with
    | root => exact fun _ => .root
    | step _ he ih =>
      intro hnf
      refine .step (ih fun q => hnf (q.step he)) (hE2 _ _ (hE1 _ _ he fun q => hnf ?_))
      subst q
      exact .refl
  have hB : Reach S2 p.2 := .step (hA t (by rw [← ht, f1]; exact h.reach x1o hx1o (by rw [← f2]; exact hdir1)) hno) hEn
  have hC : ∀ x, From S p.2 x → Reach S2 x := by
    intro x hr
    induction hr with
    | refl => exact hB
    | @step a y _ he ih =>
      by_cases q : y = p.2
      · rw [q]; exact hB
      · exact .step ih (hE2 _ _ (hE1 _ _ he q))
  have hR : ∀ x, Reach S x → Reach S2 x := fun x hr => by
    by_cases q : From S p.2 x
    · exact hC x q
    · exact hA x hr q
  have hc : ∀ y, (links S2).count y = (links S).count y := by
    intro y
    have h1 := count_setE' (L := dropE p.1 x0.ents) h.rise hx hd hdir y
    have h2 := count_dropE (h.up _ hx) hp y
    have h3 := count_setE' (L := insE (nm, p.2) x1.ents) hr1 hx1 ht hdir1 y
    rw [count_insE] at h3
    rw [hS1] at h1
    rw [hS2] at h3
    simp only at h3
    omega
  have hroot : ∃ x, S2.inodes[0]? = some x ∧ x.num = 1 ∧ x.dir = true := by
    rw [← hS2, ← hS1]
    exact root_map (fun _ => ⟨rfl, rfl⟩) (root_map (fun _ => ⟨rfl, rfl⟩) h.root)
  refine ⟨by rw [hM]; exact h.m1, by rw [hM]; exact h.m8, by rw [hM]; exact h.mb, hroot, by rw [← hS2]; exact rise_map (fun _ => rfl) hr1, ?_, ?_, ?_, ?_, ?_, ?_, ?_, ?_, ?_, ?_, ?_, ?_, by rw [hO]; exact h.osort⟩
  · intro y hy; obtain ⟨x, hx, e1, e2, e3, e4⟩ := hof hy; rw [e1, hM]; exact h.given x hx
  · intro y hy hd; obtain ⟨x, hx, e1, e2, e3, e4⟩ := hof hy; rw [e3]; exact h.isDir x hx (e2 ▸ hd)
  · intro y hy hf
    obtain ⟨x, hx2, e1, e2, e3, e4⟩ := hof hy
    rcases e4 with e4 | ⟨e4, -⟩
    · have := h.isFile x hx2 (e2 ▸ hf)
      rw [this] at e4
      exact List.sublist_nil.1 e4
    · rw [e2, e4, ← f2, hdir1] at hf; cases hf
  · intro y hy; obtain ⟨x, hx, e1, e2, e3, e4⟩ := hof hy; rw [e3]; exact h.dat x hx
  · intro y hy e he
    obtain ⟨x, hx2, e1, e2, e3, e4⟩ := hof hy
    rcases e4 with e4 | ⟨-, e4⟩
    · exact h.nam x hx2 e (e4.subset he)
    · rw [e4] at he
      rcases mem_insE.1 he with rfl | he
      · exact hn
      · exact h.nam x1o hx1o e (f4.subset he)
  · intro y hy e he
    obtain ⟨x, hx2, e1, e2, e3, e4⟩ := hof hy
    have hk : e.2 ≠ 1 ∧ ∃ y ∈ S.inodes, y.num = e.2 := by
      rcases e4 with e4 | ⟨-, e4⟩
      · exact h.goal x hx2 e (e4.subset he)
      · rw [e4] at he
        rcases mem_insE.1 he with rfl | he
        · exact hg
        · exact h.goal x1o hx1o e (f4.subset he)
    obtain ⟨k1, q, hq, k2⟩ := hk
    obtain ⟨q2, hq2, e5, -⟩ := hto hq
    exact ⟨k1, q2, hq2, e5.trans k2⟩
  · intro y hy
    obtain ⟨x, hx2, e1, e2, e3, e4⟩ := hof hy
    rcases e4 with e4 | ⟨-, e4⟩
    · exact (h.up x hx2).sublist e4
    · rw [e4]; exact insE_up ((h.up x1o hx1o).sublist f4) hf
  · intro y hy q
    obtain ⟨x, hx2, e1, e2, e3, e4⟩ := hof hy
    rcases e4 with e4 | ⟨-, e4⟩
    · exact Nat.le_trans (e4.filter _).length_le (h.slots x hx2 q)
    · rw [e4]; exact insE_slots (fun q => Nat.le_trans (f4.filter _).length_le (h.slots x1o hx1o q)) hs q
  · intro y hy hd; obtain ⟨x, hx, e1, e2, e3, e4⟩ := hof hy; rw [e1, hc]; exact h.one x hx (e2 ▸ hd)
  · intro y hy hd; obtain ⟨x, hx, e1, e2, e3, e4⟩ := hof hy; rw [e1]; exact hR _ (h.reach x hx (e2 ▸ hd))
  · intro y hy hd
    obtain ⟨x, hx, e1, e2, e3, e4⟩ := hof hy
    rw [e1, hO]
    rcases h.file x hx (e2 ▸ hd) with q | q
    · exact .inl (List.count_pos_iff.1 (by rw [hc]; exact List.count_pos_iff.2 q))
    · exact .inr q
  · intro o ho
    rw [hO] at ho
    obtain ⟨h1, h2, h3, h4, q, hq, h5, h6⟩ := h.ok o ho
    obtain ⟨q2, hq2, e5, e6⟩ := hto hq
    exact ⟨h1, hM ▸ h2, h3, h4, q2, hq2, e5.trans h5, e6.trans h6⟩
end
/-- Nothing is below a file. -/
theorem Inv.from_file {S : St} (h : Inv S) {y : Ino} (hy : y ∈ S.inodes) (hf : y.dir = false) {t : Int} (hr : From S y.num t) : t = y.num := by
  induction hr with
  | refl => rfl
  | step _ he ih =>
    obtain ⟨x, hx, h1, h2, -⟩ := he
    have : x = y := h.ino_inj hx hy (by omega)
    subst this
    rw [h2] at hf; cases hf
end Go.Proofs.Ytenlffhoinialaa
end

section
namespace Go.Proofs.Ytenlffhoinialaa
set_option maxHeartbeats 1000000
/-- A chain of directories from the root, its end first. -/
inductive Chain (S : St) : List Int → Prop where
  | root : Chain S [1]
  | step {y d : Int} {l : List Int} : Chain S (d :: l) → Edge S d y → y ∉ d :: l → Chain S (y :: d :: l)
theorem Chain.suffix {S : St} : ∀ {l1 l2 : List Int}, Chain S (l1 ++ l2) → l2 ≠ [] → Chain S l2
  | [], l2, h, _ => h
  | a :: l1, l2, h, h2 => by
    cases l1 with
    | nil =>
      cases h with
      | root => exact absurd rfl h2
      | step h1 _ _ => exact h1
    | cons b l1 =>
      have h : Chain S (a :: (b :: (l1 ++ l2))) := h
      cases h with
      | step h1 _ _ => exact Chain.suffix (l1 := b :: l1) h1 h2
theorem Chain.nodup {S : St} {l : List Int} (h : Chain S l) : l.Nodup := by
  induction h with
  | root => simp
  | step h1 _ h3 ih => exact List.nodup_cons.2 ⟨h3, ih⟩
theorem chain_of_reach {S : St} {x : Int} (h : Reach S x) : ∃ l, Chain S (x :: l) := by
  induction h with
  | root => exact ⟨[], .root⟩
  | @step d y _ he ih =>
    obtain ⟨l, hl⟩ := ih
    by_cases q : y ∈ d :: l
    · obtain ⟨a, b, e⟩ := List.append_of_mem q
      rw [e] at hl
      exact ⟨b, hl.suffix (by simp)⟩
    · exact ⟨d :: l, hl.step he q⟩
theorem sum_two {f : Ino → Nat} : ∀ {l : List Ino} {x y : Ino}, x ∈ l → y ∈ l → x ≠ y → f x + f y ≤ (l.map f).sum
  | [], _, _, h, _, _ => by cases h
  | a :: l, x, y, hx, hy, hn => by
    have one : ∀ {z : Ino}, z ∈ l → f z ≤ (l.map f).sum := fun {z} hz => by
      obtain ⟨a, b, e⟩ := List.append_of_mem hz
      rw [e, List.map_append, List.sum_append, List.map_cons, List.sum_cons]
      omega
    simp only [List.map_cons, List.sum_cons]
    rcases List.mem_cons.1 hx with q1 | q1
    · rcases List.mem_cons.1 hy with q2 | q2
      · exact absurd (q1.trans q2.symm) hn
      · have := one q2; rw [q1]; omega
    · rcases List.mem_cons.1 hy with q2 | q2
      · have := one q1; rw [q2]; omega
      · have := sum_two (f := f) q1 q2 hn; omega
/-- One parent alone. -/
theorem Inv.parent {S : St} (h : Inv S) {d1 d2 : Int} {y : Ino} (hy : y ∈ S.inodes) (hd : y.dir = true) (hr : y.num ≠ 1) (h1 : Edge S d1 y.num) (h2 : Edge S d2 y.num) : d1 = d2 := by
  obtain ⟨x1, m1, e1, k1, q1, n1, l1⟩ := h1
  obtain ⟨x2, m2, e2, k2, q2, n2, l2⟩ := h2
  by_cases q : x1 = x2
  · subst q; omega
  · have hc := h.one y hy hd hr
    rw [count_links] at hc
    have hs := sum_two (f := fun x => (linksOf x).count y.num) m1 m2 q
    have p1 : 0 < (linksOf x1).count y.num := by
      refine List.count_pos_iff.2 ?_
      unfold linksOf; rw [if_pos k1, ← l1]; exact List.mem_map.2 ⟨_, n1, rfl⟩
    have p2 : 0 < (linksOf x2).count y.num := by
      refine List.count_pos_iff.2 ?_
      unfold linksOf; rw [if_pos k2, ← l2]; exact List.mem_map.2 ⟨_, n2, rfl⟩
    have hs : (linksOf x1).count y.num + (linksOf x2).count y.num ≤ _ := hs
    omega
theorem Chain.link {S : St} : ∀ {l1 l2 : List Int} {y d : Int}, Chain S (l1 ++ y :: d :: l2) → Edge S d y
  | [], l2, y, d, h => by
    cases h with
    | step _ he _ => exact he
  | a :: l1, l2, y, d, h => by
    have h2 : Chain S (y :: d :: l2) := Chain.suffix (l1 := a :: l1) h (by simp)
    cases h2 with
    | step _ he _ => exact he
theorem Chain.last {S : St} : ∀ {l : List Int} {y : Int}, Chain S (l ++ [y]) → y = 1
  | [], y, h => by cases h; rfl
  | a :: l, y, h => by
    have h2 : Chain S [y] := Chain.suffix (l1 := a :: l) h (by simp)
    cases h2; rfl
/-- A directory below the end of a chain is none of the chain. -/
theorem Inv.chain_new {S : St} (h : Inv S) {d : Int} {l : List Int} (hc : Chain S (d :: l)) {y : Ino} (hy : y ∈ S.inodes) (hd : y.dir = true) (he : Edge S d y.num) : y.num ∉ d :: l := by
  intro hm
  obtain ⟨a, b, e⟩ := List.append_of_mem hm
  have hne1 : y.num ≠ 1 := by
    obtain ⟨x, hx, e1, e2, q, hq, hq2⟩ := he
    rw [← hq2]
    exact (h.goal x hx q hq).1
  cases b with
  | nil =>
    rw [e] at hc
    exact hne1 hc.last
  | cons p b =>
    have hpe : Edge S p y.num := by rw [e] at hc; exact hc.link
    have : p = d := h.parent hy hd hne1 hpe he
    subst this
    have hnd := hc.nodup
    rw [e] at hnd
    cases a with
    | nil =>
      have e : p :: l = y.num :: p :: b := e
      injection e with e1 e2
      rw [e1] at hnd
      simp at hnd
    | cons a0 a =>
      have e : p :: l = a0 :: (a ++ y.num :: p :: b) := e
      injection e with e1 e2
      subst e1
      have := (List.nodup_cons.1 hnd).1
      simp at this
theorem chain_mem {S : St} (h : Inv S) {l : List Int} (hc : Chain S l) : ∀ x ∈ l, x ∈ S.inodes.map (·.num) := by
  induction hc with
  | root =>
    intro x hx
    obtain rfl : x = 1 := by simpa using hx
    obtain ⟨r, hr, h1, -⟩ := h.root
    exact List.mem_map.2 ⟨r, List.mem_of_getElem? hr, h1⟩
  | step _ he _ ih =>
    intro x hx
    rcases List.mem_cons.1 hx with rfl | hx
    · obtain ⟨z, hz, -, -, q, hq, rfl⟩ := he
      obtain ⟨-, y, hy, h2⟩ := h.goal z hz q hq
      exact List.mem_map.2 ⟨y, hy, h2⟩
    · exact ih x hx
theorem nodup_len {A : Type} [DecidableEq A] : ∀ {l m : List A}, l.Nodup → (∀ x ∈ l, x ∈ m) → l.length ≤ m.length
  | [], _, _, _ => Nat.zero_le _
  | a :: l, m, hn, hm => by
    obtain ⟨h1, h2⟩ := List.nodup_cons.1 hn
    have ha := hm a (List.mem_cons_self ..)
    have := nodup_len (l := l) (m := m.erase a) h2 fun x hx => (List.mem_erase_of_ne (fun e => h1 (by rw [← e]; exact hx))).2 (hm x (List.mem_cons_of_mem _ hx))
    rw [List.length_erase_of_mem ha] at this
    have := List.length_pos_of_mem ha
    simp only [List.length_cons]
    omega
theorem Inv.chain_len {S : St} (h : Inv S) {l : List Int} (hc : Chain S l) : l.length ≤ S.inodes.length := by
  have := nodup_len hc.nodup (chain_mem h hc)
  rwa [List.length_map] at this
theorem From.head {S : St} {n t : Int} (h : From S n t) : t = n ∨ ∃ y, Edge S n y ∧ From S y t := by
  induction h with
  | refl => exact .inl rfl
  | @step d y _ he ih =>
    rcases ih with rfl | ⟨z, h1, h2⟩
    · exact .inr ⟨_, he, .refl⟩
    · exact .inr ⟨z, h1, h2.step he⟩
end Go.Proofs.Ytenlffhoinialaa
end

