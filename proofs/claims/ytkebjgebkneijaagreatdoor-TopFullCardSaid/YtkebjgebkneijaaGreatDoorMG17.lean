/- Texts of one's own that a claim's last text rests on: Ml12 NoP3 Ml13 Mp1 Mr1 Mr2 Mr3. -/
import Derived.Test.YtkebjgebkneijaaGreatDoorMG16
import Derived.Test.YtkebjgebkneijaaGreatDoorMG12
set_option linter.unusedVariables false
set_option linter.unusedSimpArgs false
namespace Go.Proofs.YtkebjgebkneijaaGreatDoor
section
open Go.RowKit
set_option maxHeartbeats 1000000
def cntE (S : St) (x : Int) (a : Nat) : Nat -> Nat
 | 0 => 0
 | k + 1 => cntE S x a k + if S.dir a && (S.enu a k == x) then 1 else 0
def cntI (S : St) (x : Int) : Nat -> Nat
 | 0 => 0
 | a + 1 => cntI S x a + cntE S x a (S.ne a)
theorem cntE_le (S : St) (x : Int) (a : Nat) : ∀ k, cntE S x a k <= k
 | 0 => Nat.le_refl _
 | k + 1 => by have := cntE_le S x a k; unfold cntE; split <;> omega
theorem cntI_le {S : St} (h : ∀ i, S.ne i <= 1000) (x : Int) : ∀ a, cntI S x a <= a * 1000
 | 0 => Nat.le_refl _
 | a + 1 => by have := cntI_le h x a; have := cntE_le S x a (S.ne a); have := h a; unfold cntI; omega
set_option maxRecDepth 1000000 in
theorem links_calls {w : World} {iv ov mv : Value} {ev : Nat -> Value} {S : St} (hS : StM w iv ov mv ev S) (hsm : S.small) (x : Int) :
  Calls Tryz.prog 54 #[.agg #[iv, ov, mv], .int .i64 x] w fun e w' => e = .returned (.int .i64 (cntI S x S.inodes.length : Nat)) /\ Below w.heap.size w w' := by
 have hb := (Below.refl w.heap.size w).alloc (Nat.le_refl _) (.cells #[iv, ov, mv] 32)
 have HS := lhi (hS.keep hb)
 have HB0 := lhi hb
 have HI := lhi (hS.ino.keep hb)
 obtain ⟨OA, ocap, rfl, -, -⟩ := hS.opn
 obtain ⟨MA, mcap, rfl, -, -⟩ := hS.mad
 obtain ⟨A, cap, rfl, -, -⟩ := hS.ino
 obtain ⟨n, hnn⟩ : ∃ n, S.inodes.length = n := ⟨_, rfl⟩
 have hn := hsm.ni
 have HEN := lhi hsm.en
 rw [hnn] at hn HI
 rw [hnn]
 have HNN := lhi hnn
 clear hS hb hsm hnn
 go_enter Tryz.func54, Tryz.ntmps54
 go_wp2_with (fail)
 obtain ⟨w1, hw1⟩ : ∃ W, W = (w.alloc (.cells #[.slice A n cap, .slice OA S.opens.length ocap, .slice MA S.made.length mcap] 32)) := ⟨_, rfl⟩
 rw [<- hw1]
 have HSE := lhi (show ∀ i, i < n -> RowAt w1 (ev i) (S.ne i) 2 (entC S i) from fun i hi => by rw [hw1]; have := HS.out.ent i (by rw [HNN.out]; exact hi); rw [HNN.out] at this; exact this)
 have HI1 := lhi (show RowAt w1 (.slice A n cap) n 4 (inoC S ev) by rw [hw1]; exact HI.out)
 have HB1 := lhi (show Below w.heap.size w w1 by rw [hw1]; have := HB0.out; rw [HNN.out] at this; exact this)
 have HCL := lhi (fun a => cntI_le HEN.out x a)
 clear HS HI HB0 hw1
 go_loopw [5, 13] (fun m i wr => ∃ a : Nat, i = .int .i64 a /\ m = .int .i64 (cntI S x a : Nat) /\ a <= n /\ Below w1.heap.size w1 wr) (fun _ i _ => n - (intOf i).toNat)
 case atStart => exact ⟨0, rfl, rfl, by omega, Below.refl _ _⟩
 case round =>
  obtain ⟨a, rfl, rfl, ha, hB⟩ := hrel
  have HB := lhi hB
  obtain ⟨ci, hci⟩ : ∃ c, cntI S x a = c := ⟨_, rfl⟩
  have HCI := lhi hci
  have hcl := HCL.out a
  rw [hci] at hcl
  rw [hci]
  clear hci
  by_cases hp : a < n
  ·have hp1 : (a : Int) < n := by omega
   obtain ⟨-, -, g, off, rfl, hcell⟩ := (HI1.out.keep hB).at_ hp
   have q0 : wr.cell? ⟨g, off + a * 4, none⟩ = some (.int .i64 (S.num a)) := hcell 0 (by omega)
   have q1 : wr.cell? ⟨g, off + a * 4 + 1, none⟩ = some (.bool (S.dir a)) := hcell 1 (by omega)
   have q2 : wr.cell? ⟨g, off + a * 4 + 2, none⟩ = some (ev a) := hcell 2 (by omega)
   have q3 : wr.cell? ⟨g, off + a * 4 + 3, none⟩ = some (.string (S.dat a)) := hcell 3 (by omega)
   have HE := lhi (HSE.out a hp)
   obtain ⟨EA, ecap, hev, -, -⟩ := HE.out
   rw [hev] at q2 HE
   obtain ⟨ne, hne⟩ : ∃ e, S.ne a = e := ⟨_, rfl⟩
   have HNE := lhi hne
   have hne2 := HEN.out a
   rw [hne] at q2 HE hne2
   have HQ := lhi (Blk.new wr 72 #[.int .i64 (S.num a), .bool (S.dir a), .slice EA ne ecap, .string (S.dat a)])
   have HBA := lhi (hB.alloc hB.size (.cells #[.int .i64 (S.num a), .bool (S.dir a), .slice EA ne ecap, .string (S.dat a)] 72))
   clear hcell hev hne hB
   obtain ⟨qb, hqb⟩ : ∃ q, q = wr.heap.size := ⟨_, rfl⟩
   rw [<- hqb] at HQ
   go_wp2_with (fail)
   rw [<- hqb]
   clear hqb
   go_loopw [5, 20] (fun m i wi => ∃ k : Nat, i = .int .i64 k /\ m = .int .i64 (ci + cntE S x a k : Nat) /\ k <= ne /\ Below w1.heap.size w1 wi /\ Blk wi qb 72 #[.int .i64 (S.num a), .bool (S.dir a), .slice EA ne ecap, .string (S.dat a)]) (fun _ i _ => ne - (intOf i).toNat)
   case atStart => exact ⟨0, rfl, rfl, by omega, HBA.out, HQ.out⟩
   case round =>
    obtain ⟨k, rfl, rfl, hk, hBi, hQi⟩ := hrel
    have HBI := lhi hBi
    have HQI := lhi hQi
    obtain ⟨ck, hck⟩ : ∃ c, cntE S x a k = c := ⟨_, rfl⟩
    have hcl2 := cntE_le S x a k
    have HCK := lhi hck
    rw [hck] at hcl2
    rw [hck]
    clear hck
    by_cases hkp : k < ne
    ·have hkp1 : (k : Int) < ne := by omega
     obtain ⟨-, -, eg, eoff, rfl, ecell⟩ := (HE.out.keep hBi).at_ hkp
     have e0 : wr.cell? ⟨eg, eoff + k * 2, none⟩ = some (.string (S.enm a k)) := ecell 0 (by omega)
     have e1 : wr.cell? ⟨eg, eoff + k * 2 + 1, none⟩ = some (.int .i64 (S.enu a k)) := ecell 1 (by omega)
     have v1 : wr.cell? ⟨qb, 1, none⟩ = some (.bool (S.dir a)) := hQi.cell 1
     have hql := hQi.lt
     have HB2 := lhi (hBi.alloc hBi.size (.cells #[.string (S.enm a k), .int .i64 (S.enu a k)] 141))
     have HQ2 := lhi (hQi.alloc (.cells #[.string (S.enm a k), .int .i64 (S.enu a k)] 141))
     clear ecell hBi hQi
     have HS1 := lhi (show cntE S x a (k + 1) = ck + if S.dir a && (S.enu a k == x) then 1 else 0 by rw [<- HCK.out]; rfl)
     obtain ⟨y, hy⟩ : ∃ y, S.enu a k = y := ⟨_, rfl⟩
     rw [hy] at e1 HB2 HQ2 HS1
     clear hy
     cases hd : S.dir a with
     | false =>
      rw [hd] at v1 HS1 HQ2
      clear hd
      go_wp2_with (fail)
      go_roundw
      case rel => exact ⟨k + 1, by simp, by rw [HS1.out]; simp, by omega, HB2.out, HQ2.out⟩
      case measure =>
       simp only [intOf]
       omega
     | true =>
      rw [hd] at v1 HS1 HQ2
      clear hd
      by_cases hx : y = x
      ·have hx1 : (y == x) = true := by simp [hx]
       rw [hx1] at HS1
       clear hx
       go_wp2_with (fail)
       go_roundw
       case rel => exact ⟨k + 1, by simp, by rw [HS1.out]; simp; omega, by omega, HB2.out, HQ2.out⟩
       case measure =>
        simp only [intOf]
        omega
      ·have hx1 : (y == x) = false := by simp [hx]
       rw [hx1] at HS1
       go_wp2_with (fail)
       go_roundw
       case rel => exact ⟨k + 1, by simp, by rw [HS1.out]; simp, by omega, HB2.out, HQ2.out⟩
       case measure =>
        simp only [intOf]
        omega
    ·have e : k = ne := by omega
     subst e
     clear hBi hQi
     go_wp2_with (fail)
     go_roundw
     case rel => exact ⟨a + 1, by simp, by rw [cntI, HCI.out, HNE.out, HCK.out], by omega, HBI.out⟩
     case measure =>
      simp only [intOf]
      omega
  ·have e : a = n := by omega
   subst e
   clear hB
   go_wp2_with (fail)
   go_ret
   exact ⟨by rw [HCI.out]; rfl, HB1.out.trans (HB.out.mono HB1.out.size)⟩
end
section
set_option maxHeartbeats 1000000
theorem flat_nil {A : Type} {f : Nat -> List A} {n : Nat} (h : ∀ i, i < n -> f i = []) : (List.range n).flatMap f = [] := by
 rw [List.flatMap_eq_nil_iff]
 intro i hi
 exact h i (by simpa using hi)
theorem one_nil {k x : Int} {s : ByteArray} {b : Bool} (h : b = false) : one k x s b = [] := by subst h; rfl
theorem range_flat {A B : Type} (g : A -> List B) (d : A) : ∀ l : List A, (List.range l.length).flatMap (fun i => g (l.getD i d)) = l.flatMap g
 | [] => rfl
 | x :: l => by
  rw [List.length_cons, List.range_succ_eq_map, List.flatMap_cons, List.flatMap_cons, List.flatMap_map]
  have h := range_flat g d l
  congr 1
theorem entsOf_eq (S : St) (i : Nat) : entsOf S i = (S.ino i).ents.map (·.2) := by
 unfold entsOf St.ne St.enu
 refine List.ext_getElem? fun k => ?_
 rw [List.getElem?_map, List.getElem?_map]
 rcases Nat.lt_or_ge k (S.ino i).ents.length with q | q
 ·rw [List.getElem?_range q, List.getElem?_eq_getElem q]
  simp only [Option.map_some]
  rw [getD_get q]
 ·rw [List.getElem?_eq_none (by simpa using q), List.getElem?_eq_none q]; rfl
theorem manyF_eq (S : St) (x : Int) : manyF S x = (links S).count x := by
 unfold manyF manyTo links
 have h : (fun i => if S.dir i then entsOf S i else []) = fun i => linksOf (S.inodes.getD i noIno) := by
  funext i
  rw [entsOf_eq]
  rfl
 rw [h, range_flat linksOf noIno]
theorem mem_links {S : St} {y : Int} : y ∈ links S ↔ ∃ d, Edge S d y := by
 unfold links Edge linksOf
 rw [List.mem_flatMap]
 constructor
 ·rintro ⟨x, hx, hy⟩
  by_cases hd : x.dir = true
  ·rw [if_pos hd] at hy
   obtain ⟨e, he, rfl⟩ := List.mem_map.1 hy
   exact ⟨x.num, x, hx, rfl, hd, e, he, rfl⟩
  ·rw [if_neg hd] at hy; cases hy
 ·rintro ⟨d, x, hx, rfl, hd, e, he, rfl⟩
  exact ⟨x, hx, by rw [if_pos hd]; exact List.mem_map.2 ⟨e, he, rfl⟩⟩
theorem bl_asymm {s t : ByteArray} (h : nlt s t = true) : nle t s = false := by
 unfold nle
 rw [Bool.or_eq_false_iff]
 constructor
 ·cases h2 : Op.bytesLess t.toList s.toList with
  | false => rfl
  | true => have := nlt_trans h (show nlt t s = true from h2); rw [nlt_irrefl] at this; cases this
 ·rw [Bool.eq_false_iff]
  intro h2
  have h3 : t.toList = s.toList := by simpa using h2
  unfold nlt at h
  rw [h3, bl_irrefl] at h
  cases h
namespace Inv
variable {S : St}
theorem found_of_reach (h : Inv S) {x : Int} (hr : Reach S x) : x ∈ foundF S := by
 have hc := found_closed S
 induction hr with
 | root => exact hc.1
 | step _ he ih =>
  obtain ⟨z, hz, rfl, hd, e, hm, rfl⟩ := he
  obtain ⟨i, hi, e1, e2⟩ := h.firstIx_mem hz
  refine hc.2 _ ih _ ?_
  unfold kids
  rw [e2]
  show _ ∈ if S.dir i = true then entsOf S i else []
  rw [if_pos (by unfold St.dir; rw [e1]; exact hd), entsOf_eq, e1]
  exact List.mem_map.2 ⟨e, hm, rfl⟩
theorem numbers_nil (h : Inv S) : numbersF S = [] := by
 unfold numbersF
 have h0 := h.num0
 rw [one_nil (by unfold rootB; have := h.pos; simp only [Bool.or_eq_false_iff, decide_eq_false_iff_not]; exact ⟨⟨by omega, by rw [h0.1]; rfl⟩, by rw [h0.2]; rfl⟩), one_nil (b := manyB S) (by unfold manyB; have := h.m1; have := h.m8; simp only [Bool.or_eq_false_iff, decide_eq_false_iff_not]; omega),
  flat_nil (fun i hi => ?_), flat_nil (fun i hi => ?_)]
 ·rfl
 ·refine one_nil ?_
  have := h.mb _ (getD_mem (d := 0) hi)
  unfold madB St.mad
  simp only [Bool.or_eq_false_iff, decide_eq_false_iff_not]; omega
 ·have hb := h.num_bound (ino_mem hi)
  have e1 : b1 S i = false := by
   unfold b1
   have h1 : 1 <= S.num i := hb.1
   by_cases hp : 0 < i
   ·have := h.num_lt hi (by omega : i - 1 < i)
    simp; omega
   ·simp; omega
  have e8 : b8 S i = false := by
   unfold b8
   by_cases e : S.num i = 1
   ·simp [e]
   ·obtain ⟨h1, h2, h3⟩ := h.given _ (ino_mem hi) e
    have hc : coreF (S.num i) = (S.num i - 2) % 8 := by
     unfold coreF
     rw [if_neg (by show ¬ (S.ino i).num < 2; omega)]
    rw [hc]
    have h2' : (S.num i - 2) % 8 < S.made.length := h2
    have h3' : (S.num i - 2) / 8 < S.mad ((S.num i - 2) % 8).toNat := h3
    unfold madeF
    simp; omega
  unfold numAt
  rw [one_nil e1, one_nil e8]; rfl
theorem bodies_nil (h : Inv S) : bodiesF S = [] := by
 unfold bodiesF
 refine flat_nil fun i hi => ?_
 have hm := ino_mem hi
 unfold bodyAt
 have e6 : b6 S i = false := by
  have h1 := h.dat _ hm
  unfold b6 St.dir St.dat St.ne
  cases hd : (S.ino i).dir with
  | true =>
   have h2 := h.isDir _ hm hd
   have h3 : (S.ino i).data.toList = [] := by
    rw [ByteArray.toList_eq]
    exact List.length_eq_zero_iff.1 (by rw [Array.length_toList]; exact h2)
   simp [h3]; omega
  | false =>
   have h2 := h.isFile _ hm hd
   simp [h2]; omega
 rw [one_nil e6]
 show (if S.dir i = true then _ else _) = []
 by_cases hd : S.dir i = true
 ·rw [if_pos hd]
  refine flat_nil fun k hk => ?_
  have hke : k < (S.ino i).ents.length := hk
  have hmem : (S.ino i).ents.getD k (ByteArray.empty, 0) ∈ (S.ino i).ents := getD_mem hke
  obtain ⟨g1, y, hy, g2⟩ := h.goal _ hm _ hmem
  have e2 : b2 S i k = false := by
   obtain ⟨j, -, -, hj⟩ := h.firstIx_mem hy
   unfold b2 St.enu
   rw [<- g2, hj]
   have : y.num ≠ 1 := by rw [g2]; exact g1
   simp [this]
  have e5 : b5 S i k = false := by
   have hn := h.nam _ hm _ hmem
   unfold b5 St.enm
   rw [hn]
   by_cases hp : 0 < k
   ·have h1 := List.pairwise_iff_getElem.1 (h.up _ hm) (k - 1) k (by omega) hke (by omega)
    rw [getD_get hke, getD_get (by omega : k - 1 < _), bl_asymm h1]
    simp
   ·have : k = 0 := by omega
    subst this; simp
  have e7 : b7 S i k = false := by
   unfold b7 cnt
   rw [Bool.eq_false_iff]
   intro hc
   have hc : ((List.range k).filter fun j => nbucket (S.enm i j) == nbucket (S.enm i k)).length = 4 := by simpa using hc
   have h4 := h.slots _ hm (nbucket (S.enm i k))
   have h5 : ((S.ino i).ents.take (k + 1)).length = k + 1 := by simp; omega
   have h6 : (((S.ino i).ents.take (k + 1)).filter fun e => nbucket e.1 == nbucket (S.enm i k)).length <= 4 :=
    Nat.le_trans ((List.take_sublist _ _).filter _).length_le h4
   have h7 : (S.ino i).ents.take (k + 1) = (List.range (k + 1)).map fun j => (S.ino i).ents.getD j (ByteArray.empty, 0) := by
    refine List.ext_getElem? fun j => ?_
    rw [List.getElem?_map, List.getElem?_take]
    by_cases q : j < k + 1
    ·rw [if_pos q, List.getElem?_range q, List.getElem?_eq_getElem (by omega)]
     simp only [Option.map_some]
     rw [getD_get (by omega : j < _)]
    ·rw [if_neg q, List.getElem?_eq_none (by simpa using q)]; rfl
   rw [h7, List.filter_map, List.length_map, List.range_succ, List.filter_append, List.length_append] at h6
   have h8 : (List.filter ((fun e : ByteArray × Int => nbucket e.1 == nbucket (S.enm i k)) ∘ fun j => (S.ino i).ents.getD j (ByteArray.empty, 0)) [k]).length = 1 := by
    rw [List.filter_cons, if_pos (by simp [St.enm])]; rfl
   have h9 : (List.filter ((fun e : ByteArray × Int => nbucket e.1 == nbucket (S.enm i k)) ∘ fun j => (S.ino i).ents.getD j (ByteArray.empty, 0)) (List.range k)).length = 4 := hc
   omega
  unfold entAt
  rw [one_nil e2, one_nil e5, one_nil e7]; rfl
 ·rw [if_neg hd]
theorem tree_nil (h : Inv S) : treeF S = [] := by
 unfold treeF
 refine flat_nil fun i hi => ?_
 have hm := ino_mem hi
 unfold treeAt
 have e3 : b3 S i = false := by
  unfold b3
  rw [manyF_eq]
  by_cases hd : S.dir i = true
  ·by_cases e : S.num i = 1
   ·simp [e]
   ·have h1 := h.one _ hm hd e
    have h1 : (links S).count (S.num i) = 1 := h1
    simp [h1]
  ·simp [hd]
 have e4 : b4 S i = false := by
  unfold b4 opB foundB
  rw [h.firstIx_at hi]
  have hf : (foundF S).contains (S.num i) = true ∨ (!S.dir i && isOpenB S (S.num i)) = true := by
   by_cases hd : S.dir i = true
   ·exact .inl (by rw [List.contains_eq_mem]; exact decide_eq_true (h.found_of_reach (h.reach _ hm hd)))
   ·have hd : S.dir i = false := by simpa using hd
    rcases h.file _ hm hd with q | ⟨o, ho, q⟩
    ·obtain ⟨d, hE⟩ := mem_links.1 q
     obtain ⟨x, hx, rfl, hxd, e⟩ := id hE
     exact .inl (by rw [List.contains_eq_mem]; exact decide_eq_true (h.found_of_reach ((h.reach x hx hxd).step hE)))
    ·refine .inr ?_
     rw [hd]
     obtain ⟨j, hj, e⟩ := List.getElem_of_mem ho
     unfold isOpenB
     simp only [Bool.not_false, Bool.true_and, List.any_eq_true]
     refine ⟨j, by simpa using hj, ?_⟩
     unfold St.on
     rw [getD_get hj, e, q]
     simp [St.num]
  rcases hf with q | q
  ·rw [q]; simp
  ·rw [q]; simp
 rw [one_nil e3, one_nil e4]; rfl
theorem open_nil (h : Inv S) : openF S = [] := by
 unfold openF
 refine flat_nil fun i hi => one_nil ?_
 have hmem : S.opens.getD i (0, 0, 0) ∈ S.opens := getD_mem hi
 obtain ⟨h1, h2, h3, h4, y, hy, h5, h6⟩ := h.ok _ hmem
 have ea : b9a S i = false := by
  obtain ⟨j, -, e1, hj⟩ := h.firstIx_mem hy
  unfold b9a dirAt St.on St.oc St.of
  rw [<- h5, hj]
  show (S.dir j || _ || _ || _ || _) = false
  unfold St.dir
  rw [e1, h6]
  simp only [Bool.or_eq_false_iff, decide_eq_false_iff_not]; exact ⟨⟨⟨⟨trivial, by omega⟩, by omega⟩, by omega⟩, by omega⟩
 unfold b9
 rw [ea]
 by_cases hp : 0 < i
 ·have h7 := List.pairwise_iff_getElem.1 h.osort (i - 1) i (by omega) hi (by omega)
  unfold St.oc St.of
  rw [getD_get hi, getD_get (by omega : i - 1 < _)]
  simp; omega
 ·simp; omega
theorem raw_nil (h : Inv S) : rawF S = [] := by
 unfold rawF
 rw [h.numbers_nil, h.bodies_nil, h.tree_nil, h.open_nil]; rfl
end Inv
end
section
open Go.RowKit
set_option maxHeartbeats 1000000
def RowB (w : World) (b : Nat) (t : TypeId) (n : Nat) (g : Nat -> Value) : Prop := ∃ cs, Blk w b t cs /\ cs.size = n /\ ∀ i, i < n -> cs[i]? = some (g i)
namespace RowB
variable {w w' : World} {b n : Nat} {t : TypeId} {g h : Nat -> Value}
theorem cell (r : RowB w b t n g) {i : Nat} (hi : i < n) : w.cell? ⟨b, i, none⟩ = some (g i) := by
 obtain ⟨cs, h1, h2, h3⟩ := r
 rw [h1.cell]; exact h3 i hi
theorem lt (r : RowB w b t n g) : b < w.heap.size := by obtain ⟨cs, h1, h2, h3⟩ := r; exact h1.lt
theorem heap (r : RowB w b t n g) (e : w'.heap[b]? = w.heap[b]?) : RowB w' b t n g := by
 obtain ⟨cs, h1, h2, h3⟩ := r
 exact ⟨cs, Blk.of_heap e h1, h2, h3⟩
theorem drew (r : RowB w b t n g) : RowB w.drew b t n g := r
theorem below (r : RowB w b t n g) (hb : Below w.heap.size w w') : RowB w' b t n g := r.heap (hb.block _ r.lt)
theorem alloc (r : RowB w b t n g) (o : Obj) : RowB (w.alloc o) b t n g := r.below ((Below.refl _ _).alloc (Nat.le_refl _) o)
theorem far (r : RowB w b t n g) {p : Addr} (hp : p.block ≠ b) (v : Value) : RowB (w.setCell p v) b t n g := r.heap (Below.heap_setCell _ _ _ _ (Ne.symm hp))
theorem set (r : RowB w b t n g) {i : Nat} (v : Value) (hg : ∀ j, j < n -> h j = if j = i then v else g j) : RowB (w.setCell ⟨b, i, none⟩ v) b t n h := by
 obtain ⟨cs, h1, h2, h3⟩ := r
 refine ⟨cs.setIfInBounds i v, h1.set_ i v, by simpa using h2, fun j hj => ?_⟩
 rw [hg j hj]
 by_cases e : j = i
 ·subst e
  rw [if_pos rfl, Array.getElem?_setIfInBounds_self, if_pos (by omega)]
 ·rw [if_neg e, Array.getElem?_setIfInBounds_ne (fun q => e q.symm)]
  exact h3 j hj
theorem congr (r : RowB w b t n g) (hg : ∀ j, j < n -> h j = g j) : RowB w b t n h := by
 obtain ⟨cs, h1, h2, h3⟩ := r
 exact ⟨cs, h1, h2, fun i hi => by rw [hg i hi]; exact h3 i hi⟩
theorem made (w : World) (t : TypeId) (n : Nat) (v : Value) : RowB (w.alloc (.cells (Array.replicate n v) t)) w.heap.size t n (fun _ => v) :=
 ⟨_, Blk.new _ _ _, by simp, fun i hi => by simp [hi]⟩
end RowB
def manyU (S : St) (i : Nat) : List Int := (List.range i).flatMap (entsOf S)
theorem manyU_succ (S : St) (i : Nat) : manyU S (i + 1) = manyU S i ++ entsOf S i := flat_succ _ i
theorem manyU_len {S : St} (hs : S.small) (i : Nat) (hi : i <= 1000) : (manyU S i).length <= 1000000 := by
 unfold manyU
 have := flat_len (f := entsOf S) (c := 1000) (fun i => by rw [entsOf_len]; exact hs.en i) i
 have h2 : i * 1000 <= 1000 * 1000 := Nat.mul_le_mul_right _ hi
 omega
theorem Inv.ents_file {S : St} (h : Inv S) {i : Nat} (hi : i < S.inodes.length) (hd : S.dir i = false) : entsOf S i = [] := by
 rw [entsOf_eq, h.isFile _ (Inv.ino_mem hi) hd]; rfl
theorem Inv.manyU_eq {S : St} (h : Inv S) : ∀ i, i <= S.inodes.length -> manyU S i = manyTo S i
 | 0, _ => rfl
 | i + 1, hi => by
  rw [manyU_succ, manyTo_succ, h.manyU_eq i (by omega)]
  cases hd : S.dir i with
  | true => rw [if_pos rfl]
  | false => rw [if_neg (by decide), h.ents_file (by omega) hd]
theorem Inv.may_dir {S : St} (h : Inv S) {i : Nat} (hi : i < S.inodes.length) (h0 : 0 < i) (hd : S.dir i = true) : manyF S (S.num i) = 1 /\ foundB S (S.num i) = true := by
 refine ⟨?_, ?_⟩
 ·rw [manyF_eq]
  have h1 := h.num_lt hi h0
  have h2 := h.num0.1
  exact h.one _ (Inv.ino_mem hi) hd (by show S.num i ≠ 1; omega)
 ·unfold foundB
  rw [List.contains_eq_mem]
  exact decide_eq_true (h.found_of_reach (h.reach _ (Inv.ino_mem hi) hd))
theorem Inv.may_file {S : St} (h : Inv S) {i : Nat} (hi : i < S.inodes.length) (hd : S.dir i = false) : foundB S (S.num i) = true ∨ (manyF S (S.num i) = 0 /\ 0 <= openI S (S.num i)) := by
 by_cases hl : S.num i ∈ links S
 ·obtain ⟨d, hE⟩ := mem_links.1 hl
  obtain ⟨x, hx, rfl, hxd, e⟩ := id hE
  left
  unfold foundB
  rw [List.contains_eq_mem]
  exact decide_eq_true (h.found_of_reach ((h.reach x hx hxd).step hE))
 ·right
  refine ⟨by rw [manyF_eq]; exact List.count_eq_zero.2 hl, ?_⟩
  rcases h.file _ (Inv.ino_mem hi) hd with q | ⟨o, ho, q⟩
  ·exact absurd q hl
  ·by_cases hn : 0 <= openI S (S.num i)
   ·exact hn
   ·exfalso
    have hx : (List.range S.opens.length).find? (fun j => S.on j == S.num i) = none := by
     cases e : (List.range S.opens.length).find? (fun j => S.on j == S.num i) with
     | none => rfl
     | some k => unfold openI at hn; rw [e] at hn; exact absurd (show (0 : Int) <= (k : Nat) by omega) hn
    rw [List.find?_eq_none] at hx
    obtain ⟨j, hj, e⟩ := List.getElem_of_mem ho
    have := hx j (by simpa using hj)
    unfold St.on at this
    rw [getD_get hj, e, q] at this
    exact this (by simp [St.num])
theorem Inv.enu_in {S : St} (h : Inv S) {i k : Nat} (hi : i < S.inodes.length) (hk : k < S.ne i) : ∃ g : Nat, g < S.inodes.length /\ placeF S (S.enu i k) = g /\ S.num g = S.enu i k /\ S.enu i k ≠ 1 := by
 have hm := Inv.ino_mem hi
 have hke : k < (S.ino i).ents.length := hk
 have hmem : (S.ino i).ents.getD k (ByteArray.empty, 0) ∈ (S.ino i).ents := getD_mem hke
 obtain ⟨g1, y, hy, g2⟩ := h.goal _ hm _ hmem
 obtain ⟨g, hg, h1, h2⟩ := placeF_of (h.ord).rise hy
 have h3 : S.enu i k = y.num := g2.symm
 refine ⟨g, hg, by rw [h3]; exact h2, ?_, g1⟩
 rw [h3]
 unfold St.num St.ino
 rw [List.getD_eq_getElem?_getD, h1]; rfl
theorem count_at (L : List Int) (S : St) (h : Inv S) {j g : Nat} (hj : j < S.inodes.length) (hg : g < S.inodes.length) {x : Int} (hx : S.num g = x) : ((L ++ [x]).count (S.num j) : Int) = if j = g then (L.count (S.num g) : Int) + 1 else (L.count (S.num j) : Int) := by
 subst hx
 rw [count_snoc]
 by_cases e : j = g
 ·subst e; simp
 ·rw [if_neg e, if_neg fun q => e (h.num_inj hj hg q)]
theorem contains_at (F : List Int) (S : St) (h : Inv S) {j g : Nat} (hj : j < S.inodes.length) (hg : g < S.inodes.length) {x : Int} (hx : S.num g = x) : (F ++ [x]).contains (S.num j) = if j = g then true else F.contains (S.num j) := by
 subst hx
 rw [contains_snoc]
 by_cases e : j = g
 ·subst e; simp
 ·rw [if_neg e, if_neg fun q => e (h.num_inj hj hg q)]
theorem Inv.kids_at {S : St} (h : Inv S) {i : Nat} (hi : i < S.inodes.length) : kids S (S.num i) = entsOf S i := by
 unfold kids
 rw [h.firstIx_at hi]
 show (if S.dir i then entsOf S i else []) = _
 cases hd : S.dir i with
 | true => rw [if_pos rfl]
 | false => rw [if_neg (by decide), h.ents_file hi hd]
def NamesS (S : St) (F : List Int) : Prop := ∀ x ∈ F, ∃ g : Nat, g < S.inodes.length /\ S.num g = x /\ placeF S x = g
theorem Inv.names1 {S : St} (h : Inv S) : NamesS S [1] := fun x hx => by
 have hx : x = 1 := by simpa using hx
 subst hx
 have h0 := h.num0.1
 exact ⟨0, h.pos, h0, placeF_at h.pos h0 fun i hi => absurd hi (by omega)⟩
end
section
open Go.RowKit
set_option maxHeartbeats 1000000
def dirsTo (S : St) : Nat -> Int -> Option Bool
 | 0, _ => none
 | k + 1, j => if j = S.num k then some (S.dir k) else dirsTo S k j
def dirF (S : St) (j : Int) : Bool := (dirsTo S S.inodes.length j).getD false
def itOf (S : St) (e : ByteArray × Int) : Item := ⟨e.1, e.2, dirF S e.2⟩
def bkItems (S : St) (l : List (ByteArray × Int)) (b : Nat) : List Item := (l.filter fun e => nbucket e.1 == b).map (itOf S)
def loadB (S : St) (i : Nat) (M : Mem) (b : Nat) : Mem := if (bkItems S (S.ino i).ents b).length = 0 then M else (M.give 0 (.bucket (bkItems S (S.ino i).ents b))).put (wd (S.num i) b) (M.next 0)
def loadBs (S : St) (i : Nat) (M : Mem) : Nat -> Mem
 | 0 => M
 | b + 1 => loadB S i (loadBs S i M b) b
def loadFile (S : St) (i : Nat) (M : Mem) : Mem :=
 let M1 := M.put (wd (S.num i) 8) (cntI S (S.num i) S.inodes.length : Nat)
 (M1.give 0 (.base (M1.next 0) (S.dat i) false)).put (wd (S.num i) 16) (M1.next 0)
def loadI (S : St) (M : Mem) (i : Nat) : Mem := if S.dir i then loadBs S i M 8 else loadFile S i (loadBs S i M 8)
def loadIs (S : St) (M : Mem) : Nat -> Mem
 | 0 => M
 | i + 1 => loadI S (loadIs S M i) i
def loadMade (S : St) (M : Mem) : Nat -> Mem
 | 0 => M
 | c + 1 => (loadMade S M c).put (mdw c) (S.mad c)
def loadOpen (S : St) (M : Mem) : Nat -> Mem
 | 0 => M
 | k + 1 => (loadOpen S M k).put (fdw (S.oc k) (S.of k)) (S.on k)
def loadM (S : St) : Mem := loadOpen S (loadMade S (loadIs S (Mem.new S.made.length) S.inodes.length) S.made.length) S.opens.length
theorem loadB_ts (S : St) (i : Nat) (M : Mem) (b : Nat) : (loadB S i M b).ts = M.ts := by unfold loadB; split <;> rfl
theorem loadBs_ts (S : St) (i : Nat) (M : Mem) : ∀ b, (loadBs S i M b).ts = M.ts
 | 0 => rfl
 | b + 1 => (loadB_ts S i _ b).trans (loadBs_ts S i M b)
theorem loadI_ts (S : St) (M : Mem) (i : Nat) : (loadI S M i).ts = M.ts := by
 unfold loadI
 split
 ·exact loadBs_ts S i M 8
 ·exact loadBs_ts S i M 8
theorem loadIs_ts (S : St) (M : Mem) : ∀ i, (loadIs S M i).ts = M.ts
 | 0 => rfl
 | i + 1 => (loadI_ts S _ i).trans (loadIs_ts S M i)
theorem loadMade_ts (S : St) (M : Mem) : ∀ i, (loadMade S M i).ts = M.ts
 | 0 => rfl
 | i + 1 => loadMade_ts S M i
theorem loadOpen_ts (S : St) (M : Mem) : ∀ i, (loadOpen S M i).ts = M.ts
 | 0 => rfl
 | i + 1 => loadOpen_ts S M i
theorem loadM_ts (S : St) : (loadM S).ts = List.replicate S.made.length [] := by
 unfold loadM
 rw [loadOpen_ts, loadMade_ts, loadIs_ts]; rfl
theorem loadB_ok {S : St} {i : Nat} {M : Mem} {b m : Nat} (h : M.ok m) : (loadB S i M b).ok (m + 1) := by
 unfold loadB
 split
 ·exact h.mono (by omega)
 ·exact (h.give _ _).put _ _
theorem loadBs_ok {S : St} {i : Nat} {M : Mem} {m : Nat} (h : M.ok m) : ∀ b, (loadBs S i M b).ok (m + b)
 | 0 => h
 | b + 1 => loadB_ok (loadBs_ok h b)
theorem loadFile_ok {S : St} {i : Nat} {M : Mem} {m : Nat} (h : M.ok m) : (loadFile S i M).ok (m + 1) := ((h.put _ _).give _ _).put _ _
theorem loadI_ok {S : St} {i : Nat} {M : Mem} {m : Nat} (h : M.ok m) : (loadI S M i).ok (m + 9) := by
 unfold loadI
 split
 ·exact (loadBs_ok h 8).mono (by omega)
 ·exact loadFile_ok (loadBs_ok h 8)
theorem loadIs_ok {S : St} {M : Mem} {m : Nat} (h : M.ok m) : ∀ i, (loadIs S M i).ok (m + i * 9)
 | 0 => h.mono (by omega)
 | i + 1 => (loadI_ok (loadIs_ok h i)).mono (by omega)
theorem loadMade_ok {S : St} {M : Mem} {m : Nat} (h : M.ok m) : ∀ i, (loadMade S M i).ok m
 | 0 => h
 | i + 1 => (loadMade_ok h i).put _ _
theorem loadOpen_ok {S : St} {M : Mem} {m : Nat} (h : M.ok m) : ∀ i, (loadOpen S M i).ok m
 | 0 => h
 | i + 1 => (loadOpen_ok h i).put _ _
theorem loadM_ok {S : St} (hn : S.inodes.length <= 1000) : (loadM S).ok 9000 :=
 (loadOpen_ok (loadMade_ok (loadIs_ok (Mem.new_ok _) _) _) _).mono (by omega)
theorem bkItems_snoc (S : St) (l : List (ByteArray × Int)) (e : ByteArray × Int) (b : Nat) : bkItems S (l ++ [e]) b = if nbucket e.1 = b then bkItems S l b ++ [itOf S e] else bkItems S l b := by
 unfold bkItems
 rw [List.filter_append, List.map_append]
 by_cases h : nbucket e.1 = b
 ·rw [if_pos h]; simp [h]
 ·rw [if_neg h]; simp [h]
theorem take_snoc {A : Type} (l : List A) (d : A) {j : Nat} (hj : j < l.length) : l.take (j + 1) = l.take j ++ [l.getD j d] := by
 rw [List.take_add_one, List.getElem?_eq_getElem hj, List.getD_eq_getElem?_getD, List.getElem?_eq_getElem hj]; rfl
theorem bkItems_le (S : St) (l : List (ByteArray × Int)) (b : Nat) : (bkItems S l b).length <= l.length := by
 unfold bkItems
 rw [List.length_map]
 exact List.length_filter_le _ _
def dirsV (S : St) (k : Nat) : Int -> Option Value := fun j => (dirsTo S k j).map Value.bool
theorem dirsV_succ (S : St) (k : Nat) (j : Int) : dirsV S (k + 1) j = if j = S.num k then some (.bool (S.dir k)) else dirsV S k j := by
 unfold dirsV
 rw [dirsTo]
 split <;> rfl
theorem dirsV_get (S : St) (j : Int) : (dirsV S S.inodes.length j).getD (.bool false) = .bool (dirF S j) := by
 unfold dirsV dirF
 cases dirsTo S S.inodes.length j <;> rfl
end
section
open Go.RowKit
set_option maxHeartbeats 1000000
structure Says (M : Mem) (i : Int) (o : Option Thing) : Prop where
 f : M.fine i
 a : M.at_ i = o
 z : rd M.ws i <= 1000000000000
namespace Says
variable {M : Mem} {i j c v : Int} {o : Option Thing} {m : Nat}
theorem note (h : Says M i o) (c : Int) (x : Acc) : Says (M.note c x) i o := ⟨h.f, h.a, h.z⟩
theorem see (h : Says M i o) (c j : Int) : Says (M.see c j) i o := by
 unfold Mem.see
 split
 ·exact h
 ·exact h.note _ _
theorem put (h : Says M i o) (hij : i.toNat ≠ j.toNat) (v : Int) : Says (M.put j v) i o := by
 have e : rd (M.put j v).ws i = rd M.ws i := rd_wr_other' hij
 exact ⟨by have := h.f; unfold Mem.fine at this ⊢; rw [e]; exact this, by have := h.a; unfold Mem.at_ at this ⊢; rw [e]; exact this, by rw [e]; exact h.z⟩
theorem thing_give (M : Mem) (c : Int) (t : Thing) {n : Int} {x : Thing} (h : M.thing n = some x) : (M.give c t).thing n = some x := by
 unfold Mem.thing at h ⊢
 split at h
 ·cases h
 ·rename_i hn
  rw [if_neg hn]
  simp only [Mem.give]
  by_cases hc : c.toNat < M.nm.length
  ·rw [getD_set _ _ _ _ _ hc]
   split
   ·rename_i e
    rw [e] at h
    rw [List.getElem?_append_left (List.getElem?_eq_some_iff.1 h).1]
    exact h
   ·exact h
  ·rw [List.set_eq_of_length_le (by omega)]
   exact h
theorem give (h : Says M i o) (c : Int) (t : Thing) : Says (M.give c t) i o := by
 obtain ⟨h1, h2, h3⟩ := h
 rcases h1 with h0 | ⟨h0, hs⟩
 ·refine ⟨.inl h0, ?_, h3⟩
  unfold Mem.at_ at h2 ⊢
  show (M.give c t).thing (rd M.ws i) = o
  rw [h0] at h2 ⊢
  exact h2
 ·obtain ⟨x, hx⟩ := Option.isSome_iff_exists.1 hs
  have hg := thing_give M c t hx
  refine ⟨.inr ⟨h0, ?_⟩, ?_, h3⟩
  ·show ((M.give c t).thing (rd M.ws i)).isSome = true
   rw [hg]; rfl
  ·unfold Mem.at_ at h2 ⊢
   show (M.give c t).thing (rd M.ws i) = o
   rw [hg, <- h2, hx]
theorem thing_next (M : Mem) {c : Int} (hc : 0 <= c /\ c < M.nm.length) (h8 : c < 8) (t : Thing) : (M.give c t).thing (M.next c) = some t := by
 have hcn : c.toNat < M.nm.length := by omega
 unfold Mem.thing Mem.next
 rw [if_neg (by omega)]
 have e1 : ((1 + c + 8 * ((M.nm.getD c.toNat []).length : Int) - 1) % 8).toNat = c.toNat := by omega
 have e2 : ((1 + c + 8 * ((M.nm.getD c.toNat []).length : Int) - 1) / 8).toNat = (M.nm.getD c.toNat []).length := by omega
 rw [e1, e2]
 simp only [Mem.give]
 rw [getD_set _ _ _ _ _ hcn, if_pos rfl]
 simp
theorem put_self {t : Thing} (hok : M.ok m) (hm : m <= 1000000000) (hc : 0 <= c /\ c < M.nm.length) (h8 : c < 8) (hi : 0 <= i /\ i < 9549) : Says ((M.give c t).put i (M.next c)) i (some t) := by
 have e : rd ((M.give c t).put i (M.next c)).ws i = M.next c := by
  have hl := hok.wl
  unfold rd Mem.put wr
  simp only [Mem.give]
  rw [getD_set _ _ _ _ _ (by omega), if_pos rfl]
 have hn := thing_next M hc h8 t
 have hpos : 0 < M.next c := by unfold Mem.next; omega
 have hnl := hok.nl c.toNat
 refine ⟨.inr ⟨by rw [e]; exact hpos, ?_⟩, ?_, ?_⟩
 ·rw [e]
  show ((M.give c t).thing (M.next c)).isSome = true
  rw [hn]; rfl
 ·unfold Mem.at_
  rw [e]
  exact hn
 ·rw [e]
  unfold Mem.next
  omega
end Says
structure Dk (M : Mem) (D : Int -> Int -> List Item) : Prop where
 s : ∀ num b, 1 <= num /\ num <= 257 -> 0 <= b /\ b < 8 -> ∃ o, Says M (wd num b) o /\ ((o = none /\ D num b = []) ∨ o = some (.bucket (D num b)))
 i : ∀ num b, 1 <= num /\ num <= 257 -> 0 <= b /\ b < 8 -> (D num b).length <= 1000 /\ ∀ x ∈ D num b, 1 <= x.num /\ x.num <= 257
namespace Dk
variable {M M' : Mem} {D : Int -> Int -> List Item} {c : Int} {m : Nat}
theorem bkt (h : Dk M D) {num b : Int} (hn : 1 <= num /\ num <= 257) (hb : 0 <= b /\ b < 8) : M.bkt num b = D num b := by
 obtain ⟨o, h1, h2⟩ := h.s num b hn hb
 unfold Mem.bkt
 rw [h1.a]
 rcases h2 with ⟨rfl, h2⟩ | rfl
 ·rw [h2]
 ·rfl
theorem fit (h : Dk M D) : M.fit := by
 refine ⟨fun num b hn hb => ?_, fun num b hn hb => ?_⟩
 ·obtain ⟨o, h1, h2⟩ := h.s num b hn hb
  refine ⟨⟨h1.f, fun t ht => ?_⟩, h1.z⟩
  rw [h1.a] at ht
  rcases h2 with ⟨rfl, -⟩ | rfl
  ·cases ht
  ·exact ⟨_, (Option.some.inj ht).symm⟩
 ·rw [h.bkt hn hb]
  exact h.i num b hn hb
theorem keep (h : Dk M D) (hs : ∀ num b o, 1 <= num /\ num <= 257 -> 0 <= b /\ b < 8 -> Says M (wd num b) o -> Says M' (wd num b) o) : Dk M' D :=
 ⟨fun num b hn hb => by obtain ⟨o, h1, h2⟩ := h.s num b hn hb; exact ⟨o, hs num b o hn hb h1, h2⟩, h.i⟩
theorem note (h : Dk M D) (c : Int) (x : Acc) : Dk (M.note c x) D := h.keep fun _ _ _ _ _ k => k.note c x
theorem see (h : Dk M D) (c j : Int) : Dk (M.see c j) D := h.keep fun _ _ _ _ _ k => k.see c j
theorem clear (h : Dk M D) (k : Nat) : Dk (M.clear k) D := h.keep fun _ _ _ _ _ q => ⟨q.f, q.a, q.z⟩
theorem put (h : Dk M D) {j : Int} (hj : ∀ num b, 1 <= num /\ num <= 257 -> 0 <= b /\ b < 8 -> (wd num b).toNat ≠ j.toNat) (v : Int) : Dk (M.put j v) D := h.keep fun num b _ hn hb k => k.put (hj num b hn hb) v
theorem give (h : Dk M D) (c : Int) (t : Thing) : Dk (M.give c t) D := h.keep fun _ _ _ _ _ k => k.give c t
theorem wd_ne {num b num' b' : Int} (hn : 1 <= num /\ num <= 257) (hb : 0 <= b /\ b < 37) (hn' : 1 <= num' /\ num' <= 257) (hb' : 0 <= b' /\ b' < 37) (h : ¬ (num = num' /\ b = b')) : (wd num b).toNat ≠ (wd num' b').toNat := by
 unfold wd
 omega
theorem put_set (h : Dk M D) (hok : M.ok m) (hm : m <= 1000000000) (hc : 0 <= c /\ c < M.nm.length) (h8 : c < 8) {num b : Int} (hn : 1 <= num /\ num <= 257) (hb : 0 <= b /\ b < 8) {l : List Item} (hl : l.length <= 1000 /\ ∀ x ∈ l, 1 <= x.num /\ x.num <= 257) :
  Dk ((M.give c (.bucket l)).put (wd num b) (M.next c)) (fun n' b' => if n' = num /\ b' = b then l else D n' b') := by
 refine ⟨fun n' b' hn' hb' => ?_, fun n' b' hn' hb' => ?_⟩
 ·by_cases e : n' = num /\ b' = b
  ·obtain ⟨rfl, rfl⟩ := e
   exact ⟨_, Says.put_self hok hm hc h8 (by unfold wd; omega), .inr (by rw [if_pos ⟨rfl, rfl⟩])⟩
  ·obtain ⟨o, h1, h2⟩ := h.s n' b' hn' hb'
   refine ⟨o, (h1.give c _).put (wd_ne hn' ⟨hb'.1, by omega⟩ hn ⟨hb.1, by omega⟩ e) _, ?_⟩
   rw [if_neg e]
   exact h2
 ·by_cases e : n' = num /\ b' = b
  ·rw [if_pos e]; exact hl
  ·rw [if_neg e]; exact h.i n' b' hn' hb'
theorem setW (h : Dk M D) (hok : M.ok m) (hm : m <= 1000000000) (hc : 0 <= c /\ c < M.nm.length) (h8 : c < 8) {num b : Int} (hn : 1 <= num /\ num <= 257) (hb : 0 <= b /\ b < 8) {l : List Item} (hl : l.length <= 1000 /\ ∀ x ∈ l, 1 <= x.num /\ x.num <= 257) :
  Dk (M.setW c (wd num b) (.bucket l)) (fun n' b' => if n' = num /\ b' = b then l else D n' b') := (h.put_set hok hm hc h8 hn hb hl).note _ _
end Dk
end
section
open Go.RowKit
set_option maxHeartbeats 1000000
abbrev DkT := Int -> Int -> List Item
theorem Dk.congr {M : Mem} {D D' : DkT} (h : Dk M D) (e : ∀ num b, 1 <= num /\ num <= 257 -> 0 <= b /\ b < 8 -> D num b = D' num b) : Dk M D' :=
 ⟨fun num b hn hb => by rw [<- e num b hn hb]; exact h.s num b hn hb, fun num b hn hb => by rw [<- e num b hn hb]; exact h.i num b hn hb⟩
theorem rd_zero' (i : Int) : rd zeroWs i = 0 := by
 unfold rd zeroWs
 simp only [List.getD_eq_getElem?_getD, List.getElem?_replicate]
 split <;> rfl
theorem dk_new (n : Nat) : Dk (Mem.new n) (fun _ _ => []) := by
 refine ⟨fun num b hn hb => ⟨none, ⟨.inl (rd_zero' _), ?_, ?_⟩, .inl ⟨rfl, rfl⟩⟩, fun num b hn hb => ⟨by simp, fun x hx => by cases hx⟩⟩
 ·show (Mem.new n).thing (rd zeroWs _) = none
  rw [rd_zero']; rfl
 ·show rd zeroWs _ <= _
  rw [rd_zero']; decide
def dB (S : St) (i : Nat) (D : DkT) (k : Nat) : DkT := fun num b => if num = S.num i /\ b < k /\ bkItems S (S.ino i).ents b.toNat ≠ [] then bkItems S (S.ino i).ents b.toNat else D num b
def dI (S : St) (D : DkT) : Nat -> DkT
 | 0 => D
 | i + 1 => dB S i (dI S D i) 8
theorem loadB_nm (S : St) (i : Nat) (M : Mem) (b : Nat) : (loadB S i M b).nm.length = M.nm.length := by
 unfold loadB
 split
 ·rfl
 ·simp [Mem.put, Mem.give]
theorem loadBs_nm (S : St) (i : Nat) (M : Mem) : ∀ k, (loadBs S i M k).nm.length = M.nm.length
 | 0 => rfl
 | k + 1 => (loadB_nm S i _ k).trans (loadBs_nm S i M k)
theorem loadI_nm (S : St) (M : Mem) (i : Nat) : (loadI S M i).nm.length = M.nm.length := by
 unfold loadI
 split
 ·exact loadBs_nm S i M 8
 ·rw [<- loadBs_nm S i M 8]
  simp [loadFile, Mem.put, Mem.give]
theorem loadIs_nm (S : St) (M : Mem) : ∀ i, (loadIs S M i).nm.length = M.nm.length
 | 0 => rfl
 | i + 1 => (loadI_nm S _ i).trans (loadIs_nm S M i)
theorem dk_loadBs {S : St} {i : Nat} {M : Mem} {D : DkT} {m : Nat} (h : Dk M D) (hok : M.ok m) (hm : m <= 900000000) (hl : 0 < M.nm.length) (hn : 1 <= S.num i /\ S.num i <= 257) (hi : ∀ b, b < 8 -> (bkItems S (S.ino i).ents b).length <= 1000 /\ ∀ x ∈ bkItems S (S.ino i).ents b, 1 <= x.num /\ x.num <= 257) :
  ∀ k, k <= 8 -> Dk (loadBs S i M k) (dB S i D k)
 | 0, _ => h.congr fun num b _ hb => by unfold dB; rw [if_neg (fun q => by have := q.2.1; omega)]
 | k + 1, hk => by
  have ih := dk_loadBs h hok hm hl hn hi k (by omega)
  have hok' := loadBs_ok (S := S) (i := i) hok k
  show Dk (loadB S i (loadBs S i M k) k) _
  unfold loadB
  by_cases e : (bkItems S (S.ino i).ents k).length = 0
  ·rw [if_pos e]
   have e2 : bkItems S (S.ino i).ents k = [] := List.length_eq_zero_iff.1 e
   refine ih.congr fun num b _ hb => ?_
   unfold dB
   by_cases q : b = (k : Int)
   ·subst q
    rw [if_neg (fun q => by have := q.2.1; omega), if_neg (fun q => q.2.2 (by simpa using e2))]
   ·have : (b < (k : Int)) ↔ (b < ((k + 1 : Nat) : Int)) := by omega
    simp only [this]
  ·rw [if_neg e]
   have e2 : bkItems S (S.ino i).ents k ≠ [] := fun q => e (by rw [q]; rfl)
   refine (ih.put_set hok' (by omega) ⟨by omega, by rw [loadBs_nm]; omega⟩ (by omega) hn (b := (k : Int)) ⟨by omega, by omega⟩ (hi k (by omega))).congr fun num b _ hb => ?_
   by_cases q : num = S.num i /\ b = (k : Int)
   ·obtain ⟨rfl, rfl⟩ := q
    rw [if_pos ⟨rfl, rfl⟩]
    unfold dB
    rw [if_pos ⟨rfl, by omega, by simpa using e2⟩]
    simp
   ·rw [if_neg q]
    unfold dB
    by_cases r : num = S.num i
    ·have hb' : b ≠ (k : Int) := fun e => q ⟨r, e⟩
     have : (b < (k : Int)) ↔ (b < ((k + 1 : Nat) : Int)) := by omega
     simp only [this]
    ·rw [if_neg (fun x => r x.1), if_neg (fun x => r x.1)]
theorem dk_loadI {S : St} {i : Nat} {M : Mem} {D : DkT} {m : Nat} (h : Dk M D) (hok : M.ok m) (hm : m <= 900000000) (hl : 0 < M.nm.length) (hn : 1 <= S.num i /\ S.num i <= 257) (hi : ∀ b, b < 8 -> (bkItems S (S.ino i).ents b).length <= 1000 /\ ∀ x ∈ bkItems S (S.ino i).ents b, 1 <= x.num /\ x.num <= 257) : Dk (loadI S M i) (dB S i D 8) := by
 have h8 := dk_loadBs h hok hm hl hn hi 8 (Nat.le_refl _)
 unfold loadI
 split
 ·exact h8
 ·unfold loadFile
  exact ((h8.put (fun num b hn' hb => Dk.wd_ne hn' ⟨hb.1, by omega⟩ hn ⟨by decide, by decide⟩ (fun e => by omega)) _).give _ _).put (fun num b hn' hb => Dk.wd_ne hn' ⟨hb.1, by omega⟩ hn ⟨by decide, by decide⟩ (fun e => by omega)) _
theorem far_put {num b j : Int} (hn : 1 <= num /\ num <= 257) (hb : 0 <= b /\ b < 8) (hj : 9509 <= j) : (wd num b).toNat ≠ j.toNat := by unfold wd; omega
theorem dk_load {S : St} (hI : Inv S) (hb : ∀ i, i < S.inodes.length -> ∀ b, b < 8 -> (bkItems S (S.ino i).ents b).length <= 1000 /\ ∀ x ∈ bkItems S (S.ino i).ents b, 1 <= x.num /\ x.num <= 257) : Dk (loadM S) (dI S (fun _ _ => []) S.inodes.length) := by
 have hni := hI.small.ni
 have hloads : ∀ k, k <= S.inodes.length -> Dk (loadIs S (Mem.new S.made.length) k) (dI S (fun _ _ => []) k) := by
  intro k
  induction k with
  | zero => exact fun _ => dk_new _
  | succ k ih =>
   intro hk
   have hnum := hI.num_bound (Inv.ino_mem (show k < S.inodes.length by omega))
   exact dk_loadI (ih (by omega)) (loadIs_ok (Mem.new_ok _) k) (by omega) (by rw [loadIs_nm]; have := hI.m1; simp [Mem.new]; omega) hnum (hb k (by omega))
 have hmade : ∀ k, Dk (loadMade S (loadIs S (Mem.new S.made.length) S.inodes.length) k) (dI S (fun _ _ => []) S.inodes.length) := by
  intro k
  induction k with
  | zero => exact hloads _ (Nat.le_refl _)
  | succ k ih => exact ih.put (fun num b hn hb => far_put hn hb (by unfold mdw; omega)) _
 have hopen : ∀ k, k <= S.opens.length -> Dk (loadOpen S (loadMade S (loadIs S (Mem.new S.made.length) S.inodes.length) S.made.length) k) (dI S (fun _ _ => []) S.inodes.length) := by
  intro k
  induction k with
  | zero => exact fun _ => hmade _
  | succ k ih =>
   intro hk
   have ho := hI.ok (S.opens.getD k (0, 0, 0)) (getD_mem (by omega))
   exact (ih (by omega)).put (fun num b hn hb => far_put hn hb (by
    have h1 : 0 <= S.oc k := ho.1
    have h2 : 0 <= S.of k := ho.2.2.1
    unfold fdw; omega)) _
 exact hopen _ (Nat.le_refl _)
end
section
open Go.RowKit
set_option maxHeartbeats 1000000
theorem rd_put {M : Mem} (hl : M.ws.length = 9549) {i : Int} (hi : 0 <= i /\ i < 9549) {j : Int} (hj : 0 <= j) (v : Int) : rd (M.put i v).ws j = if j = i then v else rd M.ws j := by
 by_cases e : j = i
 ·subst e
  rw [if_pos rfl]
  unfold rd Mem.put wr
  simp only
  rw [getD_set _ _ _ _ _ (by rw [hl]; omega), if_pos rfl]
 ·rw [if_neg e]
  exact rd_wr_other' (by omega)
theorem see_ws (M : Mem) (c i : Int) : (M.see c i).ws = M.ws := by unfold Mem.see; split <;> rfl
theorem see_nm (M : Mem) (c i : Int) : (M.see c i).nm = M.nm := by unfold Mem.see; split <;> rfl
theorem put_wl {M : Mem} (hl : M.ws.length = 9549) (i v : Int) : (M.put i v).ws.length = 9549 := by simp only [Mem.put, wr_length]; exact hl
theorem setW_ws (M : Mem) (c i : Int) (t : Thing) : (M.setW c i t).ws = (M.put i (M.next c)).ws := rfl
theorem rd_loadB {S : St} {i : Nat} {M : Mem} {b : Nat} (hl : M.ws.length = 9549) (hb : b < 8) (hn : 1 <= S.num i /\ S.num i <= 257) {j : Int} (hj : 9509 <= j) : rd (loadB S i M b).ws j = rd M.ws j /\ (loadB S i M b).ws.length = 9549 := by
 unfold loadB
 split
 ·exact ⟨rfl, hl⟩
 ·refine ⟨?_, put_wl hl _ _⟩
  have e : ((M.give 0 (.bucket (bkItems S (S.ino i).ents b))).put (wd (S.num i) b) (M.next 0)).ws = (M.put (wd (S.num i) b) (M.next 0)).ws := rfl
  rw [e, rd_put hl (by unfold wd; omega) (by omega), if_neg (by unfold wd; omega)]
theorem rd_loadBs {S : St} {i : Nat} {M : Mem} (hl : M.ws.length = 9549) (hn : 1 <= S.num i /\ S.num i <= 257) {j : Int} (hj : 9509 <= j) : ∀ k, k <= 8 -> rd (loadBs S i M k).ws j = rd M.ws j /\ (loadBs S i M k).ws.length = 9549
 | 0, _ => ⟨rfl, hl⟩
 | k + 1, hk => by
  obtain ⟨h1, h2⟩ := rd_loadBs hl hn hj k (by omega)
  obtain ⟨h3, h4⟩ := rd_loadB (S := S) (i := i) h2 (show k < 8 by omega) hn hj
  exact ⟨h3.trans h1, h4⟩
theorem rd_loadI {S : St} {i : Nat} {M : Mem} (hl : M.ws.length = 9549) (hn : 1 <= S.num i /\ S.num i <= 257) {j : Int} (hj : 9509 <= j) : rd (loadI S M i).ws j = rd M.ws j /\ (loadI S M i).ws.length = 9549 := by
 obtain ⟨h1, h2⟩ := rd_loadBs (S := S) (i := i) hl hn hj 8 (Nat.le_refl _)
 unfold loadI
 split
 ·exact ⟨h1, h2⟩
 ·unfold loadFile
  refine ⟨?_, put_wl (put_wl h2 _ _) _ _⟩
  have e : ∀ (N : Mem) (t : Thing) (p q : Int), ((N.give 0 t).put p q).ws = (N.put p q).ws := fun _ _ _ _ => rfl
  simp only []
  rw [e, rd_put (put_wl h2 _ _) (by unfold wd; omega) (by omega), if_neg (by unfold wd; omega), rd_put h2 (by unfold wd; omega) (by omega), if_neg (by unfold wd; omega), h1]
theorem rd_loadIs {S : St} (hI : Inv S) {M : Mem} (hl : M.ws.length = 9549) {j : Int} (hj : 9509 <= j) : ∀ k, k <= S.inodes.length -> rd (loadIs S M k).ws j = rd M.ws j /\ (loadIs S M k).ws.length = 9549
 | 0, _ => ⟨rfl, hl⟩
 | k + 1, hk => by
  obtain ⟨h1, h2⟩ := rd_loadIs hI hl hj k (by omega)
  have hn := hI.num_bound (Inv.ino_mem (show k < S.inodes.length by omega))
  obtain ⟨h3, h4⟩ := rd_loadI (S := S) (i := k) h2 hn hj
  exact ⟨h3.trans h1, h4⟩
theorem rd_loadMade {S : St} (h8 : S.made.length <= 8) {M : Mem} (hl : M.ws.length = 9549) : ∀ k, k <= S.made.length -> (loadMade S M k).ws.length = 9549 /\ (∀ c : Nat, rd (loadMade S M k).ws (mdw (c : Nat)) = if c < k then S.mad c else rd M.ws (mdw (c : Nat))) /\ ∀ j, 9517 <= j -> rd (loadMade S M k).ws j = rd M.ws j
 | 0, _ => ⟨hl, fun c => by rw [if_neg (by omega)]; rfl, fun _ _ => rfl⟩
 | k + 1, hk => by
  obtain ⟨h1, h2, h3⟩ := rd_loadMade h8 hl k (by omega)
  refine ⟨put_wl h1 _ _, fun c => ?_, fun j hj => ?_⟩
  ·show rd ((loadMade S M k).put (mdw k) (S.mad k)).ws (mdw (c : Nat)) = _
   rw [rd_put h1 (by unfold mdw; omega) (by unfold mdw; omega)]
   by_cases e : c = k
   ·subst e
    rw [if_pos rfl, if_pos (by omega)]
   ·rw [if_neg (by unfold mdw; omega), h2 c]
    by_cases q : c < k
    ·rw [if_pos q, if_pos (by omega)]
    ·rw [if_neg q, if_neg (by omega)]
  ·show rd ((loadMade S M k).put (mdw k) (S.mad k)).ws j = _
   rw [rd_put h1 (by unfold mdw; omega) (by omega), if_neg (by unfold mdw; omega), h3 j hj]
theorem load_words {S : St} (hI : Inv S) (ho : S.opens = []) : (∀ c : Nat, c < S.made.length -> rd (loadM S).ws (mdw (c : Nat)) = S.mad c) /\ ∀ c k : Nat, c < 8 -> k < 4 -> rd (loadM S).ws (fdw (c : Nat) (k : Nat)) = 0 := by
 have h0 : (loadIs S (Mem.new S.made.length) S.inodes.length).ws.length = 9549 := (rd_loadIs hI (M := Mem.new S.made.length) zeroWs_len (j := 9509) (by omega) _ (Nat.le_refl _)).2
 have e : loadM S = loadMade S (loadIs S (Mem.new S.made.length) S.inodes.length) S.made.length := by
  unfold loadM
  rw [ho]; rfl
 obtain ⟨h1, h2, h3⟩ := rd_loadMade (S := S) hI.m8 h0 S.made.length (Nat.le_refl _)
 rw [e]
 refine ⟨fun c hc => by rw [h2 c, if_pos hc], fun c k hc hk => ?_⟩
 rw [h3 _ (by unfold fdw; omega), (rd_loadIs hI (M := Mem.new S.made.length) zeroWs_len (j := fdw (c : Nat) (k : Nat)) (by unfold fdw; omega) _ (Nat.le_refl _)).1]
 exact rd_zero' _
def Bz (M : Mem) : Prop := ∀ num, 1 <= num /\ num <= 257 -> Says M (wd num 16) none
theorem bz_new (n : Nat) : Bz (Mem.new n) := fun num _ => ⟨.inl (rd_zero' _), by
 show (Mem.new n).thing (rd zeroWs _) = none
 rw [rd_zero']; rfl, by
 show rd zeroWs _ <= _
 rw [rd_zero']; decide⟩
theorem Bz.put {M : Mem} (h : Bz M) {j : Int} (hj : ∀ num, 1 <= num /\ num <= 257 -> (wd num 16).toNat ≠ j.toNat) (v : Int) : Bz (M.put j v) := fun num hn => (h num hn).put (hj num hn) v
theorem Bz.give {M : Mem} (h : Bz M) (c : Int) (t : Thing) : Bz (M.give c t) := fun num hn => (h num hn).give c t
theorem Bz.note {M : Mem} (h : Bz M) (c : Int) (x : Acc) : Bz (M.note c x) := fun num hn => (h num hn).note c x
theorem Bz.see {M : Mem} (h : Bz M) (c j : Int) : Bz (M.see c j) := fun num hn => (h num hn).see c j
theorem Bz.clear {M : Mem} (h : Bz M) (k : Nat) : Bz (M.clear k) := fun num hn => ⟨(h num hn).f, (h num hn).a, (h num hn).z⟩
theorem bz_loadBs {S : St} {i : Nat} {M : Mem} (h : Bz M) (hn : 1 <= S.num i /\ S.num i <= 257) : ∀ k, k <= 8 -> Bz (loadBs S i M k)
 | 0, _ => h
 | k + 1, hk => by
  have ih := bz_loadBs h hn k (by omega)
  show Bz (loadB S i (loadBs S i M k) k)
  unfold loadB
  split
  ·exact ih
  ·exact (ih.give _ _).put (fun num hn' => Dk.wd_ne hn' ⟨by decide, by decide⟩ hn ⟨by omega, by omega⟩ (fun e => by omega)) _
theorem bz_load {S : St} (hI : Inv S) (ho : S.opens = []) (hd : ∀ i, i < S.inodes.length -> S.dir i = true) : Bz (loadM S) := by
 have h1 : ∀ k, k <= S.inodes.length -> Bz (loadIs S (Mem.new S.made.length) k) := by
  intro k
  induction k with
  | zero => exact fun _ => bz_new _
  | succ k ih =>
   intro hk
   show Bz (loadI S _ k)
   unfold loadI
   rw [if_pos (hd k (by omega))]
   exact bz_loadBs (ih (by omega)) (hI.num_bound (Inv.ino_mem (show k < S.inodes.length by omega))) 8 (Nat.le_refl _)
 have h2 : ∀ k, Bz (loadMade S (loadIs S (Mem.new S.made.length) S.inodes.length) k) := by
  intro k
  induction k with
  | zero => exact h1 _ (Nat.le_refl _)
  | succ k ih => exact ih.put (fun num hn => by unfold wd mdw; omega) _
 unfold loadM
 rw [ho]
 exact h2 _
theorem Bz.base {M : Mem} (h : Bz M) {num : Int} (hn : 1 <= num /\ num <= 257) : M.isBase num /\ rd M.ws (wd num 16) <= 1000000000000 /\ (M.bas num).2.1 = ⟨#[]⟩ := by
 obtain ⟨h1, h2, h3⟩ := h num hn
 refine ⟨⟨h1, fun t ht => by rw [h2] at ht; cases ht⟩, h3, ?_⟩
 unfold Mem.bas
 rw [h2]
section
variable {M : Mem} {D : DkT} {c n kind : Int} {it : Item} {nm : ByteArray} {m : Nat}
theorem nb_lt (nm : ByteArray) : 0 <= ((nbucket nm : Nat) : Int) /\ ((nbucket nm : Nat) : Int) < 8 := by
 have : nbucket nm < 8 := by unfold nbucket; omega
 omega
theorem dk_create (h : Dk M D) (hok : M.ok m) (hm : m <= 900000000) (hc : 0 <= c /\ c < M.nm.length) (h8 : c < 8) (hn : 0 <= n /\ n < 32) (hi : 1 <= it.num /\ it.num <= 257) (hl : (D it.num (nbucket nm : Nat)).length < 1000) :
  Dk (createM M c it nm kind n) (fun n' b' => if n' = it.num /\ b' = (nbucket nm : Nat) then D it.num (nbucket nm : Nat) ++ [⟨nm, 2 + c + 8 * n, kind == 1⟩] else D n' b') := by
 have hb := nb_lt nm
 have h1 := ((h.see c (mdw c)).put (j := mdw c) (fun num b hn hb => far_put hn hb (by unfold mdw; omega)) (n + 1)).note c (mdw c, true)
 have hk1 := ((hok.see c (mdw c)).put (mdw c) (n + 1)).note c (mdw c, true)
 have hbk : M.bkt it.num (nbucket nm : Nat) = D it.num (nbucket nm : Nat) := h.bkt hi hb
 have hit := h.i it.num (nbucket nm : Nat) hi hb
 have h2 := h1.setW hk1 (by omega) (c := c) ⟨hc.1, by simp only [Mem.note, Mem.put, see_nm]; exact hc.2⟩ h8 hi hb (l := D it.num (nbucket nm : Nat) ++ [⟨nm, 2 + c + 8 * n, kind == 1⟩]) ⟨by rw [List.length_append]; simp; omega, fun x hx => by
  rcases List.mem_append.1 hx with hx | hx
  ·exact hit.2 x hx
  ·rw [List.mem_singleton.1 hx]; simp only; omega⟩
 unfold createM
 simp only [hbk]
 split
 ·exact (h2.put (fun num b hn' hb' => Dk.wd_ne hn' ⟨hb'.1, by omega⟩ (show 1 <= 2 + c + 8 * n /\ 2 + c + 8 * n <= 257 by omega) (show 0 <= 8 + c /\ 8 + c < 37 by omega) (fun e => by omega)) _).note _ _
 ·exact h2
theorem ok_create (hok : M.ok m) : (createM M c it nm kind n).ok (m + 6) := by
 have h1 := ((hok.see c (mdw c)).put (mdw c) (n + 1)).note c (mdw c, true)
 unfold createM
 simp only
 split
 ·exact (((h1.setW c _ _).put _ _).note _ _).mono (by omega)
 ·exact (h1.setW c _ _).mono (by omega)
theorem bz_create (h : Bz M) (hc : 0 <= c /\ c < 8) (hn : 0 <= n /\ n < 32) (hi : 1 <= it.num /\ it.num <= 257) : Bz (createM M c it nm kind n) := by
 have hb := nb_lt nm
 have h1 := ((h.see c (mdw c)).put (j := mdw c) (fun num hn => by unfold wd mdw; omega) (n + 1)).note c (mdw c, true)
 have h2 : ∀ t, Bz ((((M.see c (mdw c)).put (mdw c) (n + 1)).note c (mdw c, true)).setW c (wd it.num (nbucket nm : Nat)) t) := fun t => ((h1.give c t).put (fun num hn' => Dk.wd_ne hn' ⟨by decide, by decide⟩ hi ⟨hb.1, by omega⟩ (fun e => by omega)) _).note _ _
 unfold createM
 simp only
 split
 ·exact ((h2 _).put (fun num hn' => Dk.wd_ne hn' ⟨by decide, by decide⟩ (show 1 <= 2 + c + 8 * n /\ 2 + c + 8 * n <= 257 by omega) (show 0 <= 8 + c /\ 8 + c < 37 by omega) (fun e => by omega)) _).note _ _
 ·exact h2 _
theorem rd_create (hok : M.ok m) (hc : 0 <= c /\ c < 8) (hn : 0 <= n /\ n < 32) (hi : 1 <= it.num /\ it.num <= 257) {j : Int} (hj : 9509 <= j) : rd (createM M c it nm kind n).ws j = if j = mdw c then n + 1 else rd M.ws j := by
 have hb := nb_lt nm
 have hl : (M.see c (mdw c)).ws.length = 9549 := by rw [see_ws]; exact hok.wl
 have hl1 := put_wl hl (mdw c) (n + 1)
 have e1 : rd ((M.see c (mdw c)).put (mdw c) (n + 1)).ws j = if j = mdw c then n + 1 else rd M.ws j := by
  rw [rd_put hl (by unfold mdw; omega) (by omega), see_ws]
 have e2 : ∀ t, rd ((((M.see c (mdw c)).put (mdw c) (n + 1)).note c (mdw c, true)).setW c (wd it.num (nbucket nm : Nat)) t).ws j = if j = mdw c then n + 1 else rd M.ws j := fun t => by
  rw [setW_ws, rd_put (show (((M.see c (mdw c)).put (mdw c) (n + 1)).note c (mdw c, true)).ws.length = 9549 from hl1) (by unfold wd; omega) (by omega), if_neg (by unfold wd; omega)]
  exact e1
 unfold createM
 simp only
 split
 ·exact (rd_wr_other' (show j.toNat ≠ (wd (2 + c + 8 * n) (8 + c)).toNat by unfold wd; omega)).trans (e2 _)
 ·exact e2 _
end
end
end Go.Proofs.YtkebjgebkneijaaGreatDoor
