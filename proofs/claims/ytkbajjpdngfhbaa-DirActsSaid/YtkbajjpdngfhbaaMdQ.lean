
/- law9: spoil; what stands between two acts; the model answers as the directory; the step from act to act. -/
import Derived.Test.YtkbajjpdngfhbaaMdE
import Derived.Test.YtkbajjpdngfhbaaRowsA
namespace Go.Proofs.Ytkbajjpdngfhbaa
open Go.RowKit
set_option maxHeartbeats 2000000
/-- A block's second cells of n pairs hold ints. -/
def SpR (W : World) (g n : Nat) : Prop := ∃ cs, Blk W g 54 cs ∧ ∀ k, k < n → ∃ z : Int, cs[k * 2 + 1]? = some (.int .i64 z)
theorem SpR.set_ {W : World} {g n : Nat} (h : SpR W g n) (j : Nat) (z : Int) : SpR (W.setCell ⟨g, j * 2 + 1, none⟩ (.int .i64 z)) g n := by
  obtain ⟨cs, hb, hc⟩ := h
  refine ⟨_, hb.set_ (j * 2 + 1) _, fun k hk => ?_⟩
  obtain ⟨y, hy⟩ := hc k hk
  by_cases e : j * 2 + 1 = k * 2 + 1
  · rw [e, Array.getElem?_setIfInBounds, if_pos rfl, if_pos (Array.getElem?_eq_some_iff.1 hy).1]
    exact ⟨z, rfl⟩
  · exact ⟨y, by rw [Array.getElem?_setIfInBounds, if_neg e]; exact hy⟩
set_option maxRecDepth 1000000 in
theorem spoil_ents {w : World} {base : Nat} {v : Value} {D : List Ent} (h : w.ownsRow base 54 2 v D.length (D.flatMap encE)) (hl : D.length ≤ 1000) :
    Calls Try.prog 18 #[v] w fun e w' => e = .returned (.tuple #[]) ∧ Keeps (fun b => b < w.heap.size ∧ v.ownBlock ≠ some b) w w' := by
  rcases h.2 with ⟨rfl, h0⟩ | ⟨g, cap, cur, rfl, hb, hg, hnc, hcm, hcs, htake⟩
  · clear h
    go_enter Try.func18, Try.ntmps18
    go_wp2_with (fail)
    go_loopw [2] (fun i wr => i = .int .i64 0 ∧ wr = w) (fun _ _ => 0)
    case atStart => exact ⟨rfl, rfl⟩
    case round =>
      obtain ⟨rfl, rfl⟩ := hrel
      go_wp2_with (fail)
      go_end0
      exact ⟨rfl, Keeps.refl _ _⟩
  · have HS := Lib.hid (show SpR w g D.length from ⟨cur, hg, fun k hk => by
      have := (encE_at D k hk).2
      rw [← htake, List.getElem?_take] at this
      split at this
      · exact ⟨_, by simpa using this⟩
      · cases this⟩)
    clear h hg htake
    go_enter Try.func18, Try.ntmps18
    go_wp2_with (fail)
    go_loopw [2] (fun i wr => ∃ j : Nat, i = .int .i64 j ∧ j ≤ D.length ∧ SpR wr g D.length ∧ Keeps (fun b => b < w.heap.size ∧ (Value.slice (some ⟨g, 0, none⟩) D.length cap).ownBlock ≠ some b) w wr) (fun i _ => D.length - (intOf i).toNat)
    case atStart => exact ⟨0, rfl, Nat.zero_le _, HS.out, Keeps.refl _ _⟩
    case round =>
      clear HS
      obtain ⟨j, rfl, hj, hS, hK⟩ := hrel
      have HS := Lib.hid hS
      have HK := Lib.hid hK
      clear hS hK
      by_cases hp : j < D.length
      · have hp1 : (j : Int) < (D.length : Int) := by omega
        have hp0 : (0 : Int) ≤ (j : Int) := by omega
        obtain ⟨cs, hb2, hc⟩ := id HS.out
        obtain ⟨z, hz⟩ := hc j hp
        have c1 := hb2.cell (j * 2 + 1)
        rw [hz] at c1
        have f1 := hb2.frozen (j * 2 + 1)
        clear hb2 hc hz
        go_wp2_with (fail)
        go_roundw
        case rel => exact ⟨j + 1, by first | rfl | (congr 1; omega), by omega, HS.out.set_ j _, HK.out.setCell (p := ⟨g, j * 2 + 1, none⟩) (fun h => h.2 rfl) _⟩
        case measure =>
          simp only [intOf]
          omega
      · have hp1 : ¬ (j : Int) < (D.length : Int) := by omega
        go_wp2_with (fail)
        go_end0
        exact ⟨rfl, HK.out⟩
end Go.Proofs.Ytkbajjpdngfhbaa

namespace Go.Proofs.Ytkbajjpdngfhbaa
open Go.RowKit
set_option maxHeartbeats 2000000
theorem DS.len32 {L : Nat → Prop} {w : World} {a d : Nat} {n m : Nat} {P : List (List Acc) → Prop} {f : Int} {D : List Ent} (h : DS L w d a f n m P D) : D.length ≤ 32 := by
  obtain ⟨ws, T, h1, h2, h3, h4⟩ := h
  rw [← h4.length_eq]
  exact entsTo_le T 32
theorem rise_eq : ∀ {D E : List Ent}, D.Perm E → Rise D → Rise E → Uniq D → D = E
  | [], E, hp, _, _, _ => (hp.symm.eq_nil).symm
  | x :: D, [], hp, _, _, _ => absurd hp.eq_nil (by simp)
  | x :: D, y :: E, hp, h1, h2, hu => by
    have hxy : x = y := by
      unfold Rise at h1 h2
      unfold Uniq at hu
      rw [List.pairwise_cons] at h1 h2 hu
      by_cases e : x = y
      · exact e
      · have hy : y ∈ D := by
          have := hp.mem_iff.2 (List.mem_cons_self (a := y) (l := E))
          rcases List.mem_cons.1 this with h | h
          · exact absurd h.symm e
          · exact h
        have hx : x ∈ E := by
          have := hp.mem_iff.1 (List.mem_cons_self (a := x) (l := D))
          rcases List.mem_cons.1 this with h | h
          · exact absurd h e
          · exact h
        have a := h1.1 y hy
        have b := h2.1 x hx
        rcases nlt_tri x.1 y.1 with q | q | q
        · rw [q] at b; cases b
        · exact absurd q (hu.1 y hy)
        · rw [q] at a; cases a
    subst hxy
    have := rise_eq ((List.perm_cons _).1 hp) (List.pairwise_cons.1 h1).2 (List.pairwise_cons.1 h2).2 (List.pairwise_cons.1 hu).2
    rw [this]
/-- The model's list is M, the directory's entries are D. -/
structure AL (w W : World) (L : Nat → Prop) (mb d a m : Nat) (v : Value) (M D : List Ent) : Prop where
  mdl : Blk W mb 30 #[v]
  own : W.ownsRow w.heap.size 54 2 v M.length (M.flatMap encE)
  ds : DS (lo (ins L mb) v) W d a 0 4 m (fun _ => True) D
  rise : Rise M
  bel : Below w.heap.size w W
section
variable {w W W' : World} {L : Nat → Prop} {mb d a m m' : Nat} {v v' : Value} {M M' D D' : List Ent}
theorem AL.md (h : AL w W L mb d a m v M D) : MdAt W mb v M := ⟨h.mdl, Sl.ofOwn h.own⟩
theorem AL.call (h : AL w W L mb d a m v M D) (hL : ∀ b, b < w.heap.size → L b) (hk : Keeps (lo (ins L mb) v) W W') (hd : DS (lo (ins L mb) v) W' d a 0 4 m' (fun _ => True) D') : AL w W' L mb d a m' v M D' :=
  ⟨hk.blk h.mdl (.inl (.inr rfl)), own_keep h.own hk, hd, h.rise, h.bel.trans (hk.below fun b hb => .inl (.inl (hL b hb)))⟩
theorem AL.below (h : AL w W L mb d a m v M D) (hL : ∀ b, b < w.heap.size → L b) (hb : Below W.heap.size W W') : AL w W' L mb d a m v M D :=
  h.call hL ((Keeps.ofBelow hb).sub fun b hl => h.ds.bd b hl) (h.ds.below hb)
theorem AL.alloc (h : AL w W L mb d a m v M D) (hL : ∀ b, b < w.heap.size → L b) (o : Obj) : AL w (W.alloc o) L mb d a m v M D := h.below hL (below_alloc _ _)
theorem AL.act (h : AL w W L mb d a m v M D) (hL : ∀ b, b < w.heap.size → L b) (hLd : L d) (hmb : ¬ mb < w.heap.size) (hdm : d ≠ mb) (hp : ActP W W' mb M M') (hr : Rise M') : ∃ v', AL w W' L mb d a m v' M' D := by
  rcases hp with ⟨rfl, hb⟩ | ⟨v', hb, ho, hk⟩
  · exact ⟨v, h.below hL hb⟩
  · refine ⟨v', hb, own_low ho h.bel.size, ?_, hr, h.bel.trans (hk.below fun b hb => ⟨Nat.lt_of_lt_of_le hb h.bel.size, fun e => hmb (by omega)⟩)⟩
    have hbd := h.ds.bd
    obtain ⟨ws, T, h1, h2, h3, h4⟩ := h.ds
    have hlv : ∀ g, v'.ownBlock = some g → W.heap.size ≤ g ∧ g < W'.heap.size := fun g hg => ⟨own_ge ho hg, (ho.lt g hg).2⟩
    have hbd' : Bd (lo (ins L mb) v') W' := fun b hb => by
      rcases hb with hb | hb
      · exact Nat.lt_of_lt_of_le (hbd b (.inl hb)) hk.size
      · exact (hlv b hb).2
    refine ⟨ws, T, ⟨.inl (.inl hLd), hk.blk h1.2.1 ⟨hbd d (.inl (.inl hLd)), hdm⟩, h1.2.2⟩, h2.map fun _ q => q.move hbd' (fun b hb hlt => ?_) (fun b hlt hn => hk.block b ⟨hlt, fun e => hn (.inl (.inr e))⟩), h3, h4⟩
    rcases hb with hb | hb
    · exact .inl hb
    · have := (hlv b hb).1; omega
theorem AL.list (h : AL w W L mb d a m v M D) (hL : ∀ b, b < w.heap.size → L b) {v9 : Value} {k : Nat} {xs : List Value} {W1 : World} (ho : W1.ownsRow W.heap.size 54 2 v9 k xs) (hk : Keeps (lo (ins L mb) v) W W1) (hd : DS (lo (lo (ins L mb) v) v9) W1 d a 0 4 m' (fun _ => True) D)
    (hk2 : Keeps (fun b => b < W1.heap.size ∧ v9.ownBlock ≠ some b) W1 W') (hLd : L d) : AL w W' L mb d a m' v M D := by
  have hbd := h.ds.bd
  have hlt9 : ∀ b, lo (ins L mb) v b → b < W1.heap.size ∧ v9.ownBlock ≠ some b := fun b hb => ⟨Nat.lt_of_lt_of_le (hbd b hb) hk.size, fun e => by
    have := own_ge ho e
    have := hbd b hb
    omega⟩
  have hK : Keeps (lo (ins L mb) v) W W' := hk.trans (hk2.sub hlt9)
  refine h.call hL hK ?_
  have hbd1 := hd.bd
  obtain ⟨ws, T, h1, h2, h3, h4⟩ := hd
  refine ⟨ws, T, ⟨.inl (.inl hLd), hk2.blk h1.2.1 (hlt9 d (.inl (.inl hLd))), h1.2.2⟩, h2.map fun _ q => q.move (fun b hb => Nat.lt_of_lt_of_le (hbd b hb) hK.size) (fun b hb _ => .inl hb) (fun b hlt hn => hk2.block b ⟨hlt, fun e => hn (.inr e)⟩), h3, h4⟩
end
end Go.Proofs.Ytkbajjpdngfhbaa

namespace Go.Proofs.Ytkbajjpdngfhbaa
open Go.RowKit
set_option maxHeartbeats 1000000
section
variable {w : World} {mb : Nat} {v : Value} {M D : List Ent}
theorem same_p {w' : World} {u e : Int} {r : Ending} (h : r = .returned (.tuple #[.int .i64 u, .int .i64 e]) ∧ Below w.heap.size w w') (hr : Rise M) : r = .returned (.tuple #[.int .i64 u, .int .i64 e]) ∧ ∃ M', M'.Perm M ∧ Rise M' ∧ ActP w w' mb M M' := ⟨h.1, M, .refl _, hr, .inl ⟨rfl, h.2⟩⟩
theorem act_bad (h : MdAt w mb v M) (hl : M.length ≤ 1000) (hz : ∀ e ∈ M, ncheck e.1 = 0) (kind core num : Int) (name tn : ByteArray) (hc : (core < 0 ∨ 4 ≤ core) ∨ ncheck name ≠ 0) :
    Calls Try.prog 16 #[.pointer (some ⟨mb, 0, none⟩), actV kind core num name tn] w fun r w' => r = .returned (.tuple #[.int .i64 0, .int .i64 900]) ∧ Below w.heap.size w w' := by
  by_cases h1 : core < 0
  · exact act_bad1 h hl hz kind core num name tn h1
  · by_cases h2 : 3 < core
    · exact act_bad2 h hl hz kind core num name tn h1 h2
    · exact act_bad3 h hl hz kind core num name tn (by omega) (by omega) (by rcases hc with hc | hc; omega; exact hc)
theorem may_parts {core : Int} {name : ByteArray} (h : mayE 4 core [name] = 900) : (core < 0 ∨ 4 ≤ core) ∨ ncheck name ≠ 0 := by
  by_cases h1 : 0 ≤ core ∧ core < 4
  · right
    intro hn
    rw [mayE_one (by omega) (by omega) hn] at h
    cases h
  · left; omega
theorem act_ins (h : MdAt w mb v M) (hl : M.length ≤ 1000) (hz : ∀ e ∈ M, ncheck e.1 = 0) (hr : Rise M) {kind core num : Int} {name tn : ByteArray} (hk : kind < 5) {r : Int} (hi : InsD M 4 core name num r D) :
    Calls Try.prog 16 #[.pointer (some ⟨mb, 0, none⟩), actV kind core num name tn] w fun R w' => R = .returned (.tuple #[.int .i64 0, .int .i64 r]) ∧ ∃ M', M'.Perm D ∧ Rise M' ∧ ActP w w' mb M M' := by
  rcases hi with ⟨rfl, rfl, hb⟩ | ⟨⟨hm, h1, h2⟩, hi⟩
  · rcases mayE_or 4 core [name] with hm | hm
    · obtain ⟨hc, ha⟩ := mayE_core hm
      have hn := allOk1 ha
      by_cases hv : num < 1
      · exact (act_ins1 h hl hz kind core num name tn hc.1 hc.2 hn hk hv).mono fun _ _ q => same_p q hr
      · exact (act_ins2 h hl hz kind core num name tn hc.1 hc.2 hn hk hv (by rw [hm] at hb; omega)).mono fun _ _ q => same_p q hr
    · exact (act_bad h hl hz kind core num name tn (may_parts hm)).mono fun _ _ q => same_p q hr
  · obtain ⟨hc, ha⟩ := mayE_core hm
    have hn := allOk1 ha
    have hv : ¬ num < 1 := by omega
    have hv2 : ¬ 2147483647 < num := by omega
    rcases hi with ⟨⟨u, hu⟩, rfl, rfl⟩ | ⟨hno, ⟨hf, rfl, rfl⟩ | ⟨hf, rfl, rfl⟩⟩
    · exact (act_ins3 h hl hz kind core num name tn hc.1 hc.2 hn hk hv hv2 hu).mono fun _ _ q => same_p q hr
    · exact (act_ins4 h hl hz kind core num name tn hc.1 hc.2 hn hk hv hv2 hno hf).mono fun _ _ q => same_p q hr
    · exact (act_ins5 h hl hz kind core num name tn hc.1 hc.2 hn hk hv hv2 hno hf).mono fun _ _ q => ⟨q.1, _, putF_perm _ _, putF_rise hr, q.2⟩
theorem act_rem (h : MdAt w mb v M) (hl : M.length ≤ 1000) (hz : ∀ e ∈ M, ncheck e.1 = 0) (hr : Rise M) (hu : Uniq M) {kind core num : Int} {name tn : ByteArray} (hk : ¬ kind < 5) (hk7 : kind < 7) {r : Int} (hi : RemD M 4 core name r D) :
    Calls Try.prog 16 #[.pointer (some ⟨mb, 0, none⟩), actV kind core num name tn] w fun R w' => R = .returned (.tuple #[.int .i64 0, .int .i64 r]) ∧ ∃ M', M'.Perm D ∧ Rise M' ∧ ActP w w' mb M M' := by
  rcases hi with ⟨hm, rfl, rfl⟩ | ⟨hm, hi⟩
  · exact (act_bad h hl hz kind core num name tn (may_parts hm)).mono fun _ _ q => same_p q hr
  · obtain ⟨hc, ha⟩ := mayE_core hm
    have hn := allOk1 ha
    rcases hi with ⟨u, hp, rfl⟩ | ⟨hno, rfl, rfl⟩
    · have hmu : (name, u) ∈ M := hp.mem_iff.2 List.mem_cons_self
      refine (act_rem2 h hl hz kind core num name tn hc.1 hc.2 hn hk hk7 hmu).mono ?_
      rintro R w' ⟨hR, k, hkl, hke, hA⟩
      have he : M[k] = (name, u) := by
        have h2 : (name, M[k].2) ∈ M := by
          have := List.getElem_mem hkl
          rw [← hke]
          exact this
        have := hu.val h2 hmu
        exact Prod.ext hke this
      have hd := dropF_perm M hkl
      rw [he] at hd
      exact ⟨hR, _, (List.perm_cons _).1 (hd.symm.trans hp), dropF_rise hkl hr, hA⟩
    · exact (act_rem1 h hl hz kind core num name tn hc.1 hc.2 hn hk hk7 hno).mono fun _ _ q => same_p q hr
theorem act_fnd (h : MdAt w mb v M) (hl : M.length ≤ 1000) (hz : ∀ e ∈ M, ncheck e.1 = 0) (hr : Rise M) (hu : Uniq M) {kind core num : Int} {name tn : ByteArray} (hk : 9 ≤ kind) {x r : Int} (hi : FindD M 4 core name x r) :
    Calls Try.prog 16 #[.pointer (some ⟨mb, 0, none⟩), actV kind core num name tn] w fun R w' => R = .returned (.tuple #[.int .i64 x, .int .i64 r]) ∧ ∃ M', M'.Perm M ∧ Rise M' ∧ ActP w w' mb M M' := by
  rcases hi with ⟨hm, rfl, rfl⟩ | ⟨hm, hi⟩
  · exact (act_bad h hl hz kind core num name tn (may_parts hm)).mono fun _ _ q => same_p q hr
  · obtain ⟨hc, ha⟩ := mayE_core hm
    have hn := allOk1 ha
    rcases hi with ⟨u, hmu, rfl, rfl⟩ | ⟨hno, rfl, rfl⟩
    · refine (act_fnd2 h hl hz kind core num name tn hc.1 hc.2 hn hk hmu).mono ?_
      rintro R w' ⟨k, hkl, hR, hke, hB⟩
      have h2 : (name, M[k].2) ∈ M := by
        have := List.getElem_mem hkl
        rw [← hke]
        exact this
      have := hu.val h2 hmu
      rw [this] at hR
      exact ⟨hR, M, .refl _, hr, .inl ⟨rfl, hB⟩⟩
    · exact (act_fnd1 h hl hz kind core num name tn hc.1 hc.2 hn hk hno).mono fun _ _ q => same_p q hr
theorem act_mov (h : MdAt w mb v M) (hl : M.length ≤ 1000) (hz : ∀ e ∈ M, ncheck e.1 = 0) (hr : Rise M) (hu : Uniq M) (hc4 : ∀ b, b < 8 → cntB M b ≤ 4) {kind core num : Int} {name tn : ByteArray} (hk : kind = 7 ∨ kind = 8) {r : Int} (hi : MovD M 4 core name tn r D) :
    Calls Try.prog 16 #[.pointer (some ⟨mb, 0, none⟩), actV kind core num name tn] w fun R w' => R = .returned (.tuple #[.int .i64 0, .int .i64 r]) ∧ ∃ M', M'.Perm D ∧ Rise M' ∧ ActP w w' mb M M' := by
  rcases hi with ⟨hm, rfl, rfl⟩ | ⟨hm, hi⟩
  · by_cases hg : (0 ≤ core ∧ core < 4) ∧ ncheck name = 0
    · obtain ⟨hc, hn⟩ := hg
      have ht : ncheck tn ≠ 0 := fun ht => by
        rw [mayE_two (by omega) (by omega) hn ht] at hm
        cases hm
      exact (act_mov1 h hl hz kind core num name tn hc.1 hc.2 hn hk ht).mono fun _ _ q => same_p q hr
    · refine (act_bad h hl hz kind core num name tn ?_).mono fun _ _ q => same_p q hr
      by_cases hn : ncheck name = 0
      · left
        by_cases h0 : core < 0
        · exact .inl h0
        · right
          by_cases h4 : 4 ≤ core
          · exact h4
          · exact absurd ⟨⟨by omega, by omega⟩, hn⟩ hg
      · exact .inr hn
  · obtain ⟨hc, ha⟩ := mayE_core hm
    obtain ⟨hn, ht⟩ := allOk2 ha
    rcases hi with ⟨hno, rfl, rfl⟩ | ⟨u, hmu, ⟨⟨q, hq⟩, rfl, rfl⟩ | ⟨hno2, ⟨hne, hf, rfl, rfl⟩ | ⟨hor, rfl, R, hp, rfl⟩⟩⟩
    · exact (act_mov2 h hl hz kind core num name tn hc.1 hc.2 hn hk ht hno).mono fun _ _ q => same_p q hr
    · exact (act_mov3 h hl hz kind core num name tn hc.1 hc.2 hn hk ht hmu hq).mono fun _ _ q => same_p q hr
    · exact (act_mov4 h hl hz kind core num name tn hc.1 hc.2 hn hk ht hmu hno2 (by rw [fcnt_other hne]; exact hf)).mono fun _ _ q => same_p q hr
    · have hf : fcnt M tn name < 4 := by
        by_cases he : nbucket tn = nbucket name
        · have a := fcnt_same hmu he
          have b := hc4 (nbucket tn) (nbucket_lt tn)
          omega
        · rw [fcnt_other he]
          rcases hor with q | q
          · exact absurd q he
          · exact q
      refine (act_mov5 h hl hz kind core num name tn hc.1 hc.2 hn hk ht hmu hno2 hf).mono ?_
      rintro Rr w' ⟨hR, k, hkl, hke, hA⟩
      have he : M[k] = (name, u) := by
        have h2 : (name, M[k].2) ∈ M := by
          have := List.getElem_mem hkl
          rw [← hke]
          exact this
        have := hu.val h2 hmu
        exact Prod.ext hke this
      have hd := dropF_perm M hkl
      have h5 : M[k].2 = u := by rw [he]
      rw [he] at hd
      rw [h5] at hA
      refine ⟨hR, _, (putF_perm _ _).trans (((List.perm_cons _).1 (hd.symm.trans hp)).cons _), putF_rise (dropF_rise hkl hr), hA⟩
end
end Go.Proofs.Ytkbajjpdngfhbaa

namespace Go.Proofs.Ytkbajjpdngfhbaa
open Go.RowKit
set_option maxHeartbeats 2000000
theorem DS.shrink {L L1 : Nat → Prop} {w : World} {a d : Nat} {n m : Nat} {P : List (List Acc) → Prop} {f : Int} {D : List Ent} (h : DS L1 w d a f n m P D) (hs : ∀ b, L b → L1 b) (hd : L d) : DS L w d a f n m P D := by
  have hbd := h.bd
  obtain ⟨ws, T, h1, h2, h3, h4⟩ := h
  exact ⟨ws, T, ⟨hd, h1.2⟩, h2.map fun _ q => q.move (fun b hb => hbd b (hs b hb)) (fun b hb _ => hs b hb) (fun b _ _ => rfl), h3, h4⟩
section
variable {w W W' : World} {L : Nat → Prop} {mb d a m m' bx : Nat} {v v' : Value} {M M' D D' : List Ent}
theorem AL.box (h : AL w W L mb d a m v M D) (hL : ∀ b, b < w.heap.size → L b) (o : Obj) : AL w (W.alloc o) (ins L W.heap.size) mb d a m v M D := by
  have h2 := h.alloc hL o
  refine ⟨h2.mdl, h2.own, ?_, h2.rise, h2.bel⟩
  refine (h.ds.allocIns o).shrink (fun b hb => ?_) ?_
  · rcases hb with (hb | rfl) | hb
    · rcases hb with hb | rfl
      · exact .inl (.inl (.inl hb))
      · exact .inr rfl
    · exact .inl (.inl (.inr rfl))
    · exact .inl (.inr hb)
  · rcases h.ds.ld with (hb | rfl) | hb
    · exact .inl (.inl (.inl hb))
    · exact .inl (.inr rfl)
    · exact .inr hb
theorem AL.fin (h : AL w W (ins L bx) mb d a m v M D) (hp : M.Perm D) (hLd : L d) : AL w W L mb d a m v M M :=
  ⟨h.mdl, h.own, (h.ds.perm hp.symm).shrink (fun b hb => by
    rcases hb with (hb | rfl) | hb
    · exact .inl (.inl (.inl hb))
    · exact .inl (.inr rfl)
    · exact .inr hb) (.inl (.inl hLd)), h.rise, h.bel⟩
theorem AL.look (h : AL w W L mb d a m v M D) (hL : ∀ b, b < w.heap.size → L b) (hLd : L d) {v9 : Value} (hk : Keeps (lo (ins L mb) v) W W') (hd : DS (lo (lo (ins L mb) v) v9) W' d a 0 4 m' (fun _ => True) D) : AL w W' L mb d a m' v M D :=
  h.call hL hk (hd.shrink (fun _ hb => .inl hb) (.inl (.inl hLd)))
theorem AL.same (h : AL w W L mb d a m v M M) {c : Int} (h0 : 0 ≤ c) (h4 : c < 4) {D9 : List Ent} (hl : (mayE 4 c [] = 900 ∧ D9 = []) ∨ (mayE 4 c [] = 0 ∧ D9.Perm M ∧ Rise D9)) : D9 = M := by
  rcases hl with ⟨hm, _⟩ | ⟨_, hp, hr⟩
  · rw [mayE_ok h0 h4 (fun s hs => by cases hs)] at hm
    cases hm
  · exact rise_eq hp hr h.rise (h.ds.uniq.perm hp.symm)
theorem AL.mono (h : AL w W L mb d a m v M D) (hm : m ≤ m') : AL w W L mb d a m' v M D := ⟨h.mdl, h.own, h.ds.mono hm, h.rise, h.bel⟩
theorem AL.ez (h : AL w W L mb d a m v M M) : ∀ e ∈ M, ncheck e.1 = 0 := fun e he => (h.ds.ok he).1
end
end Go.Proofs.Ytkbajjpdngfhbaa
