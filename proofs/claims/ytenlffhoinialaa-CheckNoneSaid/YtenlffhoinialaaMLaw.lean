/- An argument that is a slice of calls. Bits of an int: a mask is a remainder, a single bit is a quotient's remainder. CheckNone: the document's New and Do, the law. -/
import Derived.Test.YtenlffhoinialaaMDoD
import Derived.Deep.Slices
import Derived.Deep.Fields
import Derived.ChangeSame
import Derived.Test.YtenlffhoinialaaMBase
import Derived.Laws.BitsAllLaws
import Derived.Test.YtenlffhoinialaaMDo29
section
namespace Go.Proofs.Ytenlffhoinialaa
open Go.RowKit Go.ChangeShapes Go.WideShapes Go.Deep
set_option linter.unusedVariables false

/-- A slice of structs of k cells: cell j of element i is C i j. -/
def RowsIn (w : World) (A : Option Addr) (len cap k : Nat) (C : Nat → Nat → Value) : Prop :=
  len ≤ cap ∧ cap ≤ maxLen ∧ (0 < len → ∃ g off, A = some ⟨g, off, none⟩ ∧ ∀ i j, i < len → j < k → w.cell? ⟨g, off + (i * k + j), none⟩ = some (C i j))
section
variable {H : Type} {enc : TypeId × Value → H} {P : Program} {w : World} {base : Nat} {spare : Nat → Bool} {held : Bool}
theorem open_rows {t e : TypeId} {fs : Array Field} {fuel : Nat} {A : Option Addr} {len cap : Nat} {x : DataW H × List MemPlace} (ht : P.underlying t = some (.slice e)) (he : P.underlying e = some (.struct fs))
    (hone : oneCellFields P fs = true) (hC : P.cellsOf e = fs.size) (h0 : 0 < fs.size)
    (h : DataW.trod enc P w base spare held fuel t [.slice A len cap] = some x) :
    (∃ C, RowsIn w A len cap fs.size C ∧ ∀ i j f, i < len → fs[j]? = some f → ∃ n z, DataW.trod enc P w base spare held n f.type [C i j] = some z) ∧ (len = 0 ∨ ∃ el sp, x.1 = .slice el sp ∧ el.length = len) := by
  rcases open_slice ht h with ⟨hcs, _⟩ | ⟨a, l, c, m, n, D, Pl, hcs, hb, hl, hm, hmm, hx, hi⟩
  · simp at hcs
    obtain ⟨rfl, rfl, rfl⟩ := hcs
    exact ⟨⟨fun _ _ => undef, ⟨Nat.le_refl _, Nat.zero_le _, fun h => absurd h (by omega)⟩, fun i j f hi => absurd hi (by omega)⟩, .inl rfl⟩
  · simp at hcs
    obtain ⟨rfl, rfl, rfl⟩ := hcs
    have hlm : len ≤ m := by rw [hmm]; split <;> omega
    have key : ∀ i j, i < len → j < fs.size → ∃ v : Value, w.cell? (a.add (i * fs.size + j)) = some v ∧ ∀ f, fs[j]? = some f → ∃ n z, DataW.trod enc P w base spare held n f.type [v] = some z := by
      intro i j hil hj
      obtain ⟨cs', hc, ht'⟩ := hi i (by omega)
      rw [hC] at hc
      obtain ⟨ys, n', _, _, _, hyl, hf⟩ := DataW.trod_struct he ht'
      obtain ⟨_, hcl, hat⟩ := World.cells?_some hc
      have hjf : fs[j]? = some fs[j] := Array.getElem?_eq_getElem hj
      obtain ⟨ho, hk⟩ := hone_of hone j _ hjf
      have hv : cs'[j]? = some (cs'[j]'(by omega)) := List.getElem?_eq_getElem (by omega)
      have h1 := hf j _ hjf
      rw [ho, hk] at h1
      have e1 : (cs'.drop j).take 1 = [cs'[j]'(by omega)] := by
        rw [List.drop_eq_getElem_cons (by omega)]
        rfl
      have hys : ys[j]? = some (ys[j]'(by omega)) := List.getElem?_eq_getElem (by omega)
      rw [e1, hys] at h1
      refine ⟨cs'[j]'(by omega), ?_, fun f hf' => ?_⟩
      · have := hat j hj
        rw [← Go.Deep.add_add, this, hv]
      · rw [hjf] at hf'
        obtain rfl := Option.some.inj hf'
        exact ⟨_, _, h1⟩
    have hF : ∃ C : Nat → Nat → Value, ∀ i j, i < len → j < fs.size → w.cell? (a.add (i * fs.size + j)) = some (C i j) ∧ ∀ f, fs[j]? = some f → ∃ n z, DataW.trod enc P w base spare held n f.type [C i j] = some z := by
      refine ⟨fun i j => if hh : i < len ∧ j < fs.size then Classical.choose (key i j hh.1 hh.2) else undef, fun i j hil hj => ?_⟩
      have hd : (if hh : i < len ∧ j < fs.size then Classical.choose (key i j hh.1 hh.2) else undef) = Classical.choose (key i j hil hj) := dif_pos ⟨hil, hj⟩
      simp only [hd]
      exact Classical.choose_spec (key i j hil hj)
    obtain ⟨C, hF⟩ := hF
    refine ⟨⟨C, ⟨hl, hm, fun hpos => ?_⟩, fun i j f hil hjf => (hF i j hil (Array.getElem?_eq_some_iff.1 hjf).1).2 f hjf⟩, .inr ⟨_, _, by rw [hx], by simp⟩⟩
    have hsp : a.spot = none := by
      have h := (hF 0 0 hpos h0).1
      have hx : a.add (0 * fs.size + 0) = a := by rw [Nat.zero_mul]; rfl
      rw [hx] at h
      cases hs : a.spot with
      | none => rfl
      | some s => simp [World.cell?, hs] at h; split at h <;> simp at h
    obtain ⟨g, off, sp⟩ := a
    simp only at hsp
    subst hsp
    refine ⟨g, off, rfl, fun i j hil hj => ?_⟩
    have h1 := (hF i j hil hj).1
    rw [Addr.add_lit] at h1
    exact h1
end
theorem RowsIn.at_ {w wr : World} {A : Option Addr} {len cap k : Nat} {C : Nat → Nat → Value} (h : RowsIn w A len cap k C) {i : Nat} (hi : i < len) (hb : Below w.heap.size w wr) :
    ∃ g off, A = some ⟨g, off, none⟩ ∧ ∀ j, j < k → wr.cell? ⟨g, off + (i * k + j), none⟩ = some (C i j) := by
  obtain ⟨g, off, hA, hc⟩ := h.2.2 (by omega)
  exact ⟨g, off, hA, fun j hj => (hb.cell (World.block_lt_of_cell? w _ (hc i j hi hj))).trans (hc i j hi hj)⟩

/-- A call's cells. -/
def callC (c : CallD) : Nat → Value
  | 0 => .int .i64 c.kind
  | 1 => .int .i64 c.core
  | 2 => .int .i64 c.fd
  | 3 => .int .i64 c.off
  | 4 => .int .i64 c.num
  | 5 => .string c.path
  | 6 => .string c.path2
  | _ => .string c.data
def CallsIn (w : World) (A : Option Addr) (len cap : Nat) (D : Nat → CallD) : Prop := RowsIn w A len cap 8 (fun i j => callC (D i) j)
section
variable {H : Type} {enc : TypeId × Value → H} {P : Program} {w : World} {base : Nat} {spare : Nat → Bool} {held : Bool}
theorem open_callrow {t e : TypeId} {fs : Array Field} {fuel : Nat} {A : Option Addr} {len cap : Nat} {x : DataW H × List MemPlace} (ht : P.underlying t = some (.slice e)) (he : P.underlying e = some (.struct fs))
    (hone : oneCellFields P fs = true) (hC : P.cellsOf e = fs.size) (hsz : fs.size = 8) (hint : (fs.toList.map fun f => P.underlying f.type) = [some (.int .i64), some (.int .i64), some (.int .i64), some (.int .i64), some (.int .i64), some .string, some .string, some .string])
    (h : DataW.trod enc P w base spare held fuel t [.slice A len cap] = some x) : ∃ D, CallsIn w A len cap D := by
  obtain ⟨⟨C, hR, hT⟩, _⟩ := open_rows ht he hone hC (by omega) h
  have ff : ∀ j, j < 8 → ∃ f, fs[j]? = some f ∧ some (P.underlying f.type) = ([some (.int .i64), some (.int .i64), some (.int .i64), some (.int .i64), some (.int .i64), some .string, some .string, some .string] : List (Option TypeDesc))[j]? := by
    intro j hj
    refine ⟨fs[j], Array.getElem?_eq_getElem (by omega), ?_⟩
    have := congrArg (fun l : List (Option TypeDesc) => l[j]?) hint
    refine Eq.trans ?_ this
    simp [show j < fs.size by omega]
  have ki : ∀ i j, j < 5 → ∃ v : Int, i < len → C i j = .int .i64 v := by
    intro i j hj
    by_cases hi : i < len
    · obtain ⟨f, hf, ht0⟩ := ff j (by omega)
      have ht1 : P.underlying f.type = some (.int .i64) := by
        have : j = 0 ∨ j = 1 ∨ j = 2 ∨ j = 3 ∨ j = 4 := by omega
        rcases this with rfl | rfl | rfl | rfl | rfl <;> simpa using ht0
      obtain ⟨n, z, h0⟩ := hT i j f hi hf
      obtain ⟨v, hv, _, hw⟩ := DataW.trod_int ht1 h0
      exact ⟨v, fun _ => by simpa using hv⟩
    · exact ⟨0, fun h => absurd h hi⟩
  have ks : ∀ i j, 5 ≤ j → j < 8 → ∃ v : ByteArray, i < len → C i j = .string v := by
    intro i j hj hj5
    by_cases hi : i < len
    · obtain ⟨f, hf, ht0⟩ := ff j hj5
      have ht1 : P.underlying f.type = some .string := by
        have : j = 5 ∨ j = 6 ∨ j = 7 := by omega
        rcases this with rfl | rfl | rfl <;> simpa using ht0
      obtain ⟨n, z, h0⟩ := hT i j f hi hf
      obtain ⟨v, hv, _⟩ := DataW.trod_string ht1 h0
      exact ⟨v, fun _ => by simpa using hv⟩
    · exact ⟨⟨#[]⟩, fun h => absurd h hi⟩
  refine ⟨fun i => ⟨Classical.choose (ki i 0 (by omega)), Classical.choose (ki i 1 (by omega)), Classical.choose (ki i 2 (by omega)), Classical.choose (ki i 3 (by omega)), Classical.choose (ki i 4 (by omega)), Classical.choose (ks i 5 (by omega) (by omega)), Classical.choose (ks i 6 (by omega) (by omega)), Classical.choose (ks i 7 (by omega) (by omega))⟩, hR.1, hR.2.1, fun hpos => ?_⟩
  obtain ⟨g, off, hA, hc⟩ := hR.2.2 hpos
  refine ⟨g, off, hA, fun i j hi hj => ?_⟩
  have hq := hc i j hi (by omega)
  rw [hsz] at hq
  refine hq.trans (congrArg some ?_)
  have : j = 0 ∨ j = 1 ∨ j = 2 ∨ j = 3 ∨ j = 4 ∨ j = 5 ∨ j = 6 ∨ j = 7 := by omega
  rcases this with rfl | rfl | rfl | rfl | rfl | rfl | rfl | rfl
  · exact Classical.choose_spec (ki i 0 (by omega)) hi
  · exact Classical.choose_spec (ki i 1 (by omega)) hi
  · exact Classical.choose_spec (ki i 2 (by omega)) hi
  · exact Classical.choose_spec (ki i 3 (by omega)) hi
  · exact Classical.choose_spec (ki i 4 (by omega)) hi
  · exact Classical.choose_spec (ks i 5 (by omega) (by omega)) hi
  · exact Classical.choose_spec (ks i 6 (by omega) (by omega)) hi
  · exact Classical.choose_spec (ks i 7 (by omega) (by omega)) hi
end
end Go.Proofs.Ytenlffhoinialaa
end

section
namespace Go.Proofs.Ytenlffhoinialaa
open Go.RowKit

theorem ofInt_toNat (x : Int) : ((BitVec.ofInt 64 x).toNat : Int) = x % 18446744073709551616 := by
  rw [BitVec.toNat_ofInt]
  have : (0 : Int) ≤ x % (2 ^ 64 : Nat) := Int.emod_nonneg _ (by decide)
  omega
theorem and_pow (x : Int) (k : Nat) (hk : k ≤ 62) : bits .and .i64 x ((2 ^ k - 1 : Nat) : Int) = x % ((2 ^ k : Nat) : Int) := by
  show IntKind.i64.wrap ((BitVec.ofInt 64 x &&& BitVec.ofInt 64 ((2 ^ k - 1 : Nat) : Int)).toNat : Int) = _
  have h2 : 2 ^ k ≤ 2 ^ 62 := Nat.pow_le_pow_right (by omega) hk
  have h62 : (2 : Nat) ^ 62 = 4611686018427387904 := by decide
  have hp : 0 < 2 ^ k := Nat.two_pow_pos k
  have e1 : (BitVec.ofInt 64 ((2 ^ k - 1 : Nat) : Int)).toNat = 2 ^ k - 1 := by
    rw [BitVec.ofInt_natCast, BitVec.toNat_ofNat]; exact Nat.mod_eq_of_lt (by omega)
  rw [BitVec.toNat_and, e1, Nat.and_two_pow_sub_one_eq_mod]
  have hlt := Nat.mod_lt (BitVec.ofInt 64 x).toNat hp
  have hx := ofInt_toNat x
  have e2 : (((BitVec.ofInt 64 x).toNat % 2 ^ k : Nat) : Int) = x % ((2 ^ k : Nat) : Int) := by
    rw [Int.natCast_emod, hx]
    have hd : ((2 ^ k : Nat) : Int) ∣ 18446744073709551616 := by
      have : (2 ^ k : Nat) ∣ 2 ^ 64 := Nat.pow_dvd_pow 2 (by omega)
      have h3 : (((2 ^ k : Nat)) : Int) ∣ ((2 ^ 64 : Nat) : Int) := Int.natCast_dvd_natCast.2 this
      simpa using h3
    exact Int.emod_emod_of_dvd x hd
  rw [e2, IntKind.wrap_i64]
  have b0 : 0 ≤ x % ((2 ^ k : Nat) : Int) := Int.emod_nonneg _ (by omega)
  have b1 : x % ((2 ^ k : Nat) : Int) < ((2 ^ k : Nat) : Int) := Int.emod_lt_of_pos _ (by omega)
  omega
theorem and_bit (x : Int) (k : Nat) (hk : k ≤ 61) : bits .and .i64 x ((2 ^ k : Nat) : Int) = x / ((2 ^ k : Nat) : Int) % 2 * ((2 ^ k : Nat) : Int) := by
  show IntKind.i64.wrap ((BitVec.ofInt 64 x &&& BitVec.ofInt 64 ((2 ^ k : Nat) : Int)).toNat : Int) = _
  have h2 : 2 ^ k ≤ 2 ^ 61 := Nat.pow_le_pow_right (by omega) hk
  have h61 : (2 : Nat) ^ 61 = 2305843009213693952 := by decide
  have hp : 0 < 2 ^ k := Nat.two_pow_pos k
  have e1 : (BitVec.ofInt 64 ((2 ^ k : Nat) : Int)).toNat = 2 ^ k := by
    rw [BitVec.ofInt_natCast, BitVec.toNat_ofNat]; exact Nat.mod_eq_of_lt (by omega)
  rw [BitVec.toNat_and, e1, nat_bit]
  have hx := ofInt_toNat x
  have e2 : (((BitVec.ofInt 64 x).toNat / 2 ^ k % 2 : Nat) : Int) = x / ((2 ^ k : Nat) : Int) % 2 := by
    rw [Int.natCast_emod, Int.natCast_ediv, hx]
    have hd : (18446744073709551616 : Int) = ((2 ^ k : Nat) : Int) * (2 * ((2 ^ (63 - k) : Nat) : Int)) := by
      have : (2 : Nat) ^ k * (2 * 2 ^ (63 - k)) = 2 ^ 64 := by
        rw [← Nat.pow_succ', ← Nat.pow_add]; congr 1; omega
      have h3 : (((2 : Nat) ^ k * (2 * 2 ^ (63 - k)) : Nat) : Int) = ((2 ^ 64 : Nat) : Int) := by rw [this]
      rw [Int.natCast_mul, Int.natCast_mul] at h3
      have h4 : ((2 ^ 64 : Nat) : Int) = 18446744073709551616 := by decide
      rw [h4] at h3
      exact h3.symm
    have hq := Int.emod_add_mul_ediv x 18446744073709551616
    generalize hr : x % 18446744073709551616 = r at *
    generalize x / 18446744073709551616 = q at *
    have hx2 : x = r + ((2 ^ k : Nat) : Int) * (2 * ((2 ^ (63 - k) : Nat) : Int) * q) := by
      rw [← hq]; rw [hd]; rw [Int.mul_assoc]
    rw [hx2, Int.add_mul_ediv_left _ _ (by omega)]
    rw [Int.mul_assoc, Int.add_mul_emod_self_left]
    rfl
  rw [Int.natCast_mul, e2, IntKind.wrap_i64]
  have b0 : x / ((2 ^ k : Nat) : Int) % 2 = 0 ∨ x / ((2 ^ k : Nat) : Int) % 2 = 1 := by omega
  rcases b0 with b | b <;> rw [b] <;> omega

@[go_sem] theorem and1 (x : Int) : bits .and .i64 x 1 = x % 2 := and_pow x 1 (by omega)
@[go_sem] theorem and3 (x : Int) : bits .and .i64 x 3 = x % 4 := and_pow x 2 (by omega)
@[go_sem] theorem and7 (x : Int) : bits .and .i64 x 7 = x % 8 := and_pow x 3 (by omega)
@[go_sem] theorem and15 (x : Int) : bits .and .i64 x 15 = x % 16 := and_pow x 4 (by omega)
@[go_sem] theorem and31 (x : Int) : bits .and .i64 x 31 = x % 32 := and_pow x 5 (by omega)
@[go_sem] theorem and63 (x : Int) : bits .and .i64 x 63 = x % 64 := and_pow x 6 (by omega)
@[go_sem] theorem and255 (x : Int) : bits .and .i64 x 255 = x % 256 := and_pow x 8 (by omega)
@[go_sem] theorem and511 (x : Int) : bits .and .i64 x 511 = x % 512 := and_pow x 9 (by omega)
@[go_sem] theorem and1023 (x : Int) : bits .and .i64 x 1023 = x % 1024 := and_pow x 10 (by omega)
@[go_sem] theorem and2047 (x : Int) : bits .and .i64 x 2047 = x % 2048 := and_pow x 11 (by omega)
@[go_sem] theorem and4 (x : Int) : bits .and .i64 x 4 = x / 4 % 2 * 4 := and_bit x 2 (by omega)
@[go_sem] theorem and8 (x : Int) : bits .and .i64 x 8 = x / 8 % 2 * 8 := and_bit x 3 (by omega)
@[go_sem] theorem and16 (x : Int) : bits .and .i64 x 16 = x / 16 % 2 * 16 := and_bit x 4 (by omega)
@[go_sem] theorem and64 (x : Int) : bits .and .i64 x 64 = x / 64 % 2 * 64 := and_bit x 6 (by omega)
theorem u64_nn (x : Int) : 0 ≤ IntKind.u64.wrap x ∧ IntKind.u64.wrap x < 18446744073709551616 := by
  rw [IntKind.wrap_u64]; omega
theorem u64_tmod (x y : Int) (hy : 0 < y) : ∃ n : Nat, (IntKind.u64.wrap x).tmod y = n ∧ (n : Int) < y := by
  have h := u64_nn x
  rw [Int.tmod_eq_emod_of_nonneg h.1]
  have h1 := Int.emod_nonneg (IntKind.u64.wrap x) (show y ≠ 0 by omega)
  have h2 := Int.emod_lt_of_pos (IntKind.u64.wrap x) hy
  exact ⟨(IntKind.u64.wrap x % y).toNat, by omega, by omega⟩
theorem tmod_bd (x y : Int) (hy : 0 < y) : -y < x.tmod y ∧ x.tmod y < y := ⟨Int.lt_tmod_of_pos x hy, Int.tmod_lt_of_pos x hy⟩
end Go.Proofs.Ytenlffhoinialaa
end

section
namespace Go.Proofs.Ytenlffhoinialaa
open Go.RowKit
set_option maxHeartbeats 2000000
attribute [local go_sem ↓] Go.wp_at_zero Go.wp_at_succ
def newS (n : Nat) : St := ⟨[⟨1, true, [], ⟨#[]⟩⟩], [], List.replicate n 0⟩
theorem inv_newS {n : Nat} (h1 : 1 ≤ n) (h8 : n ≤ 8) : Inv (newS n) := by
  have one : ∀ {x}, x ∈ (newS n).inodes → x = ⟨1, true, [], ⟨#[]⟩⟩ := fun hx => List.mem_singleton.1 hx
  refine ⟨?_, ?_, ?_, ⟨_, rfl, rfl, rfl⟩, List.pairwise_singleton _ _, ?_, ?_, ?_, ?_, ?_, ?_, ?_, ?_, ?_, ?_, ?_, ?_, List.Pairwise.nil⟩
  · show 1 ≤ (List.replicate n (0 : Int)).length
    rw [List.length_replicate]; exact h1
  · show (List.replicate n (0 : Int)).length ≤ 8
    rw [List.length_replicate]; exact h8
  · intro m hm
    obtain ⟨_, rfl⟩ := List.mem_replicate.1 hm
    decide
  · intro x hx hn; rw [one hx] at hn; exact absurd rfl hn
  · intro x hx _; rw [one hx]; rfl
  · intro x hx hn; rw [one hx] at hn; cases hn
  · intro x hx; rw [one hx]; decide
  · intro x hx e he; rw [one hx] at he; cases he
  · intro x hx e he; rw [one hx] at he; cases he
  · intro x hx; rw [one hx]; exact List.Pairwise.nil
  · intro x hx q; rw [one hx]; exact Nat.zero_le _
  · intro x hx _ hn; rw [one hx] at hn; exact absurd rfl hn
  · intro x hx _; rw [one hx]; exact .root
  · intro x hx hn; rw [one hx] at hn; cases hn
  · intro o ho; cases ho
theorem rowT_blk {w : World} {base g n cap k : Nat} {t : TypeId} {cs : Array Value} {C : Nat → Nat → Value} (h : Blk w g t cs) (hb : base ≤ g) (hn : n ≤ cap) (hC : ∀ i j, i < n → j < k → cs[i * k + j]? = some (C i j)) : RowT w base t k (.slice (some ⟨g, 0, none⟩) n cap) n C :=
  ⟨_, _, rfl, hn, fun _ => ⟨g, 0, cs, rfl, hb, h, fun i j hi hj => by rw [Nat.zero_add]; exact hC i j hi hj⟩⟩
theorem new_stv {w : World} {base g gm n : Nat} (hg : base ≤ g) (hgm : base ≤ gm) (hI : Blk w g 56 #[.int .i64 1, .bool true, .slice none 0 0, .string ⟨#[]⟩]) (hM : Blk w gm 3 (zerosA n)) :
    StV w base (.slice (some ⟨g, 0, none⟩) 1 1) (.slice none 0 0) (.slice (some ⟨gm, 0, none⟩) n n) (fun _ => .slice none 0 0) (newS n) := by
  refine ⟨?_, fun i hi => ?_, RowT.nil_ _ _ _ _ _, ?_⟩
  · refine rowT_blk hI hg (Nat.le_refl _) fun i j hi hj => ?_
    have hi' : i < 1 := hi
    obtain rfl : i = 0 := by omega
    have : j = 0 ∨ j = 1 ∨ j = 2 ∨ j = 3 := by omega
    rcases this with rfl | rfl | rfl | rfl <;> rfl
  · have hi' : i < 1 := hi
    obtain rfl : i = 0 := by omega
    exact RowT.nil_ _ _ _ _ _
  · have hl : (newS n).made.length = n := List.length_replicate ..
    rw [hl]
    refine rowT_blk hM hgm (Nat.le_refl _) fun i j hi hj => ?_
    obtain rfl : j = 0 := by omega
    have e : madC (newS n) i 0 = .int .i64 0 := by
      show Value.int .i64 ((List.replicate n (0 : Int)).getD i 0) = _
      rw [List.getD_eq_getElem?_getD, List.getElem?_replicate]
      split <;> rfl
    rw [e]
    unfold zerosA
    simp [hi]
/-- What Do answers. -/
def DoR2 (w w' : World) (e : Ending) : Prop := ∃ (iv ov mv : Value) (ev : Nat → Value) (S' : St) (code fd num : Int) (dr : Bool) (dat : ByteArray) (nA : Option Addr) (nl nc : Nat),
  e = .returned (.tuple #[.agg #[iv, ov, mv], .agg #[.int .i64 code, .int .i64 fd, .int .i64 num, .bool dr, .string dat, .slice nA nl nc]]) ∧ Inv S' ∧ StV w' w.heap.size iv ov mv ev S' ∧ Below w.heap.size w w'
set_option maxRecDepth 1000000 in
theorem Do_calls {w : World} {iv ov mv : Value} {ev : Nat → Value} {S : St} (hS : StM w iv ov mv ev S) (hI : Inv S) (c : CallD) :
    Calls Try.prog 27 #[.agg #[iv, ov, mv], .agg #[.int .i64 c.kind, .int .i64 c.core, .int .i64 c.fd, .int .i64 c.off, .int .i64 c.num, .string c.path, .string c.path2, .string c.data]] w fun e w' => DoR2 w w' e := by
  obtain ⟨A, cap, rfl⟩ := hS.ino.form
  obtain ⟨OA, ocap, rfl⟩ := hS.opn.form
  obtain ⟨MA, mcap, rfl⟩ := hS.mad.form
  have HI := Lib.hid hI
  have HL := FrD.lay hS c
  have HF0 := Lib.hid HL.1
  have HB0 := Lib.hid HL.2
  obtain ⟨n, hnn⟩ : ∃ n, S.inodes.length = n := ⟨_, rfl⟩
  obtain ⟨no, hno⟩ : ∃ n, S.opens.length = n := ⟨_, rfl⟩
  obtain ⟨nm_, hnm⟩ : ∃ n, S.made.length = n := ⟨_, rfl⟩
  rw [hnn, hno, hnm] at HF0 HB0
  rw [hnn, hno, hnm]
  clear hS hI hnn hno hnm HL
  go_enter Try.func27, Try.ntmps27
  go_upto_region 1 with (fail)
  obtain ⟨sb, hsb⟩ : ∃ x, x = w.heap.size := ⟨_, rfl⟩
  have hs0 : w.heap.size ≤ sb := by omega
  rw [← hsb] at HF0
  rw [← hsb]
  obtain ⟨cb, hcb⟩ : ∃ x, x = sb + 1 := ⟨_, rfl⟩
  rw [← hcb] at HF0
  rw [← hcb]
  obtain ⟨zb, hzb⟩ : ∃ x, x = cb + 1 := ⟨_, rfl⟩
  rw [← hzb] at HF0
  rw [← hzb]
  obtain ⟨rb, hrb⟩ : ∃ x, x = zb + 1 := ⟨_, rfl⟩
  rw [← hrb] at HF0
  rw [← hrb]
  have hzr : zb ≠ rb := by omega
  have hrz : rb ≠ zb := by omega
  have hz0 : w.heap.size ≤ zb := by omega
  have hr0 : w.heap.size ≤ rb := by omega
  clear hcb hzb hrb hsb
  generalize (((w.alloc (.cells #[.slice A n cap, .slice OA no ocap, .slice MA nm_ mcap] 26)).alloc (.cells #[.int .i64 c.kind, .int .i64 c.core, .int .i64 c.fd, .int .i64 c.off, .int .i64 c.num, .string c.path, .string c.path2, .string c.data] 51)).alloc (.cells #[.slice none 0 0, .slice none 0 0, .slice none 0 0] 26)).alloc (.cells #[.int .i64 0, .int .i64 0, .int .i64 0, .bool false, .string ⟨#[]⟩, .slice none 0 0] 47) = w0 at *
  have hw0 : w.heap.size ≤ w0.heap.size := HB0.out.size

  have p0 : w0.cell? ⟨sb, 0, none⟩ = some (.slice A n cap) := HF0.out.sB.cell 0
  have p1 : w0.cell? ⟨sb, 1, none⟩ = some (.slice OA no ocap) := HF0.out.sB.cell 1
  have p2 : w0.cell? ⟨sb, 2, none⟩ = some (.slice MA nm_ mcap) := HF0.out.sB.cell 2
  have k0 : w0.cell? ⟨cb, 0, none⟩ = some (.int .i64 c.kind) := HF0.out.cB.cell 0
  have k1 : w0.cell? ⟨cb, 1, none⟩ = some (.int .i64 c.core) := HF0.out.cB.cell 1
  have k2 : w0.cell? ⟨cb, 2, none⟩ = some (.int .i64 c.fd) := HF0.out.cB.cell 2
  have k3 : w0.cell? ⟨cb, 3, none⟩ = some (.int .i64 c.off) := HF0.out.cB.cell 3
  have k4 : w0.cell? ⟨cb, 4, none⟩ = some (.int .i64 c.num) := HF0.out.cB.cell 4
  have k5 : w0.cell? ⟨cb, 5, none⟩ = some (.string c.path) := HF0.out.cB.cell 5
  have k6 : w0.cell? ⟨cb, 6, none⟩ = some (.string c.path2) := HF0.out.cB.cell 6
  have k7 : w0.cell? ⟨cb, 7, none⟩ = some (.string c.data) := HF0.out.cB.cell 7
  go_upto_region 2 with (go_at_call 65; refine (do_calls HF0.out.stm HI.out c).mono ?_; rintro e w1 ⟨iv1, ov1, mv1, ev1, S1, code, fd, num, dr, dat, nA, nl, nc, bv, rfl, hI1, hV1, hB1⟩; obtain ⟨A1, cap1, rfl⟩ := hV1.ino.at'.form; obtain ⟨OA1, ocap1, rfl⟩ := hV1.opn.at'.form; obtain ⟨MA1, mcap1, rfl⟩ := hV1.mad.at'.form; generalize S1.inodes.length = n1 at hV1 ⊢; generalize S1.opens.length = no1 at hV1 ⊢; generalize S1.made.length = nm1 at hV1 ⊢; have HI1 := Lib.hid hI1; have HV1 := Lib.hid hV1; have HB1 := Lib.hid hB1; clear hI1 hV1 hB1)
  obtain ⟨ob, hob⟩ : ∃ x, x = w1.heap.size := ⟨_, rfl⟩
  rw [← hob]
  obtain ⟨xb, hxb⟩ : ∃ x, x = ob + 1 := ⟨_, rfl⟩
  rw [← hxb]
  refine gen_world (fun wx => Below w0.heap.size w0 wx ∧ StV wx w.heap.size (.slice A1 n1 cap1) (.slice OA1 no1 ocap1) (.slice MA1 nm1 mcap1) ev1 S1 ∧ Blk wx ob 26 #[.slice A1 n1 cap1, .slice OA1 no1 ocap1, .slice MA1 nm1 mcap1] ∧ Blk wx xb 47 #[.int .i64 code, .int .i64 fd, .int .i64 num, .bool dr, .string dat, .slice nA nl nc]) (?_) (fun w2 hw2 => ?_)
  · have sz : xb = (w1.alloc (.cells #[.slice A1 n1 cap1, .slice OA1 no1 ocap1, .slice MA1 nm1 mcap1] 26)).heap.size := by rw [alloc_sz]; omega
    have hs1 := HB1.out.size
    exact ⟨(HB1.out.alloc (by omega) _).alloc (by rw [← sz]; omega) _, ((HV1.out.below (below_alloc w1 _)).below (below_alloc _ _)).base_le hw0, (Blk.newAt w1 _ _ hob).alloc _, Blk.newAt _ _ _ sz⟩
  have HF2 := Lib.hid (HF0.out.below hw2.1)
  have HB2 := Lib.hid (HB0.out.trans (hw2.1.mono hw0))
  have HV2 := Lib.hid hw2.2.1
  have HO2 := Lib.hid hw2.2.2.1
  have HX2 := Lib.hid hw2.2.2.2
  have hozl : zb < ob := by have := HF0.out.zB.lt; have := HB1.out.size; omega
  have horl : rb < ob := by have := HF0.out.rB.lt; have := HB1.out.size; omega
  have hozb : ob ≠ zb := by omega
  have hor : ob ≠ rb := by omega
  have hxz : xb ≠ zb := by omega
  have hxr : xb ≠ rb := by omega
  have hw2s : w.heap.size ≤ w2.heap.size := HB2.out.size
  clear hw2 hob hxb HF0 HB0 HB1 p0 p1 p2 k0 k1 k2 k3 k4 k5 k6 k7
  refine wp_region_held_drew (S := fun w' => Blk w' ob 26 #[.slice A1 n1 cap1, .slice OA1 no1 ocap1, .slice MA1 nm1 mcap1] ∧ Blk w' xb 47 #[.int .i64 code, .int .i64 fd, .int .i64 num, .bool dr, .string dat, .slice nA nl nc]) (by kernel_rfl) (⟨HO2.out.below (below_drew1 w2), HX2.out.below (below_drew1 w2)⟩) (fun hHeld => ?_)
  refine wpAnyH_take (i := 0) (oi := ⟨some 16, _, _, _, _, _⟩) (v := .agg #[.slice A1 n1 cap1, .slice OA1 no1 ocap1, .slice MA1 nm1 mcap1]) rfl (by kernel_rfl) (by kernel_rfl) (by kernel_rfl) (fun _ _ _ h => h) (Or.inl ⟨by kernel_rfl, fun w hSw => by have a0 := hSw.1.cell 0; have a1 := hSw.1.cell 1; have a2 := hSw.1.cell 2; go_simp⟩) (by assumption) ?_
  simp only [Act.put, lTA, lC0, lCS]
  refine wpAnyH_take (i := 1) (oi := ⟨some 17, _, _, _, _, _⟩) (v := .agg #[.int .i64 code, .int .i64 fd, .int .i64 num, .bool dr, .string dat, .slice nA nl nc]) rfl (by kernel_rfl) (by kernel_rfl) (by kernel_rfl) (fun _ _ _ h => h) (Or.inl ⟨by kernel_rfl, fun w hSw => by have a0 := hSw.2.cell 0; have a1 := hSw.2.cell 1; have a2 := hSw.2.cell 2; have a3 := hSw.2.cell 3; have a4 := hSw.2.cell 4; have a5 := hSw.2.cell 5; go_simp⟩) (by assumption) ?_
  simp only [Act.put, lTA, lC0, lCS]
  have z0 : w2.cell? ⟨zb, 0, none⟩ = some (.slice none 0 0) := HF2.out.zB.cell 0
  have z1 : w2.cell? ⟨zb, 1, none⟩ = some (.slice none 0 0) := HF2.out.zB.cell 1
  have z2 : w2.cell? ⟨zb, 2, none⟩ = some (.slice none 0 0) := HF2.out.zB.cell 2
  have lz0 := HF2.out.zB.frozen 0
  have lz1 := HF2.out.zB.frozen 1
  have lz2 := HF2.out.zB.frozen 2
  have r0 : w2.cell? ⟨rb, 0, none⟩ = some (.int .i64 0) := HF2.out.rB.cell 0
  have r1 : w2.cell? ⟨rb, 1, none⟩ = some (.int .i64 0) := HF2.out.rB.cell 1
  have r2 : w2.cell? ⟨rb, 2, none⟩ = some (.int .i64 0) := HF2.out.rB.cell 2
  have r3 : w2.cell? ⟨rb, 3, none⟩ = some (.bool false) := HF2.out.rB.cell 3
  have r4 : w2.cell? ⟨rb, 4, none⟩ = some (.string ⟨#[]⟩) := HF2.out.rB.cell 4
  have r5 : w2.cell? ⟨rb, 5, none⟩ = some (.slice none 0 0) := HF2.out.rB.cell 5
  have l0 := HF2.out.rB.frozen 0
  have l1 := HF2.out.rB.frozen 1
  have l2 := HF2.out.rB.frozen 2
  have l3 := HF2.out.rB.frozen 3
  have l4 := HF2.out.rB.frozen 4
  have l5 := HF2.out.rB.frozen 5
  have h1 : Blk (set3 w2 zb (.slice A1 n1 cap1) (.slice OA1 no1 ocap1) (.slice MA1 nm1 mcap1)).drew ob 26 #[.slice A1 n1 cap1, .slice OA1 no1 ocap1, .slice MA1 nm1 mcap1] ∧ Blk (set3 w2 zb (.slice A1 n1 cap1) (.slice OA1 no1 ocap1) (.slice MA1 nm1 mcap1)).drew xb 47 #[.int .i64 code, .int .i64 fd, .int .i64 num, .bool dr, .string dat, .slice nA nl nc] := ⟨blk_drew (blk_far3 HO2.out hozb _ _ _), blk_drew (blk_far3 HX2.out hxz _ _ _)⟩
  have h2 : Blk (setR (set3 w2 zb (.slice A1 n1 cap1) (.slice OA1 no1 ocap1) (.slice MA1 nm1 mcap1)) rb (.int .i64 code) (.int .i64 fd) (.int .i64 num) (.bool dr) (.string dat) (.slice nA nl nc)).drew ob 26 #[.slice A1 n1 cap1, .slice OA1 no1 ocap1, .slice MA1 nm1 mcap1] ∧ Blk (setR (set3 w2 zb (.slice A1 n1 cap1) (.slice OA1 no1 ocap1) (.slice MA1 nm1 mcap1)) rb (.int .i64 code) (.int .i64 fd) (.int .i64 num) (.bool dr) (.string dat) (.slice nA nl nc)).drew xb 47 #[.int .i64 code, .int .i64 fd, .int .i64 num, .bool dr, .string dat, .slice nA nl nc] := ⟨blk_drew (blk_far6 (blk_far3 HO2.out hozb _ _ _) hor _ _ _ _ _ _), blk_drew (blk_far6 (blk_far3 HX2.out hxz _ _ _) hxr _ _ _ _ _ _)⟩
  refine wpAnyH_ready (rs := [2]) (by kernel_rfl) (by simp) ?_
  refine AllReadyH.cons rfl (fun K hK => ?_) AllReadyH.nil
  go_simp
  show K _ (set3 w2 zb (.slice A1 n1 cap1) (.slice OA1 no1 ocap1) (.slice MA1 nm1 mcap1)).drew
  refine hK.out _ _ (h1) (fun hHeld => ?_)
  clear hK K
  have HR6 := Lib.hid (blk_far3 HF2.out.rB hrz (.slice A1 n1 cap1) (.slice OA1 no1 ocap1) (.slice MA1 nm1 mcap1))
  have rw0 : (set3 w2 zb (.slice A1 n1 cap1) (.slice OA1 no1 ocap1) (.slice MA1 nm1 mcap1)).cell? ⟨rb, 0, none⟩ = some (.int .i64 0) := HR6.out.cell 0
  have rw1 : (set3 w2 zb (.slice A1 n1 cap1) (.slice OA1 no1 ocap1) (.slice MA1 nm1 mcap1)).cell? ⟨rb, 1, none⟩ = some (.int .i64 0) := HR6.out.cell 1
  have rw2 : (set3 w2 zb (.slice A1 n1 cap1) (.slice OA1 no1 ocap1) (.slice MA1 nm1 mcap1)).cell? ⟨rb, 2, none⟩ = some (.int .i64 0) := HR6.out.cell 2
  have rw3 : (set3 w2 zb (.slice A1 n1 cap1) (.slice OA1 no1 ocap1) (.slice MA1 nm1 mcap1)).cell? ⟨rb, 3, none⟩ = some (.bool false) := HR6.out.cell 3
  have rw4 : (set3 w2 zb (.slice A1 n1 cap1) (.slice OA1 no1 ocap1) (.slice MA1 nm1 mcap1)).cell? ⟨rb, 4, none⟩ = some (.string ⟨#[]⟩) := HR6.out.cell 4
  have rw5 : (set3 w2 zb (.slice A1 n1 cap1) (.slice OA1 no1 ocap1) (.slice MA1 nm1 mcap1)).cell? ⟨rb, 5, none⟩ = some (.slice none 0 0) := HR6.out.cell 5
  have lw0 := HR6.out.frozen 0
  have lw1 := HR6.out.frozen 1
  have lw2 := HR6.out.frozen 2
  have lw3 := HR6.out.frozen 3
  have lw4 := HR6.out.frozen 4
  have lw5 := HR6.out.frozen 5
  refine wpAnyH_ready (rs := [3]) (by kernel_rfl) (by simp) ?_
  refine AllReadyH.cons rfl (fun K hK => ?_) AllReadyH.nil
  go_simp
  show K _ (setR (set3 w2 zb (.slice A1 n1 cap1) (.slice OA1 no1 ocap1) (.slice MA1 nm1 mcap1)) rb (.int .i64 code) (.int .i64 fd) (.int .i64 num) (.bool dr) (.string dat) (.slice nA nl nc)).drew
  refine hK.out _ _ (h2) (fun hHeld => ?_)
  clear hK K
  refine wpAnyH_done (by kernel_rfl) ?_ _
  have HZB := Lib.hid (show Blk (setR (set3 w2 zb (.slice A1 n1 cap1) (.slice OA1 no1 ocap1) (.slice MA1 nm1 mcap1)) rb (.int .i64 code) (.int .i64 fd) (.int .i64 num) (.bool dr) (.string dat) (.slice nA nl nc)).drew zb 26 #[.slice A1 n1 cap1, .slice OA1 no1 ocap1, .slice MA1 nm1 mcap1] from blk_drew (blk_far6 (blk_set3 HF2.out.zB _ _ _) hzr _ _ _ _ _ _))
  have HRB := Lib.hid (show Blk (setR (set3 w2 zb (.slice A1 n1 cap1) (.slice OA1 no1 ocap1) (.slice MA1 nm1 mcap1)) rb (.int .i64 code) (.int .i64 fd) (.int .i64 num) (.bool dr) (.string dat) (.slice nA nl nc)).drew rb 47 #[.int .i64 code, .int .i64 fd, .int .i64 num, .bool dr, .string dat, .slice nA nl nc] from blk_drew (blk_set6 (blk_far3 HF2.out.rB hrz _ _ _) _ _ _ _ _ _))
  have HVV := Lib.hid (show StV (setR (set3 w2 zb (.slice A1 n1 cap1) (.slice OA1 no1 ocap1) (.slice MA1 nm1 mcap1)) rb (.int .i64 code) (.int .i64 fd) (.int .i64 num) (.bool dr) (.string dat) (.slice nA nl nc)).drew w.heap.size (.slice A1 n1 cap1) (.slice OA1 no1 ocap1) (.slice MA1 nm1 mcap1) ev1 S1 from (((HV2.out.set3 HF2.out.zB _ _ _).set6 (blk_far3 HF2.out.rB hrz _ _ _) _ _ _ _ _ _).below (below_drew1 _)))
  have HBB := Lib.hid (show Below w.heap.size w (setR (set3 w2 zb (.slice A1 n1 cap1) (.slice OA1 no1 ocap1) (.slice MA1 nm1 mcap1)) rb (.int .i64 code) (.int .i64 fd) (.int .i64 num) (.bool dr) (.string dat) (.slice nA nl nc)).drew from (below6 (below3 HB2.out hz0 _ _ _) hr0 _ _ _ _ _ _).trans ((below_drew1 _).mono (by rw [setR_sz, set3_sz]; exact hw2s)))
  clear rw0 rw1 rw2 rw3 rw4 rw5 lw0 lw1 lw2 lw3 lw4 lw5 h1 h2 hHeld z0 z1 z2 lz0 lz1 lz2 r0 r1 r2 r3 r4 r5 l0 l1 l2 l3 l4 l5
  generalize (setR (set3 w2 zb (.slice A1 n1 cap1) (.slice OA1 no1 ocap1) (.slice MA1 nm1 mcap1)) rb (.int .i64 code) (.int .i64 fd) (.int .i64 num) (.bool dr) (.string dat) (.slice nA nl nc)).drew = wz at *
  have z0 : wz.cell? ⟨zb, 0, none⟩ = some (.slice A1 n1 cap1) := HZB.out.cell 0
  have z1 : wz.cell? ⟨zb, 1, none⟩ = some (.slice OA1 no1 ocap1) := HZB.out.cell 1
  have z2 : wz.cell? ⟨zb, 2, none⟩ = some (.slice MA1 nm1 mcap1) := HZB.out.cell 2
  have r0 : wz.cell? ⟨rb, 0, none⟩ = some (.int .i64 code) := HRB.out.cell 0
  have r1 : wz.cell? ⟨rb, 1, none⟩ = some (.int .i64 fd) := HRB.out.cell 1
  have r2 : wz.cell? ⟨rb, 2, none⟩ = some (.int .i64 num) := HRB.out.cell 2
  have r3 : wz.cell? ⟨rb, 3, none⟩ = some (.bool dr) := HRB.out.cell 3
  have r4 : wz.cell? ⟨rb, 4, none⟩ = some (.string dat) := HRB.out.cell 4
  have r5 : wz.cell? ⟨rb, 5, none⟩ = some (.slice nA nl nc) := HRB.out.cell 5
  go_wp2_with (fail)
  refine bodyPost_ret (v := .tuple #[.agg #[.slice A1 n1 cap1, .slice OA1 no1 ocap1, .slice MA1 nm1 mcap1], .agg #[.int .i64 code, .int .i64 fd, .int .i64 num, .bool dr, .string dat, .slice nA nl nc]]) ?_ rfl ⟨_, _, _, ev1, S1, _, _, _, _, _, _, _, _, rfl, HI1.out, HVV.out, HBB.out⟩
  simp [results, Try.results27, go_sem, z0, z1, z2, r0, r1, r2, r3, r4, r5]
/-- Behind the call of Do in a round. -/
def RoundR (w _wr : World) (sb : Nat) (iv ov mv : Value) (s : Value) (wx : World) : Prop := ∃ (ob : Nat) (A1 OA1 MA1 : Option Addr) (n1 cap1 no1 ocap1 nm1 mcap1 : Nat) (ev1 : Nat → Value) (S1 : St),
  s = .pointer (some ⟨ob, 0, none⟩) ∧ Blk wx ob 26 #[.slice A1 n1 cap1, .slice OA1 no1 ocap1, .slice MA1 nm1 mcap1] ∧ Inv S1 ∧ StV wx w.heap.size (.slice A1 n1 cap1) (.slice OA1 no1 ocap1) (.slice MA1 nm1 mcap1) ev1 S1 ∧ Blk wx sb 26 #[iv, ov, mv] ∧ ob ≠ sb ∧ Below w.heap.size w wx
theorem newS_raw {S : St} (h : Inv S) : ([] : List Fnd).Perm (rawF S) := by rw [h.raw_nil]
theorem nc_le (a0 : Int) : 0 ≤ a0 % 8 ∧ a0 % 8 < 8 := ⟨Int.emod_nonneg _ (by decide), Int.emod_lt_of_pos _ (by decide)⟩
set_option maxRecDepth 1000000 in
theorem none_walk (w : World) (a0 : Int) (_ : (Lit.int .i64 a0).wf = true) {AD : Option Addr} {len cap0 : Nat} {D : Nat → CallD} (hD : CallsIn w AD len cap0 D) :
    Calls Try.prog 4 #[.int .i64 a0, .slice AD len cap0] w fun e w' => e = .returned (.bool true) ∧ Below w.heap.size w w' := by
  have hlen : len ≤ 9223372036854775807 := by
    have h1 := hD.1
    have h2 := hD.2.1
    unfold maxLen at h2
    omega
  have HD := Lib.hid hD
  clear hD
  have hm := nc_le a0
  obtain ⟨nc, hnc⟩ : ∃ n : Nat, 1 + a0 % 8 = (n : Int) := ⟨(1 + a0 % 8).toNat, by omega⟩
  have hn1 : 1 ≤ nc := by omega
  have hn8 : nc ≤ 8 := by omega
  go_enter Try.func4, Try.ntmps4
  go_wp2_with (go_at_call 25; refine (awake_calls w).mono ?_; rintro e wa ⟨rfl, hBa⟩; have HBa := Lib.hid hBa; clear hBa)
  refine (New_calls nc hn1 hn8 _).mono ?_
  rintro e wb ⟨g, gm, rfl, hBb, hg, hgm, hI0, hM0⟩
  have hwa : w.heap.size ≤ wa.heap.size := HBa.out.size
  have HBb := Lib.hid (HBa.out.trans (hBb.mono hwa))
  have HV0 := Lib.hid (new_stv (n := nc) (Nat.le_trans hwa hg) (Nat.le_trans hwa hgm) hI0 hM0)
  clear hBb hg hgm hI0 hM0 hnc hm
  go_upto_region 4 with (fail)
  obtain ⟨sb, hsb⟩ : ∃ x, x = wb.heap.size := ⟨_, rfl⟩
  rw [← hsb]
  have hsbw : w.heap.size ≤ sb := by rw [hsb]; exact HBb.out.size
  refine gen_world (fun wx => Below w.heap.size w wx ∧ StV wx w.heap.size (.slice (some ⟨g, 0, none⟩) 1 1) (.slice none 0 0) (.slice (some ⟨gm, 0, none⟩) nc nc) (fun _ => .slice none 0 0) (newS nc) ∧ Blk wx sb 26 #[.slice (some ⟨g, 0, none⟩) 1 1, .slice none 0 0, .slice (some ⟨gm, 0, none⟩) nc nc]) ?_ (fun w1 hw1 => ?_)
  · exact ⟨HBb.out.alloc HBb.out.size _, HV0.out.below (below_alloc wb _), Blk.newAt wb _ _ hsb⟩
  have H1 := Lib.hid hw1
  clear hw1 hsb HV0 HBb HBa hwa
  go_wp2_with (fail)
  go_loopw [7] (fun i' wr => ∃ (k : Nat) (A1 OA1 MA1 : Option Addr) (n1 cap1 no1 ocap1 nm1 mcap1 : Nat) (ev : Nat → Value) (S : St), i' = .int .i64 k ∧ k ≤ len ∧ k ≤ 40 ∧ Inv S ∧ StV wr w.heap.size (.slice A1 n1 cap1) (.slice OA1 no1 ocap1) (.slice MA1 nm1 mcap1) ev S ∧ Blk wr sb 26 #[.slice A1 n1 cap1, .slice OA1 no1 ocap1, .slice MA1 nm1 mcap1] ∧ Below w.heap.size w wr) (fun i' _ => len - (intOf i').toNat)
  case atStart => exact ⟨0, _, _, _, _, _, _, _, _, _, _, _, rfl, Nat.zero_le _, by decide, inv_newS hn1 hn8, H1.out.2.1, H1.out.2.2, H1.out.1⟩
  case round =>
    obtain ⟨k, A, OA, MA, n, cap, no, ocap, nm_, mcap, ev, S, rfl, hk, hk40, hI, hV, hB, hb⟩ := hrel
    have HI := Lib.hid hI
    have HV := Lib.hid hV
    have HSB := Lib.hid hB
    have HB := Lib.hid hb
    have hwr : w.heap.size ≤ wr.heap.size := hb.size
    have p0 : wr.cell? ⟨sb, 0, none⟩ = some (.slice A n cap) := hB.cell 0
    have p1 : wr.cell? ⟨sb, 1, none⟩ = some (.slice OA no ocap) := hB.cell 1
    have p2 : wr.cell? ⟨sb, 2, none⟩ = some (.slice MA nm_ mcap) := hB.cell 2
    clear hI hV hB hb H1
    by_cases hq : k < len ∧ k < 40
    · obtain ⟨hq1, hq2⟩ := hq
      have hq1i : (k : Int) < (len : Int) := by omega
      have hq2i : (k : Int) < 40 := by omega
      have hk0 : (0 : Int) ≤ (k : Int) := by omega
      obtain ⟨cg, coff, rfl, hcc⟩ := HD.out.at_ hq1 HB.out
      have y0 : wr.cell? ⟨cg, coff + k * 8, none⟩ = some (.int .i64 (D k).kind) := hcc 0 (by omega)
      have y1 : wr.cell? ⟨cg, coff + k * 8 + 1, none⟩ = some (.int .i64 (D k).core) := hcc 1 (by omega)
      have y2 : wr.cell? ⟨cg, coff + k * 8 + 2, none⟩ = some (.int .i64 (D k).fd) := hcc 2 (by omega)
      have y3 : wr.cell? ⟨cg, coff + k * 8 + 3, none⟩ = some (.int .i64 (D k).off) := hcc 3 (by omega)
      have y4 : wr.cell? ⟨cg, coff + k * 8 + 4, none⟩ = some (.int .i64 (D k).num) := hcc 4 (by omega)
      have y5 : wr.cell? ⟨cg, coff + k * 8 + 5, none⟩ = some (.string (D k).path) := hcc 5 (by omega)
      have y6 : wr.cell? ⟨cg, coff + k * 8 + 6, none⟩ = some (.string (D k).path2) := hcc 6 (by omega)
      have y7 : wr.cell? ⟨cg, coff + k * 8 + 7, none⟩ = some (.string (D k).data) := hcc 7 (by omega)
      clear hcc
      go_upto_region 7 with (fail)
      go_cut [8] (fun s wx => RoundR w wr sb (.slice A n cap) (.slice OA no ocap) (.slice MA nm_ mcap) s wx)
      case first =>
        refine wp_region_held_drew (S := fun w' => Below wr.heap.size wr w') (by kernel_rfl) (below_drew1 wr) (fun hHeld => ?_)
        refine wpAnyH_take (i := 0) (oi := ⟨some 30, _, _, _, _, _⟩) (v := .agg #[.slice A n cap, .slice OA no ocap, .slice MA nm_ mcap]) rfl (by kernel_rfl) (by kernel_rfl) (by kernel_rfl) (fun _ _ _ h => h) (Or.inl ⟨by kernel_rfl, fun w hSw => by have ap0 := (hSw.cell (World.block_lt_of_cell? _ _ p0)).trans p0; have ap1 := (hSw.cell (World.block_lt_of_cell? _ _ p1)).trans p1; have ap2 := (hSw.cell (World.block_lt_of_cell? _ _ p2)).trans p2; go_simp⟩) (by assumption) ?_
        simp only [Act.put, lTA, lC0, lCS]
        refine wpAnyH_take (i := 1) (oi := ⟨some 31, _, _, _, _, _⟩) (v := .slice (some ⟨cg, coff, none⟩) len cap0) rfl (by kernel_rfl) (by kernel_rfl) (by kernel_rfl) (fun _ _ _ h => h) (Or.inl ⟨by kernel_rfl, fun w hSw => by go_simp⟩) (by assumption) ?_
        simp only [Act.put, lTA, lC0, lCS]
        refine wpAnyH_take (i := 2) (oi := ⟨some 32, _, _, _, _, _⟩) (v := .int .i64 (k : Int)) rfl (by kernel_rfl) (by kernel_rfl) (by kernel_rfl) (fun _ _ _ h => h) (Or.inl ⟨by kernel_rfl, fun w hSw => by go_simp⟩) (by assumption) ?_
        simp only [Act.put, lTA, lC0, lCS]
        refine wpAnyH_take (i := 3) (oi := ⟨some 33, _, _, _, _, _⟩) (v := .pointer (some ⟨cg, coff + k * 8, none⟩)) rfl (by kernel_rfl) (by kernel_rfl) (by kernel_rfl) (fun _ _ _ h => h) (Or.inl ⟨by kernel_rfl, fun w hSw => by go_simp⟩) (by assumption) ?_
        simp only [Act.put, lTA, lC0, lCS]
        refine wpAnyH_take (i := 4) (oi := ⟨some 34, _, _, _, _, _⟩) (v := .agg #[.int .i64 (D k).kind, .int .i64 (D k).core, .int .i64 (D k).fd, .int .i64 (D k).off, .int .i64 (D k).num, .string (D k).path, .string (D k).path2, .string (D k).data]) rfl (by kernel_rfl) (by kernel_rfl) (by kernel_rfl) (fun _ _ _ h => h) (Or.inl ⟨by kernel_rfl, fun w hSw => by have ay0 := (hSw.cell (World.block_lt_of_cell? _ _ y0)).trans y0; have ay1 := (hSw.cell (World.block_lt_of_cell? _ _ y1)).trans y1; have ay2 := (hSw.cell (World.block_lt_of_cell? _ _ y2)).trans y2; have ay3 := (hSw.cell (World.block_lt_of_cell? _ _ y3)).trans y3; have ay4 := (hSw.cell (World.block_lt_of_cell? _ _ y4)).trans y4; have ay5 := (hSw.cell (World.block_lt_of_cell? _ _ y5)).trans y5; have ay6 := (hSw.cell (World.block_lt_of_cell? _ _ y6)).trans y6; have ay7 := (hSw.cell (World.block_lt_of_cell? _ _ y7)).trans y7; go_simp⟩) (by assumption) ?_
        simp only [Act.put, lTA, lC0, lCS]
        have HBv0 := Lib.hid (below_drew1 wr)
        generalize wr.drew = v0 at *
        refine wpAnyH_ready (rs := [5, 9, 10]) (by kernel_rfl) (by simp) ?_
        refine AllReadyH.cons rfl (fun K hK => ?_) (AllReadyH.cons rfl (fun K hK => ?_) (AllReadyH.cons rfl (fun K hK => ?_) AllReadyH.nil))
        · go_simp
          refine (Do_calls ((HV.out.below HBv0.out).stm) HI.out (D k)).mono ?_
          rintro e v1 ⟨iv1, ov1, mv1, ev1, S1, code, fd, num, dr, dat, nA, nl, nc, rfl, hI1, hV1, hB1⟩
          obtain ⟨A1, cap1, rfl⟩ := hV1.ino.at'.form
          obtain ⟨OA1, ocap1, rfl⟩ := hV1.opn.at'.form
          obtain ⟨MA1, mcap1, rfl⟩ := hV1.mad.at'.form
          generalize S1.inodes.length = n1 at hV1 ⊢
          generalize S1.opens.length = no1 at hV1 ⊢
          generalize S1.made.length = nm1 at hV1 ⊢
          have HI1 := Lib.hid hI1
          have HBv1 := Lib.hid (HBv0.out.trans (hB1.mono HBv0.out.size))
          have HVv1 := Lib.hid (hV1.base_le (Nat.le_trans hwr HBv0.out.size))
          show K _ v1
          refine hK.out _ _ HBv1.out (fun hHeld => ?_)
          clear hK K hI1 hV1 hB1
          refine wpAnyH_take (i := 6) (oi := ⟨some 29, _, _, _, _, _⟩) (v := .tuple #[.agg #[.slice A1 n1 cap1, .slice OA1 no1 ocap1, .slice MA1 nm1 mcap1], .agg #[.int .i64 code, .int .i64 fd, .int .i64 num, .bool dr, .string dat, .slice nA nl nc]]) rfl (by kernel_rfl) (by kernel_rfl) (by kernel_rfl) (fun _ _ _ h => h) (Or.inl ⟨by kernel_rfl, fun w hSw => by go_simp⟩) (by assumption) ?_
          simp only [Act.put, lTA, lC0, lCS]
          refine wpAnyH_take (i := 7) (oi := ⟨some 36, _, _, _, _, _⟩) (v := .agg #[.slice A1 n1 cap1, .slice OA1 no1 ocap1, .slice MA1 nm1 mcap1]) rfl (by kernel_rfl) (by kernel_rfl) (by kernel_rfl) (fun _ _ _ h => h) (Or.inl ⟨by kernel_rfl, fun w hSw => by go_simp⟩) (by assumption) ?_
          simp only [Act.put, lTA, lC0, lCS]
          refine wpAnyH_take (i := 8) (oi := ⟨some 37, _, _, _, _, _⟩) (v := .agg #[.int .i64 code, .int .i64 fd, .int .i64 num, .bool dr, .string dat, .slice nA nl nc]) rfl (by kernel_rfl) (by kernel_rfl) (by kernel_rfl) (fun _ _ _ h => h) (Or.inl ⟨by kernel_rfl, fun w hSw => by go_simp⟩) (by assumption) ?_
          simp only [Act.put, lTA, lC0, lCS]
          refine wpAnyH_ready (rs := [9, 10]) (by kernel_rfl) (by simp) ?_
          refine AllReadyH.cons rfl (fun K hK => ?_) (AllReadyH.cons rfl (fun K hK => ?_) AllReadyH.nil)
          · go_simp
            obtain ⟨ob, hob⟩ : ∃ x, x = v1.heap.size := ⟨_, rfl⟩
            have hobl : wr.heap.size ≤ ob := by rw [hob]; exact HBv1.out.size
            have HBv2 := Lib.hid (HBv1.out.alloc HBv1.out.size (.cells #[.slice none 0 0, .slice none 0 0, .slice none 0 0] 26))
            have HOv2 := Lib.hid (Blk.newAt v1 26 #[.slice none 0 0, .slice none 0 0, .slice none 0 0] hob)
            have HVv2 := Lib.hid (HVv1.out.below (below_alloc v1 (.cells #[.slice none 0 0, .slice none 0 0, .slice none 0 0] 26)))
            show K _ (v1.alloc (.cells #[.slice none 0 0, .slice none 0 0, .slice none 0 0] 26))
            refine hK.out _ _ HBv2.out (fun hHeld => ?_)
            clear hK K
            rw [← hob]
            clear hob
            generalize v1.alloc (.cells #[.slice none 0 0, .slice none 0 0, .slice none 0 0] 26) = v2 at *
            refine wpAnyH_ready (rs := [10]) (by kernel_rfl) (by simp) ?_
            refine AllReadyH.cons rfl (fun K hK => ?_) AllReadyH.nil
            go_simp
            obtain ⟨xb, hxb⟩ : ∃ x, x = v2.heap.size := ⟨_, rfl⟩
            have hxbl : wr.heap.size ≤ xb := by rw [hxb]; exact HBv2.out.size
            have HBv3 := Lib.hid (HBv2.out.alloc HBv2.out.size (.cells #[.int .i64 0, .int .i64 0, .int .i64 0, .bool false, .string ⟨#[]⟩, .slice none 0 0] 47))
            have HXv3 := Lib.hid (Blk.newAt v2 47 #[.int .i64 0, .int .i64 0, .int .i64 0, .bool false, .string ⟨#[]⟩, .slice none 0 0] hxb)
            have HOv3 := Lib.hid (HOv2.out.alloc (.cells #[.int .i64 0, .int .i64 0, .int .i64 0, .bool false, .string ⟨#[]⟩, .slice none 0 0] 47))
            have HVv3 := Lib.hid (HVv2.out.below (below_alloc v2 (.cells #[.int .i64 0, .int .i64 0, .int .i64 0, .bool false, .string ⟨#[]⟩, .slice none 0 0] 47)))
            show K _ (v2.alloc (.cells #[.int .i64 0, .int .i64 0, .int .i64 0, .bool false, .string ⟨#[]⟩, .slice none 0 0] 47))
            refine hK.out _ _ HBv3.out (fun hHeld => ?_)
            clear hK K
            rw [← hxb]
            clear hxb
            generalize v2.alloc (.cells #[.int .i64 0, .int .i64 0, .int .i64 0, .bool false, .string ⟨#[]⟩, .slice none 0 0] 47) = v3 at *
            have hox : ob ≠ xb := Blk.ne_ HOv3.out HXv3.out (by decide)
            have hxo : xb ≠ ob := Ne.symm hox
            have hsbl : sb < wr.heap.size := HSB.out.lt
            have hos : ob ≠ sb := by omega
            have hso : sb ≠ ob := by omega
            have hsx : sb ≠ xb := by omega
            have z0 : v3.cell? ⟨ob, 0, none⟩ = some (.slice none 0 0) := HOv3.out.cell 0
            have z1 : v3.cell? ⟨ob, 1, none⟩ = some (.slice none 0 0) := HOv3.out.cell 1
            have z2 : v3.cell? ⟨ob, 2, none⟩ = some (.slice none 0 0) := HOv3.out.cell 2
            have lz0 := HOv3.out.frozen 0
            have lz1 := HOv3.out.frozen 1
            have lz2 := HOv3.out.frozen 2
            refine wpAnyH_ready (rs := [11]) (by kernel_rfl) (by simp) ?_
            refine AllReadyH.cons rfl (fun K hK => ?_) AllReadyH.nil
            go_simp
            show K _ (set3 v3 ob (.slice A1 n1 cap1) (.slice OA1 no1 ocap1) (.slice MA1 nm1 mcap1))
            refine hK.out _ _ (below3 HBv3.out hobl _ _ _) (fun hHeld => ?_)
            clear hK K
            have HR6 := Lib.hid (blk_far3 HXv3.out hxo (.slice A1 n1 cap1) (.slice OA1 no1 ocap1) (.slice MA1 nm1 mcap1))
            have rw0 : (set3 v3 ob (.slice A1 n1 cap1) (.slice OA1 no1 ocap1) (.slice MA1 nm1 mcap1)).cell? ⟨xb, 0, none⟩ = some (.int .i64 0) := HR6.out.cell 0
            have rw1 : (set3 v3 ob (.slice A1 n1 cap1) (.slice OA1 no1 ocap1) (.slice MA1 nm1 mcap1)).cell? ⟨xb, 1, none⟩ = some (.int .i64 0) := HR6.out.cell 1
            have rw2 : (set3 v3 ob (.slice A1 n1 cap1) (.slice OA1 no1 ocap1) (.slice MA1 nm1 mcap1)).cell? ⟨xb, 2, none⟩ = some (.int .i64 0) := HR6.out.cell 2
            have rw3 : (set3 v3 ob (.slice A1 n1 cap1) (.slice OA1 no1 ocap1) (.slice MA1 nm1 mcap1)).cell? ⟨xb, 3, none⟩ = some (.bool false) := HR6.out.cell 3
            have rw4 : (set3 v3 ob (.slice A1 n1 cap1) (.slice OA1 no1 ocap1) (.slice MA1 nm1 mcap1)).cell? ⟨xb, 4, none⟩ = some (.string ⟨#[]⟩) := HR6.out.cell 4
            have rw5 : (set3 v3 ob (.slice A1 n1 cap1) (.slice OA1 no1 ocap1) (.slice MA1 nm1 mcap1)).cell? ⟨xb, 5, none⟩ = some (.slice none 0 0) := HR6.out.cell 5
            have lw0 := HR6.out.frozen 0
            have lw1 := HR6.out.frozen 1
            have lw2 := HR6.out.frozen 2
            have lw3 := HR6.out.frozen 3
            have lw4 := HR6.out.frozen 4
            have lw5 := HR6.out.frozen 5
            refine wpAnyH_ready (rs := [12]) (by kernel_rfl) (by simp) ?_
            refine AllReadyH.cons rfl (fun K hK => ?_) AllReadyH.nil
            go_simp
            show K _ (setR (set3 v3 ob (.slice A1 n1 cap1) (.slice OA1 no1 ocap1) (.slice MA1 nm1 mcap1)) xb (.int .i64 code) (.int .i64 fd) (.int .i64 num) (.bool dr) (.string dat) (.slice nA nl nc))
            refine hK.out _ _ (below6 (below3 HBv3.out hobl _ _ _) hxbl _ _ _ _ _ _) (fun hHeld => ?_)
            clear hK K
            have HEND := Lib.hid (show RoundR w wr sb (.slice A n cap) (.slice OA no ocap) (.slice MA nm_ mcap) (.pointer (some ⟨ob, 0, none⟩)) (setR (set3 v3 ob (.slice A1 n1 cap1) (.slice OA1 no1 ocap1) (.slice MA1 nm1 mcap1)) xb (.int .i64 code) (.int .i64 fd) (.int .i64 num) (.bool dr) (.string dat) (.slice nA nl nc)) from ⟨ob, A1, OA1, MA1, n1, cap1, no1, ocap1, nm1, mcap1, ev1, S1, rfl, blk_far6 (blk_set3 HOv3.out _ _ _) hox _ _ _ _ _ _, HI1.out, (HVv3.out.set3 HOv3.out _ _ _).set6 (blk_far3 HXv3.out hxo _ _ _) _ _ _ _ _ _, blk_far6 (blk_far3 (HSB.out.below HBv3.out) hso _ _ _) hsx _ _ _ _ _ _, hos, below6 (below3 (HB.out.trans (HBv3.out.mono hwr)) (by omega) _ _ _) (by omega) _ _ _ _ _ _⟩)
            clear rw0 rw1 rw2 rw3 rw4 rw5 lw0 lw1 lw2 lw3 lw4 lw5 hHeld z0 z1 z2 lz0 lz1 lz2
            generalize (setR (set3 v3 ob (.slice A1 n1 cap1) (.slice OA1 no1 ocap1) (.slice MA1 nm1 mcap1)) xb (.int .i64 code) (.int .i64 fd) (.int .i64 num) (.bool dr) (.string dat) (.slice nA nl nc)) = wz at *
            refine wpAnyH_done (by kernel_rfl) ?_ _
            go_wp2_with (fail)
            go_meet
            case rel => exact HEND.out
          · go_simp
            obtain ⟨xb, hxb⟩ : ∃ x, x = v1.heap.size := ⟨_, rfl⟩
            have hxbl : wr.heap.size ≤ xb := by rw [hxb]; exact HBv1.out.size
            have HBv4 := Lib.hid (HBv1.out.alloc HBv1.out.size (.cells #[.int .i64 0, .int .i64 0, .int .i64 0, .bool false, .string ⟨#[]⟩, .slice none 0 0] 47))
            have HXv4 := Lib.hid (Blk.newAt v1 47 #[.int .i64 0, .int .i64 0, .int .i64 0, .bool false, .string ⟨#[]⟩, .slice none 0 0] hxb)
            have HVv4 := Lib.hid (HVv1.out.below (below_alloc v1 (.cells #[.int .i64 0, .int .i64 0, .int .i64 0, .bool false, .string ⟨#[]⟩, .slice none 0 0] 47)))
            show K _ (v1.alloc (.cells #[.int .i64 0, .int .i64 0, .int .i64 0, .bool false, .string ⟨#[]⟩, .slice none 0 0] 47))
            refine hK.out _ _ HBv4.out (fun hHeld => ?_)
            clear hK K
            rw [← hxb]
            clear hxb
            generalize v1.alloc (.cells #[.int .i64 0, .int .i64 0, .int .i64 0, .bool false, .string ⟨#[]⟩, .slice none 0 0] 47) = v4 at *
            refine wpAnyH_ready (rs := [9]) (by kernel_rfl) (by simp) ?_
            refine AllReadyH.cons rfl (fun K hK => ?_) AllReadyH.nil
            go_simp
            obtain ⟨ob, hob⟩ : ∃ x, x = v4.heap.size := ⟨_, rfl⟩
            have hobl : wr.heap.size ≤ ob := by rw [hob]; exact HBv4.out.size
            have HBv5 := Lib.hid (HBv4.out.alloc HBv4.out.size (.cells #[.slice none 0 0, .slice none 0 0, .slice none 0 0] 26))
            have HOv5 := Lib.hid (Blk.newAt v4 26 #[.slice none 0 0, .slice none 0 0, .slice none 0 0] hob)
            have HXv5 := Lib.hid (HXv4.out.alloc (.cells #[.slice none 0 0, .slice none 0 0, .slice none 0 0] 26))
            have HVv5 := Lib.hid (HVv4.out.below (below_alloc v4 (.cells #[.slice none 0 0, .slice none 0 0, .slice none 0 0] 26)))
            show K _ (v4.alloc (.cells #[.slice none 0 0, .slice none 0 0, .slice none 0 0] 26))
            refine hK.out _ _ HBv5.out (fun hHeld => ?_)
            clear hK K
            rw [← hob]
            clear hob
            generalize v4.alloc (.cells #[.slice none 0 0, .slice none 0 0, .slice none 0 0] 26) = v5 at *
            have hox : ob ≠ xb := Blk.ne_ HOv5.out HXv5.out (by decide)
            have hxo : xb ≠ ob := Ne.symm hox
            have hsbl : sb < wr.heap.size := HSB.out.lt
            have hos : ob ≠ sb := by omega
            have hso : sb ≠ ob := by omega
            have hsx : sb ≠ xb := by omega
            have z0 : v5.cell? ⟨ob, 0, none⟩ = some (.slice none 0 0) := HOv5.out.cell 0
            have z1 : v5.cell? ⟨ob, 1, none⟩ = some (.slice none 0 0) := HOv5.out.cell 1
            have z2 : v5.cell? ⟨ob, 2, none⟩ = some (.slice none 0 0) := HOv5.out.cell 2
            have lz0 := HOv5.out.frozen 0
            have lz1 := HOv5.out.frozen 1
            have lz2 := HOv5.out.frozen 2
            refine wpAnyH_ready (rs := [11]) (by kernel_rfl) (by simp) ?_
            refine AllReadyH.cons rfl (fun K hK => ?_) AllReadyH.nil
            go_simp
            show K _ (set3 v5 ob (.slice A1 n1 cap1) (.slice OA1 no1 ocap1) (.slice MA1 nm1 mcap1))
            refine hK.out _ _ (below3 HBv5.out hobl _ _ _) (fun hHeld => ?_)
            clear hK K
            have HR6 := Lib.hid (blk_far3 HXv5.out hxo (.slice A1 n1 cap1) (.slice OA1 no1 ocap1) (.slice MA1 nm1 mcap1))
            have rw0 : (set3 v5 ob (.slice A1 n1 cap1) (.slice OA1 no1 ocap1) (.slice MA1 nm1 mcap1)).cell? ⟨xb, 0, none⟩ = some (.int .i64 0) := HR6.out.cell 0
            have rw1 : (set3 v5 ob (.slice A1 n1 cap1) (.slice OA1 no1 ocap1) (.slice MA1 nm1 mcap1)).cell? ⟨xb, 1, none⟩ = some (.int .i64 0) := HR6.out.cell 1
            have rw2 : (set3 v5 ob (.slice A1 n1 cap1) (.slice OA1 no1 ocap1) (.slice MA1 nm1 mcap1)).cell? ⟨xb, 2, none⟩ = some (.int .i64 0) := HR6.out.cell 2
            have rw3 : (set3 v5 ob (.slice A1 n1 cap1) (.slice OA1 no1 ocap1) (.slice MA1 nm1 mcap1)).cell? ⟨xb, 3, none⟩ = some (.bool false) := HR6.out.cell 3
            have rw4 : (set3 v5 ob (.slice A1 n1 cap1) (.slice OA1 no1 ocap1) (.slice MA1 nm1 mcap1)).cell? ⟨xb, 4, none⟩ = some (.string ⟨#[]⟩) := HR6.out.cell 4
            have rw5 : (set3 v5 ob (.slice A1 n1 cap1) (.slice OA1 no1 ocap1) (.slice MA1 nm1 mcap1)).cell? ⟨xb, 5, none⟩ = some (.slice none 0 0) := HR6.out.cell 5
            have lw0 := HR6.out.frozen 0
            have lw1 := HR6.out.frozen 1
            have lw2 := HR6.out.frozen 2
            have lw3 := HR6.out.frozen 3
            have lw4 := HR6.out.frozen 4
            have lw5 := HR6.out.frozen 5
            refine wpAnyH_ready (rs := [12]) (by kernel_rfl) (by simp) ?_
            refine AllReadyH.cons rfl (fun K hK => ?_) AllReadyH.nil
            go_simp
            show K _ (setR (set3 v5 ob (.slice A1 n1 cap1) (.slice OA1 no1 ocap1) (.slice MA1 nm1 mcap1)) xb (.int .i64 code) (.int .i64 fd) (.int .i64 num) (.bool dr) (.string dat) (.slice nA nl nc))
            refine hK.out _ _ (below6 (below3 HBv5.out hobl _ _ _) hxbl _ _ _ _ _ _) (fun hHeld => ?_)
            clear hK K
            have HEND := Lib.hid (show RoundR w wr sb (.slice A n cap) (.slice OA no ocap) (.slice MA nm_ mcap) (.pointer (some ⟨ob, 0, none⟩)) (setR (set3 v5 ob (.slice A1 n1 cap1) (.slice OA1 no1 ocap1) (.slice MA1 nm1 mcap1)) xb (.int .i64 code) (.int .i64 fd) (.int .i64 num) (.bool dr) (.string dat) (.slice nA nl nc)) from ⟨ob, A1, OA1, MA1, n1, cap1, no1, ocap1, nm1, mcap1, ev1, S1, rfl, blk_far6 (blk_set3 HOv5.out _ _ _) hox _ _ _ _ _ _, HI1.out, (HVv5.out.set3 HOv5.out _ _ _).set6 (blk_far3 HXv5.out hxo _ _ _) _ _ _ _ _ _, blk_far6 (blk_far3 (HSB.out.below HBv5.out) hso _ _ _) hsx _ _ _ _ _ _, hos, below6 (below3 (HB.out.trans (HBv5.out.mono hwr)) (by omega) _ _ _) (by omega) _ _ _ _ _ _⟩)
            clear rw0 rw1 rw2 rw3 rw4 rw5 lw0 lw1 lw2 lw3 lw4 lw5 hHeld z0 z1 z2 lz0 lz1 lz2
            generalize (setR (set3 v5 ob (.slice A1 n1 cap1) (.slice OA1 no1 ocap1) (.slice MA1 nm1 mcap1)) xb (.int .i64 code) (.int .i64 fd) (.int .i64 num) (.bool dr) (.string dat) (.slice nA nl nc)) = wz at *
            refine wpAnyH_done (by kernel_rfl) ?_ _
            go_wp2_with (fail)
            go_meet
            case rel => exact HEND.out
        · go_simp
          obtain ⟨ob, hob⟩ : ∃ x, x = v0.heap.size := ⟨_, rfl⟩
          have hobl : wr.heap.size ≤ ob := by rw [hob]; exact HBv0.out.size
          have HBv6 := Lib.hid (HBv0.out.alloc HBv0.out.size (.cells #[.slice none 0 0, .slice none 0 0, .slice none 0 0] 26))
          have HOv6 := Lib.hid (Blk.newAt v0 26 #[.slice none 0 0, .slice none 0 0, .slice none 0 0] hob)
          show K _ (v0.alloc (.cells #[.slice none 0 0, .slice none 0 0, .slice none 0 0] 26))
          refine hK.out _ _ HBv6.out (fun hHeld => ?_)
          clear hK K
          rw [← hob]
          clear hob
          generalize v0.alloc (.cells #[.slice none 0 0, .slice none 0 0, .slice none 0 0] 26) = v6 at *
          refine wpAnyH_ready (rs := [5, 10]) (by kernel_rfl) (by simp) ?_
          refine AllReadyH.cons rfl (fun K hK => ?_) (AllReadyH.cons rfl (fun K hK => ?_) AllReadyH.nil)
          · go_simp
            refine (Do_calls ((HV.out.below HBv6.out).stm) HI.out (D k)).mono ?_
            rintro e v7 ⟨iv1, ov1, mv1, ev1, S1, code, fd, num, dr, dat, nA, nl, nc, rfl, hI1, hV1, hB1⟩
            obtain ⟨A1, cap1, rfl⟩ := hV1.ino.at'.form
            obtain ⟨OA1, ocap1, rfl⟩ := hV1.opn.at'.form
            obtain ⟨MA1, mcap1, rfl⟩ := hV1.mad.at'.form
            generalize S1.inodes.length = n1 at hV1 ⊢
            generalize S1.opens.length = no1 at hV1 ⊢
            generalize S1.made.length = nm1 at hV1 ⊢
            have HI1 := Lib.hid hI1
            have HBv7 := Lib.hid (HBv6.out.trans (hB1.mono HBv6.out.size))
            have HVv7 := Lib.hid (hV1.base_le (Nat.le_trans hwr HBv6.out.size))
            have HOv7 := Lib.hid (HOv6.out.below hB1)
            show K _ v7
            refine hK.out _ _ HBv7.out (fun hHeld => ?_)
            clear hK K hI1 hV1 hB1
            refine wpAnyH_take (i := 6) (oi := ⟨some 29, _, _, _, _, _⟩) (v := .tuple #[.agg #[.slice A1 n1 cap1, .slice OA1 no1 ocap1, .slice MA1 nm1 mcap1], .agg #[.int .i64 code, .int .i64 fd, .int .i64 num, .bool dr, .string dat, .slice nA nl nc]]) rfl (by kernel_rfl) (by kernel_rfl) (by kernel_rfl) (fun _ _ _ h => h) (Or.inl ⟨by kernel_rfl, fun w hSw => by go_simp⟩) (by assumption) ?_
            simp only [Act.put, lTA, lC0, lCS]
            refine wpAnyH_take (i := 7) (oi := ⟨some 36, _, _, _, _, _⟩) (v := .agg #[.slice A1 n1 cap1, .slice OA1 no1 ocap1, .slice MA1 nm1 mcap1]) rfl (by kernel_rfl) (by kernel_rfl) (by kernel_rfl) (fun _ _ _ h => h) (Or.inl ⟨by kernel_rfl, fun w hSw => by go_simp⟩) (by assumption) ?_
            simp only [Act.put, lTA, lC0, lCS]
            refine wpAnyH_take (i := 8) (oi := ⟨some 37, _, _, _, _, _⟩) (v := .agg #[.int .i64 code, .int .i64 fd, .int .i64 num, .bool dr, .string dat, .slice nA nl nc]) rfl (by kernel_rfl) (by kernel_rfl) (by kernel_rfl) (fun _ _ _ h => h) (Or.inl ⟨by kernel_rfl, fun w hSw => by go_simp⟩) (by assumption) ?_
            simp only [Act.put, lTA, lC0, lCS]
            refine wpAnyH_ready (rs := [10]) (by kernel_rfl) (by simp) ?_
            refine AllReadyH.cons rfl (fun K hK => ?_) AllReadyH.nil
            go_simp
            obtain ⟨xb, hxb⟩ : ∃ x, x = v7.heap.size := ⟨_, rfl⟩
            have hxbl : wr.heap.size ≤ xb := by rw [hxb]; exact HBv7.out.size
            have HBv8 := Lib.hid (HBv7.out.alloc HBv7.out.size (.cells #[.int .i64 0, .int .i64 0, .int .i64 0, .bool false, .string ⟨#[]⟩, .slice none 0 0] 47))
            have HXv8 := Lib.hid (Blk.newAt v7 47 #[.int .i64 0, .int .i64 0, .int .i64 0, .bool false, .string ⟨#[]⟩, .slice none 0 0] hxb)
            have HOv8 := Lib.hid (HOv7.out.alloc (.cells #[.int .i64 0, .int .i64 0, .int .i64 0, .bool false, .string ⟨#[]⟩, .slice none 0 0] 47))
            have HVv8 := Lib.hid (HVv7.out.below (below_alloc v7 (.cells #[.int .i64 0, .int .i64 0, .int .i64 0, .bool false, .string ⟨#[]⟩, .slice none 0 0] 47)))
            show K _ (v7.alloc (.cells #[.int .i64 0, .int .i64 0, .int .i64 0, .bool false, .string ⟨#[]⟩, .slice none 0 0] 47))
            refine hK.out _ _ HBv8.out (fun hHeld => ?_)
            clear hK K
            rw [← hxb]
            clear hxb
            generalize v7.alloc (.cells #[.int .i64 0, .int .i64 0, .int .i64 0, .bool false, .string ⟨#[]⟩, .slice none 0 0] 47) = v8 at *
            have hox : ob ≠ xb := Blk.ne_ HOv8.out HXv8.out (by decide)
            have hxo : xb ≠ ob := Ne.symm hox
            have hsbl : sb < wr.heap.size := HSB.out.lt
            have hos : ob ≠ sb := by omega
            have hso : sb ≠ ob := by omega
            have hsx : sb ≠ xb := by omega
            have z0 : v8.cell? ⟨ob, 0, none⟩ = some (.slice none 0 0) := HOv8.out.cell 0
            have z1 : v8.cell? ⟨ob, 1, none⟩ = some (.slice none 0 0) := HOv8.out.cell 1
            have z2 : v8.cell? ⟨ob, 2, none⟩ = some (.slice none 0 0) := HOv8.out.cell 2
            have lz0 := HOv8.out.frozen 0
            have lz1 := HOv8.out.frozen 1
            have lz2 := HOv8.out.frozen 2
            refine wpAnyH_ready (rs := [11]) (by kernel_rfl) (by simp) ?_
            refine AllReadyH.cons rfl (fun K hK => ?_) AllReadyH.nil
            go_simp
            show K _ (set3 v8 ob (.slice A1 n1 cap1) (.slice OA1 no1 ocap1) (.slice MA1 nm1 mcap1))
            refine hK.out _ _ (below3 HBv8.out hobl _ _ _) (fun hHeld => ?_)
            clear hK K
            have HR6 := Lib.hid (blk_far3 HXv8.out hxo (.slice A1 n1 cap1) (.slice OA1 no1 ocap1) (.slice MA1 nm1 mcap1))
            have rw0 : (set3 v8 ob (.slice A1 n1 cap1) (.slice OA1 no1 ocap1) (.slice MA1 nm1 mcap1)).cell? ⟨xb, 0, none⟩ = some (.int .i64 0) := HR6.out.cell 0
            have rw1 : (set3 v8 ob (.slice A1 n1 cap1) (.slice OA1 no1 ocap1) (.slice MA1 nm1 mcap1)).cell? ⟨xb, 1, none⟩ = some (.int .i64 0) := HR6.out.cell 1
            have rw2 : (set3 v8 ob (.slice A1 n1 cap1) (.slice OA1 no1 ocap1) (.slice MA1 nm1 mcap1)).cell? ⟨xb, 2, none⟩ = some (.int .i64 0) := HR6.out.cell 2
            have rw3 : (set3 v8 ob (.slice A1 n1 cap1) (.slice OA1 no1 ocap1) (.slice MA1 nm1 mcap1)).cell? ⟨xb, 3, none⟩ = some (.bool false) := HR6.out.cell 3
            have rw4 : (set3 v8 ob (.slice A1 n1 cap1) (.slice OA1 no1 ocap1) (.slice MA1 nm1 mcap1)).cell? ⟨xb, 4, none⟩ = some (.string ⟨#[]⟩) := HR6.out.cell 4
            have rw5 : (set3 v8 ob (.slice A1 n1 cap1) (.slice OA1 no1 ocap1) (.slice MA1 nm1 mcap1)).cell? ⟨xb, 5, none⟩ = some (.slice none 0 0) := HR6.out.cell 5
            have lw0 := HR6.out.frozen 0
            have lw1 := HR6.out.frozen 1
            have lw2 := HR6.out.frozen 2
            have lw3 := HR6.out.frozen 3
            have lw4 := HR6.out.frozen 4
            have lw5 := HR6.out.frozen 5
            refine wpAnyH_ready (rs := [12]) (by kernel_rfl) (by simp) ?_
            refine AllReadyH.cons rfl (fun K hK => ?_) AllReadyH.nil
            go_simp
            show K _ (setR (set3 v8 ob (.slice A1 n1 cap1) (.slice OA1 no1 ocap1) (.slice MA1 nm1 mcap1)) xb (.int .i64 code) (.int .i64 fd) (.int .i64 num) (.bool dr) (.string dat) (.slice nA nl nc))
            refine hK.out _ _ (below6 (below3 HBv8.out hobl _ _ _) hxbl _ _ _ _ _ _) (fun hHeld => ?_)
            clear hK K
            have HEND := Lib.hid (show RoundR w wr sb (.slice A n cap) (.slice OA no ocap) (.slice MA nm_ mcap) (.pointer (some ⟨ob, 0, none⟩)) (setR (set3 v8 ob (.slice A1 n1 cap1) (.slice OA1 no1 ocap1) (.slice MA1 nm1 mcap1)) xb (.int .i64 code) (.int .i64 fd) (.int .i64 num) (.bool dr) (.string dat) (.slice nA nl nc)) from ⟨ob, A1, OA1, MA1, n1, cap1, no1, ocap1, nm1, mcap1, ev1, S1, rfl, blk_far6 (blk_set3 HOv8.out _ _ _) hox _ _ _ _ _ _, HI1.out, (HVv8.out.set3 HOv8.out _ _ _).set6 (blk_far3 HXv8.out hxo _ _ _) _ _ _ _ _ _, blk_far6 (blk_far3 (HSB.out.below HBv8.out) hso _ _ _) hsx _ _ _ _ _ _, hos, below6 (below3 (HB.out.trans (HBv8.out.mono hwr)) (by omega) _ _ _) (by omega) _ _ _ _ _ _⟩)
            clear rw0 rw1 rw2 rw3 rw4 rw5 lw0 lw1 lw2 lw3 lw4 lw5 hHeld z0 z1 z2 lz0 lz1 lz2
            generalize (setR (set3 v8 ob (.slice A1 n1 cap1) (.slice OA1 no1 ocap1) (.slice MA1 nm1 mcap1)) xb (.int .i64 code) (.int .i64 fd) (.int .i64 num) (.bool dr) (.string dat) (.slice nA nl nc)) = wz at *
            refine wpAnyH_done (by kernel_rfl) ?_ _
            go_wp2_with (fail)
            go_meet
            case rel => exact HEND.out
          · go_simp
            obtain ⟨xb, hxb⟩ : ∃ x, x = v6.heap.size := ⟨_, rfl⟩
            have hxbl : wr.heap.size ≤ xb := by rw [hxb]; exact HBv6.out.size
            have HBv9 := Lib.hid (HBv6.out.alloc HBv6.out.size (.cells #[.int .i64 0, .int .i64 0, .int .i64 0, .bool false, .string ⟨#[]⟩, .slice none 0 0] 47))
            have HXv9 := Lib.hid (Blk.newAt v6 47 #[.int .i64 0, .int .i64 0, .int .i64 0, .bool false, .string ⟨#[]⟩, .slice none 0 0] hxb)
            have HOv9 := Lib.hid (HOv6.out.alloc (.cells #[.int .i64 0, .int .i64 0, .int .i64 0, .bool false, .string ⟨#[]⟩, .slice none 0 0] 47))
            show K _ (v6.alloc (.cells #[.int .i64 0, .int .i64 0, .int .i64 0, .bool false, .string ⟨#[]⟩, .slice none 0 0] 47))
            refine hK.out _ _ HBv9.out (fun hHeld => ?_)
            clear hK K
            rw [← hxb]
            clear hxb
            generalize v6.alloc (.cells #[.int .i64 0, .int .i64 0, .int .i64 0, .bool false, .string ⟨#[]⟩, .slice none 0 0] 47) = v9 at *
            refine wpAnyH_ready (rs := [5]) (by kernel_rfl) (by simp) ?_
            refine AllReadyH.cons rfl (fun K hK => ?_) AllReadyH.nil
            go_simp
            refine (Do_calls ((HV.out.below HBv9.out).stm) HI.out (D k)).mono ?_
            rintro e v10 ⟨iv1, ov1, mv1, ev1, S1, code, fd, num, dr, dat, nA, nl, nc, rfl, hI1, hV1, hB1⟩
            obtain ⟨A1, cap1, rfl⟩ := hV1.ino.at'.form
            obtain ⟨OA1, ocap1, rfl⟩ := hV1.opn.at'.form
            obtain ⟨MA1, mcap1, rfl⟩ := hV1.mad.at'.form
            generalize S1.inodes.length = n1 at hV1 ⊢
            generalize S1.opens.length = no1 at hV1 ⊢
            generalize S1.made.length = nm1 at hV1 ⊢
            have HI1 := Lib.hid hI1
            have HBv10 := Lib.hid (HBv9.out.trans (hB1.mono HBv9.out.size))
            have HVv10 := Lib.hid (hV1.base_le (Nat.le_trans hwr HBv9.out.size))
            have HOv10 := Lib.hid (HOv9.out.below hB1)
            have HXv10 := Lib.hid (HXv9.out.below hB1)
            show K _ v10
            refine hK.out _ _ HBv10.out (fun hHeld => ?_)
            clear hK K hI1 hV1 hB1
            refine wpAnyH_take (i := 6) (oi := ⟨some 29, _, _, _, _, _⟩) (v := .tuple #[.agg #[.slice A1 n1 cap1, .slice OA1 no1 ocap1, .slice MA1 nm1 mcap1], .agg #[.int .i64 code, .int .i64 fd, .int .i64 num, .bool dr, .string dat, .slice nA nl nc]]) rfl (by kernel_rfl) (by kernel_rfl) (by kernel_rfl) (fun _ _ _ h => h) (Or.inl ⟨by kernel_rfl, fun w hSw => by go_simp⟩) (by assumption) ?_
            simp only [Act.put, lTA, lC0, lCS]
            refine wpAnyH_take (i := 7) (oi := ⟨some 36, _, _, _, _, _⟩) (v := .agg #[.slice A1 n1 cap1, .slice OA1 no1 ocap1, .slice MA1 nm1 mcap1]) rfl (by kernel_rfl) (by kernel_rfl) (by kernel_rfl) (fun _ _ _ h => h) (Or.inl ⟨by kernel_rfl, fun w hSw => by go_simp⟩) (by assumption) ?_
            simp only [Act.put, lTA, lC0, lCS]
            refine wpAnyH_take (i := 8) (oi := ⟨some 37, _, _, _, _, _⟩) (v := .agg #[.int .i64 code, .int .i64 fd, .int .i64 num, .bool dr, .string dat, .slice nA nl nc]) rfl (by kernel_rfl) (by kernel_rfl) (by kernel_rfl) (fun _ _ _ h => h) (Or.inl ⟨by kernel_rfl, fun w hSw => by go_simp⟩) (by assumption) ?_
            simp only [Act.put, lTA, lC0, lCS]
            have hox : ob ≠ xb := Blk.ne_ HOv10.out HXv10.out (by decide)
            have hxo : xb ≠ ob := Ne.symm hox
            have hsbl : sb < wr.heap.size := HSB.out.lt
            have hos : ob ≠ sb := by omega
            have hso : sb ≠ ob := by omega
            have hsx : sb ≠ xb := by omega
            have z0 : v10.cell? ⟨ob, 0, none⟩ = some (.slice none 0 0) := HOv10.out.cell 0
            have z1 : v10.cell? ⟨ob, 1, none⟩ = some (.slice none 0 0) := HOv10.out.cell 1
            have z2 : v10.cell? ⟨ob, 2, none⟩ = some (.slice none 0 0) := HOv10.out.cell 2
            have lz0 := HOv10.out.frozen 0
            have lz1 := HOv10.out.frozen 1
            have lz2 := HOv10.out.frozen 2
            refine wpAnyH_ready (rs := [11]) (by kernel_rfl) (by simp) ?_
            refine AllReadyH.cons rfl (fun K hK => ?_) AllReadyH.nil
            go_simp
            show K _ (set3 v10 ob (.slice A1 n1 cap1) (.slice OA1 no1 ocap1) (.slice MA1 nm1 mcap1))
            refine hK.out _ _ (below3 HBv10.out hobl _ _ _) (fun hHeld => ?_)
            clear hK K
            have HR6 := Lib.hid (blk_far3 HXv10.out hxo (.slice A1 n1 cap1) (.slice OA1 no1 ocap1) (.slice MA1 nm1 mcap1))
            have rw0 : (set3 v10 ob (.slice A1 n1 cap1) (.slice OA1 no1 ocap1) (.slice MA1 nm1 mcap1)).cell? ⟨xb, 0, none⟩ = some (.int .i64 0) := HR6.out.cell 0
            have rw1 : (set3 v10 ob (.slice A1 n1 cap1) (.slice OA1 no1 ocap1) (.slice MA1 nm1 mcap1)).cell? ⟨xb, 1, none⟩ = some (.int .i64 0) := HR6.out.cell 1
            have rw2 : (set3 v10 ob (.slice A1 n1 cap1) (.slice OA1 no1 ocap1) (.slice MA1 nm1 mcap1)).cell? ⟨xb, 2, none⟩ = some (.int .i64 0) := HR6.out.cell 2
            have rw3 : (set3 v10 ob (.slice A1 n1 cap1) (.slice OA1 no1 ocap1) (.slice MA1 nm1 mcap1)).cell? ⟨xb, 3, none⟩ = some (.bool false) := HR6.out.cell 3
            have rw4 : (set3 v10 ob (.slice A1 n1 cap1) (.slice OA1 no1 ocap1) (.slice MA1 nm1 mcap1)).cell? ⟨xb, 4, none⟩ = some (.string ⟨#[]⟩) := HR6.out.cell 4
            have rw5 : (set3 v10 ob (.slice A1 n1 cap1) (.slice OA1 no1 ocap1) (.slice MA1 nm1 mcap1)).cell? ⟨xb, 5, none⟩ = some (.slice none 0 0) := HR6.out.cell 5
            have lw0 := HR6.out.frozen 0
            have lw1 := HR6.out.frozen 1
            have lw2 := HR6.out.frozen 2
            have lw3 := HR6.out.frozen 3
            have lw4 := HR6.out.frozen 4
            have lw5 := HR6.out.frozen 5
            refine wpAnyH_ready (rs := [12]) (by kernel_rfl) (by simp) ?_
            refine AllReadyH.cons rfl (fun K hK => ?_) AllReadyH.nil
            go_simp
            show K _ (setR (set3 v10 ob (.slice A1 n1 cap1) (.slice OA1 no1 ocap1) (.slice MA1 nm1 mcap1)) xb (.int .i64 code) (.int .i64 fd) (.int .i64 num) (.bool dr) (.string dat) (.slice nA nl nc))
            refine hK.out _ _ (below6 (below3 HBv10.out hobl _ _ _) hxbl _ _ _ _ _ _) (fun hHeld => ?_)
            clear hK K
            have HEND := Lib.hid (show RoundR w wr sb (.slice A n cap) (.slice OA no ocap) (.slice MA nm_ mcap) (.pointer (some ⟨ob, 0, none⟩)) (setR (set3 v10 ob (.slice A1 n1 cap1) (.slice OA1 no1 ocap1) (.slice MA1 nm1 mcap1)) xb (.int .i64 code) (.int .i64 fd) (.int .i64 num) (.bool dr) (.string dat) (.slice nA nl nc)) from ⟨ob, A1, OA1, MA1, n1, cap1, no1, ocap1, nm1, mcap1, ev1, S1, rfl, blk_far6 (blk_set3 HOv10.out _ _ _) hox _ _ _ _ _ _, HI1.out, (HVv10.out.set3 HOv10.out _ _ _).set6 (blk_far3 HXv10.out hxo _ _ _) _ _ _ _ _ _, blk_far6 (blk_far3 (HSB.out.below HBv10.out) hso _ _ _) hsx _ _ _ _ _ _, hos, below6 (below3 (HB.out.trans (HBv10.out.mono hwr)) (by omega) _ _ _) (by omega) _ _ _ _ _ _⟩)
            clear rw0 rw1 rw2 rw3 rw4 rw5 lw0 lw1 lw2 lw3 lw4 lw5 hHeld z0 z1 z2 lz0 lz1 lz2
            generalize (setR (set3 v10 ob (.slice A1 n1 cap1) (.slice OA1 no1 ocap1) (.slice MA1 nm1 mcap1)) xb (.int .i64 code) (.int .i64 fd) (.int .i64 num) (.bool dr) (.string dat) (.slice nA nl nc)) = wz at *
            refine wpAnyH_done (by kernel_rfl) ?_ _
            go_wp2_with (fail)
            go_meet
            case rel => exact HEND.out
        · go_simp
          obtain ⟨xb, hxb⟩ : ∃ x, x = v0.heap.size := ⟨_, rfl⟩
          have hxbl : wr.heap.size ≤ xb := by rw [hxb]; exact HBv0.out.size
          have HBv11 := Lib.hid (HBv0.out.alloc HBv0.out.size (.cells #[.int .i64 0, .int .i64 0, .int .i64 0, .bool false, .string ⟨#[]⟩, .slice none 0 0] 47))
          have HXv11 := Lib.hid (Blk.newAt v0 47 #[.int .i64 0, .int .i64 0, .int .i64 0, .bool false, .string ⟨#[]⟩, .slice none 0 0] hxb)
          show K _ (v0.alloc (.cells #[.int .i64 0, .int .i64 0, .int .i64 0, .bool false, .string ⟨#[]⟩, .slice none 0 0] 47))
          refine hK.out _ _ HBv11.out (fun hHeld => ?_)
          clear hK K
          rw [← hxb]
          clear hxb
          generalize v0.alloc (.cells #[.int .i64 0, .int .i64 0, .int .i64 0, .bool false, .string ⟨#[]⟩, .slice none 0 0] 47) = v11 at *
          refine wpAnyH_ready (rs := [5, 9]) (by kernel_rfl) (by simp) ?_
          refine AllReadyH.cons rfl (fun K hK => ?_) (AllReadyH.cons rfl (fun K hK => ?_) AllReadyH.nil)
          · go_simp
            refine (Do_calls ((HV.out.below HBv11.out).stm) HI.out (D k)).mono ?_
            rintro e v12 ⟨iv1, ov1, mv1, ev1, S1, code, fd, num, dr, dat, nA, nl, nc, rfl, hI1, hV1, hB1⟩
            obtain ⟨A1, cap1, rfl⟩ := hV1.ino.at'.form
            obtain ⟨OA1, ocap1, rfl⟩ := hV1.opn.at'.form
            obtain ⟨MA1, mcap1, rfl⟩ := hV1.mad.at'.form
            generalize S1.inodes.length = n1 at hV1 ⊢
            generalize S1.opens.length = no1 at hV1 ⊢
            generalize S1.made.length = nm1 at hV1 ⊢
            have HI1 := Lib.hid hI1
            have HBv12 := Lib.hid (HBv11.out.trans (hB1.mono HBv11.out.size))
            have HVv12 := Lib.hid (hV1.base_le (Nat.le_trans hwr HBv11.out.size))
            have HXv12 := Lib.hid (HXv11.out.below hB1)
            show K _ v12
            refine hK.out _ _ HBv12.out (fun hHeld => ?_)
            clear hK K hI1 hV1 hB1
            refine wpAnyH_take (i := 6) (oi := ⟨some 29, _, _, _, _, _⟩) (v := .tuple #[.agg #[.slice A1 n1 cap1, .slice OA1 no1 ocap1, .slice MA1 nm1 mcap1], .agg #[.int .i64 code, .int .i64 fd, .int .i64 num, .bool dr, .string dat, .slice nA nl nc]]) rfl (by kernel_rfl) (by kernel_rfl) (by kernel_rfl) (fun _ _ _ h => h) (Or.inl ⟨by kernel_rfl, fun w hSw => by go_simp⟩) (by assumption) ?_
            simp only [Act.put, lTA, lC0, lCS]
            refine wpAnyH_take (i := 7) (oi := ⟨some 36, _, _, _, _, _⟩) (v := .agg #[.slice A1 n1 cap1, .slice OA1 no1 ocap1, .slice MA1 nm1 mcap1]) rfl (by kernel_rfl) (by kernel_rfl) (by kernel_rfl) (fun _ _ _ h => h) (Or.inl ⟨by kernel_rfl, fun w hSw => by go_simp⟩) (by assumption) ?_
            simp only [Act.put, lTA, lC0, lCS]
            refine wpAnyH_take (i := 8) (oi := ⟨some 37, _, _, _, _, _⟩) (v := .agg #[.int .i64 code, .int .i64 fd, .int .i64 num, .bool dr, .string dat, .slice nA nl nc]) rfl (by kernel_rfl) (by kernel_rfl) (by kernel_rfl) (fun _ _ _ h => h) (Or.inl ⟨by kernel_rfl, fun w hSw => by go_simp⟩) (by assumption) ?_
            simp only [Act.put, lTA, lC0, lCS]
            refine wpAnyH_ready (rs := [9]) (by kernel_rfl) (by simp) ?_
            refine AllReadyH.cons rfl (fun K hK => ?_) AllReadyH.nil
            go_simp
            obtain ⟨ob, hob⟩ : ∃ x, x = v12.heap.size := ⟨_, rfl⟩
            have hobl : wr.heap.size ≤ ob := by rw [hob]; exact HBv12.out.size
            have HBv13 := Lib.hid (HBv12.out.alloc HBv12.out.size (.cells #[.slice none 0 0, .slice none 0 0, .slice none 0 0] 26))
            have HOv13 := Lib.hid (Blk.newAt v12 26 #[.slice none 0 0, .slice none 0 0, .slice none 0 0] hob)
            have HXv13 := Lib.hid (HXv12.out.alloc (.cells #[.slice none 0 0, .slice none 0 0, .slice none 0 0] 26))
            have HVv13 := Lib.hid (HVv12.out.below (below_alloc v12 (.cells #[.slice none 0 0, .slice none 0 0, .slice none 0 0] 26)))
            show K _ (v12.alloc (.cells #[.slice none 0 0, .slice none 0 0, .slice none 0 0] 26))
            refine hK.out _ _ HBv13.out (fun hHeld => ?_)
            clear hK K
            rw [← hob]
            clear hob
            generalize v12.alloc (.cells #[.slice none 0 0, .slice none 0 0, .slice none 0 0] 26) = v13 at *
            have hox : ob ≠ xb := Blk.ne_ HOv13.out HXv13.out (by decide)
            have hxo : xb ≠ ob := Ne.symm hox
            have hsbl : sb < wr.heap.size := HSB.out.lt
            have hos : ob ≠ sb := by omega
            have hso : sb ≠ ob := by omega
            have hsx : sb ≠ xb := by omega
            have z0 : v13.cell? ⟨ob, 0, none⟩ = some (.slice none 0 0) := HOv13.out.cell 0
            have z1 : v13.cell? ⟨ob, 1, none⟩ = some (.slice none 0 0) := HOv13.out.cell 1
            have z2 : v13.cell? ⟨ob, 2, none⟩ = some (.slice none 0 0) := HOv13.out.cell 2
            have lz0 := HOv13.out.frozen 0
            have lz1 := HOv13.out.frozen 1
            have lz2 := HOv13.out.frozen 2
            refine wpAnyH_ready (rs := [11]) (by kernel_rfl) (by simp) ?_
            refine AllReadyH.cons rfl (fun K hK => ?_) AllReadyH.nil
            go_simp
            show K _ (set3 v13 ob (.slice A1 n1 cap1) (.slice OA1 no1 ocap1) (.slice MA1 nm1 mcap1))
            refine hK.out _ _ (below3 HBv13.out hobl _ _ _) (fun hHeld => ?_)
            clear hK K
            have HR6 := Lib.hid (blk_far3 HXv13.out hxo (.slice A1 n1 cap1) (.slice OA1 no1 ocap1) (.slice MA1 nm1 mcap1))
            have rw0 : (set3 v13 ob (.slice A1 n1 cap1) (.slice OA1 no1 ocap1) (.slice MA1 nm1 mcap1)).cell? ⟨xb, 0, none⟩ = some (.int .i64 0) := HR6.out.cell 0
            have rw1 : (set3 v13 ob (.slice A1 n1 cap1) (.slice OA1 no1 ocap1) (.slice MA1 nm1 mcap1)).cell? ⟨xb, 1, none⟩ = some (.int .i64 0) := HR6.out.cell 1
            have rw2 : (set3 v13 ob (.slice A1 n1 cap1) (.slice OA1 no1 ocap1) (.slice MA1 nm1 mcap1)).cell? ⟨xb, 2, none⟩ = some (.int .i64 0) := HR6.out.cell 2
            have rw3 : (set3 v13 ob (.slice A1 n1 cap1) (.slice OA1 no1 ocap1) (.slice MA1 nm1 mcap1)).cell? ⟨xb, 3, none⟩ = some (.bool false) := HR6.out.cell 3
            have rw4 : (set3 v13 ob (.slice A1 n1 cap1) (.slice OA1 no1 ocap1) (.slice MA1 nm1 mcap1)).cell? ⟨xb, 4, none⟩ = some (.string ⟨#[]⟩) := HR6.out.cell 4
            have rw5 : (set3 v13 ob (.slice A1 n1 cap1) (.slice OA1 no1 ocap1) (.slice MA1 nm1 mcap1)).cell? ⟨xb, 5, none⟩ = some (.slice none 0 0) := HR6.out.cell 5
            have lw0 := HR6.out.frozen 0
            have lw1 := HR6.out.frozen 1
            have lw2 := HR6.out.frozen 2
            have lw3 := HR6.out.frozen 3
            have lw4 := HR6.out.frozen 4
            have lw5 := HR6.out.frozen 5
            refine wpAnyH_ready (rs := [12]) (by kernel_rfl) (by simp) ?_
            refine AllReadyH.cons rfl (fun K hK => ?_) AllReadyH.nil
            go_simp
            show K _ (setR (set3 v13 ob (.slice A1 n1 cap1) (.slice OA1 no1 ocap1) (.slice MA1 nm1 mcap1)) xb (.int .i64 code) (.int .i64 fd) (.int .i64 num) (.bool dr) (.string dat) (.slice nA nl nc))
            refine hK.out _ _ (below6 (below3 HBv13.out hobl _ _ _) hxbl _ _ _ _ _ _) (fun hHeld => ?_)
            clear hK K
            have HEND := Lib.hid (show RoundR w wr sb (.slice A n cap) (.slice OA no ocap) (.slice MA nm_ mcap) (.pointer (some ⟨ob, 0, none⟩)) (setR (set3 v13 ob (.slice A1 n1 cap1) (.slice OA1 no1 ocap1) (.slice MA1 nm1 mcap1)) xb (.int .i64 code) (.int .i64 fd) (.int .i64 num) (.bool dr) (.string dat) (.slice nA nl nc)) from ⟨ob, A1, OA1, MA1, n1, cap1, no1, ocap1, nm1, mcap1, ev1, S1, rfl, blk_far6 (blk_set3 HOv13.out _ _ _) hox _ _ _ _ _ _, HI1.out, (HVv13.out.set3 HOv13.out _ _ _).set6 (blk_far3 HXv13.out hxo _ _ _) _ _ _ _ _ _, blk_far6 (blk_far3 (HSB.out.below HBv13.out) hso _ _ _) hsx _ _ _ _ _ _, hos, below6 (below3 (HB.out.trans (HBv13.out.mono hwr)) (by omega) _ _ _) (by omega) _ _ _ _ _ _⟩)
            clear rw0 rw1 rw2 rw3 rw4 rw5 lw0 lw1 lw2 lw3 lw4 lw5 hHeld z0 z1 z2 lz0 lz1 lz2
            generalize (setR (set3 v13 ob (.slice A1 n1 cap1) (.slice OA1 no1 ocap1) (.slice MA1 nm1 mcap1)) xb (.int .i64 code) (.int .i64 fd) (.int .i64 num) (.bool dr) (.string dat) (.slice nA nl nc)) = wz at *
            refine wpAnyH_done (by kernel_rfl) ?_ _
            go_wp2_with (fail)
            go_meet
            case rel => exact HEND.out
          · go_simp
            obtain ⟨ob, hob⟩ : ∃ x, x = v11.heap.size := ⟨_, rfl⟩
            have hobl : wr.heap.size ≤ ob := by rw [hob]; exact HBv11.out.size
            have HBv14 := Lib.hid (HBv11.out.alloc HBv11.out.size (.cells #[.slice none 0 0, .slice none 0 0, .slice none 0 0] 26))
            have HOv14 := Lib.hid (Blk.newAt v11 26 #[.slice none 0 0, .slice none 0 0, .slice none 0 0] hob)
            have HXv14 := Lib.hid (HXv11.out.alloc (.cells #[.slice none 0 0, .slice none 0 0, .slice none 0 0] 26))
            show K _ (v11.alloc (.cells #[.slice none 0 0, .slice none 0 0, .slice none 0 0] 26))
            refine hK.out _ _ HBv14.out (fun hHeld => ?_)
            clear hK K
            rw [← hob]
            clear hob
            generalize v11.alloc (.cells #[.slice none 0 0, .slice none 0 0, .slice none 0 0] 26) = v14 at *
            refine wpAnyH_ready (rs := [5]) (by kernel_rfl) (by simp) ?_
            refine AllReadyH.cons rfl (fun K hK => ?_) AllReadyH.nil
            go_simp
            refine (Do_calls ((HV.out.below HBv14.out).stm) HI.out (D k)).mono ?_
            rintro e v15 ⟨iv1, ov1, mv1, ev1, S1, code, fd, num, dr, dat, nA, nl, nc, rfl, hI1, hV1, hB1⟩
            obtain ⟨A1, cap1, rfl⟩ := hV1.ino.at'.form
            obtain ⟨OA1, ocap1, rfl⟩ := hV1.opn.at'.form
            obtain ⟨MA1, mcap1, rfl⟩ := hV1.mad.at'.form
            generalize S1.inodes.length = n1 at hV1 ⊢
            generalize S1.opens.length = no1 at hV1 ⊢
            generalize S1.made.length = nm1 at hV1 ⊢
            have HI1 := Lib.hid hI1
            have HBv15 := Lib.hid (HBv14.out.trans (hB1.mono HBv14.out.size))
            have HVv15 := Lib.hid (hV1.base_le (Nat.le_trans hwr HBv14.out.size))
            have HOv15 := Lib.hid (HOv14.out.below hB1)
            have HXv15 := Lib.hid (HXv14.out.below hB1)
            show K _ v15
            refine hK.out _ _ HBv15.out (fun hHeld => ?_)
            clear hK K hI1 hV1 hB1
            refine wpAnyH_take (i := 6) (oi := ⟨some 29, _, _, _, _, _⟩) (v := .tuple #[.agg #[.slice A1 n1 cap1, .slice OA1 no1 ocap1, .slice MA1 nm1 mcap1], .agg #[.int .i64 code, .int .i64 fd, .int .i64 num, .bool dr, .string dat, .slice nA nl nc]]) rfl (by kernel_rfl) (by kernel_rfl) (by kernel_rfl) (fun _ _ _ h => h) (Or.inl ⟨by kernel_rfl, fun w hSw => by go_simp⟩) (by assumption) ?_
            simp only [Act.put, lTA, lC0, lCS]
            refine wpAnyH_take (i := 7) (oi := ⟨some 36, _, _, _, _, _⟩) (v := .agg #[.slice A1 n1 cap1, .slice OA1 no1 ocap1, .slice MA1 nm1 mcap1]) rfl (by kernel_rfl) (by kernel_rfl) (by kernel_rfl) (fun _ _ _ h => h) (Or.inl ⟨by kernel_rfl, fun w hSw => by go_simp⟩) (by assumption) ?_
            simp only [Act.put, lTA, lC0, lCS]
            refine wpAnyH_take (i := 8) (oi := ⟨some 37, _, _, _, _, _⟩) (v := .agg #[.int .i64 code, .int .i64 fd, .int .i64 num, .bool dr, .string dat, .slice nA nl nc]) rfl (by kernel_rfl) (by kernel_rfl) (by kernel_rfl) (fun _ _ _ h => h) (Or.inl ⟨by kernel_rfl, fun w hSw => by go_simp⟩) (by assumption) ?_
            simp only [Act.put, lTA, lC0, lCS]
            have hox : ob ≠ xb := Blk.ne_ HOv15.out HXv15.out (by decide)
            have hxo : xb ≠ ob := Ne.symm hox
            have hsbl : sb < wr.heap.size := HSB.out.lt
            have hos : ob ≠ sb := by omega
            have hso : sb ≠ ob := by omega
            have hsx : sb ≠ xb := by omega
            have z0 : v15.cell? ⟨ob, 0, none⟩ = some (.slice none 0 0) := HOv15.out.cell 0
            have z1 : v15.cell? ⟨ob, 1, none⟩ = some (.slice none 0 0) := HOv15.out.cell 1
            have z2 : v15.cell? ⟨ob, 2, none⟩ = some (.slice none 0 0) := HOv15.out.cell 2
            have lz0 := HOv15.out.frozen 0
            have lz1 := HOv15.out.frozen 1
            have lz2 := HOv15.out.frozen 2
            refine wpAnyH_ready (rs := [11]) (by kernel_rfl) (by simp) ?_
            refine AllReadyH.cons rfl (fun K hK => ?_) AllReadyH.nil
            go_simp
            show K _ (set3 v15 ob (.slice A1 n1 cap1) (.slice OA1 no1 ocap1) (.slice MA1 nm1 mcap1))
            refine hK.out _ _ (below3 HBv15.out hobl _ _ _) (fun hHeld => ?_)
            clear hK K
            have HR6 := Lib.hid (blk_far3 HXv15.out hxo (.slice A1 n1 cap1) (.slice OA1 no1 ocap1) (.slice MA1 nm1 mcap1))
            have rw0 : (set3 v15 ob (.slice A1 n1 cap1) (.slice OA1 no1 ocap1) (.slice MA1 nm1 mcap1)).cell? ⟨xb, 0, none⟩ = some (.int .i64 0) := HR6.out.cell 0
            have rw1 : (set3 v15 ob (.slice A1 n1 cap1) (.slice OA1 no1 ocap1) (.slice MA1 nm1 mcap1)).cell? ⟨xb, 1, none⟩ = some (.int .i64 0) := HR6.out.cell 1
            have rw2 : (set3 v15 ob (.slice A1 n1 cap1) (.slice OA1 no1 ocap1) (.slice MA1 nm1 mcap1)).cell? ⟨xb, 2, none⟩ = some (.int .i64 0) := HR6.out.cell 2
            have rw3 : (set3 v15 ob (.slice A1 n1 cap1) (.slice OA1 no1 ocap1) (.slice MA1 nm1 mcap1)).cell? ⟨xb, 3, none⟩ = some (.bool false) := HR6.out.cell 3
            have rw4 : (set3 v15 ob (.slice A1 n1 cap1) (.slice OA1 no1 ocap1) (.slice MA1 nm1 mcap1)).cell? ⟨xb, 4, none⟩ = some (.string ⟨#[]⟩) := HR6.out.cell 4
            have rw5 : (set3 v15 ob (.slice A1 n1 cap1) (.slice OA1 no1 ocap1) (.slice MA1 nm1 mcap1)).cell? ⟨xb, 5, none⟩ = some (.slice none 0 0) := HR6.out.cell 5
            have lw0 := HR6.out.frozen 0
            have lw1 := HR6.out.frozen 1
            have lw2 := HR6.out.frozen 2
            have lw3 := HR6.out.frozen 3
            have lw4 := HR6.out.frozen 4
            have lw5 := HR6.out.frozen 5
            refine wpAnyH_ready (rs := [12]) (by kernel_rfl) (by simp) ?_
            refine AllReadyH.cons rfl (fun K hK => ?_) AllReadyH.nil
            go_simp
            show K _ (setR (set3 v15 ob (.slice A1 n1 cap1) (.slice OA1 no1 ocap1) (.slice MA1 nm1 mcap1)) xb (.int .i64 code) (.int .i64 fd) (.int .i64 num) (.bool dr) (.string dat) (.slice nA nl nc))
            refine hK.out _ _ (below6 (below3 HBv15.out hobl _ _ _) hxbl _ _ _ _ _ _) (fun hHeld => ?_)
            clear hK K
            have HEND := Lib.hid (show RoundR w wr sb (.slice A n cap) (.slice OA no ocap) (.slice MA nm_ mcap) (.pointer (some ⟨ob, 0, none⟩)) (setR (set3 v15 ob (.slice A1 n1 cap1) (.slice OA1 no1 ocap1) (.slice MA1 nm1 mcap1)) xb (.int .i64 code) (.int .i64 fd) (.int .i64 num) (.bool dr) (.string dat) (.slice nA nl nc)) from ⟨ob, A1, OA1, MA1, n1, cap1, no1, ocap1, nm1, mcap1, ev1, S1, rfl, blk_far6 (blk_set3 HOv15.out _ _ _) hox _ _ _ _ _ _, HI1.out, (HVv15.out.set3 HOv15.out _ _ _).set6 (blk_far3 HXv15.out hxo _ _ _) _ _ _ _ _ _, blk_far6 (blk_far3 (HSB.out.below HBv15.out) hso _ _ _) hsx _ _ _ _ _ _, hos, below6 (below3 (HB.out.trans (HBv15.out.mono hwr)) (by omega) _ _ _) (by omega) _ _ _ _ _ _⟩)
            clear rw0 rw1 rw2 rw3 rw4 rw5 lw0 lw1 lw2 lw3 lw4 lw5 hHeld z0 z1 z2 lz0 lz1 lz2
            generalize (setR (set3 v15 ob (.slice A1 n1 cap1) (.slice OA1 no1 ocap1) (.slice MA1 nm1 mcap1)) xb (.int .i64 code) (.int .i64 fd) (.int .i64 num) (.bool dr) (.string dat) (.slice nA nl nc)) = wz at *
            refine wpAnyH_done (by kernel_rfl) ?_ _
            go_wp2_with (fail)
            go_meet
            case rel => exact HEND.out
      case rest =>
        obtain ⟨ob, A1, OA1, MA1, n1, cap1, no1, ocap1, nm1, mcap1, ev1, S1, rfl, hO, hI1, hV1, hS1, hos, hb1⟩ := hcut
        have HI1 := Lib.hid hI1
        have HV1 := Lib.hid hV1
        have HS1 := Lib.hid hS1
        have HB1 := Lib.hid hb1
        have o0 : wc.cell? ⟨ob, 0, none⟩ = some (.slice A1 n1 cap1) := hO.cell 0
        have o1 : wc.cell? ⟨ob, 1, none⟩ = some (.slice OA1 no1 ocap1) := hO.cell 1
        have o2 : wc.cell? ⟨ob, 2, none⟩ = some (.slice MA1 nm1 mcap1) := hO.cell 2
        have s0 : wc.cell? ⟨sb, 0, none⟩ = some (.slice A n cap) := hS1.cell 0
        have s1 : wc.cell? ⟨sb, 1, none⟩ = some (.slice OA no ocap) := hS1.cell 1
        have s2 : wc.cell? ⟨sb, 2, none⟩ = some (.slice MA nm_ mcap) := hS1.cell 2
        have f0 := hS1.frozen 0
        have f1 := hS1.frozen 1
        have f2 := hS1.frozen 2
        have HR := Lib.hid (show Inv S1 ∧ StV (set3 wc sb (.slice A1 n1 cap1) (.slice OA1 no1 ocap1) (.slice MA1 nm1 mcap1)) w.heap.size (.slice A1 n1 cap1) (.slice OA1 no1 ocap1) (.slice MA1 nm1 mcap1) ev1 S1 ∧ Blk (set3 wc sb (.slice A1 n1 cap1) (.slice OA1 no1 ocap1) (.slice MA1 nm1 mcap1)) sb 26 #[.slice A1 n1 cap1, .slice OA1 no1 ocap1, .slice MA1 nm1 mcap1] ∧ Below w.heap.size w (set3 wc sb (.slice A1 n1 cap1) (.slice OA1 no1 ocap1) (.slice MA1 nm1 mcap1)) from ⟨hI1, hV1.set3 hS1 _ _ _, blk_set3 hS1 _ _ _, below3 hb1 hsbw _ _ _⟩)
        clear hO hI1 hV1 hS1 hb1 p0 p1 p2 y0 y1 y2 y3 y4 y5 y6 y7
        go_wp2_with (fail)
        go_roundw
        case rel => exact ⟨k + 1, _, _, _, _, _, _, _, _, _, ev1, S1, by go_num, by omega, by omega, HR.out.1, HR.out.2.1, HR.out.2.2.1, HR.out.2.2.2⟩
        case measure =>
          simp only [intOf]
          omega
    · have HST := Lib.hid (State_calls HV.out.stm HI.out.small rise_nil (newS_raw HI.out))
      rcases (by omega : k = len ∨ (k < len ∧ k = 40)) with hkl | ⟨hkl, hk4⟩
      all_goals (
        first
          | (have hq1i : ¬ (k : Int) < (len : Int) := by omega)
          | skip
        first
          | (have hq2i : (k : Int) < (len : Int) := by omega)
          | skip
        first
          | (have hq3i : ¬ (k : Int) < 40 := by omega)
          | skip
        try clear hkl hk4
        try clear hkl
        clear hq hk hk40
        go_wp2_with (fail)
        refine HST.out.mono ?_
        rintro e w5 ⟨r, rfl, hB5, hR5⟩
        have HB5 := Lib.hid (HB.out.trans (hB5.mono hwr))
        obtain ⟨RA, rcap, rfl⟩ : ∃ RA rcap, r = .slice RA 0 rcap := by
          rcases hR5.2 with ⟨h1, _⟩ | ⟨g1, cap1, cur1, h1, _⟩
          · exact ⟨_, _, h1⟩
          · exact ⟨_, _, h1⟩
        clear hB5 hR5
        go_wp2_with (fail)
        go_ret
        exact ⟨rfl, HB5.out⟩)
end Go.Proofs.Ytenlffhoinialaa
end

