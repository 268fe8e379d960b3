
/- check: what is found from the root on, plainly. -/
import Derived.Test.YtenlffhoinialaaCkQ
namespace Go.Proofs.Ytenlffhoinialaa
open Go.RowKit
set_option maxHeartbeats 1000000

def entsOf (S : St) (i : Nat) : List Int := (List.range (S.ne i)).map (S.enu i)
def manyTo (S : St) (i : Nat) : List Int := (List.range i).flatMap fun i => if S.dir i then entsOf S i else []
def manyF (S : St) (x : Int) : Nat := (manyTo S S.inodes.length).count x
def add1 (F : List Int) (x : Int) : List Int := if F.contains x then F else F ++ [x]
def addAll (F : List Int) (es : List Int) : List Int := es.foldl add1 F
def kids (S : St) (x : Int) : List Int := match firstIx S x with
  | some i => if S.dir i then entsOf S i else []
  | none => []
def bfs (S : St) : Nat → List Int → Nat → List Int
  | 0, F, _ => F
  | f + 1, F, p => match F[p]? with
    | some x => bfs S f (addAll F (kids S x)) (p + 1)
    | none => F
def univ (S : St) : List Int := (List.range S.inodes.length).flatMap (entsOf S)
def foundF (S : St) : List Int := bfs S ((univ S).length + 2) [1] 0
def foundB (S : St) (x : Int) : Bool := (foundF S).contains x
def out (U F : List Int) : Nat := (U.filter fun x => !F.contains x).length

theorem entsOf_len (S : St) (i : Nat) : (entsOf S i).length = S.ne i := by simp [entsOf]
theorem univ_len (S : St) (hs : S.small) : (univ S).length ≤ 1000000 := by
  unfold univ
  have := flat_len (f := entsOf S) (c := 1000) (fun i => by rw [entsOf_len]; exact hs.en i) S.inodes.length
  have := hs.ni
  omega
theorem mem_univ {S : St} {i k : Nat} (hi : i < S.inodes.length) (hk : k < S.ne i) : S.enu i k ∈ univ S := by
  unfold univ entsOf
  rw [List.mem_flatMap]
  exact ⟨i, by simpa using hi, by rw [List.mem_map]; exact ⟨k, by simpa using hk, rfl⟩⟩
theorem filter_lt {A : Type} {p q : A → Bool} (h : ∀ x, q x = true → p x = true) {y : A} : ∀ {l : List A}, y ∈ l → p y = true → q y = false → (l.filter q).length + 1 ≤ (l.filter p).length
  | [], hy, _, _ => by simp at hy
  | a :: l, hy, hp, hq => by
    have hle : ∀ l : List A, (l.filter q).length ≤ (l.filter p).length := by
      intro l
      induction l with
      | nil => simp
      | cons a l ih =>
        rw [List.filter_cons, List.filter_cons]
        by_cases h1 : q a = true
        · rw [if_pos h1, if_pos (h a h1)]; simp; exact ih
        · rw [if_neg h1]
          split
          · simp; omega
          · exact ih
    rw [List.filter_cons, List.filter_cons]
    rcases List.mem_cons.1 hy with rfl | hy
    · rw [if_pos hp, if_neg (by simp [hq])]
      have := hle l
      simp; omega
    · have ih := filter_lt h hy hp hq
      by_cases h1 : q a = true
      · rw [if_pos h1, if_pos (h a h1)]; simp; omega
      · rw [if_neg h1]
        split
        · simp; omega
        · exact ih
theorem add1_out {U F : List Int} {x : Int} (hx : x ∈ U) (hF : F.contains x = false) : (F ++ [x]).length + out U (F ++ [x]) ≤ F.length + out U F := by
  have h := filter_lt (p := fun y => !F.contains y) (q := fun y => !(F ++ [x]).contains y) (fun y hy => by
    have h2 : y ∉ F ++ [x] := by simpa using hy
    have h3 : y ∉ F := fun h => h2 (List.mem_append_left _ h)
    simpa using h3) hx (by rw [hF]; rfl) (by simp)
  unfold out
  simp only [List.length_append, List.length_singleton]
  omega
theorem addAll_snoc (F : List Int) (es : List Int) (x : Int) : addAll F (es ++ [x]) = add1 (addAll F es) x := by
  unfold addAll
  rw [List.foldl_append]; rfl
theorem entsTo_snoc (S : St) (i k : Nat) : (List.range (k + 1)).map (S.enu i) = (List.range k).map (S.enu i) ++ [S.enu i k] := by
  rw [List.range_succ, List.map_append]; rfl
theorem manyTo_succ (S : St) (i : Nat) : manyTo S (i + 1) = manyTo S i ++ if S.dir i then entsOf S i else [] := flat_succ _ i
theorem manyTo_len (S : St) (hs : S.small) (i : Nat) (hi : i ≤ 1000) : (manyTo S i).length ≤ 1000000 := by
  unfold manyTo
  have := flat_len (f := fun i => if S.dir i then entsOf S i else []) (c := 1000) (fun i => by
    have := hs.en i
    have h2 := entsOf_len S i
    show (if S.dir i then entsOf S i else []).length ≤ 1000
    split
    · omega
    · simp) i
  have h2 : i * 1000 ≤ 1000 * 1000 := Nat.mul_le_mul_right _ hi
  omega
theorem count_snoc (L : List Int) (x y : Int) : ((L ++ [x]).count y : Int) = if y = x then (L.count x : Int) + 1 else (L.count y : Int) := by
  rw [List.count_append, List.count_singleton]
  by_cases e : y = x
  · subst e; simp
  · rw [if_neg e]
    have : (x == y) = false := by simpa using fun h : x = y => e h.symm
    simp [this]
theorem contains_snoc (F : List Int) (x y : Int) : (F ++ [x]).contains y = if y = x then true else F.contains y := by
  by_cases e : y = x
  · subst e; simp
  · rw [if_neg e]; simp [e]
end Go.Proofs.Ytenlffhoinialaa
