
/- law20: the findings of the states that the laws make, plainly. -/
import Derived.Test.YtenlffhoinialaaCkWhole
namespace Go.Proofs.Ytenlffhoinialaa
open Go.RowKit
set_option maxHeartbeats 1000000
/-- The same in words that compute. -/
def ncheckC (s : ByteArray) : Int :=
  if 12 < s.size then 801 else if (s.data.toList.isEmpty || s.data.toList == [46] || s.data.toList == [46, 46]) = true then 800 else if okFrom s s.size 0 = true then 0 else 800
theorem ncheck_c : ncheck = ncheckC := by funext s; unfold ncheck ncheckC; rw [ByteArray.toList_eq]
def nleC (s t : ByteArray) : Bool := Op.bytesLess s.data.toList t.data.toList || s.data.toList == t.data.toList
theorem nle_c : nle = nleC := by funext s t; unfold nle nleC; rw [ByteArray.toList_eq, ByteArray.toList_eq]
def b6C (S : St) (i : Nat) : Bool := (S.dir i && !(S.dat i).data.toList.isEmpty) || (!S.dir i && decide (0 < S.ne i)) || decide (256 < (S.dat i).size)
theorem b6_c : b6 = b6C := by funext S i; unfold b6 b6C; rw [ByteArray.toList_eq]
def b5C (S : St) (i k : Nat) : Bool := !(ncheckC (S.enm i k) == 0) || (decide (0 < k) && nleC (S.enm i k) (S.enm i (k - 1)))
theorem b5_c : b5 = b5C := by funext S i k; unfold b5 b5C; rw [ncheck_c, nle_c]
def entAtC (S : St) (i k : Nat) : List Fnd := one 2 (S.num i) (S.enm i k) (b2 S i k) ++ one 5 (S.num i) (S.enm i k) (b5C S i k) ++ one 7 (S.num i) nm0 (b7 S i k)
def bodyAtC (S : St) (i : Nat) : List Fnd := one 6 (S.num i) nm0 (b6C S i) ++ if S.dir i then (List.range (S.ne i)).flatMap (entAtC S i) else []
def rawC (S : St) : List Fnd := numbersF S ++ (List.range S.inodes.length).flatMap (bodyAtC S) ++ treeF S ++ openF S
theorem raw_c (S : St) : rawF S = rawC S := by
  have h1 : entAt = entAtC := by funext S i k; unfold entAt entAtC; rw [b5_c]
  have h2 : bodyAt = bodyAtC := by funext S i; unfold bodyAt bodyAtC; rw [b6_c, h1]
  unfold rawF rawC bodiesF
  rw [h2]
def dS : List (ByteArray × Int) := [(⟨#[100]⟩, 2), (⟨#[102]⟩, 3), (⟨#[103]⟩, 3)]
def hS : List (ByteArray × Int) := [(⟨#[104]⟩, 10)]
def wS (a b : List (ByteArray × Int)) (d2 d3 : ByteArray) (n4 n5 : Int) (O : List (Int × Int × Int)) (M : List Int) : St :=
  ⟨[⟨1, true, a, ⟨#[]⟩⟩, ⟨2, true, b, d2⟩, ⟨3, false, [], d3⟩, ⟨n4, false, [], ⟨#[]⟩⟩, ⟨n5, false, [], ⟨#[111, 112, 101, 110]⟩⟩], O, M⟩
def w0S : St := wS dS hS ⟨#[]⟩ ⟨#[116, 104, 114, 101, 101]⟩ 10 11 [(1, 2, 11)] [3, 2]
set_option maxRecDepth 100000 in
theorem ev_whole : rawF w0S = [] := by rw [raw_c]; kernel_rfl
end Go.Proofs.Ytenlffhoinialaa
