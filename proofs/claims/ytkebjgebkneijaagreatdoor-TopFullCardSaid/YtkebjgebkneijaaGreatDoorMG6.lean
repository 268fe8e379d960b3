/- Texts of one's own that a claim's last text rests on: Pth Mf9 Wk. -/
import Derived.Test.YtkebjgebkneijaaGreatDoorMG2
import Derived.Test.YtkebjgebkneijaaGreatDoorMG4
import Derived.Lib.OthersKept
import Derived.Test.YtkebjgebkneijaaGreatDoorMG5
set_option linter.unusedVariables false
set_option linter.unusedSimpArgs false
namespace Go.Proofs.YtkebjgebkneijaaGreatDoor
section
open Go.RowKit
set_option maxHeartbeats 2000000
inductive ParseR where
 | ok (l : List ByteArray)
 | err (e : Int)
def slashed (s : ByteArray) : ByteArray := s ++ ⟨#[47]⟩
def parseFrom (s : ByteArray) : Nat -> Nat -> Nat -> List ByteArray -> ParseR
 | 0, _, _, out => if 4 < out.length then .err 1102 else .ok out
 | b + 1, pos, from_, out =>
  if pos < (slashed s).size then
   if pos == 0 || (Utf8.decode (slashed s) pos).1 != 47 then parseFrom s b (pos + (Utf8.decode (slashed s) pos).2) from_ out
   else if ncheck (s.extract from_ pos) = 0 then parseFrom s b (pos + (Utf8.decode (slashed s) pos).2) (pos + 1) (out ++ [s.extract from_ pos])
   else if ncheck (s.extract from_ pos) = 801 then .err 1101 else .err 1100
  else if 4 < out.length then .err 1102 else .ok out
def parseF (s : ByteArray) : ParseR :=
 if 64 < s.size then .err 1101
 else if s.size = 0 ∨ s.get! 0 ≠ 47 then .err 1100
 else if s.size = 1 then .ok []
 else parseFrom s (s.size + 1) 0 1 []
def codeF (e : Int) : Int := if e = 0 then 0 else if e = 1101 then 6 else if e = 1102 then 6 else 9
theorem code_calls (e : Int) (w : World) : Calls Tryz.prog 23 #[.int .i64 e] w fun r w' => r = .returned (.int .i64 (codeF e)) /\ w = w' := by
 by_cases h0 : e = 0
 ·subst h0
  go_enter Tryz.func23, Tryz.ntmps23
  go_wp2
  go_ret
  exact ⟨rfl, rfl⟩
 ·have h0' : (e == 0) = false := by rw [beq_eq_false_iff_ne]; exact h0
  by_cases h1 : e = 1101
  ·subst h1
   go_enter Tryz.func23, Tryz.ntmps23
   go_wp2
   go_ret
   exact ⟨rfl, rfl⟩
  ·have h1' : (e == 1101) = false := by rw [beq_eq_false_iff_ne]; exact h1
   by_cases h2 : e = 1102
   ·subst h2
    go_enter Tryz.func23, Tryz.ntmps23
    go_wp2
    go_ret
    exact ⟨rfl, rfl⟩
   ·have h2' : (e == 1102) = false := by rw [beq_eq_false_iff_ne]; exact h2
    have HX := lhi (show codeF e = 9 by unfold codeF; rw [if_neg h0, if_neg h1, if_neg h2])
    clear h0 h1 h2
    go_enter Tryz.func23, Tryz.ntmps23
    go_wp2
    go_ret
    exact ⟨by rw [HX.out]; rfl, rfl⟩
def nmC (l : List ByteArray) : Nat -> Nat -> Value := fun i _ => .string (l.getD i ByteArray.empty)
def NmB (w : World) (v : Value) (l : List ByteArray) : Prop := RowT w 0 9 1 v l.length (nmC l)
def ParseV (B : Nat) (w : World) (e : Ending) : ParseR -> Prop
 | .ok l => ∃ v, e = .returned (.tuple #[v, .int .i64 0]) /\ NmB w v l /\ ∀ q, svBlk v q -> B <= q
 | .err k => e = .returned (.tuple #[.slice none 0 0, .int .i64 k])
theorem info_str : (Tryz.prog.info? 9).map (fun i => (i.zero, i.size, i.bytes)) = some (some (.string ⟨#[]⟩), 1, 16) := by kernel_rfl
def encS (x : ByteArray) : List Value := [.string x]
theorem CL_str (l : List ByteArray) : CL encS l (nmC l) 1 := fun i j hi hj => by
 have : j = 0 := by omega
 subst this
 simp [encS, nmC, List.getD, hi]
theorem below_grown' {w w' : World} {B : Nat} {v : Value} (hg : w.grownBy w' v.ownBlock) (hv : ∀ q, v.ownBlock = some q -> B <= q) (hB : B <= w.heap.size) : Below B w w' :=
 ⟨hg.os, hg.tape, hg.output, hg.size, fun q hq => hg.block q (by omega) (fun e => by have := hv q e.symm; omega)⟩
theorem nm_row {w : World} {B : Nat} {v : Value} {l : List ByteArray} (h : w.ownsRow B 9 1 v l.length (l.flatMap encS)) : NmB w v l := (own_rowT (k := 1) (enc := encS) (by decide) (fun _ => rfl) h (CL_str l)).base_le (Nat.zero_le _)
set_option maxRecDepth 1000000 in
theorem Parse_calls (s : ByteArray) (hs : s.size <= 4611686018427387904) (w : World) :
  Calls Tryz.prog 22 #[.string s] w fun e w' => ParseV w.heap.size w' e (parseF s) /\ Below w.heap.size w w' := by
 by_cases h1 : 64 < s.size
 ·have h2 : (64 : Int) < (s.size : Int) := by omega
  have H := lhi (show parseF s = .err 1101 by unfold parseF; rw [if_pos h1])
  go_enter Tryz.func22, Tryz.ntmps22
  go_wp2_with (fail)
  go_ret2
  exact ⟨by rw [H.out]; rfl, Below.refl _ _⟩
 have h2 : ¬ (64 : Int) < (s.size : Int) := by omega
 by_cases h3 : s.size = 0
 ·have H := lhi (show parseF s = .err 1100 by unfold parseF; rw [if_neg h1, if_pos (.inl h3)])
  have e1 : s.toList.isEmpty = true := by
   rw [ByteArray.toList_eq, Array.size_eq_zero_iff.1 (show s.data.size = 0 from h3)]
   rfl
  have e2 : s.toList = [] := by simpa using e1
  clear h1 h3
  go_enter Tryz.func22, Tryz.ntmps22
  go_wp2_with (fail)
  go_ret2
  exact ⟨by rw [H.out]; rfl, Below.refl _ _⟩
 have e1 : s.toList.isEmpty = false := by
  rw [ByteArray.toList_eq]
  have h5 : s.data.toList.length ≠ 0 := by rw [Array.length_toList]; exact h3
  cases hq : s.data.toList with
  | nil => rw [hq] at h5; exact absurd rfl h5
  | cons a l => rfl
 have e2 : (!s.toList.isEmpty) = true := by rw [e1]; rfl
 have hlt0 : 0 < s.size := by omega
 have hlt0' : (0 : Int) < (s.size : Int) := by omega
 by_cases h4 : s.get! 0 = 47
 ·have k1 : (((s[0]'hlt0).toNat : Int) == 47) = true := by
   rw [get_at s 0 hlt0] at h4
   rw [h4]; rfl
  by_cases h5 : s.size = 1
  ·have H := lhi (show parseF s = .ok [] by unfold parseF; rw [if_neg h1, if_neg (by rintro (h | h); exact h3 h; exact h h4), if_pos h5])
   have k2 : ((s.size : Int) == 1) = true := by rw [h5]; rfl
   clear h1 h3 h4 h5
   go_enter Tryz.func22, Tryz.ntmps22
   go_wp2_with (fail)
   go_ret2
   exact ⟨by rw [H.out]; exact ⟨_, rfl, RowT.nil_ _ _ _ _ _, fun q hq => absurd hq svBlk_nil⟩, Below.refl _ _⟩
  ·have H := lhi (show parseF s = parseFrom s (s.size + 1) 0 1 [] by unfold parseF; rw [if_neg h1, if_neg (by rintro (h | h); exact h3 h; exact h h4), if_neg h5])
   have k2 : ((s.size : Int) == 1) = false := by rw [beq_eq_false_iff_ne]; omega
   have h64 : s.size <= 64 := by omega
   obtain ⟨i0, hi, hz0, hz1, hz2⟩ := info_parts info_str
   clear h1 h3 h4 h5
   go_enter Tryz.func22, Tryz.ntmps22
   go_wp2_with (fail)
   obtain ⟨t, ht⟩ : ∃ t, slashed s = t := ⟨_, rfl⟩
   have HT := lhi ht
   have htz : t.size = s.size + 1 := by
    rw [<- ht]
    unfold slashed
    rw [ByteArray.size_append]; rfl
   have HTZ := lhi htz
   unfold slashed at ht
   rw [ht]
   clear ht htz
   obtain ⟨B, hB⟩ : ∃ B, B = w.heap.size := ⟨_, rfl⟩
   have HB := lhi hB
   have HIT := lhi (show (w.iter t 0).heap[B]? = some (.stringIter t 0) by rw [hB]; exact World.iter_heap w t 0)
   have HBE := lhi (show Below B w (w.iter t 0) by rw [hB]; exact below_iter w t 0)
   rw [<- hB]
   clear hB
   generalize w.iter t 0 = w1 at *
   go_loopw [4, 5] (fun o f wr => ∃ (pos b fr : Nat) (out : List ByteArray), f = .int .i64 fr /\ wr.ownsRow B 9 1 o out.length (out.flatMap encS) /\ wr.heap[B]? = some (.stringIter t pos) /\ Below B w wr /\ parseFrom s b pos fr out = parseFrom s (s.size + 1) 0 1 [] /\ t.size <= pos + b /\ (fr <= pos ∨ (pos = 0 /\ fr = 1)) /\ out.length <= pos /\ out.length <= 65) (fun _ _ wr => t.size - wr.iterPos B)
   case atStart => exact ⟨0, s.size + 1, 1, [], rfl, World.ownsRow_nil _ _ _ _, HIT.out, HBE.out, rfl, by rw [HTZ.out]; omega, .inr ⟨rfl, rfl⟩, Nat.le_refl _, Nat.zero_le _⟩
   case round =>
    obtain ⟨pos, b, fr, out, rfl, hown, hit, hbe, hpe, hbb, hfr, hol, hol5⟩ := hrel
    have HO := lhi hown
    have HI := lhi hit
    have HBL := lhi hbe
    have HPE := lhi hpe
    have hzz := HTZ.out
    by_cases hp : pos < t.size
    ·have hnx : ∀ ty, (Instr.next (.pointer (some ⟨B, 0, none⟩)) true ty).run Tryz.prog wr = _ := fun ty => Lib.run_next_any_at wr B t pos ty hit hp
     obtain ⟨b', rfl⟩ : ∃ b', b = b' + 1 := ⟨b - 1, by omega⟩
     have hwd := Lib.decode_width_pos t pos hp
     have HU := lhi (show parseFrom s (b' + 1) pos fr out = if pos == 0 || (Utf8.decode t pos).1 != 47 then parseFrom s b' (pos + (Utf8.decode t pos).2) fr out
       else if ncheck (s.extract fr pos) = 0 then parseFrom s b' (pos + (Utf8.decode t pos).2) (pos + 1) (out ++ [s.extract fr pos])
       else if ncheck (s.extract fr pos) = 801 then .err 1101 else .err 1100 by
      rw [parseFrom, HT.out, if_pos hp])
     have HI1 := lhi (Lib.iterAt_heap wr B t pos (pos + (Utf8.decode t pos).2) hit)
     have HB1 := lhi (Lib.below_iterAt hbe (Nat.le_refl B) t (pos + (Utf8.decode t pos).2))
     have HS1 := lhi (Lib.iterAt_size wr B t (pos + (Utf8.decode t pos).2))
     have HO1 := lhi (show (wr.iterAt B t (pos + (Utf8.decode t pos).2)).ownsRow B 9 1 _ out.length (out.flatMap encS) from by
      refine ⟨hown.1, ?_⟩
      rcases hown.2 with q | ⟨g, cap, cur, hv, hg, hh, rest⟩
      ·exact .inl q
      ·refine .inr ⟨g, cap, cur, hv, hg, ?_, rest⟩
       rw [Lib.iterAt_other _ _ _ _ _ (fun e => by subst e; rw [hit] at hh; cases hh)]
       exact hh)
     obtain ⟨wd, hwdd⟩ : ∃ x, (Utf8.decode t pos).2 = x := ⟨_, rfl⟩
     obtain ⟨rn, hrn⟩ : ∃ x, (Utf8.decode t pos).1 = x := ⟨_, rfl⟩
     rw [hwdd] at HI1 HB1 HS1 HO1 HU hwd
     rw [hrn] at HU
     rw [hwdd, hrn] at hnx
     clear hown hit hbe hpe hzz hwdd hrn
     by_cases hc0 : pos = 0
     ·have HN := lhi (show parseFrom s b' (pos + wd) fr out = parseFrom s (s.size + 1) 0 1 [] by rw [<- HPE.out, HU.out, if_pos (by rw [hc0]; rfl)])
      have HFF := lhi (show fr <= pos + wd by omega)
      have HOL := lhi (show out.length <= pos + wd /\ out.length <= 65 by omega)
      have HM := lhi (show t.size - (pos + wd) < t.size - pos by omega)
      have HBB := lhi (show t.size <= pos + wd + b' by omega)
      have k3 : ((pos : Int) == 0) = true := by rw [hc0]; rfl
      clear hc0 hfr hol hol5 hbb HU HPE
      go_wp2_with (fail)
      go_roundw
      case rel => exact ⟨pos + wd, b', fr, out, rfl, HO1.out, HI1.out, HB1.out, HN.out, HBB.out, .inl HFF.out, HOL.out⟩
      case measure =>
       simp only [World.iterPos, HI1.out, HI.out]
       exact HM.out
     ·have k3 : ((pos : Int) == 0) = false := by rw [beq_eq_false_iff_ne]; omega
      by_cases hc1 : rn = 47
      ·subst hc1
       have hfp : fr <= pos := by omega
       have hps : pos <= s.size := by have := HTZ.out; omega
       have k4 : (((47 : Nat) : Int) != 47) = false := rfl
       have hfpI : (fr : Int) <= (pos : Int) := by omega
       have hpsI : (pos : Int) <= (s.size : Int) := by omega
       have HNN := lhi (show parseFrom s (b' + 1) pos fr out = if ncheck (s.extract fr pos) = 0 then parseFrom s b' (pos + wd) (pos + 1) (out ++ [s.extract fr pos]) else if ncheck (s.extract fr pos) = 801 then .err 1101 else .err 1100 by rw [HU.out, if_neg (by simp [hc0])])
       have HFF := lhi (show pos + 1 <= pos + wd by omega)
       have HOL := lhi (show out.length + 1 <= pos + wd /\ out.length + 1 <= 65 by have := HTZ.out; omega)
       have HM := lhi (show t.size - (pos + wd) < t.size - pos by omega)
       have HBB := lhi (show t.size <= pos + wd + b' by omega)
       have hol2 : out.length <= 100 := by omega
       clear hc0 hfr hol hol5 hbb HU
       go_wp2_with (fail)
       refine (check_calls _ _).mono ?_
       rintro e w2 ⟨rfl, hb2⟩
       obtain ⟨nc, hnc⟩ : ∃ x, ncheck (s.extract fr pos) = x := ⟨_, rfl⟩
       rw [hnc] at HNN
       rw [hnc]
       clear hnc
       have HI2 := lhi (show w2.heap[B]? = some (.stringIter t (pos + wd)) from by
        rw [hb2.block B (heap_lt HI1.out)]; exact HI1.out)
       have HB2 := lhi (HB1.out.trans (hb2.mono (Nat.le_of_lt (heap_lt HI1.out))))
       have HO2 := lhi (own_below HO1.out hb2)
       clear hb2
       by_cases hn0 : nc = 0
       ·subst hn0
        have HR := lhi (show parseFrom s b' (pos + wd) (pos + 1) (out ++ [s.extract fr pos]) = parseFrom s (s.size + 1) 0 1 [] by rw [<- HPE.out, HNN.out, if_pos rfl])
        have hBl : B < w2.heap.size := heap_lt HI2.out
        have HI3 := lhi (show (w2.alloc (.cells #[.string (s.extract fr pos)] 9)).heap[B]? = some (.stringIter t (pos + wd)) from (Below.heap_alloc _ _ _ hBl).trans HI2.out)
        clear HNN HPE
        go_wp2_with (at_builtin; (refine wpList_append_lies _ rfl (.tmp 46) (.tmp 51) 35 rfl B 9 i0 _ 1 16 Tryz.underlying35 hi hz0 hz1 hz2 rfl (by decide) u4 _ _ rfl (HO2.out.alloc (Obj.cells #[.string (s.extract fr pos)] 9)) ⟨w2.heap.size, 0, none⟩ 1 1 [.string (s.extract fr pos)] rfl rfl (World.news_of_block (heap_alloc_new _ _)) (by intro u hu; simp at hu; subst hu; rfl) (by decide) (by simp only [maxLen]; omega) (by omega) (by simp; omega) _ rfl ?_); intro g cap w3 hown hgrow hat hlt)
        have hne : some B ≠ u4.ownBlock := fun e => by
         obtain ⟨-, cs, hq⟩ := own_type (HO2.out.alloc (Obj.cells #[.string (s.extract fr pos)] 9)) e.symm
         unfold Blk at hq
         rw [HI3.out] at hq
         cases hq
        have HI4 := lhi ((hgrow.block B (by simp; omega) hne).trans HI3.out)
        have HB4 := lhi (show Below B w w3 from (HB2.out.alloc (Nat.le_of_lt hBl) _).trans (below_grown' hgrow (fun q hq => (own_type HO2.out hq).1) (by simp; omega)))
        have HO4 := lhi (show w3.ownsRow B 9 1 (.slice (some ⟨g, 0, none⟩) (out.length + 1) cap) (out ++ [s.extract fr pos]).length ((out ++ [s.extract fr pos]).flatMap encS) from by
         rw [List.length_append, List.flatMap_append]; exact hown)
        clear hown hgrow hat hlt hne
        go_wp2_with (fail)
        go_roundw
        case rel => exact ⟨pos + wd, b', pos + 1, out ++ [s.extract fr pos], by go_num, HO4.out, HI4.out, HB4.out, HR.out, HBB.out, .inl HFF.out, by rw [List.length_append]; exact HOL.out⟩
        case measure =>
         simp only [World.iterPos, HI4.out, HI.out]
         exact HM.out
       ·have k5 : (nc == 0) = false := by rw [beq_eq_false_iff_ne]; exact hn0
        by_cases hn1 : nc = 801
        ·subst hn1
         have HR := lhi (show parseF s = .err 1101 by rw [H.out, <- HPE.out, HNN.out, if_neg (by decide), if_pos rfl])
         clear hn0 HNN HPE k5
         go_wp2_with (fail)
         go_ret2
         exact ⟨by rw [HR.out]; rfl, by rw [<- HB.out]; exact HB2.out⟩
        ·have k6 : (nc == 801) = false := by rw [beq_eq_false_iff_ne]; exact hn1
         have HR := lhi (show parseF s = .err 1100 by rw [H.out, <- HPE.out, HNN.out, if_neg hn0, if_neg hn1])
         clear hn0 hn1 HNN HPE
         go_wp2_with (fail)
         go_ret2
         exact ⟨by rw [HR.out]; rfl, by rw [<- HB.out]; exact HB2.out⟩
      ·have HN := lhi (show parseFrom s b' (pos + wd) fr out = parseFrom s (s.size + 1) 0 1 [] by rw [<- HPE.out, HU.out, if_pos (by simp [hc1])])
       have HFF := lhi (show fr <= pos + wd by omega)
       have HOL := lhi (show out.length <= pos + wd /\ out.length <= 65 by omega)
       have HM := lhi (show t.size - (pos + wd) < t.size - pos by omega)
       have HBB := lhi (show t.size <= pos + wd + b' by omega)
       have k4 : ((rn : Int) != 47) = true := by rw [bne_iff_ne]; omega
       clear hc0 hfr hol hol5 hbb HU HPE hc1
       go_wp2_with (fail)
       go_roundw
       case rel => exact ⟨pos + wd, b', fr, out, rfl, HO1.out, HI1.out, HB1.out, HN.out, HBB.out, .inl HFF.out, HOL.out⟩
       case measure =>
        simp only [World.iterPos, HI1.out, HI.out]
        exact HM.out
    ·have hnx : ∀ ty, (Instr.next (.pointer (some ⟨B, 0, none⟩)) true ty).run Tryz.prog wr = _ := fun ty => Lib.run_next_end_at wr B t pos ty hit hp
     have HE := lhi (show parseF s = if 4 < out.length then .err 1102 else .ok out by
      rw [H.out, <- HPE.out]
      cases b with
      | zero => rfl
      | succ b => rw [parseFrom, HT.out, if_neg hp])
     have hform : ∃ A cap, u4 = .slice A out.length cap := by
      rcases hown.2 with ⟨e, h0⟩ | ⟨g, cap, cur, e, _⟩
      ·exact ⟨none, 0, by rw [e, h0]⟩
      ·exact ⟨_, _, e⟩
     obtain ⟨A, cap, rfl⟩ := hform
     obtain ⟨n, hn⟩ : ∃ n, out.length = n := ⟨_, rfl⟩
     have HN := lhi hn
     rw [hn] at HO ⊢
     have hn2 : n <= 100000 := by omega
     clear hown hit hbe hpe hbb hfr hol hol5 hzz hn
     by_cases h5 : 4 < n
     ·have h5' : (4 : Int) < (n : Int) := by omega
      have HR := lhi (show parseF s = .err 1102 by rw [HE.out, HN.out, if_pos h5])
      clear HE
      go_wp2_with (fail)
      go_ret2
      exact ⟨by rw [HR.out]; rfl, by rw [<- HB.out]; exact HBL.out⟩
     ·have h5' : ¬ (4 : Int) < (n : Int) := by omega
      have HR := lhi (show parseF s = .ok out by rw [HE.out, HN.out, if_neg h5])
      clear HE
      go_wp2_with (fail)
      go_ret2
      exact ⟨by rw [HR.out]; exact ⟨_, rfl, by have := HO.out; rw [<- HN.out] at this ⊢; exact nm_row this, fun q hq => by
       have hq2 : svBlk (.slice A n cap) q := hq
       obtain ⟨o', n', c', e⟩ := hq2
       have := HO.out
       rw [e] at this
       rw [<- HB.out]
       exact (this.lt q rfl).1⟩, by rw [<- HB.out]; exact HBL.out⟩
 ·have H := lhi (show parseF s = .err 1100 by unfold parseF; rw [if_neg h1, if_pos (.inr h4)])
  have k1 : (((s[0]'hlt0).toNat : Int) == 47) = false := by
   rw [get_at s 0 hlt0] at h4
   rw [beq_eq_false_iff_ne]
   intro h
   exact h4 (UInt8.toNat_inj.1 (by show _ = 47; omega))
  clear h1 h3
  go_enter Tryz.func22, Tryz.ntmps22
  go_wp2_with (fail)
  go_ret2
  exact ⟨by rw [H.out]; rfl, Below.refl _ _⟩
end
section
open Go.RowKit
set_option maxHeartbeats 1000000
def faultV (c : Int) : Value := .iface 186 (.agg #[.int .i64 c])
abbrev thrown (c : Int) : Ending := .panicked [{ v := faultV c, recovered := false }]
theorem throw_no (c : Int) (w : World) : Calls Tryz.prog 168 #[.bool false, .int .i64 c] w fun e w' => e = .returned (.tuple #[]) /\ w = w' := by
 go_enter Tryz.func168, Tryz.ntmps168
 go_wp2
 go_end0
 exact ⟨rfl, rfl⟩
theorem throw_yes (c : Int) (w : World) : Calls Tryz.prog 168 #[.bool true, .int .i64 c] w fun e w' => e = thrown c /\ w = w' := by
 go_enter Tryz.func168, Tryz.ntmps168
 go_wp2
 exact ⟨rfl, rfl, rfl⟩
theorem names_ok {s : ByteArray} (hs : s.size <= 4611686018427387904) (w : World) {l : List ByteArray} (h : parseF s = .ok l) : Calls Tryz.prog 171 #[.string s] w fun e w' => (∃ v, e = .returned v /\ NmB w' v l /\ ∀ q, svBlk v q -> w.heap.size <= q) /\ Below w.heap.size w w' := by
 have HP := lhi (Parse_calls s hs w)
 rw [h] at HP
 clear hs
 go_enter Tryz.func171, Tryz.ntmps171
 go_wp2_with (first
  | (go_at_call 22; refine HP.out.mono ?_; rintro e w1 ⟨⟨v, rfl, hv, hvq⟩, hb⟩; have HVQ := lhi hvq; clear hvq; have HV := lhi hv; have HB := lhi hb; clear hv hb)
  | (go_at_call 23; refine (code_calls 0 _).mono ?_; rintro e w' ⟨rfl, rfl⟩)
  | (go_at_call 168; refine (throw_no _ _).mono ?_; rintro e w' ⟨rfl, rfl⟩))
 go_ret
 exact ⟨⟨_, rfl, HV.out, HVQ.out⟩, HB.out⟩
end
section
open Go.RowKit
set_option maxHeartbeats 1000000
structure LB where
 g : Nat
 t : TypeId
 cs : Array Value
structure RB where
 t : TypeId
 k : Nat
 v : Value
 n : Nat
 xs : List Value
structure Wk (L : Nat -> Prop) (w : World) (s : Nat) (M : Mem) (Bs : List LB) (Rs : List RB) (W : World) : Prop where
 ex : ∃ K : Nat -> Prop, (∀ b, L b -> K b) /\ MemAt K W s M /\ (∀ x ∈ Bs, K x.g /\ w.heap.size <= x.g /\ Blk W x.g x.t x.cs) /\
  (∀ r ∈ Rs, W.ownsRow w.heap.size r.t r.k r.v r.n r.xs /\ ∀ q, r.v.ownBlock = some q -> K q)
 kp : Kp L w W
 bb : Bs.Pairwise (fun x y => x.g ≠ y.g)
 br : ∀ x ∈ Bs, ∀ r ∈ Rs, r.v.ownBlock ≠ some x.g
 rr : Rs.Pairwise (fun x y => ∀ q, x.v.ownBlock = some q -> y.v.ownBlock ≠ some q)
theorem KI.setNew {w W : World} (h : KI w W) {g : Nat} (hg : w.heap.size <= g) (i : Nat) (u : Value) : KI w (W.setCell ⟨g, i, none⟩ u) := fun b t cs ht hb => (h b t cs ht hb).far (p := ⟨g, i, none⟩) (show b ≠ g by have := hb.lt; omega) u
namespace Wk
variable {L : Nat -> Prop} {w W W' : World} {s : Nat} {M M' : Mem} {Bs : List LB} {Rs : List RB}
theorem start (h : MemAt L w s M) : Wk L w s M [] [] w := ⟨⟨L, fun _ h => h, h, fun _ h => by simp at h, fun _ h => by simp at h⟩, Kp.refl _ _, List.Pairwise.nil, fun _ h => by simp at h, List.Pairwise.nil⟩
theorem mem (h : Wk L w s M Bs Rs W) : MemAt L W s M := by obtain ⟨K, h1, h2, -⟩ := h.ex; exact h2.sub h1
theorem blk (h : Wk L w s M Bs Rs W) {x : LB} (hx : x ∈ Bs) : Blk W x.g x.t x.cs := by obtain ⟨K, -, -, h3, -⟩ := h.ex; exact (h3 x hx).2.2
theorem bk (h : Wk L w s M Bs Rs W) {g : Nat} {t : TypeId} {cs : Array Value} (hx : (⟨g, t, cs⟩ : LB) ∈ Bs) : Blk W g t cs := h.blk hx
theorem row (h : Wk L w s M Bs Rs W) {r : RB} (hr : r ∈ Rs) : W.ownsRow w.heap.size r.t r.k r.v r.n r.xs := by obtain ⟨K, -, -, -, h4⟩ := h.ex; exact (h4 r hr).1
theorem size (h : Wk L w s M Bs Rs W) : w.heap.size <= W.heap.size := h.kp.size
theorem below (h : Wk L w s M Bs Rs W) (hb : Below W.heap.size W W') (hl : Bd L w) : Wk L w s M Bs Rs W' := by
 obtain ⟨K, h1, h2, h3, h4⟩ := h.ex
 exact ⟨⟨K, h1, h2.below hb, fun x hx => ⟨(h3 x hx).1, (h3 x hx).2.1, Blk.of_heap (hb.block _ (h3 x hx).2.2.lt) (h3 x hx).2.2⟩, fun r hr => ⟨own_below (h4 r hr).1 hb, (h4 r hr).2⟩⟩, h.kp.trans (Kp.below (h.kp.bd hl) hb), h.bb, h.br, h.rr⟩
theorem drew (h : Wk L w s M Bs Rs W) : Wk L w s M Bs Rs W.drew := by
 obtain ⟨K, h1, h2, h3, h4⟩ := h.ex
 exact ⟨⟨K, h1, h2.drew, h3, h4⟩, h.kp.drew, h.bb, h.br, h.rr⟩
theorem drewN (h : Wk L w s M Bs Rs W) (n : Nat) : Wk L w s M Bs Rs (W.drewN n) := by
 obtain ⟨K, h1, h2, h3, h4⟩ := h.ex
 exact ⟨⟨K, h1, h2.drewN n, h3, h4⟩, h.kp.drewN n, h.bb, h.br, h.rr⟩
theorem row_lt (h : Wk L w s M Bs Rs W) {r : RB} (hr : r ∈ Rs) {q : Nat} (hq : r.v.ownBlock = some q) : q < W.heap.size := ((h.row hr).lt q hq).2
theorem alloc (h : Wk L w s M Bs Rs W) (hl : Bd L w) (cs : Array Value) (t : TypeId) : Wk L w s M (⟨W.heap.size, t, cs⟩ :: Bs) Rs (W.alloc (.cells cs t)) := by
 have hb : Below W.heap.size W (W.alloc (.cells cs t)) := (Below.refl _ _).alloc (Nat.le_refl _) _
 have h' := h.below hb hl
 obtain ⟨K, h1, h2, h3, h4⟩ := h.ex
 refine ⟨⟨ins K W.heap.size, fun b hb => ins.old (h1 b hb), h2.allocIns _, ?_, fun r hr => ⟨own_below (h4 r hr).1 hb, fun q hq => ins.old ((h4 r hr).2 q hq)⟩⟩, h'.kp, ?_, ?_, h.rr⟩
 ·intro x hx
  rcases List.mem_cons.1 hx with rfl | hx
  ·exact ⟨ins.new _ _, h.size, Blk.new _ _ _⟩
  ·exact ⟨ins.old (h3 x hx).1, (h3 x hx).2.1, (h3 x hx).2.2.alloc _⟩
 ·refine List.pairwise_cons.2 ⟨fun y hy => ?_, h.bb⟩
  have := (h3 y hy).2.2.lt
  show W.heap.size ≠ y.g
  omega
 ·intro x hx r hr
  rcases List.mem_cons.1 hx with rfl | hx
  ·intro e
   have := h.row_lt hr e
   exact absurd this (Nat.lt_irrefl _)
  ·exact h.br x hx r hr
theorem set0 {x : LB} (h : Wk L w s M (x :: Bs) Rs W) (hl : Bd L w) (i : Nat) (u : Value) : Wk L w s M (⟨x.g, x.t, x.cs.setIfInBounds i u⟩ :: Bs) Rs (W.setCell ⟨x.g, i, none⟩ u) := by
 obtain ⟨K, h1, h2, h3, h4⟩ := h.ex
 have hx := h3 x (List.mem_cons_self ..)
 have hn : ¬ L x.g := fun q => absurd (hl _ q) (by omega)
 obtain ⟨p1, p2⟩ := List.pairwise_cons.1 h.bb
 refine ⟨⟨K, h1, h2.set hx.2.2 hx.1 i u, ?_, fun r hr => ⟨ownsRow_setCell_other (h4 r hr).1 (a := ⟨x.g, i, none⟩) (h.br x (List.mem_cons_self ..) r hr) u, (h4 r hr).2⟩⟩, ⟨h.kp.k.setCell (p := ⟨x.g, i, none⟩) hn u, h.kp.i.setNew hx.2.1 i u⟩, List.pairwise_cons.2 ⟨p1, p2⟩, ?_, h.rr⟩
 ·intro y hy
  rcases List.mem_cons.1 hy with rfl | hy
  ·exact ⟨hx.1, hx.2.1, hx.2.2.set_ i u⟩
  ·have h5 := h3 y (List.mem_cons_of_mem _ hy)
   exact ⟨h5.1, h5.2.1, h5.2.2.far (p := ⟨x.g, i, none⟩) (Ne.symm (p1 y hy)) u⟩
 ·intro y hy r hr
  rcases List.mem_cons.1 hy with rfl | hy
  ·exact h.br x (List.mem_cons_self ..) r hr
  ·exact h.br y (List.mem_cons_of_mem _ hy) r hr
theorem permB {Bs' : List LB} (h : Wk L w s M Bs Rs W) (hp : Bs.Perm Bs') : Wk L w s M Bs' Rs W := by
 obtain ⟨K, h1, h2, h3, h4⟩ := h.ex
 exact ⟨⟨K, h1, h2, fun x hx => h3 x (hp.mem_iff.2 hx), h4⟩, h.kp, hp.pairwise h.bb (fun h => Ne.symm h), fun x hx r hr => h.br x (hp.mem_iff.2 hx) r hr, h.rr⟩
theorem swap {x y : LB} (h : Wk L w s M (x :: y :: Bs) Rs W) : Wk L w s M (y :: x :: Bs) Rs W := h.permB (List.Perm.swap ..)
theorem set1 {x y : LB} (h : Wk L w s M (y :: x :: Bs) Rs W) (hl : Bd L w) (i : Nat) (u : Value) : Wk L w s M (y :: ⟨x.g, x.t, x.cs.setIfInBounds i u⟩ :: Bs) Rs (W.setCell ⟨x.g, i, none⟩ u) := (h.swap.set0 hl i u).swap
theorem drop0 {x : LB} (h : Wk L w s M (x :: Bs) Rs W) : Wk L w s M Bs Rs W := by
 obtain ⟨K, h1, h2, h3, h4⟩ := h.ex
 exact ⟨⟨K, h1, h2, fun x hx => h3 x (List.mem_cons_of_mem _ hx), h4⟩, h.kp, (List.pairwise_cons.1 h.bb).2, fun x hx => h.br x (List.mem_cons_of_mem _ hx), h.rr⟩
theorem sub {Bs' : List LB} (h : Wk L w s M Bs Rs W) (hs : Bs'.Sublist Bs) : Wk L w s M Bs' Rs W := by
 obtain ⟨K, h1, h2, h3, h4⟩ := h.ex
 exact ⟨⟨K, h1, h2, fun x hx => h3 x (hs.subset hx), h4⟩, h.kp, h.bb.sublist hs, fun x hx => h.br x (hs.subset hx), h.rr⟩
theorem call (h : Wk L w s M Bs Rs W) {P : FuncId} {args : Array Value} {R : Ending -> World -> Prop}
  (hc : ∀ K, MemAt K W s M -> Calls Tryz.prog P args W fun e w' => R e w' /\ MemAt K w' s M' /\ Kp K W w') :
  Calls Tryz.prog P args W fun e w' => R e w' /\ Wk L w s M' Bs Rs w' := by
 obtain ⟨K, h1, h2, h3, h4⟩ := h.ex
 refine (hc K h2).mono ?_
 rintro e w' ⟨hr, hm, hk⟩
 refine ⟨hr, ⟨K, h1, hm, fun x hx => ⟨(h3 x hx).1, (h3 x hx).2.1, hk.blk (h3 x hx).2.2 (h3 x hx).1⟩, fun r hr => ⟨?_, (h4 r hr).2⟩⟩, h.kp.trans (hk.sub h1), h.bb, h.br, h.rr⟩
 obtain ⟨o1, o2⟩ := h4 r hr
 refine ⟨o1.1, ?_⟩
 rcases o1.2 with q | ⟨g, cap, cur, hv, hg, hh, rest⟩
 ·exact .inl q
 ·refine .inr ⟨g, cap, cur, hv, hg, ?_, rest⟩
  rw [hk.k.block g (o2 g (by rw [hv]; rfl))]
  exact hh
theorem callL (h : Wk L w s M Bs Rs W) {P : FuncId} {args : Array Value} {R : Ending -> World -> Prop}
  (hc : ∀ K, (∀ b, L b -> K b) -> (∀ x ∈ Bs, K x.g) -> MemAt K W s M -> Calls Tryz.prog P args W fun e w' => R e w' /\ MemAt K w' s M' /\ Kp K W w') :
  Calls Tryz.prog P args W fun e w' => R e w' /\ Wk L w s M' Bs Rs w' := by
 obtain ⟨K, h1, h2, h3, h4⟩ := h.ex
 refine (hc K h1 (fun x hx => (h3 x hx).1) h2).mono ?_
 rintro e w' ⟨hr, hm, hk⟩
 refine ⟨hr, ⟨K, h1, hm, fun x hx => ⟨(h3 x hx).1, (h3 x hx).2.1, hk.blk (h3 x hx).2.2 (h3 x hx).1⟩, fun r hr => ⟨?_, (h4 r hr).2⟩⟩, h.kp.trans (hk.sub h1), h.bb, h.br, h.rr⟩
 obtain ⟨o1, o2⟩ := h4 r hr
 refine ⟨o1.1, ?_⟩
 rcases o1.2 with q | ⟨g, cap, cur, hv, hg, hh, rest⟩
 ·exact .inl q
 ·refine .inr ⟨g, cap, cur, hv, hg, ?_, rest⟩
  rw [hk.k.block g (o2 g (by rw [hv]; rfl))]
  exact hh
theorem callNew {W0 : World} (h : Wk L w s M Bs Rs W0) (hl : Bd L w) (hb : Below W0.heap.size W0 W) {P : FuncId} {args : Array Value} {R : Ending -> World -> Prop}
  (hc : ∀ K, (∀ b, L b -> K b) -> Bd K W0 -> MemAt K W s M -> Calls Tryz.prog P args W fun e w' => R e w' /\ MemAt K w' s M' /\ Kp K W w') :
  Calls Tryz.prog P args W fun e w' => R e w' /\ Wk L w s M' Bs Rs w' := by
 obtain ⟨K, h1, h2, h3, h4⟩ := h.ex
 refine (hc K h1 h2.bd (h2.below hb)).mono ?_
 rintro e w' ⟨hr, hm, hk⟩
 have hk0 : ∀ b, K b -> w'.heap[b]? = W0.heap[b]? := fun b q => (hk.k.block b q).trans (hb.block b (h2.bd b q))
 refine ⟨hr, ⟨K, h1, hm, fun x hx => ⟨(h3 x hx).1, (h3 x hx).2.1, Blk.of_heap (hk0 _ (h3 x hx).1) (h3 x hx).2.2⟩, fun r hr => ⟨?_, (h4 r hr).2⟩⟩, (h.kp.trans (Kp.below (h.kp.bd hl) hb)).trans (hk.sub h1), h.bb, h.br, h.rr⟩
 obtain ⟨o1, o2⟩ := h4 r hr
 refine ⟨o1.1, ?_⟩
 rcases o1.2 with q | ⟨g, cap, cur, hv, hg, hh, rest⟩
 ·exact .inl q
 ·refine .inr ⟨g, cap, cur, hv, hg, ?_, rest⟩
  rw [hk0 g (o2 g (by rw [hv]; rfl))]
  exact hh
theorem adopt {W0 : World} (h : Wk L w s M Bs Rs W0) (hl : Bd L w) (hb : Below W0.heap.size W0 W) {g : Nat} {t : TypeId} {cs : Array Value} (hg : Blk W g t cs) (hn : W0.heap.size <= g) : Wk L w s M (⟨g, t, cs⟩ :: Bs) Rs W := by
 have h' := h.below hb hl
 obtain ⟨K, h1, h2, h3, h4⟩ := h.ex
 have hm : MemAt (ins K g) W s M := (h2.fresh hb).sub fun b q => by
  rcases q with q | q
  ·exact .inl q
  ·exact .inr ⟨by omega, by rw [q]; exact hg.lt⟩
 refine ⟨⟨ins K g, fun b hb => ins.old (h1 b hb), hm, ?_, fun r hr => ⟨own_below (h4 r hr).1 hb, fun q hq => ins.old ((h4 r hr).2 q hq)⟩⟩, h'.kp, ?_, ?_, h.rr⟩
 ·intro x hx
  rcases List.mem_cons.1 hx with rfl | hx
  ·exact ⟨ins.new _ _, Nat.le_trans h.size hn, hg⟩
  ·exact ⟨ins.old (h3 x hx).1, (h3 x hx).2.1, Blk.of_heap (hb.block _ (h3 x hx).2.2.lt) (h3 x hx).2.2⟩
 ·refine List.pairwise_cons.2 ⟨fun y hy => ?_, h.bb⟩
  have := (h3 y hy).2.2.lt
  show g ≠ y.g
  omega
 ·intro x hx r hr
  rcases List.mem_cons.1 hx with rfl | hx
  ·intro e
   have := h.row_lt hr e
   exact absurd this (by show ¬ g < W0.heap.size; omega)
  ·exact h.br x hx r hr
theorem nilRow (h : Wk L w s M Bs Rs W) (t : TypeId) (k : Nat) : Wk L w s M Bs (⟨t, k, .slice none 0 0, 0, []⟩ :: Rs) W := by
 obtain ⟨K, h1, h2, h3, h4⟩ := h.ex
 refine ⟨⟨K, h1, h2, h3, fun r hr => ?_⟩, h.kp, h.bb, fun x hx r hr => ?_, List.pairwise_cons.2 ⟨fun y _ q hq => (by cases hq), h.rr⟩⟩
 ·rcases List.mem_cons.1 hr with rfl | hr
  ·exact ⟨World.ownsRow_nil _ _ _ _, fun q hq => by cases hq⟩
  ·exact h4 r hr
 ·rcases List.mem_cons.1 hr with rfl | hr
  ·intro e; cases e
  ·exact h.br x hx r hr
theorem app {r : RB} (h : Wk L w s M Bs (r :: Rs) W) (hl : Bd L w) {v' : Value} {n' : Nat} {xs' : List Value} (ho : W'.ownsRow w.heap.size r.t r.k v' n' xs') (hg : W.grownBy W' r.v.ownBlock)
  (hat : ∀ q, v'.ownBlock = some q -> r.v.ownBlock = some q ∨ q = W.heap.size) : Wk L w s M Bs (⟨r.t, r.k, v', n', xs'⟩ :: Rs) W' := by
 obtain ⟨K, h1, h2, h3, h4⟩ := h.ex
 have hr := h4 r (List.mem_cons_self ..)
 have hn : ∀ q, r.v.ownBlock = some q -> ¬ L q := fun q hq hq2 => absurd (hl _ hq2) (by have := (hr.1.lt q hq).1; omega)
 have kk : KI w W' := fun b t cs hs hb => by
  have hb2 := h.kp.i b t cs hs hb
  exact Blk.of_heap (hg.block b hb2.lt (fun e => absurd (hr.1.lt b e.symm).1 (by have := hb.lt; omega))) hb2
 obtain ⟨q1, q2⟩ := List.pairwise_cons.1 h.rr
 have hK : Bd (fun b => K b ∨ v'.ownBlock = some b) W' := fun b hb => by
  rcases hb with hb | hb
  ·exact Nat.lt_of_lt_of_le (h2.bd b hb) hg.size
  ·exact (ho.lt b hb).2
 refine ⟨⟨fun b => K b ∨ v'.ownBlock = some b, fun b hb => .inl (h1 b hb), h2.move hK hg.size (fun b hb hlt => ?_) (fun b hlt hb => ?_), fun x hx => ⟨.inl (h3 x hx).1, (h3 x hx).2.1, Blk.of_heap (hg.block _ (h3 x hx).2.2.lt (fun e => h.br x hx r (List.mem_cons_self ..) e.symm)) (h3 x hx).2.2⟩, fun y hy => ?_⟩, ⟨h.kp.k.trans ⟨hg.os, hg.tape, hg.output, hg.size, fun b hb => hg.block b (h.kp.bd hl b hb) (fun e => hn b e.symm hb)⟩, kk⟩, h.bb, fun x hx y hy => ?_, ?_⟩
 ·rcases hb with hb | hb
  ·exact hb
  ·rcases hat b hb with e | e
   ·exact hr.2 b e
   ·omega
 ·refine hg.block b hlt (fun e => hb (hr.2 b e.symm))
 ·rcases List.mem_cons.1 hy with rfl | hy
  ·exact ⟨ho, fun q hq => .inr hq⟩
  ·obtain ⟨o1, o2⟩ := h4 y (List.mem_cons_of_mem _ hy)
   refine ⟨⟨o1.1, ?_⟩, fun q hq => .inl (o2 q hq)⟩
   rcases o1.2 with q | ⟨g, cap, cur, hv, hg2, hh, rest⟩
   ·exact .inl q
   ·refine .inr ⟨g, cap, cur, hv, hg2, ?_, rest⟩
    rw [hg.block g (lt_of_block hh) (fun e => q1 y hy g e.symm (by rw [hv]; rfl))]
    exact hh
 ·rcases List.mem_cons.1 hy with rfl | hy
  ·intro e
   rcases hat _ e with e2 | e2
   ·exact h.br x hx r (List.mem_cons_self ..) e2
   ·have := (h3 x hx).2.2.lt; omega
  ·exact h.br x hx y (List.mem_cons_of_mem _ hy)
 ·refine List.pairwise_cons.2 ⟨fun y hy q hq => ?_, q2⟩
  rcases hat q hq with e | e
  ·exact q1 y hy q e
  ·intro e2
   have := h.row_lt (List.mem_cons_of_mem _ hy) e2
   omega
end Wk
end
end Go.Proofs.YtkebjgebkneijaaGreatDoor
