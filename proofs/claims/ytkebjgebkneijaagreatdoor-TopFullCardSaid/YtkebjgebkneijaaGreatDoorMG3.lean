/- Texts of one's own that a claim's last text rests on: CkNum CkBodS CkOpen Do1 Do3. -/
import Derived.Test.YtkebjgebkneijaaGreatDoorMG2
import Derived.Deep.RegionHeldLaw
import Derived.IntWalk
import Derived.Deep.Upon
set_option linter.unusedVariables false
set_option linter.unusedSimpArgs false
namespace Go.Proofs.YtkebjgebkneijaaGreatDoor
section
open Go.RowKit
set_option maxHeartbeats 1000000
def nm0 : ByteArray := ⟨#[]⟩
def one (k x : Int) (s : ByteArray) (b : Bool) : List Fnd := if b then [⟨k, x, s⟩] else []
theorem one_len (k x : Int) (s : ByteArray) (b : Bool) : (one k x s b).length <= 1 := by unfold one; split <;> simp
theorem flat_len {A : Type} {f : Nat -> List A} {c : Nat} (h : ∀ i, (f i).length <= c) : ∀ k, ((List.range k).flatMap f).length <= k * c := by
 intro k
 induction k with
 | zero => simp
 | succ k ih =>
  rw [List.range_succ, List.flatMap_append, List.length_append, Nat.succ_mul]
  have := h k
  simp only [List.flatMap_cons, List.flatMap_nil, List.append_nil]
  omega
theorem flat_succ {A : Type} (f : Nat -> List A) (k : Nat) : (List.range (k + 1)).flatMap f = (List.range k).flatMap f ++ f k := by
 rw [List.range_succ, List.flatMap_append]; simp
theorem bool_tf (b : Bool) : b = true ∨ b = false := by cases b <;> simp
def rootB (S : St) : Bool := decide (S.inodes.length = 0) || S.num 0 != 1 || !S.dir 0
def b1 (S : St) (i : Nat) : Bool := decide (S.num i < 1) || (decide (0 < i) && decide (S.num i <= S.num (i - 1)))
def b8 (S : St) (i : Nat) : Bool := S.num i != 1 && (decide (coreF (S.num i) < 0) || decide ((S.made.length : Int) <= coreF (S.num i)) || decide (S.mad (coreF (S.num i)).toNat <= madeF (S.num i)))
def numAt (S : St) (i : Nat) : List Fnd := one 1 (S.num i) nm0 (b1 S i) ++ one 8 (S.num i) nm0 (b8 S i)
def manyB (S : St) : Bool := decide (S.made.length < 1) || decide (8 < S.made.length)
def madB (S : St) (i : Nat) : Bool := decide (S.mad i < 0) || decide (32 < S.mad i)
def numbersF (S : St) : List Fnd := one 1 1 nm0 (rootB S) ++ (List.range S.inodes.length).flatMap (numAt S) ++ one 8 (-1) nm0 (manyB S) ++ (List.range S.made.length).flatMap (fun (i : Nat) => one 8 (i : Int) nm0 (madB S i))
theorem numAt_len (S : St) (i : Nat) : (numAt S i).length <= 2 := by
 unfold numAt
 have := one_len 1 (S.num i) nm0 (b1 S i)
 have := one_len 8 (S.num i) nm0 (b8 S i)
 rw [List.length_append]; omega
def At (w0 w wx : World) (c sb : Nat) (iv ov mv : Value) (D : List Fnd) : Prop := Ck w0 wx c sb iv ov mv D /\ KeepsT w wx
theorem At.start {w0 w : World} {c sb : Nat} {iv ov mv : Value} {D : List Fnd} (h : Ck w0 w c sb iv ov mv D) : At w0 w w c sb iv ov mv D := ⟨h, KeepsT.refl _⟩
theorem At.alloc {w0 w wx : World} {c sb : Nat} {iv ov mv : Value} {D : List Fnd} (h : At w0 w wx c sb iv ov mv D) (o : Obj) : At w0 w (wx.alloc o) c sb iv ov mv D := ⟨h.1.alloc o, h.2.alloc o⟩
theorem At.drewN {w0 w wx : World} {c sb : Nat} {iv ov mv : Value} {D : List Fnd} (h : At w0 w wx c sb iv ov mv D) (n : Nat) : At w0 w (wx.drewN n) c sb iv ov mv D := ⟨h.1.drewN n, h.2.drewN n⟩
theorem At.below {w0 w wx wy : World} {c sb : Nat} {iv ov mv : Value} {D : List Fnd} (h : At w0 w wx c sb iv ov mv D) (hb : Below wx.heap.size wx wy) : At w0 w wy c sb iv ov mv D := ⟨h.1.below hb, h.2.below hb⟩
theorem At.to {w0 w wx wy : World} {c sb : Nat} {iv ov mv : Value} {D D' : List Fnd} (h : At w0 w wx c sb iv ov mv D) (h1 : Ck w0 wy c sb iv ov mv D') (h2 : KeepsT wx wy) : At w0 w wy c sb iv ov mv D' := ⟨h1, h.2.trans h2⟩
theorem one_true (D : List Fnd) (k x : Int) (s : ByteArray) {b : Bool} (h : b = true) : D ++ [⟨k, x, s⟩] = D ++ one k x s b := by subst h; rfl
theorem one_false (D : List Fnd) (k x : Int) (s : ByteArray) {b : Bool} (h : b = false) : D = D ++ one k x s b := by subst h; simp [one]
set_option maxRecDepth 1000000 in
theorem numbers_calls {w0 w : World} {c sb : Nat} {iv ov mv : Value} {ev : Nat -> Value} {S : St} {D : List Fnd} (h : Ck w0 w c sb iv ov mv D) (hS : StM w0 iv ov mv ev S) (hs : S.small) (hD : D.length <= 10000000) :
  Calls Tryz.prog 30 #[.pointer (some ⟨c, 0, none⟩)] w fun e w' => e = .returned (.tuple #[]) /\ At w0 w w' c sb iv ov mv (D ++ numbersF S) := by
 obtain ⟨A, cap, rfl⟩ := hS.ino.form
 obtain ⟨MA, mcap, rfl⟩ := hS.mad.form
 have hn := hs.ni
 have hm := hs.nm
 have HC := lhi h
 have HS := lhi hS
 have HSm := lhi hs
 clear h hS hs
 have HNF := lhi (show numbersF S = one 1 1 nm0 (rootB S) ++ (List.range S.inodes.length).flatMap (numAt S) ++ one 8 (-1) nm0 (manyB S) ++ (List.range S.made.length).flatMap (fun (i : Nat) => one 8 (i : Int) nm0 (madB S i)) from rfl)
 obtain ⟨rb, hrb⟩ : ∃ b, b = rootB S := ⟨_, rfl⟩
 rw [<- hrb] at HNF
 have HRB := lhi (show rb = (decide (S.inodes.length = 0) || S.num 0 != 1 || !S.dir 0) from hrb)
 clear hrb
 obtain ⟨n, hnn⟩ : ∃ n, S.inodes.length = n := ⟨_, rfl⟩
 obtain ⟨m, hmm⟩ : ∃ n, S.made.length = n := ⟨_, rfl⟩
 rw [hnn] at hn HNF HC HS HRB
 rw [hmm] at hm HNF HC HS
 have c0 := HC.out.c0
 have s0 := HC.out.s0
 have HI := lhi (show RowAt w0 (.slice A n cap) n 4 (inoC S ev) from hnn ▸ HS.out.ino)
 have HNN := lhi hnn
 have HMM := lhi hmm
 clear hnn hmm
 go_enter Tryz.func30, Tryz.ntmps30
 go_upto_region 1 with (fail)
 go_cut [31] (fun s wx => s = .bool rb /\ w = wx)
 case first =>
  by_cases h0 : n = 0
  ·subst h0
   go_wp2_with (fail)
   go_meet
   case rel => exact ⟨by rw [HRB.out]; rfl, rfl⟩
  ·obtain ⟨-, hcap, g, off, rfl, hcell⟩ := (HI.out.keep HC.out.bel).at_ (i := 0) (by omega)
   have q0 : w.cell? ⟨g, off, none⟩ = some (.int .i64 (S.num 0)) := by have := hcell 0 (by omega); rw [Nat.zero_mul] at this; exact this
   have q1 : w.cell? ⟨g, off + 1, none⟩ = some (.bool (S.dir 0)) := by have := hcell 1 (by omega); rw [Nat.zero_mul] at this; exact this
   clear hcell
   have h1 : ((n : Int) == 0) = false := by simpa using h0
   have h2 : 0 < n := by omega
   by_cases e : S.num 0 = 1
   ·have e1 : (S.num 0 != 1) = false := by simp [e]
    have HE := lhi e
    clear e
    go_wp2_with (fail)
    go_meet
    case rel => exact ⟨by rw [HRB.out, e1]; simp [h0], rfl⟩
   ·have e1 : (S.num 0 != 1) = true := by simp [e]
    go_wp2_with (fail)
    go_meet
    case rel => exact ⟨by rw [HRB.out, e1]; simp [h0], rfl⟩
 case rest =>
  obtain ⟨rfl, rfl⟩ := hcut
  go_upto_if 31 with (fail)
  go_cut [] (fun wx => At w0 w wx c sb (.slice A n cap) ov (.slice MA m mcap) (D ++ one 1 1 nm0 rb))
  case first =>
   rcases bool_tf rb with rfl | rfl
   ·have HA := lhi (add_calls HC.out (by omega) 1 1 nm0)
    have HD := lhi (one_true D 1 1 nm0 rfl)
    go_wp2_with (fail)
    refine HA.out.mono ?_
    rintro e w1 ⟨rfl, h1, h2⟩
    go_wp2_with (fail)
    go_meet
    case rel => exact ⟨HD.out ▸ h1, h2⟩
   ·have HD := lhi (one_false D 1 1 nm0 rfl)
    go_wp2_with (fail)
    go_meet
    case rel => exact HD.out ▸ At.start HC.out
  case rest =>
   have HA1 := lhi hcut
   have HL1 := lhi (show (D ++ one 1 1 nm0 rb).length <= 10000001 by rw [List.length_append]; have := one_len 1 1 nm0 rb; omega)
   clear hcut HC c0 s0
   obtain ⟨D1, hD1⟩ : ∃ D1, D1 = D ++ one 1 1 nm0 rb := ⟨_, rfl⟩
   rw [<- hD1] at HA1 HL1
   have HD1 := lhi hD1.symm
   clear hD1
   go_wp2_with (fail)
   go_loopw [36] (fun i wr => ∃ k : Nat, i = .int .i64 k /\ k <= n /\ At w0 w wr c sb (.slice A n cap) ov (.slice MA m mcap) (D1 ++ (List.range k).flatMap (numAt S))) (fun i _ => n - (intOf i).toNat)
   case atStart => exact ⟨0, rfl, by omega, by simpa using HA1.out⟩
   case round =>
    obtain ⟨k, rfl, hk, hat⟩ := hrel
    have HAT := lhi hat
    have HLK := lhi (show (D1 ++ (List.range k).flatMap (numAt S)).length <= 10003001 by rw [List.length_append]; have := flat_len (numAt_len S) k; have := HL1.out; omega)
    have HFS := lhi (flat_succ (numAt S) k)
    clear hat HA1
    by_cases hp : k < n
    ·obtain ⟨-, hcap, g, off, rfl, hcell⟩ := (HI.out.keep HAT.out.1.bel).at_ hp
     have q0 : wr.cell? ⟨g, off + k * 4, none⟩ = some (.int .i64 (S.num k)) := hcell 0 (by omega)
     have q1 : wr.cell? ⟨g, off + k * 4 + 1, none⟩ = some (.bool (S.dir k)) := hcell 1 (by omega)
     have q2 : wr.cell? ⟨g, off + k * 4 + 2, none⟩ = some (ev k) := hcell 2 (by omega)
     have q3 : wr.cell? ⟨g, off + k * 4 + 3, none⟩ = some (.string (S.dat k)) := hcell 3 (by omega)
     have hp1 : (k : Int) < n := by omega
     obtain ⟨EA, ecap, hev⟩ := (HS.out.ent k (by rw [HNN.out]; exact hp)).form
     generalize hne : S.ne k = ne at hev
     rw [hev] at q2
     clear hcell hev hne
     have HX := lhi (Blk.new wr 72 #[.int .i64 (S.num k), .bool (S.dir k), .slice EA ne ecap, .string (S.dat k)])
     generalize ho : Obj.cells #[Value.int IntKind.i64 (S.num k), Value.bool (S.dir k), Value.slice EA ne ecap, Value.string (S.dat k)] 72 = OX at HX
     have HO := lhi ho
     have HAX := lhi (HAT.out.alloc OX)
     obtain ⟨bb, hbb⟩ : ∃ b, b = b1 S k := ⟨_, rfl⟩
     have HBB := lhi hbb
     clear hbb
     go_upto_region 6 with (fail)
     go_cut [58] (fun s wx => s = .bool bb /\ ∃ d, wx = (wr.alloc OX).drewN d)
     case first =>
      have hx0 : (wr.alloc OX).cell? ⟨wr.heap.size, 0, none⟩ = some (.int .i64 (S.num k)) := HX.out.cell 0
      clear q1 q2 q3
      clear ho
      by_cases h1 : S.num k < 1
      ·clear q0
       generalize wr.alloc OX = wy at *
       go_quiet (fail)
       go_wp2_with (fail)
       go_meet
       case rel => exact ⟨by rw [HBB.out]; simp [b1, h1], _, rfl⟩
      ·rcases k with _ | k
       ·clear q0
        generalize wr.alloc OX = wy at *
        go_quiet (fail)
        go_wp2_with (fail)
        go_meet
        case rel => exact ⟨by rw [HBB.out]; simp [b1, h1], _, rfl⟩
       ·obtain ⟨-, -, g', off', e, hcell⟩ := (HI.out.keep (HAX.out.1.bel)).at_ (i := k) (by omega)
        injection e with e
        injection e with e1 e2
        subst e1 e2
        have p0 : (wr.alloc OX).cell? ⟨g, off + k * 4, none⟩ = some (.int .i64 (S.num k)) := hcell 0 (by omega)
        clear q0 hcell
        have h2 : (0 : Int) < ((k + 1 : Nat) : Int) := by omega
        generalize wr.alloc OX = wy at *
        go_quiet (fail)
        go_wp2_with (fail)
        go_meet
        case rel => exact ⟨by rw [HBB.out]; simp [b1]; omega, _, rfl⟩
     case rest =>
      obtain ⟨rfl, d, rfl⟩ := hcut
      have HAY := lhi (HAX.out.drewN d)
      have HXY := lhi (show Blk ((wr.alloc OX).drewN d) wr.heap.size 72 #[.int .i64 (S.num k), .bool (S.dir k), .slice EA ne ecap, .string (S.dat k)] from HX.out)
      clear q0 q1 q2 q3 HX HO ho HAX HAT
      generalize (wr.alloc OX).drewN d = wy at *
      generalize wr.heap.size = xg at *
      have hnb := HSm.out.num k
      have HNA := lhi (show numAt S k = one 1 (S.num k) nm0 bb ++ one 8 (S.num k) nm0 (b8 S k) by unfold numAt; rw [HBB.out])
      obtain ⟨cc, hcc⟩ : ∃ b, b = b8 S k := ⟨_, rfl⟩
      rw [<- hcc] at HNA
      have HCC := lhi (show cc = (S.num k != 1 && (decide (coreF (S.num k) < 0) || decide ((m : Int) <= coreF (S.num k)) || decide (S.mad (coreF (S.num k)).toNat <= madeF (S.num k)))) by rw [hcc, b8, HMM.out])
      clear hcc HBB
      generalize S.num k = x at *
      obtain ⟨D2, hD2⟩ : ∃ D2, D2 = D1 ++ (List.range k).flatMap (numAt S) := ⟨_, rfl⟩
      rw [<- hD2] at HAY HLK
      have HD2 := lhi hD2
      clear hD2
      go_upto_if 58 with (fail)
      go_cut [] (fun wx => At w0 w wx c sb (.slice (some ⟨g, off, none⟩) n cap) ov (.slice MA m mcap) (D2 ++ one 1 x nm0 bb) /\ Blk wx xg 72 #[.int .i64 x, .bool (S.dir k), .slice EA ne ecap, .string (S.dat k)])
      case first =>
       rcases bool_tf bb with rfl | rfl
       ·have x0 : wy.cell? ⟨xg, 0, none⟩ = some (.int .i64 x) := HXY.out.cell 0
        have HA := lhi (add_calls HAY.out.1 (by have := HLK.out; omega) 1 x nm0)
        go_wp2_with (fail)
        refine HA.out.mono ?_
        rintro e w1 ⟨rfl, h1, h2⟩
        go_wp2_with (fail)
        go_meet
        case rel => exact ⟨⟨h1, HAY.out.2.trans h2⟩, h2.blk HXY.out (by decide) (by decide)⟩
       ·have HD := lhi (one_false D2 1 x nm0 rfl)
        go_wp2_with (fail)
        go_meet
        case rel => exact ⟨HD.out ▸ HAY.out, HXY.out⟩
      case rest =>
       have HAZ := lhi hcut.1
       have HXZ := lhi hcut.2
       have HLZ := lhi (show (D2 ++ one 1 x nm0 bb).length <= 10003002 by rw [List.length_append]; have := one_len 1 x nm0 bb; have := HLK.out; omega)
       clear hcut HAY HXY
       have x0 : wc.cell? ⟨xg, 0, none⟩ = some (.int .i64 x) := HXZ.out.cell 0
       have HCO := lhi (core_calls x hnb wc)
       generalize hD3 : D2 ++ one 1 x nm0 bb = D3 at *
       have HD3 := lhi hD3
       clear hD3
       generalize hq : coreF x = q at *
       have HQ := lhi hq
       clear hq
       go_upto_region 9 with (go_at_call 71; refine HCO.out.mono ?_; rintro e w' ⟨rfl, hw⟩; obtain rfl := hw.symm)
       go_cut [100] (fun s wx => s = .bool cc /\ ∃ d, wx = wc.drewN d)
       case first =>
        have c0 := HAZ.out.1.c0
        have s2 := HAZ.out.1.s2
        by_cases h1 : x = 1
        ·have h1' : (x != 1) = false := by simp [h1]
         have HH := lhi h1
         clear h1
         go_quiet (fail)
         go_wp2_with (fail)
         go_meet
         case rel => exact ⟨by rw [HCC.out, h1']; simp, _, rfl⟩
        ·have h1' : (x != 1) = true := by simp [h1]
         by_cases h2 : q < 0
         ·go_quiet (fail)
          go_wp2_with (fail)
          go_meet
          case rel => exact ⟨by rw [HCC.out, h1']; simp [h2], _, rfl⟩
         ·by_cases h3 : (m : Int) <= q
          ·go_quiet (fail)
           go_wp2_with (fail)
           go_meet
           case rel => exact ⟨by rw [HCC.out, h1']; simp [h3], _, rfl⟩
          ·obtain ⟨-, -, mg, moff, rfl, hcell⟩ := (HS.out.mad.keep HAZ.out.1.bel).at_ (i := q.toNat) (by rw [HMM.out]; omega)
           have m0 : wc.cell? ⟨mg, moff + q.toNat, none⟩ = some (.int .i64 (S.mad q.toNat)) := by have := hcell 0 (by omega); rw [Nat.mul_one] at this; exact this
           have hq0 : 0 <= q := by omega
           have hq1 : q < (m : Int) := by omega
           have hx2 : 2 <= x := by
            have := HQ.out
            unfold coreF at this
            by_cases h : x < 2
            ·rw [if_pos h] at this; omega
            ·omega
           have HM := lhi (fun W => made_calls x ⟨hx2, hnb.2⟩ W)
           generalize S.mad q.toNat = z at *
           generalize madeF x = y at *
           clear hcell
           have h3' : decide ((m : Int) <= q) = false := decide_eq_false h3
           go_quiet ((go_at_call 72; exact Calls.quiet_of_same (HM.out _)))
           go_wp2_with (fail)
           go_meet
           case rel => exact ⟨by rw [HCC.out, h1']; simp; omega, _, rfl⟩
       case rest =>
        obtain ⟨rfl, d, rfl⟩ := hcut
        have HAQ := lhi (HAZ.out.drewN d)
        have HXQ := lhi (show Blk (wc.drewN d) xg 72 #[.int .i64 x, .bool (S.dir k), .slice EA ne ecap, .string (S.dat k)] from HXZ.out)
        clear HAZ HXZ x0 HCO HCC
        generalize wc.drewN d = wq at *
        have HE := lhi (show D1 ++ List.flatMap (numAt S) (List.range (k + 1)) = D3 ++ one 8 x nm0 cc by rw [HFS.out, HNA.out, <- HD3.out, HD2.out]; simp only [List.append_assoc])
        go_upto_if 100 with (fail)
        rcases bool_tf cc with rfl | rfl
        ·have x0 : wq.cell? ⟨xg, 0, none⟩ = some (.int .i64 x) := HXQ.out.cell 0
         have HA := lhi (add_calls HAQ.out.1 (by have := HLZ.out; omega) 8 x nm0)
         go_wp2_with (fail)
         refine HA.out.mono ?_
         rintro e w1 ⟨rfl, h1, h2⟩
         have HR := lhi (HAQ.out.to h1 h2)
         clear h1 h2
         go_wp2_with (fail)
         go_roundw
         case rel => exact ⟨k + 1, by go_num, by omega, by rw [HE.out]; exact HR.out⟩
         case measure =>
          simp only [intOf]
          omega
        ·have HD := lhi (one_false D3 8 x nm0 rfl)
         go_wp2_with (fail)
         go_roundw
         case rel => exact ⟨k + 1, by go_num, by omega, by rw [HE.out, <- HD.out]; exact HAQ.out⟩
         case measure =>
          simp only [intOf]
          omega
    ·have e : k = n := by omega
     subst e
     have HL3 := HLK
     obtain ⟨D2, hD2⟩ : ∃ D2, D2 = D1 ++ (List.range k).flatMap (numAt S) := ⟨_, rfl⟩
     rw [<- hD2] at HAT HL3
     have HD2 := lhi hD2.symm
     clear hD2 HLK HFS
     obtain ⟨cc, hcc⟩ : ∃ b, b = manyB S := ⟨_, rfl⟩
     rw [<- hcc] at HNF
     have HCC := lhi (show cc = (decide (m < 1) || decide (8 < m)) by rw [hcc, manyB, HMM.out])
     clear hcc
     have c0 := HAT.out.1.c0
     have s2 := HAT.out.1.s2
     go_upto_region 12 with (fail)
     go_cut [125] (fun s wx => s = .bool cc /\ wr = wx)
     case first =>
      by_cases h1 : (m : Int) < 1
      ·go_wp2_with (fail)
       go_meet
       case rel => exact ⟨by rw [HCC.out, decide_eq_true (show m < 1 by omega)]; rfl, rfl⟩
      ·go_wp2_with (fail)
       go_meet
       case rel => exact ⟨by rw [HCC.out, decide_eq_false (show ¬ m < 1 by omega)]; simp; omega, rfl⟩
     case rest =>
      obtain ⟨rfl, rfl⟩ := hcut
      go_upto_if 125 with (fail)
      go_cut [] (fun wx => At w0 w wx c sb (.slice A k cap) ov (.slice MA m mcap) (D2 ++ one 8 (-1) nm0 cc))
      case first =>
       rcases bool_tf cc with rfl | rfl
       ·have HA := lhi (add_calls HAT.out.1 (by have := HL3.out; omega) 8 (-1) nm0)
        go_wp2_with (fail)
        refine HA.out.mono ?_
        rintro e w1 ⟨rfl, h1, h2⟩
        go_wp2_with (fail)
        go_meet
        case rel => exact HAT.out.to h1 h2
       ·have HD := lhi (one_false D2 8 (-1) nm0 rfl)
        go_wp2_with (fail)
        go_meet
        case rel => exact HD.out ▸ HAT.out
      case rest =>
       have HAU := lhi hcut
       have HLU := lhi (show (D2 ++ one 8 (-1) nm0 cc).length <= 10003002 by rw [List.length_append]; have := one_len 8 (-1) nm0 cc; have := HL3.out; omega)
       obtain ⟨D3, hD3⟩ : ∃ D3, D3 = D2 ++ one 8 (-1) nm0 cc := ⟨_, rfl⟩
       rw [<- hD3] at HAU HLU
       have HD3 := lhi hD3.symm
       clear hD3 hcut c0 s2 HAT
       have c0 := HAU.out.1.c0
       have s2 := HAU.out.1.s2
       go_wp2_with (fail)
       clear c0 s2
       go_loopw [136] (fun i wr => ∃ j : Nat, i = .int .i64 j /\ j <= m /\ At w0 w wr c sb (.slice A k cap) ov (.slice MA m mcap) (D3 ++ (List.range j).flatMap (fun (i : Nat) => one 8 (i : Int) nm0 (madB S i)))) (fun i _ => m - (intOf i).toNat)
       case atStart => exact ⟨0, rfl, by omega, by simpa using HAU.out⟩
       case round =>
        obtain ⟨j, rfl, hj, hat⟩ := hrel
        have HAT := lhi hat
        have HLK := lhi (show (D3 ++ (List.range j).flatMap (fun (i : Nat) => one 8 (i : Int) nm0 (madB S i))).length <= 10004002 by rw [List.length_append]; have := flat_len (c := 1) (f := fun (i : Nat) => one 8 (i : Int) nm0 (madB S i)) (fun _ => one_len _ _ _ _) j; have := HLU.out; omega)
        have HFS := lhi (flat_succ (fun (i : Nat) => one 8 (i : Int) nm0 (madB S i)) j)
        clear hat HAU
        by_cases hp : j < m
        ·obtain ⟨-, hcap, g, off, rfl, hcell⟩ := (HS.out.mad.keep HAT.out.1.bel).at_ (i := j) (by rw [HMM.out]; exact hp)
         have q0 : wr.cell? ⟨g, off + j, none⟩ = some (.int .i64 (S.mad j)) := by have := hcell 0 (by omega); rw [Nat.mul_one] at this; exact this
         have hp1 : (j : Int) < m := by omega
         clear hcell
         obtain ⟨bb, hbb⟩ : ∃ b, b = madB S j := ⟨_, rfl⟩
         have HBB := lhi (show bb = (decide (S.mad j < 0) || decide (32 < S.mad j)) from hbb)
         have HFT := lhi (show D3 ++ List.flatMap (fun (i : Nat) => one 8 (i : Int) nm0 (madB S i)) (List.range (j + 1)) = (D3 ++ List.flatMap (fun (i : Nat) => one 8 (i : Int) nm0 (madB S i)) (List.range j)) ++ one 8 (j : Int) nm0 bb by rw [HFS.out, List.append_assoc, hbb])
         clear hbb HFS
         generalize S.mad j = z at *
         go_upto_region 17 with (fail)
         go_cut [146] (fun s wx => s = .bool bb /\ wr = wx)
         case first =>
          by_cases h1 : z < 0
          ·go_wp2_with (fail)
           go_meet
           case rel => exact ⟨by rw [HBB.out]; simp [h1], rfl⟩
          ·go_wp2_with (fail)
           go_meet
           case rel => exact ⟨by rw [HBB.out]; simp; omega, rfl⟩
         case rest =>
          obtain ⟨rfl, rfl⟩ := hcut
          rcases bool_tf bb with rfl | rfl
          ·have HA := lhi (add_calls HAT.out.1 (by have := HLK.out; omega) 8 (j : Int) nm0)
           go_wp2_with (fail)
           refine HA.out.mono ?_
           rintro e w1 ⟨rfl, h1, h2⟩
           have HR := lhi (HAT.out.to h1 h2)
           clear h1 h2
           go_wp2_with (fail)
           go_roundw
           case rel => exact ⟨j + 1, by go_num, by omega, by rw [HFT.out]; exact HR.out⟩
           case measure =>
            simp only [intOf]
            omega
          ·have HD := lhi (one_false (D3 ++ List.flatMap (fun (i : Nat) => one 8 (i : Int) nm0 (madB S i)) (List.range j)) 8 (j : Int) nm0 rfl)
           go_wp2_with (fail)
           go_roundw
           case rel => exact ⟨j + 1, by go_num, by omega, by rw [HFT.out, <- HD.out]; exact HAT.out⟩
           case measure =>
            simp only [intOf]
            omega
        ·have e : j = m := by omega
         subst e
         go_wp2_with (fail)
         go_end0
         refine ⟨rfl, ?_⟩
         have := HAT.out
         rw [HNN.out, HMM.out, HNF.out]
         rw [<- HD3.out, <- HD2.out, <- HD1.out] at this
         simpa only [List.append_assoc] using this
end
section
open Go.RowKit
set_option maxHeartbeats 1000000
def nle (s t : ByteArray) : Bool := Op.bytesLess s.toList t.toList || s.toList == t.toList
def b6 (S : St) (i : Nat) : Bool := (S.dir i && !(S.dat i).toList.isEmpty) || (!S.dir i && decide (0 < S.ne i)) || decide (256 < (S.dat i).size)
def b2 (S : St) (i k : Nat) : Bool := S.enu i k == 1 || (firstIx S (S.enu i k)).isNone
def b5 (S : St) (i k : Nat) : Bool := !(ncheck (S.enm i k) == 0) || (decide (0 < k) && nle (S.enm i k) (S.enm i (k - 1)))
def cnt (S : St) (i k : Nat) (q : Nat) : Nat := ((List.range k).filter fun j => nbucket (S.enm i j) == q).length
def b7 (S : St) (i k : Nat) : Bool := cnt S i k (nbucket (S.enm i k)) == 4
def entAt (S : St) (i k : Nat) : List Fnd := one 2 (S.num i) (S.enm i k) (b2 S i k) ++ one 5 (S.num i) (S.enm i k) (b5 S i k) ++ one 7 (S.num i) nm0 (b7 S i k)
def bodyAt (S : St) (i : Nat) : List Fnd := one 6 (S.num i) nm0 (b6 S i) ++ if S.dir i then (List.range (S.ne i)).flatMap (entAt S i) else []
def bodiesF (S : St) : List Fnd := (List.range S.inodes.length).flatMap (bodyAt S)
theorem entAt_len (S : St) (i k : Nat) : (entAt S i k).length <= 3 := by
 unfold entAt
 have := one_len 2 (S.num i) (S.enm i k) (b2 S i k)
 have := one_len 5 (S.num i) (S.enm i k) (b5 S i k)
 have := one_len 7 (S.num i) nm0 (b7 S i k)
 rw [List.length_append, List.length_append]; omega
theorem bodyAt_len (S : St) (hs : S.small) (i : Nat) : (bodyAt S i).length <= 3001 := by
 unfold bodyAt
 have h1 := one_len 6 (S.num i) nm0 (b6 S i)
 have h2 := flat_len (entAt_len S i) (S.ne i)
 have h3 := hs.en i
 rw [List.length_append]
 split
 ·omega
 ·simp; omega
theorem cnt_le (S : St) (i k q : Nat) : cnt S i k q <= k := by
 unfold cnt
 have := List.length_filter_le (fun j => nbucket (S.enm i j) == q) (List.range k)
 simpa using this
theorem cnt_succ (S : St) (i k q : Nat) : cnt S i (k + 1) q = cnt S i k q + if nbucket (S.enm i k) = q then 1 else 0 := by
 unfold cnt
 rw [List.range_succ, List.filter_append, List.length_append]
 congr 1
 by_cases h : nbucket (S.enm i k) = q
 ·simp [h]
 ·simp [h]
def cntA (f : Nat -> Nat) : Array Value := #[.int .i64 (f 0), .int .i64 (f 1), .int .i64 (f 2), .int .i64 (f 3), .int .i64 (f 4), .int .i64 (f 5), .int .i64 (f 6), .int .i64 (f 7)]
theorem lt8 {q : Nat} (h : q < 8) : q = 0 ∨ q = 1 ∨ q = 2 ∨ q = 3 ∨ q = 4 ∨ q = 5 ∨ q = 6 ∨ q = 7 := by omega
theorem cntA_at (f : Nat -> Nat) {q : Nat} (h : q < 8) : (cntA f)[q]? = some (.int .i64 (f q)) := by
 rcases lt8 h with rfl | rfl | rfl | rfl | rfl | rfl | rfl | rfl <;> rfl
theorem cntA_set (f g : Nat -> Nat) {q : Nat} (h : q < 8) {v : Int} (hv : v = (g q : Nat)) (hg : ∀ j, j < 8 -> j ≠ q -> g j = f j) : (cntA f).setIfInBounds q (.int .i64 v) = cntA g := by
 subst hv
 rcases lt8 h with rfl | rfl | rfl | rfl | rfl | rfl | rfl | rfl <;> simp [cntA, hg]
theorem KeepsT.set {w w' : World} (h : KeepsT w w') {g : Nat} (hg : w.heap.size <= g) (i : Nat) (u : Value) : KeepsT w (w'.setCell ⟨g, i, none⟩ u) :=
 ⟨by simpa [World.setCell] using h.size, fun k o hk hf => by
  rw [Below.heap_setCell _ _ _ _ (fun e : k = g => by have := heap_lt hk; omega)]
  exact h.block k o hk hf⟩
theorem first_none {w : World} {c sb : Nat} {iv : Value} {ev : Nat -> Value} {S : St} (c0 : w.cell? ⟨c, 0, none⟩ = some (.pointer (some ⟨sb, 0, none⟩))) (s0 : w.cell? ⟨sb, 0, none⟩ = some iv) (hI : RowAt w iv S.inodes.length 4 (inoC S ev)) (hn : S.inodes.length <= 1000) {num : Int} (h : firstIx S num = none) :
  Calls Tryz.prog 73 #[.pointer (some ⟨c, 0, none⟩), .int .i64 num] w fun e w' => e = .returned (.pointer none) /\ w' = w := by
 have := first_calls c0 s0 hI hn num
 rw [h] at this
 exact this
theorem first_some {w : World} {c sb : Nat} {A : Option Addr} {n cap : Nat} {ev : Nat -> Value} {S : St} (c0 : w.cell? ⟨c, 0, none⟩ = some (.pointer (some ⟨sb, 0, none⟩))) (s0 : w.cell? ⟨sb, 0, none⟩ = some (.slice A n cap)) (hI : RowAt w (.slice A n cap) S.inodes.length 4 (inoC S ev)) (hn : S.inodes.length <= 1000) {num : Int} {i : Nat} (h : firstIx S num = some i) :
  ∃ g off, A = some ⟨g, off, none⟩ /\ i < S.inodes.length /\ S.num i = num /\ Calls Tryz.prog 73 #[.pointer (some ⟨c, 0, none⟩), .int .i64 num] w fun e w' => e = .returned (.pointer (some ⟨g, off + i * 4, none⟩)) /\ w' = w := by
 have h2 := h
 unfold firstIx at h2
 rw [List.find?_range_eq_some] at h2
 obtain ⟨h3, h4, _⟩ := h2
 have h4 : i < S.inodes.length := by simpa using h4
 obtain ⟨_, _, g, off, rfl, _⟩ := hI.at_ h4
 have := first_calls c0 s0 hI hn num
 rw [h] at this
 exact ⟨g, off, rfl, h4, by simpa using h3, this⟩
end
section
open Go.RowKit
set_option maxHeartbeats 2000000
attribute [local go_sem ↓] Go.wp_at_zero Go.wp_at_succ
def dirAt (S : St) (num : Int) : Bool := match firstIx S num with
 | some i => S.dir i
 | none => true
def b9a (S : St) (i : Nat) : Bool := dirAt S (S.on i) || decide (S.oc i < 0) || decide ((S.made.length : Int) <= S.oc i) || decide (S.of i < 0) || decide (4 <= S.of i)
def b9 (S : St) (i : Nat) : Bool := b9a S i || (decide (0 < i) && (decide (S.oc i < S.oc (i - 1)) || (S.oc (i - 1) == S.oc i && decide (S.of i <= S.of (i - 1)))))
def openAt (S : St) (i : Nat) : List Fnd := one 9 (S.on i) nm0 (b9 S i)
def openF (S : St) : List Fnd := (List.range S.opens.length).flatMap (openAt S)
set_option maxRecDepth 1000000 in
theorem open_calls {w0 w : World} {c sb : Nat} {iv ov mv : Value} {ev : Nat -> Value} {S : St} {D : List Fnd} (h : Ck w0 w c sb iv ov mv D) (hS : StM w0 iv ov mv ev S) (hs : S.small) (hD : D.length <= 200000000) :
  Calls Tryz.prog 33 #[.pointer (some ⟨c, 0, none⟩)] w fun e w' => e = .returned (.tuple #[]) /\ At w0 w w' c sb iv ov mv (D ++ openF S) := by
 obtain ⟨A, cap, rfl⟩ := hS.ino.form
 obtain ⟨MA, mcap, rfl⟩ := hS.mad.form
 obtain ⟨OA, ocap, rfl⟩ := hS.opn.form
 have hn := hs.no
 have HN0 := lhi hs.ni
 have HC := lhi h
 have HS := lhi hS
 clear h hS hs
 have HNF := lhi (show openF S = (List.range S.opens.length).flatMap (openAt S) from rfl)
 have HI := lhi HS.out.ino
 have HO := lhi HS.out.opn
 obtain ⟨n, hnn⟩ : ∃ n, S.opens.length = n := ⟨_, rfl⟩
 obtain ⟨m, hmm⟩ : ∃ n, S.made.length = n := ⟨_, rfl⟩
 obtain ⟨ni, hni⟩ : ∃ n, S.inodes.length = n := ⟨_, rfl⟩
 rw [hnn] at hn HNF HC HS HO
 rw [hmm] at HC HS
 rw [hni] at HC HS HI HN0
 have c0 := HC.out.c0
 have s1 := HC.out.s1
 have HNN := lhi hnn
 have HMM := lhi hmm
 have HNI := lhi hni
 clear hnn hmm hni
 go_enter Tryz.func33, Tryz.ntmps33
 go_wp2_with (fail)
 clear c0 s1
 go_loopw [15] (fun i wr => ∃ k : Nat, i = .int .i64 k /\ k <= n /\ At w0 w wr c sb (.slice A ni cap) (.slice OA n ocap) (.slice MA m mcap) (D ++ (List.range k).flatMap (openAt S))) (fun i _ => n - (intOf i).toNat)
 case atStart => exact ⟨0, rfl, by omega, by simpa using At.start HC.out⟩
 case round =>
  obtain ⟨k, rfl, hk, hat⟩ := hrel
  have HAT := lhi hat
  have HLK := lhi (show (D ++ (List.range k).flatMap (openAt S)).length <= 200001000 by rw [List.length_append]; have := flat_len (f := openAt S) (c := 1) (fun _ => one_len _ _ _ _) k; omega)
  have HFS := lhi (flat_succ (openAt S) k)
  clear hat
  by_cases hp : k < n
  ·obtain ⟨D1, hD1⟩ : ∃ D1, D1 = D ++ (List.range k).flatMap (openAt S) := ⟨_, rfl⟩
   obtain ⟨bb, hbb⟩ : ∃ b, b = b9 S k := ⟨_, rfl⟩
   obtain ⟨ba, hba⟩ : ∃ b, b = b9a S k := ⟨_, rfl⟩
   rw [<- hD1] at HAT HLK
   have HD1 := lhi (show D ++ (List.range (k + 1)).flatMap (openAt S) = D1 ++ one 9 (S.on k) nm0 bb by rw [HFS.out, hD1, List.append_assoc, hbb]; rfl)
   have HBB := lhi (show bb = (ba || (decide (0 < k) && (decide (S.oc k < S.oc (k - 1)) || (S.oc (k - 1) == S.oc k && decide (S.of k <= S.of (k - 1)))))) by rw [hbb, hba]; rfl)
   have HBA := lhi (show ba = (dirAt S (S.on k) || decide (S.oc k < 0) || decide ((m : Int) <= S.oc k) || decide (S.of k < 0) || decide (4 <= S.of k)) by rw [hba, b9a, HMM.out])
   clear hD1 HFS HC hbb hba
   obtain ⟨-, hcap, g, off, rfl, hcell⟩ := (HO.out.keep HAT.out.1.bel).at_ hp
   have q0 : wr.cell? ⟨g, off + k * 3, none⟩ = some (.int .i64 (S.oc k)) := hcell 0 (by omega)
   have q1 : wr.cell? ⟨g, off + k * 3 + 1, none⟩ = some (.int .i64 (S.of k)) := hcell 1 (by omega)
   have q2 : wr.cell? ⟨g, off + k * 3 + 2, none⟩ = some (.int .i64 (S.on k)) := hcell 2 (by omega)
   have hp1 : (k : Int) < n := by omega
   clear hcell
   have HX := lhi (Blk.new wr 109 #[.int .i64 (S.oc k), .int .i64 (S.of k), .int .i64 (S.on k)])
   have HAX := lhi (HAT.out.alloc (Obj.cells #[.int .i64 (S.oc k), .int .i64 (S.of k), .int .i64 (S.on k)] 109))
   have hsz : w.heap.size <= wr.heap.size := HAT.out.2.size
   have HDI := lhi (show dirAt S (S.on k) = match firstIx S (S.on k) with
    | some i => S.dir i
    | none => true from rfl)
   generalize S.oc k = oc at *
   generalize S.of k = fd at *
   generalize S.on k = x at *
   have hx2 : (wr.alloc (Obj.cells #[.int .i64 oc, .int .i64 fd, .int .i64 x] 109)).cell? ⟨wr.heap.size, 2, none⟩ = some (.int .i64 x) := HX.out.cell 2
   have HIN := HAX.out.1
   obtain ⟨pv, hpv⟩ : ∃ pv, pv = inoPtr (.slice A ni cap) (firstIx S x) := ⟨_, rfl⟩
   have HFI := lhi (first_calls HAX.out.1.c0 HAX.out.1.s0 (by rw [HNI.out]; exact HI.out.keep HAX.out.1.bel) (by rw [HNI.out]; exact HN0.out) x)
   rw [<- hpv] at HFI
   have HPV := lhi hpv
   clear hpv HIN
   go_upto_region 3 with (fail)
   go_cut [4] (fun s wx => pv = s /\ wr.alloc (Obj.cells #[.int .i64 oc, .int .i64 fd, .int .i64 x] 109) = wx)
   case first =>
    clear q0 q1 q2
    generalize wr.alloc (Obj.cells #[.int .i64 oc, .int .i64 fd, .int .i64 x] 109) = wy at *
    go_wp2_with (go_at_call 73; refine HFI.out.mono ?_; rintro e w' ⟨rfl, hw⟩; obtain rfl := hw.symm)
    go_meet
    case rel => exact ⟨rfl, rfl⟩
   case rest =>
    obtain ⟨rfl, rfl⟩ := hcut
    clear q0 q1 q2 hx2 HFI HAT
    generalize wr.alloc (Obj.cells #[.int .i64 oc, .int .i64 fd, .int .i64 x] 109) = wy at *
    generalize wr.heap.size = xg at *
    go_upto_region 4 with (fail)
    go_cut [5] (fun s wx => s = .bool ba /\ ∃ d, wx = wy.drewN d)
    case first =>
     have x0 : wy.cell? ⟨xg, 0, none⟩ = some (.int .i64 oc) := HX.out.cell 0
     have x1 : wy.cell? ⟨xg, 1, none⟩ = some (.int .i64 fd) := HX.out.cell 1
     have c0 := HAX.out.1.c0
     have s2 := HAX.out.1.s2
     rcases hfi : firstIx S x with _ | i
     ·obtain rfl : pv = .pointer none := by rw [HPV.out, hfi]; rfl
      have HBA := lhi (show ba = true by rw [HBA.out, HDI.out, hfi]; rfl)
      clear hfi HPV HDI
      go_quiet (fail)
      go_wp2_with (fail)
      go_meet
      case rel => exact ⟨by rw [HBA.out], _, rfl⟩
     ·obtain ⟨-, -, g', off', rfl, hcell⟩ := (HI.out.keep HAX.out.1.bel).at_ (i := i) (by
       have h2 := hfi
       unfold firstIx at h2
       rw [List.find?_range_eq_some] at h2
       have := h2.2.1
       rw [HNI.out] at this
       simpa using this)
      obtain rfl : pv = .pointer (some ⟨g', off' + i * 4, none⟩) := by rw [HPV.out, hfi]; rfl
      have y1 : wy.cell? ⟨g', off' + i * 4 + 1, none⟩ = some (.bool (S.dir i)) := hcell 1 (by omega)
      have HBA := lhi (show ba = (S.dir i || decide (oc < 0) || decide ((m : Int) <= oc) || decide (fd < 0) || decide (4 <= fd)) by rw [HBA.out, HDI.out, hfi])
      clear hfi HPV HDI hcell
      generalize S.dir i = dv at *
      rcases bool_tf dv with rfl | rfl
      ·go_quiet (fail)
       go_wp2_with (fail)
       go_meet
       case rel => exact ⟨by rw [HBA.out]; rfl, _, rfl⟩
      ·by_cases h1 : oc < 0
       ·go_quiet (fail)
        go_wp2_with (fail)
        go_meet
        case rel => exact ⟨by rw [HBA.out]; simp [h1], _, rfl⟩
       ·have h1' : decide (oc < 0) = false := decide_eq_false h1
        by_cases h2 : (m : Int) <= oc
        ·go_quiet (fail)
         go_wp2_with (fail)
         go_meet
         case rel => exact ⟨by rw [HBA.out]; simp [h2], _, rfl⟩
        ·have h2' : decide ((m : Int) <= oc) = false := decide_eq_false h2
         by_cases h3 : fd < 0
         ·go_quiet (fail)
          go_wp2_with (fail)
          go_meet
          case rel => exact ⟨by rw [HBA.out]; simp [h3], _, rfl⟩
         ·have h3' : decide (fd < 0) = false := decide_eq_false h3
          go_quiet (fail)
          go_wp2_with (fail)
          go_meet
          case rel => exact ⟨by rw [HBA.out, h1', h2', h3']; rfl, _, rfl⟩
    case rest =>
     obtain ⟨rfl, d, rfl⟩ := hcut
     have HAY := lhi (HAX.out.drewN d)
     have HXY := lhi (show Blk (wy.drewN d) xg 109 #[.int .i64 oc, .int .i64 fd, .int .i64 x] from HX.out)
     clear HAX HX HBA HPV HDI
     generalize wy.drewN d = wz at *
     go_upto_if 61 with (fail)
     go_cut [5] (fun s wx => s = .bool bb /\ At w0 w wx c sb (.slice A ni cap) (.slice (some ⟨g, off, none⟩) n ocap) (.slice MA m mcap) D1 /\ Blk wx xg 109 #[.int .i64 oc, .int .i64 fd, .int .i64 x])
     case first =>
      by_cases hk0 : 0 < k
      ·obtain ⟨p, rfl⟩ : ∃ p, k = p + 1 := ⟨k - 1, by omega⟩
       obtain ⟨-, -, g', off', e, hcell⟩ := (HO.out.keep HAY.out.1.bel).at_ (i := p) (by omega)
       injection e with e
       injection e with e1 e2
       subst e1 e2
       have r0 : wz.cell? ⟨g, off + p * 3, none⟩ = some (.int .i64 (S.oc p)) := hcell 0 (by omega)
       have r1 : wz.cell? ⟨g, off + p * 3 + 1, none⟩ = some (.int .i64 (S.of p)) := hcell 1 (by omega)
       have r2 : wz.cell? ⟨g, off + p * 3 + 2, none⟩ = some (.int .i64 (S.on p)) := hcell 2 (by omega)
       have c0 := HAY.out.1.c0
       have s1 := HAY.out.1.s1
       have hk1 : decide (0 < p + 1) = true := decide_eq_true hk0
       have HBB := lhi (show bb = (ba || (decide (oc < S.oc p) || (S.oc p == oc && decide (fd <= S.of p)))) by have := HBB.out; rw [hk1] at this; simpa using this)
       clear hcell
       generalize S.oc p = oq at *
       generalize S.of p = fq at *
       generalize S.on p = nq at *
       have HEB := lhi (Blk.new wz 109 #[.int .i64 oq, .int .i64 fq, .int .i64 nq])
       have HAE := lhi (HAY.out.alloc (Obj.cells #[.int .i64 oq, .int .i64 fq, .int .i64 nq] 109))
       have HXE := lhi (HXY.out.alloc (Obj.cells #[.int .i64 oq, .int .i64 fq, .int .i64 nq] 109))
       have x0 : (wz.alloc (Obj.cells #[.int .i64 oq, .int .i64 fq, .int .i64 nq] 109)).cell? ⟨xg, 0, none⟩ = some (.int .i64 oc) := HXE.out.cell 0
       have x1 : (wz.alloc (Obj.cells #[.int .i64 oq, .int .i64 fq, .int .i64 nq] 109)).cell? ⟨xg, 1, none⟩ = some (.int .i64 fd) := HXE.out.cell 1
       rcases bool_tf ba with rfl | rfl
       ·go_wp2_with (fail)
        go_meet
        case rel => exact ⟨by rw [HBB.out]; rfl, HAE.out, HXE.out⟩
       ·by_cases h1 : oc < oq
        ·go_wp2_with (fail)
         go_meet
         case rel => exact ⟨by rw [HBB.out]; simp [h1], HAE.out, HXE.out⟩
        ·have h1' : decide (oc < oq) = false := decide_eq_false h1
         by_cases h2 : (oq == oc) = true
         ·go_wp2_with (fail)
          go_meet
          case rel => exact ⟨by rw [HBB.out, h1', h2]; rfl, HAE.out, HXE.out⟩
         ·have h2 := Bool.eq_false_iff.2 h2
          go_wp2_with (fail)
          go_meet
          case rel => exact ⟨by rw [HBB.out, h1', h2]; rfl, HAE.out, HXE.out⟩
      ·have hk1 : decide (0 < k) = false := decide_eq_false hk0
       have HBB := lhi (show bb = ba by have := HBB.out; rw [hk1] at this; simpa using this)
       go_wp2_with (fail)
       go_meet
       case rel => exact ⟨by rw [HBB.out], HAY.out, HXY.out⟩
     case rest =>
      have hb5 := hcut.1
      have HAZ := lhi hcut.2.1
      have HXZ := lhi hcut.2.2
      clear hcut HAY HXY
      subst hb5
      rcases bool_tf bb with rfl | rfl
      ·have x2 : wc.cell? ⟨xg, 2, none⟩ = some (.int .i64 x) := HXZ.out.cell 2
       have HA := lhi (add_calls HAZ.out.1 (by have := HLK.out; omega) 9 x nm0)
       go_wp2_with (fail)
       refine HA.out.mono ?_
       rintro e w1 ⟨rfl, h1, h2⟩
       have HR := lhi (HAZ.out.to h1 h2)
       clear h1 h2
       go_wp2_with (fail)
       go_roundw
       case rel => exact ⟨k + 1, by go_num, by omega, by rw [HD1.out]; exact HR.out⟩
       case measure =>
        simp only [intOf]
        omega
      ·have HD := lhi (one_false D1 9 x nm0 rfl)
       go_wp2_with (fail)
       go_roundw
       case rel => exact ⟨k + 1, by go_num, by omega, by rw [HD1.out, <- HD.out]; exact HAZ.out⟩
       case measure =>
        simp only [intOf]
        omega
  ·have e : k = n := by omega
   subst e
   go_wp2_with (fail)
   go_end0
   exact ⟨rfl, by rw [HNN.out, HNI.out, HMM.out, HNF.out]; exact HAT.out⟩
end
section
open Go.RowKit
set_option maxHeartbeats 1000000
attribute [local go_sem ↓] Go.wp_at_zero Go.wp_at_succ
theorem below_alloc (w : World) (o : Obj) : Below w.heap.size w (w.alloc o) := (Below.refl _ _).alloc (Nat.le_refl _) o
end
section
open Go.RowKit
set_option maxHeartbeats 1000000
def RowT (w : World) (base : Nat) (t : TypeId) (k : Nat) (v : Value) (n : Nat) (C : Nat -> Nat -> Value) : Prop :=
 ∃ A cap, v = .slice A n cap /\ n <= cap /\ (0 < n -> ∃ g off cs, A = some ⟨g, off, none⟩ /\ base <= g /\ Blk w g t cs /\ ∀ i j, i < n -> j < k -> cs[off + (i * k + j)]? = some (C i j))
namespace RowT
variable {w w' : World} {base : Nat} {t : TypeId} {k n : Nat} {v : Value} {C : Nat -> Nat -> Value}
theorem at' (h : RowT w base t k v n C) : RowAt w v n k C := by
 obtain ⟨A, cap, h1, h2, h3⟩ := h
 refine ⟨A, cap, h1, h2, fun hn => ?_⟩
 obtain ⟨g, off, cs, hA, -, hb, hc⟩ := h3 hn
 exact ⟨g, off, hA, fun i j hi hj => (hb.cell _).trans (hc i j hi hj)⟩
theorem heap (h : RowT w base t k v n C) (hb : ∀ q cs, base <= q -> Blk w q t cs -> Blk w' q t cs) : RowT w' base t k v n C := by
 obtain ⟨A, cap, h1, h2, h3⟩ := h
 refine ⟨A, cap, h1, h2, fun hn => ?_⟩
 obtain ⟨g, off, cs, hA, h4, h5, h6⟩ := h3 hn
 exact ⟨g, off, cs, hA, h4, hb g cs h4 h5, h6⟩
theorem below (h : RowT w base t k v n C) (hb : Below w.heap.size w w') : RowT w' base t k v n C := h.heap fun q _ _ hq => Blk.of_heap (hb.block q hq.lt) hq
theorem far (h : RowT w base t k v n C) {g : Nat} {u : TypeId} {cs : Array Value} (hg : Blk w g u cs) (ht : t ≠ u) (i : Nat) (x : Value) : RowT (w.setCell ⟨g, i, none⟩ x) base t k v n C :=
 h.heap fun _ _ _ hq => hq.far (p := ⟨g, i, none⟩) (Blk.ne_ hq hg ht) x
theorem congr {C' : Nat -> Nat -> Value} (h : RowT w base t k v n C) (he : ∀ i j, i < n -> j < k -> C i j = C' i j) : RowT w base t k v n C' := by
 obtain ⟨A, cap, h1, h2, h3⟩ := h
 refine ⟨A, cap, h1, h2, fun hn => ?_⟩
 obtain ⟨g, off, cs, hA, h4, h5, h6⟩ := h3 hn
 exact ⟨g, off, cs, hA, h4, h5, fun i j hi hj => (h6 i j hi hj).trans (by rw [he i j hi hj])⟩
theorem base_le {base' : Nat} (h : RowT w base t k v n C) (hb : base' <= base) : RowT w base' t k v n C := by
 obtain ⟨A, cap, h1, h2, h3⟩ := h
 refine ⟨A, cap, h1, h2, fun hn => ?_⟩
 obtain ⟨g, off, cs, hA, h4, h5⟩ := h3 hn
 exact ⟨g, off, cs, hA, Nat.le_trans hb h4, h5⟩
theorem nil_ (w : World) (base : Nat) (t : TypeId) (k : Nat) (C : Nat -> Nat -> Value) : RowT w base t k (.slice none 0 0) 0 C := ⟨_, _, rfl, Nat.le_refl _, fun h => absurd h (by omega)⟩
theorem set (h : RowT w base t k v n C) {i j : Nat} (hi : i < n) (hj : j < k) : ∃ g off cap cs, v = .slice (some ⟨g, off, none⟩) n cap /\ n <= cap /\ base <= g /\ Blk w g t cs /\ w.cell? ⟨g, off + (i * k + j), none⟩ = some (C i j) /\ ∀ x, RowT (w.setCell ⟨g, off + (i * k + j), none⟩ x) base t k v n fun a b => if a = i /\ b = j then x else C a b := by
 obtain ⟨A, cap, rfl, h2, h3⟩ := h
 obtain ⟨g, off, cs, rfl, h4, h5, h6⟩ := h3 (by omega)
 refine ⟨g, off, cap, cs, rfl, h2, h4, h5, (h5.cell _).trans (h6 i j hi hj), fun x => ⟨_, _, rfl, h2, fun hn => ⟨g, off, _, rfl, h4, h5.set_ _ x, fun a b ha hb => ?_⟩⟩⟩
 have hlt : off + (i * k + j) < cs.size := (Array.getElem?_eq_some_iff.1 (h6 i j hi hj)).1
 by_cases e : a = i /\ b = j
 ·obtain ⟨rfl, rfl⟩ := e
  show _ = some (if _ then _ else _)
  rw [if_pos ⟨rfl, rfl⟩, Array.getElem?_setIfInBounds_self, if_pos hlt]
 ·show _ = some (if _ then _ else _)
  rw [if_neg e, Array.getElem?_setIfInBounds_ne]
  ·exact h6 a b ha hb
  ·intro q
   have q : i * k + j = a * k + b := by omega
   apply e
   have e1 : (i * k + j) / k = (a * k + b) / k := by rw [q]
   have e2 : (i * k + j) % k = (a * k + b) % k := by rw [q]
   rw [Nat.mul_comm i k, Nat.mul_comm a k, Nat.mul_add_div (by omega), Nat.mul_add_div (by omega), Nat.div_eq_of_lt hj, Nat.div_eq_of_lt hb] at e1
   rw [Nat.mul_comm i k, Nat.mul_comm a k, Nat.mul_add_mod, Nat.mul_add_mod, Nat.mod_eq_of_lt hj, Nat.mod_eq_of_lt hb] at e2
   omega
end RowT
section
variable {A : Type} {enc : A -> List Value} {k : Nat}
theorem flat_get_k (hk : 0 < k) (h : ∀ x, (enc x).length = k) : ∀ (L : List A) (t : Nat), (L.flatMap enc)[t]? = (L[t / k]?).bind fun e => (enc e)[t % k]?
 | [], t => by simp
 | e :: L, t => by
  rw [List.flatMap_cons]
  by_cases q : t < k
  ·rw [List.getElem?_append_left (by rw [h]; exact q), Nat.div_eq_of_lt q, Nat.mod_eq_of_lt q]; rfl
  ·have e1 : t / k = (t - k) / k + 1 := by
    rw [Nat.div_eq_sub_div hk (by omega)]
   have e2 : t % k = (t - k) % k := Nat.mod_eq_sub_mod (by omega)
   rw [List.getElem?_append_right (by rw [h]; omega), h, e1, List.getElem?_cons_succ, e2, <- flat_get_k hk h L (t - k)]
theorem flat_len_k (h : ∀ x, (enc x).length = k) (L : List A) : (L.flatMap enc).length = L.length * k := by
 induction L with
 | nil => simp
 | cons e L ih => rw [List.flatMap_cons, List.length_append, ih, h, List.length_cons, Nat.succ_mul]; omega
def CL (enc : A -> List Value) (L : List A) (C : Nat -> Nat -> Value) (k : Nat) : Prop := ∀ i j (hi : i < L.length), j < k -> (enc L[i])[j]? = some (C i j)
theorem CL.get {L : List A} {C : Nat -> Nat -> Value} (hk : 0 < k) (h : ∀ x, (enc x).length = k) (hC : CL enc L C k) {i j : Nat} (hi : i < L.length) (hj : j < k) : (L.flatMap enc)[i * k + j]? = some (C i j) := by
 rw [flat_get_k hk h, Nat.mul_comm, Nat.mul_add_div hk, Nat.div_eq_of_lt hj, Nat.mul_add_mod, Nat.mod_eq_of_lt hj, Nat.add_zero, List.getElem?_eq_getElem hi]
 exact hC i j hi hj
theorem own_rowT {w : World} {base : Nat} {t : TypeId} {v : Value} {L : List A} {C : Nat -> Nat -> Value} (hk : 0 < k) (h : ∀ x, (enc x).length = k) (hw : w.ownsRow base t k v L.length (L.flatMap enc)) (hC : CL enc L C k) : RowT w base t k v L.length C := by
 rcases hw.2 with ⟨rfl, h0⟩ | ⟨g, cap, cur, rfl, hb, hh, h1, -, h3, h4⟩
 ·rw [h0]; exact RowT.nil_ _ _ _ _ _
 ·refine ⟨_, _, rfl, h1, fun hn => ⟨g, 0, cur, rfl, hb, hh, fun i j hi hj => ?_⟩⟩
  have h5 := hC.get hk h hi hj
  rw [<- h4, List.getElem?_take] at h5
  split at h5
  ·rw [Nat.zero_add]; simpa using h5
  ·cases h5
variable {ops : Array Oper} {rest : List Oper} {o : Oper} {a : Act} {Q : Exit -> Act -> World -> Prop}
theorem wpList_app (w : World) (hg : o.guard = none) (s x : Operand) (t e : TypeId) (hop : o.op = Op.call { callee := Callee.builtin Builtin.append, args := #[s, x], argTypes := #[t, t] })
  (i : TypeInfo) (z : Value) (bytes : Nat) (ht : Tryz.prog.underlying t = some (.slice e)) (hi : Tryz.prog.info? e = some i) (hz : i.zero = some z) (hsize : i.size = k) (hby : i.bytes = bytes) (hzs : z.cells.size = k) (hk : 0 < k)
  (base : Nat) (v : Value) (L : List A) (hs : a.eval s = v) (hown : w.ownsRow base e k v L.length (L.flatMap enc)) (xv : Value) (hx : a.eval x = xv) (M : List A) {C : Nat -> Nat -> Value} (hM : RowAt w xv M.length k C) (hC : CL enc M C k)
  (hl : ∀ x, (enc x).length = k) (h1 : ∀ x ∈ M, ∀ u ∈ enc x, u.oneCell' = true) (h63 : L.length + M.length <= 100000) (hbytes : bytes <= 1000) (hbase : base <= w.heap.size)
  (hK : ∀ A' n' cap' w', n' = (L ++ M).length -> w'.ownsRow base e k (.slice A' n' cap') (L ++ M).length ((L ++ M).flatMap enc) -> w.grownBy w' v.ownBlock -> wpList Tryz.prog ops Q rest (a.put o.dst (.slice A' n' cap')) w') : wpList Tryz.prog ops Q (o :: rest) a w := by
 refine wpList_plain hg fun K' hK' => ?_
 obtain ⟨A1, cap1, rfl, hc1, hA1⟩ := hM
 have hbb : (L.length + M.length) * bytes <= 140737488355328 := Nat.le_trans (Nat.mul_le_mul h63 hbytes) (by decide)
 have hrun : ∃ v' w', (Builtin.append_ #[t, t] o.type #[v, .slice A1 M.length cap1]).run Tryz.prog w = .ok v' w' /\ w'.ownsRow base e k v' (L ++ M).length ((L ++ M).flatMap enc) /\ w.grownBy w' v.ownBlock /\ (v'.ownBlock = v.ownBlock ∨ v'.ownBlock = some w.heap.size) := by
  rcases Nat.eq_zero_or_pos M.length with h0 | h0
  ·have hM0 : M = [] := List.length_eq_zero_iff.1 h0
   subst hM0
   rw [List.append_nil]
   cases A1 with
   | none =>
    have hb : ∃ b n' c', v = .slice b n' c' /\ n' <= c' := by
     rcases hown.2 with ⟨rfl, _⟩ | ⟨g, cap, cur, rfl, _, _, h6, _⟩
     ·exact ⟨_, _, _, rfl, Nat.le_refl _⟩
     ·exact ⟨_, _, _, rfl, h6⟩
    obtain ⟨b, n', c', rfl, hle⟩ := hb
    exact ⟨_, _, run_append_nothing (P := Tryz.prog) w t t o.type e i ht hi b n' c' hle _ (Src.ofNil w ht cap1), hown, ⟨rfl, rfl, rfl, Nat.le_refl _, fun _ _ _ => rfl⟩, .inl rfl⟩
   | some ad =>
    obtain ⟨v', w', r1, r2, r3, -, r5⟩ := run_append_own_at (P := Tryz.prog) w base t o.type e i z k bytes ht hi hz hsize hby hzs hk v L.length _ hown ad 0 cap1 [] (by simp) (fun j u hu => by simp at hu) (fun u hu => by simp at hu) (by simp only [maxLen]; omega) (by simpa using hbb) hbase
    rw [List.append_nil, Nat.add_zero] at r2
    exact ⟨v', w', r1, r2, r3, r5⟩
  ·obtain ⟨g, off, rfl, hcell⟩ := hA1 h0
   obtain ⟨v', w', r1, r2, r3, -, r5⟩ := run_append_own_at (P := Tryz.prog) w base t o.type e i z k bytes ht hi hz hsize hby hzs hk v L.length _ hown ⟨g, off, none⟩ M.length cap1 (M.flatMap enc) (flat_len_k hl M) (fun j u hu => by
    have hj : j < M.length * k := by rw [<- flat_len_k hl M]; exact (List.getElem?_eq_some_iff.1 hu).1
    have e1 : j = j / k * k + j % k := by rw [Nat.mul_comm]; exact (Nat.div_add_mod j k).symm
    have hq : j / k < M.length := Nat.div_lt_of_lt_mul (by rw [Nat.mul_comm]; exact hj)
    have h2 := hC.get hk hl hq (Nat.mod_lt j hk)
    rw [<- e1, hu] at h2
    rw [Addr.add_lit]
    have h3 := hcell (j / k) (j % k) hq (Nat.mod_lt j hk)
    rw [<- e1] at h3
    rw [h3, <- h2]) (fun u hu => by
    obtain ⟨x, hm, hx⟩ := List.mem_flatMap.1 hu
    exact h1 x hm u hx) (by simp only [maxLen]; omega) hbb hbase
   rw [<- List.flatMap_append, <- List.length_append] at r2
   exact ⟨v', w', r1, r2, r3, r5⟩
 obtain ⟨v', w', hrun, r2, r3, r4⟩ := hrun
 unfold Oper.wp
 simp [execOp, hop, resolve, invoke, builtin, hx, hs, hrun, Result.andThen]
 have hf : ∃ A' cap', v' = .slice A' (L ++ M).length cap' := by
  rcases r2.2 with ⟨rfl, h0⟩ | ⟨g, cap, cur, rfl, _⟩
  ·exact ⟨none, 0, by rw [h0]⟩
  ·exact ⟨_, _, rfl⟩
 obtain ⟨A', cap', rfl⟩ := hf
 exact hK' _ _ (hK A' _ cap' w' rfl r2 r3)
end
end
end Go.Proofs.YtkebjgebkneijaaGreatDoor
