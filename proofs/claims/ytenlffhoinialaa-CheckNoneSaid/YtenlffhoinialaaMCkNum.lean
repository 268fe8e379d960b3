/- check: numbers. -/
import Derived.Test.YtenlffhoinialaaMCkFirst
namespace Go.Proofs.Ytenlffhoinialaa
open Go.RowKit
set_option maxHeartbeats 1000000

def nm0 : ByteArray := ⟨#[]⟩
def one (k x : Int) (s : ByteArray) (b : Bool) : List Fnd := if b then [⟨k, x, s⟩] else []
theorem one_len (k x : Int) (s : ByteArray) (b : Bool) : (one k x s b).length ≤ 1 := by unfold one; split <;> simp
theorem flat_len {A : Type} {f : Nat → List A} {c : Nat} (h : ∀ i, (f i).length ≤ c) : ∀ k, ((List.range k).flatMap f).length ≤ k * c := by
  intro k
  induction k with
  | zero => simp
  | succ k ih =>
    rw [List.range_succ, List.flatMap_append, List.length_append, Nat.succ_mul]
    have := h k
    simp only [List.flatMap_cons, List.flatMap_nil, List.append_nil]
    omega
theorem flat_succ {A : Type} (f : Nat → List A) (k : Nat) : (List.range (k + 1)).flatMap f = (List.range k).flatMap f ++ f k := by
  rw [List.range_succ, List.flatMap_append]; simp
theorem bool_tf (b : Bool) : b = true ∨ b = false := by cases b <;> simp
def rootB (S : St) : Bool := decide (S.inodes.length = 0) || S.num 0 != 1 || !S.dir 0
def b1 (S : St) (i : Nat) : Bool := decide (S.num i < 1) || (decide (0 < i) && decide (S.num i ≤ S.num (i - 1)))
def b8 (S : St) (i : Nat) : Bool := S.num i != 1 && (decide (coreF (S.num i) < 0) || decide ((S.made.length : Int) ≤ coreF (S.num i)) || decide (S.mad (coreF (S.num i)).toNat ≤ madeF (S.num i)))
def numAt (S : St) (i : Nat) : List Fnd := one 1 (S.num i) nm0 (b1 S i) ++ one 8 (S.num i) nm0 (b8 S i)
def manyB (S : St) : Bool := decide (S.made.length < 1) || decide (8 < S.made.length)
def madB (S : St) (i : Nat) : Bool := decide (S.mad i < 0) || decide (32 < S.mad i)
def numbersF (S : St) : List Fnd := one 1 1 nm0 (rootB S) ++ (List.range S.inodes.length).flatMap (numAt S) ++ one 8 (-1) nm0 (manyB S) ++ (List.range S.made.length).flatMap (fun (i : Nat) => one 8 (i : Int) nm0 (madB S i))
theorem numAt_len (S : St) (i : Nat) : (numAt S i).length ≤ 2 := by
  unfold numAt
  have := one_len 1 (S.num i) nm0 (b1 S i)
  have := one_len 8 (S.num i) nm0 (b8 S i)
  rw [List.length_append]; omega
/-- Where the walk stands: the checker with so many findings, from a first world on. -/
def At (w0 w wx : World) (c sb : Nat) (iv ov mv : Value) (D : List Fnd) : Prop := Ck w0 wx c sb iv ov mv D ∧ KeepsT w wx
theorem At.start {w0 w : World} {c sb : Nat} {iv ov mv : Value} {D : List Fnd} (h : Ck w0 w c sb iv ov mv D) : At w0 w w c sb iv ov mv D := ⟨h, KeepsT.refl _⟩
theorem At.alloc {w0 w wx : World} {c sb : Nat} {iv ov mv : Value} {D : List Fnd} (h : At w0 w wx c sb iv ov mv D) (o : Obj) : At w0 w (wx.alloc o) c sb iv ov mv D := ⟨h.1.alloc o, h.2.alloc o⟩
theorem At.drewN {w0 w wx : World} {c sb : Nat} {iv ov mv : Value} {D : List Fnd} (h : At w0 w wx c sb iv ov mv D) (n : Nat) : At w0 w (wx.drewN n) c sb iv ov mv D := ⟨h.1.drewN n, h.2.drewN n⟩
theorem At.below {w0 w wx wy : World} {c sb : Nat} {iv ov mv : Value} {D : List Fnd} (h : At w0 w wx c sb iv ov mv D) (hb : Below wx.heap.size wx wy) : At w0 w wy c sb iv ov mv D := ⟨h.1.below hb, h.2.below hb⟩
theorem At.to {w0 w wx wy : World} {c sb : Nat} {iv ov mv : Value} {D D' : List Fnd} (h : At w0 w wx c sb iv ov mv D) (h1 : Ck w0 wy c sb iv ov mv D') (h2 : KeepsT wx wy) : At w0 w wy c sb iv ov mv D' := ⟨h1, h.2.trans h2⟩
theorem one_true (D : List Fnd) (k x : Int) (s : ByteArray) {b : Bool} (h : b = true) : D ++ [⟨k, x, s⟩] = D ++ one k x s b := by subst h; rfl
theorem one_false (D : List Fnd) (k x : Int) (s : ByteArray) {b : Bool} (h : b = false) : D = D ++ one k x s b := by subst h; simp [one]
set_option maxRecDepth 1000000 in
theorem numbers_calls {w0 w : World} {c sb : Nat} {iv ov mv : Value} {ev : Nat → Value} {S : St} {D : List Fnd} (h : Ck w0 w c sb iv ov mv D) (hS : StM w0 iv ov mv ev S) (hs : S.small) (hD : D.length ≤ 10000000) :
    Calls Try.prog 36 #[.pointer (some ⟨c, 0, none⟩)] w fun e w' => e = .returned (.tuple #[]) ∧ At w0 w w' c sb iv ov mv (D ++ numbersF S) := by
  obtain ⟨A, cap, rfl⟩ := hS.ino.form
  obtain ⟨MA, mcap, rfl⟩ := hS.mad.form
  have hn := hs.ni
  have hm := hs.nm
  have HC := Lib.hid h
  have HS := Lib.hid hS
  have HSm := Lib.hid hs
  clear h hS hs
  have HNF := Lib.hid (show numbersF S = one 1 1 nm0 (rootB S) ++ (List.range S.inodes.length).flatMap (numAt S) ++ one 8 (-1) nm0 (manyB S) ++ (List.range S.made.length).flatMap (fun (i : Nat) => one 8 (i : Int) nm0 (madB S i)) from rfl)
  obtain ⟨rb, hrb⟩ : ∃ b, b = rootB S := ⟨_, rfl⟩
  rw [← hrb] at HNF
  have HRB := Lib.hid (show rb = (decide (S.inodes.length = 0) || S.num 0 != 1 || !S.dir 0) from hrb)
  clear hrb
  obtain ⟨n, hnn⟩ : ∃ n, S.inodes.length = n := ⟨_, rfl⟩
  obtain ⟨m, hmm⟩ : ∃ n, S.made.length = n := ⟨_, rfl⟩
  rw [hnn] at hn HNF HC HS HRB
  rw [hmm] at hm HNF HC HS
  have c0 := HC.out.c0
  have s0 := HC.out.s0
  have HI := Lib.hid (show RowAt w0 (.slice A n cap) n 4 (inoC S ev) from hnn ▸ HS.out.ino)
  have HNN := Lib.hid hnn
  have HMM := Lib.hid hmm
  clear hnn hmm
  go_enter Try.func36, Try.ntmps36
  go_upto_region 1 with (fail)
  go_cut [31] (fun s wx => s = .bool rb ∧ w = wx)
  case first =>
    --[
    by_cases h0 : n = 0
    · subst h0
      go_wp2_with (fail)
      go_meet
      case rel => exact ⟨by rw [HRB.out]; rfl, rfl⟩
    · obtain ⟨-, hcap, g, off, rfl, hcell⟩ := (HI.out.keep HC.out.bel).at_ (i := 0) (by omega)
      have q0 : w.cell? ⟨g, off, none⟩ = some (.int .i64 (S.num 0)) := by have := hcell 0 (by omega); rw [Nat.zero_mul] at this; exact this
      have q1 : w.cell? ⟨g, off + 1, none⟩ = some (.bool (S.dir 0)) := by have := hcell 1 (by omega); rw [Nat.zero_mul] at this; exact this
      clear hcell
      have h1 : ((n : Int) == 0) = false := by simpa using h0
      have h2 : 0 < n := by omega
      by_cases e : S.num 0 = 1
      · have e1 : (S.num 0 != 1) = false := by simp [e]
        have HE := Lib.hid e
        clear e
        go_wp2_with (fail)
        go_meet
        case rel => exact ⟨by rw [HRB.out, e1]; simp [h0], rfl⟩
      · have e1 : (S.num 0 != 1) = true := by simp [e]
        go_wp2_with (fail)
        go_meet
        case rel => exact ⟨by rw [HRB.out, e1]; simp [h0], rfl⟩
    --]
  case rest =>
    obtain ⟨rfl, rfl⟩ := hcut
    go_upto_if 31 with (fail)
    go_cut [] (fun wx => At w0 w wx c sb (.slice A n cap) ov (.slice MA m mcap) (D ++ one 1 1 nm0 rb))
    case first =>
      --[
      rcases bool_tf rb with rfl | rfl
      · have HA := Lib.hid (add_calls HC.out (by omega) 1 1 nm0)
        have HD := Lib.hid (one_true D 1 1 nm0 rfl)
        go_wp2_with (fail)
        refine HA.out.mono ?_
        rintro e w1 ⟨rfl, h1, h2⟩
        go_wp2_with (fail)
        go_meet
        case rel => exact ⟨HD.out ▸ h1, h2⟩
      · have HD := Lib.hid (one_false D 1 1 nm0 rfl)
        go_wp2_with (fail)
        go_meet
        case rel => exact HD.out ▸ At.start HC.out
      --]
    case rest =>
      have HA1 := Lib.hid hcut
      have HL1 := Lib.hid (show (D ++ one 1 1 nm0 rb).length ≤ 10000001 by rw [List.length_append]; have := one_len 1 1 nm0 rb; omega)
      clear hcut HC c0 s0
      obtain ⟨D1, hD1⟩ : ∃ D1, D1 = D ++ one 1 1 nm0 rb := ⟨_, rfl⟩
      rw [← hD1] at HA1 HL1
      have HD1 := Lib.hid hD1.symm
      clear hD1
      go_wp2_with (fail)
      go_loopw [36] (fun i wr => ∃ k : Nat, i = .int .i64 k ∧ k ≤ n ∧ At w0 w wr c sb (.slice A n cap) ov (.slice MA m mcap) (D1 ++ (List.range k).flatMap (numAt S))) (fun i _ => n - (intOf i).toNat)
      case atStart => exact ⟨0, rfl, by omega, by simpa using HA1.out⟩
      case round =>
        obtain ⟨k, rfl, hk, hat⟩ := hrel
        have HAT := Lib.hid hat
        have HLK := Lib.hid (show (D1 ++ (List.range k).flatMap (numAt S)).length ≤ 10003001 by rw [List.length_append]; have := flat_len (numAt_len S) k; have := HL1.out; omega)
        have HFS := Lib.hid (flat_succ (numAt S) k)
        clear hat HA1
        by_cases hp : k < n
        · obtain ⟨-, hcap, g, off, rfl, hcell⟩ := (HI.out.keep HAT.out.1.bel).at_ hp
          have q0 : wr.cell? ⟨g, off + k * 4, none⟩ = some (.int .i64 (S.num k)) := hcell 0 (by omega)
          have q1 : wr.cell? ⟨g, off + k * 4 + 1, none⟩ = some (.bool (S.dir k)) := hcell 1 (by omega)
          have q2 : wr.cell? ⟨g, off + k * 4 + 2, none⟩ = some (ev k) := hcell 2 (by omega)
          have q3 : wr.cell? ⟨g, off + k * 4 + 3, none⟩ = some (.string (S.dat k)) := hcell 3 (by omega)
          have hp1 : (k : Int) < n := by omega
          --[
          obtain ⟨EA, ecap, hev⟩ := (HS.out.ent k (by rw [HNN.out]; exact hp)).form
          generalize hne : S.ne k = ne at hev
          rw [hev] at q2
          clear hcell hev hne
          have HX := Lib.hid (Blk.new wr 56 #[.int .i64 (S.num k), .bool (S.dir k), .slice EA ne ecap, .string (S.dat k)])
          generalize ho : Obj.cells #[Value.int IntKind.i64 (S.num k), Value.bool (S.dir k), Value.slice EA ne ecap, Value.string (S.dat k)] 56 = OX at HX
          have HO := Lib.hid ho
          have HAX := Lib.hid (HAT.out.alloc OX)
          obtain ⟨bb, hbb⟩ : ∃ b, b = b1 S k := ⟨_, rfl⟩
          have HBB := Lib.hid hbb
          clear hbb
          go_upto_region 6 with (fail)
          go_cut [58] (fun s wx => s = .bool bb ∧ ∃ d, wx = (wr.alloc OX).drewN d)
          case first =>
            --[
            have hx0 : (wr.alloc OX).cell? ⟨wr.heap.size, 0, none⟩ = some (.int .i64 (S.num k)) := HX.out.cell 0
            clear q1 q2 q3
            clear ho
            by_cases h1 : S.num k < 1
            · clear q0
              generalize wr.alloc OX = wy at *
              go_quiet (fail)
              go_wp2_with (fail)
              go_meet
              case rel => exact ⟨by rw [HBB.out]; simp [b1, h1], _, rfl⟩
            · rcases k with _ | k
              · clear q0
                generalize wr.alloc OX = wy at *
                go_quiet (fail)
                go_wp2_with (fail)
                go_meet
                case rel => exact ⟨by rw [HBB.out]; simp [b1, h1], _, rfl⟩
              · obtain ⟨-, -, g', off', e, hcell⟩ := (HI.out.keep (HAX.out.1.bel)).at_ (i := k) (by omega)
                injection e with e
                injection e with e1 e2
                subst e1 e2
                have p0 : (wr.alloc OX).cell? ⟨g, off + k * 4, none⟩ = some (.int .i64 (S.num k)) := hcell 0 (by omega)
                clear q0 hcell
                have h2 : (0 : Int) < ((k + 1 : Nat) : Int) := by omega
                generalize wr.alloc OX = wy at *
                go_quiet (fail)
                go_wp2_with (fail)
                go_meet
                case rel => exact ⟨by rw [HBB.out]; simp [b1]; omega, _, rfl⟩
            --]
          case rest =>
            obtain ⟨rfl, d, rfl⟩ := hcut
            have HAY := Lib.hid (HAX.out.drewN d)
            have HXY := Lib.hid (show Blk ((wr.alloc OX).drewN d) wr.heap.size 56 #[.int .i64 (S.num k), .bool (S.dir k), .slice EA ne ecap, .string (S.dat k)] from HX.out)
            clear q0 q1 q2 q3 HX HO ho HAX HAT
            generalize (wr.alloc OX).drewN d = wy at *
            generalize wr.heap.size = xg at *
            have hnb := HSm.out.num k
            have HNA := Lib.hid (show numAt S k = one 1 (S.num k) nm0 bb ++ one 8 (S.num k) nm0 (b8 S k) by unfold numAt; rw [HBB.out])
            obtain ⟨cc, hcc⟩ : ∃ b, b = b8 S k := ⟨_, rfl⟩
            rw [← hcc] at HNA
            have HCC := Lib.hid (show cc = (S.num k != 1 && (decide (coreF (S.num k) < 0) || decide ((m : Int) ≤ coreF (S.num k)) || decide (S.mad (coreF (S.num k)).toNat ≤ madeF (S.num k)))) by rw [hcc, b8, HMM.out])
            clear hcc HBB
            generalize S.num k = x at *
            obtain ⟨D2, hD2⟩ : ∃ D2, D2 = D1 ++ (List.range k).flatMap (numAt S) := ⟨_, rfl⟩
            rw [← hD2] at HAY HLK
            have HD2 := Lib.hid hD2
            clear hD2
            go_upto_if 58 with (fail)
            go_cut [] (fun wx => At w0 w wx c sb (.slice (some ⟨g, off, none⟩) n cap) ov (.slice MA m mcap) (D2 ++ one 1 x nm0 bb) ∧ Blk wx xg 56 #[.int .i64 x, .bool (S.dir k), .slice EA ne ecap, .string (S.dat k)])
            case first =>
              --[
              rcases bool_tf bb with rfl | rfl
              · have x0 : wy.cell? ⟨xg, 0, none⟩ = some (.int .i64 x) := HXY.out.cell 0
                have HA := Lib.hid (add_calls HAY.out.1 (by have := HLK.out; omega) 1 x nm0)
                go_wp2_with (fail)
                refine HA.out.mono ?_
                rintro e w1 ⟨rfl, h1, h2⟩
                go_wp2_with (fail)
                go_meet
                case rel => exact ⟨⟨h1, HAY.out.2.trans h2⟩, h2.blk HXY.out (by decide) (by decide)⟩
              · have HD := Lib.hid (one_false D2 1 x nm0 rfl)
                go_wp2_with (fail)
                go_meet
                case rel => exact ⟨HD.out ▸ HAY.out, HXY.out⟩
              --]
            case rest =>
              have HAZ := Lib.hid hcut.1
              have HXZ := Lib.hid hcut.2
              have HLZ := Lib.hid (show (D2 ++ one 1 x nm0 bb).length ≤ 10003002 by rw [List.length_append]; have := one_len 1 x nm0 bb; have := HLK.out; omega)
              clear hcut HAY HXY
              have x0 : wc.cell? ⟨xg, 0, none⟩ = some (.int .i64 x) := HXZ.out.cell 0
              have HCO := Lib.hid (core_calls x hnb wc)
              generalize hD3 : D2 ++ one 1 x nm0 bb = D3 at *
              have HD3 := Lib.hid hD3
              clear hD3
              generalize hq : coreF x = q at *
              have HQ := Lib.hid hq
              clear hq
              go_upto_region 9 with (go_at_call 70; refine HCO.out.mono ?_; rintro e w' ⟨rfl, hw⟩; obtain rfl := hw.symm)
              go_cut [100] (fun s wx => s = .bool cc ∧ ∃ d, wx = wc.drewN d)
              case first =>
                have c0 := HAZ.out.1.c0
                have s2 := HAZ.out.1.s2
                by_cases h1 : x = 1
                · have h1' : (x != 1) = false := by simp [h1]
                  have HH := Lib.hid h1
                  clear h1
                  go_quiet (fail)
                  go_wp2_with (fail)
                  go_meet
                  case rel => exact ⟨by rw [HCC.out, h1']; simp, _, rfl⟩
                · have h1' : (x != 1) = true := by simp [h1]
                  by_cases h2 : q < 0
                  · go_quiet (fail)
                    go_wp2_with (fail)
                    go_meet
                    case rel => exact ⟨by rw [HCC.out, h1']; simp [h2], _, rfl⟩
                  · by_cases h3 : (m : Int) ≤ q
                    · go_quiet (fail)
                      go_wp2_with (fail)
                      go_meet
                      case rel => exact ⟨by rw [HCC.out, h1']; simp [h3], _, rfl⟩
                    · obtain ⟨-, -, mg, moff, rfl, hcell⟩ := (HS.out.mad.keep HAZ.out.1.bel).at_ (i := q.toNat) (by rw [HMM.out]; omega)
                      have m0 : wc.cell? ⟨mg, moff + q.toNat, none⟩ = some (.int .i64 (S.mad q.toNat)) := by have := hcell 0 (by omega); rw [Nat.mul_one] at this; exact this
                      have hq0 : 0 ≤ q := by omega
                      have hq1 : q < (m : Int) := by omega
                      have hx2 : 2 ≤ x := by
                        have := HQ.out
                        unfold coreF at this
                        by_cases h : x < 2
                        · rw [if_pos h] at this; omega
                        · omega
                      have HM := Lib.hid (fun W => made_calls x ⟨hx2, hnb.2⟩ W)
                      generalize S.mad q.toNat = z at *
                      generalize madeF x = y at *
                      clear hcell
                      have h3' : decide ((m : Int) ≤ q) = false := decide_eq_false h3
                      go_quiet ((go_at_call 71; exact Calls.quiet_of_same (HM.out _)))
                      go_wp2_with (fail)
                      go_meet
                      case rel => exact ⟨by rw [HCC.out, h1']; simp; omega, _, rfl⟩
              case rest =>
                obtain ⟨rfl, d, rfl⟩ := hcut
                have HAQ := Lib.hid (HAZ.out.drewN d)
                have HXQ := Lib.hid (show Blk (wc.drewN d) xg 56 #[.int .i64 x, .bool (S.dir k), .slice EA ne ecap, .string (S.dat k)] from HXZ.out)
                clear HAZ HXZ x0 HCO HCC
                generalize wc.drewN d = wq at *
                have HE := Lib.hid (show D1 ++ List.flatMap (numAt S) (List.range (k + 1)) = D3 ++ one 8 x nm0 cc by rw [HFS.out, HNA.out, ← HD3.out, HD2.out]; simp only [List.append_assoc])
                go_upto_if 100 with (fail)
                rcases bool_tf cc with rfl | rfl
                · have x0 : wq.cell? ⟨xg, 0, none⟩ = some (.int .i64 x) := HXQ.out.cell 0
                  have HA := Lib.hid (add_calls HAQ.out.1 (by have := HLZ.out; omega) 8 x nm0)
                  go_wp2_with (fail)
                  refine HA.out.mono ?_
                  rintro e w1 ⟨rfl, h1, h2⟩
                  have HR := Lib.hid (HAQ.out.to h1 h2)
                  clear h1 h2
                  go_wp2_with (fail)
                  go_roundw
                  case rel => exact ⟨k + 1, by go_num, by omega, by rw [HE.out]; exact HR.out⟩
                  case measure =>
                    simp only [intOf]
                    omega
                · have HD := Lib.hid (one_false D3 8 x nm0 rfl)
                  go_wp2_with (fail)
                  go_roundw
                  case rel => exact ⟨k + 1, by go_num, by omega, by rw [HE.out, ← HD.out]; exact HAQ.out⟩
                  case measure =>
                    simp only [intOf]
                    omega
          --]
        · have e : k = n := by omega
          subst e
          have HL3 := HLK
          obtain ⟨D2, hD2⟩ : ∃ D2, D2 = D1 ++ (List.range k).flatMap (numAt S) := ⟨_, rfl⟩
          rw [← hD2] at HAT HL3
          have HD2 := Lib.hid hD2.symm
          clear hD2 HLK HFS
          obtain ⟨cc, hcc⟩ : ∃ b, b = manyB S := ⟨_, rfl⟩
          rw [← hcc] at HNF
          have HCC := Lib.hid (show cc = (decide (m < 1) || decide (8 < m)) by rw [hcc, manyB, HMM.out])
          clear hcc
          have c0 := HAT.out.1.c0
          have s2 := HAT.out.1.s2
          go_upto_region 12 with (fail)
          go_cut [125] (fun s wx => s = .bool cc ∧ wr = wx)
          case first =>
            by_cases h1 : (m : Int) < 1
            · go_wp2_with (fail)
              go_meet
              case rel => exact ⟨by rw [HCC.out, decide_eq_true (show m < 1 by omega)]; rfl, rfl⟩
            · go_wp2_with (fail)
              go_meet
              case rel => exact ⟨by rw [HCC.out, decide_eq_false (show ¬ m < 1 by omega)]; simp; omega, rfl⟩
          case rest =>
            obtain ⟨rfl, rfl⟩ := hcut
            go_upto_if 125 with (fail)
            go_cut [] (fun wx => At w0 w wx c sb (.slice A k cap) ov (.slice MA m mcap) (D2 ++ one 8 (-1) nm0 cc))
            case first =>
              rcases bool_tf cc with rfl | rfl
              · have HA := Lib.hid (add_calls HAT.out.1 (by have := HL3.out; omega) 8 (-1) nm0)
                go_wp2_with (fail)
                refine HA.out.mono ?_
                rintro e w1 ⟨rfl, h1, h2⟩
                go_wp2_with (fail)
                go_meet
                case rel => exact HAT.out.to h1 h2
              · have HD := Lib.hid (one_false D2 8 (-1) nm0 rfl)
                go_wp2_with (fail)
                go_meet
                case rel => exact HD.out ▸ HAT.out
            case rest =>
              have HAU := Lib.hid hcut
              have HLU := Lib.hid (show (D2 ++ one 8 (-1) nm0 cc).length ≤ 10003002 by rw [List.length_append]; have := one_len 8 (-1) nm0 cc; have := HL3.out; omega)
              obtain ⟨D3, hD3⟩ : ∃ D3, D3 = D2 ++ one 8 (-1) nm0 cc := ⟨_, rfl⟩
              rw [← hD3] at HAU HLU
              have HD3 := Lib.hid hD3.symm
              clear hD3 hcut c0 s2 HAT
              have c0 := HAU.out.1.c0
              have s2 := HAU.out.1.s2
              go_wp2_with (fail)
              clear c0 s2
              go_loopw [136] (fun i wr => ∃ j : Nat, i = .int .i64 j ∧ j ≤ m ∧ At w0 w wr c sb (.slice A k cap) ov (.slice MA m mcap) (D3 ++ (List.range j).flatMap (fun (i : Nat) => one 8 (i : Int) nm0 (madB S i)))) (fun i _ => m - (intOf i).toNat)
              case atStart => exact ⟨0, rfl, by omega, by simpa using HAU.out⟩
              case round =>
                obtain ⟨j, rfl, hj, hat⟩ := hrel
                have HAT := Lib.hid hat
                have HLK := Lib.hid (show (D3 ++ (List.range j).flatMap (fun (i : Nat) => one 8 (i : Int) nm0 (madB S i))).length ≤ 10004002 by rw [List.length_append]; have := flat_len (c := 1) (f := fun (i : Nat) => one 8 (i : Int) nm0 (madB S i)) (fun _ => one_len _ _ _ _) j; have := HLU.out; omega)
                have HFS := Lib.hid (flat_succ (fun (i : Nat) => one 8 (i : Int) nm0 (madB S i)) j)
                clear hat HAU
                by_cases hp : j < m
                · obtain ⟨-, hcap, g, off, rfl, hcell⟩ := (HS.out.mad.keep HAT.out.1.bel).at_ (i := j) (by rw [HMM.out]; exact hp)
                  have q0 : wr.cell? ⟨g, off + j, none⟩ = some (.int .i64 (S.mad j)) := by have := hcell 0 (by omega); rw [Nat.mul_one] at this; exact this
                  have hp1 : (j : Int) < m := by omega
                  clear hcell
                  obtain ⟨bb, hbb⟩ : ∃ b, b = madB S j := ⟨_, rfl⟩
                  have HBB := Lib.hid (show bb = (decide (S.mad j < 0) || decide (32 < S.mad j)) from hbb)
                  have HFT := Lib.hid (show D3 ++ List.flatMap (fun (i : Nat) => one 8 (i : Int) nm0 (madB S i)) (List.range (j + 1)) = (D3 ++ List.flatMap (fun (i : Nat) => one 8 (i : Int) nm0 (madB S i)) (List.range j)) ++ one 8 (j : Int) nm0 bb by rw [HFS.out, List.append_assoc, hbb])
                  clear hbb HFS
                  generalize S.mad j = z at *
                  go_upto_region 17 with (fail)
                  go_cut [146] (fun s wx => s = .bool bb ∧ wr = wx)
                  case first =>
                    by_cases h1 : z < 0
                    · go_wp2_with (fail)
                      go_meet
                      case rel => exact ⟨by rw [HBB.out]; simp [h1], rfl⟩
                    · go_wp2_with (fail)
                      go_meet
                      case rel => exact ⟨by rw [HBB.out]; simp; omega, rfl⟩
                  case rest =>
                    obtain ⟨rfl, rfl⟩ := hcut
                    rcases bool_tf bb with rfl | rfl
                    · have HA := Lib.hid (add_calls HAT.out.1 (by have := HLK.out; omega) 8 (j : Int) nm0)
                      go_wp2_with (fail)
                      refine HA.out.mono ?_
                      rintro e w1 ⟨rfl, h1, h2⟩
                      have HR := Lib.hid (HAT.out.to h1 h2)
                      clear h1 h2
                      go_wp2_with (fail)
                      go_roundw
                      case rel => exact ⟨j + 1, by go_num, by omega, by rw [HFT.out]; exact HR.out⟩
                      case measure =>
                        simp only [intOf]
                        omega
                    · have HD := Lib.hid (one_false (D3 ++ List.flatMap (fun (i : Nat) => one 8 (i : Int) nm0 (madB S i)) (List.range j)) 8 (j : Int) nm0 rfl)
                      go_wp2_with (fail)
                      go_roundw
                      case rel => exact ⟨j + 1, by go_num, by omega, by rw [HFT.out, ← HD.out]; exact HAT.out⟩
                      case measure =>
                        simp only [intOf]
                        omega
                · have e : j = m := by omega
                  subst e
                  go_wp2_with (fail)
                  go_end0
                  refine ⟨rfl, ?_⟩
                  have := HAT.out
                  rw [HNN.out, HMM.out, HNF.out]
                  rw [← HD3.out, ← HD2.out, ← HD1.out] at this
                  simpa only [List.append_assoc] using this
end Go.Proofs.Ytenlffhoinialaa
