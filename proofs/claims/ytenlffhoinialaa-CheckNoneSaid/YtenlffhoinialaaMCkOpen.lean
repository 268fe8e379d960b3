/- check: open. -/
import Derived.Test.YtenlffhoinialaaMCkBodS
import Derived.IntWalk
namespace Go.Proofs.Ytenlffhoinialaa
open Go.RowKit
set_option maxHeartbeats 2000000
attribute [local go_sem ↓] Go.wp_at_zero Go.wp_at_succ

def dirAt (S : St) (num : Int) : Bool := match firstIx S num with
  | some i => S.dir i
  | none => true
/-- A descriptor that is none, but for its place. -/
def b9a (S : St) (i : Nat) : Bool := dirAt S (S.on i) || decide (S.oc i < 0) || decide ((S.made.length : Int) ≤ S.oc i) || decide (S.of i < 0) || decide (4 ≤ S.of i)
def b9 (S : St) (i : Nat) : Bool := b9a S i || (decide (0 < i) && (decide (S.oc i < S.oc (i - 1)) || (S.oc (i - 1) == S.oc i && decide (S.of i ≤ S.of (i - 1)))))
def openAt (S : St) (i : Nat) : List Fnd := one 9 (S.on i) nm0 (b9 S i)
def openF (S : St) : List Fnd := (List.range S.opens.length).flatMap (openAt S)

set_option maxRecDepth 1000000 in
theorem open_calls {w0 w : World} {c sb : Nat} {iv ov mv : Value} {ev : Nat → Value} {S : St} {D : List Fnd} (h : Ck w0 w c sb iv ov mv D) (hS : StM w0 iv ov mv ev S) (hs : S.small) (hD : D.length ≤ 200000000) :
    Calls Try.prog 39 #[.pointer (some ⟨c, 0, none⟩)] w fun e w' => e = .returned (.tuple #[]) ∧ At w0 w w' c sb iv ov mv (D ++ openF S) := by
  obtain ⟨A, cap, rfl⟩ := hS.ino.form
  obtain ⟨MA, mcap, rfl⟩ := hS.mad.form
  obtain ⟨OA, ocap, rfl⟩ := hS.opn.form
  have hn := hs.no
  have HN0 := Lib.hid hs.ni
  have HC := Lib.hid h
  have HS := Lib.hid hS
  clear h hS hs
  have HNF := Lib.hid (show openF S = (List.range S.opens.length).flatMap (openAt S) from rfl)
  have HI := Lib.hid HS.out.ino
  have HO := Lib.hid HS.out.opn
  obtain ⟨n, hnn⟩ : ∃ n, S.opens.length = n := ⟨_, rfl⟩
  obtain ⟨m, hmm⟩ : ∃ n, S.made.length = n := ⟨_, rfl⟩
  obtain ⟨ni, hni⟩ : ∃ n, S.inodes.length = n := ⟨_, rfl⟩
  rw [hnn] at hn HNF HC HS HO
  rw [hmm] at HC HS
  rw [hni] at HC HS HI HN0
  have c0 := HC.out.c0
  have s1 := HC.out.s1
  have HNN := Lib.hid hnn
  have HMM := Lib.hid hmm
  have HNI := Lib.hid hni
  clear hnn hmm hni
  go_enter Try.func39, Try.ntmps39
  go_wp2_with (fail)
  clear c0 s1
  go_loopw [15] (fun i wr => ∃ k : Nat, i = .int .i64 k ∧ k ≤ n ∧ At w0 w wr c sb (.slice A ni cap) (.slice OA n ocap) (.slice MA m mcap) (D ++ (List.range k).flatMap (openAt S))) (fun i _ => n - (intOf i).toNat)
  case atStart => exact ⟨0, rfl, by omega, by simpa using At.start HC.out⟩
  case round =>
    obtain ⟨k, rfl, hk, hat⟩ := hrel
    have HAT := Lib.hid hat
    have HLK := Lib.hid (show (D ++ (List.range k).flatMap (openAt S)).length ≤ 200001000 by rw [List.length_append]; have := flat_len (f := openAt S) (c := 1) (fun _ => one_len _ _ _ _) k; omega)
    have HFS := Lib.hid (flat_succ (openAt S) k)
    clear hat
    by_cases hp : k < n
    · obtain ⟨D1, hD1⟩ : ∃ D1, D1 = D ++ (List.range k).flatMap (openAt S) := ⟨_, rfl⟩
      obtain ⟨bb, hbb⟩ : ∃ b, b = b9 S k := ⟨_, rfl⟩
      obtain ⟨ba, hba⟩ : ∃ b, b = b9a S k := ⟨_, rfl⟩
      rw [← hD1] at HAT HLK
      have HD1 := Lib.hid (show D ++ (List.range (k + 1)).flatMap (openAt S) = D1 ++ one 9 (S.on k) nm0 bb by rw [HFS.out, hD1, List.append_assoc, hbb]; rfl)
      have HBB := Lib.hid (show bb = (ba || (decide (0 < k) && (decide (S.oc k < S.oc (k - 1)) || (S.oc (k - 1) == S.oc k && decide (S.of k ≤ S.of (k - 1)))))) by rw [hbb, hba]; rfl)
      have HBA := Lib.hid (show ba = (dirAt S (S.on k) || decide (S.oc k < 0) || decide ((m : Int) ≤ S.oc k) || decide (S.of k < 0) || decide (4 ≤ S.of k)) by rw [hba, b9a, HMM.out])
      clear hD1 HFS HC hbb hba
      obtain ⟨-, hcap, g, off, rfl, hcell⟩ := (HO.out.keep HAT.out.1.bel).at_ hp
      have q0 : wr.cell? ⟨g, off + k * 3, none⟩ = some (.int .i64 (S.oc k)) := hcell 0 (by omega)
      have q1 : wr.cell? ⟨g, off + k * 3 + 1, none⟩ = some (.int .i64 (S.of k)) := hcell 1 (by omega)
      have q2 : wr.cell? ⟨g, off + k * 3 + 2, none⟩ = some (.int .i64 (S.on k)) := hcell 2 (by omega)
      have hp1 : (k : Int) < n := by omega
      clear hcell
      have HX := Lib.hid (Blk.new wr 60 #[.int .i64 (S.oc k), .int .i64 (S.of k), .int .i64 (S.on k)])
      have HAX := Lib.hid (HAT.out.alloc (Obj.cells #[.int .i64 (S.oc k), .int .i64 (S.of k), .int .i64 (S.on k)] 60))
      have hsz : w.heap.size ≤ wr.heap.size := HAT.out.2.size
      have HDI := Lib.hid (show dirAt S (S.on k) = match firstIx S (S.on k) with
        | some i => S.dir i
        | none => true from rfl)
      generalize S.oc k = oc at *
      generalize S.of k = fd at *
      generalize S.on k = x at *
      have hx2 : (wr.alloc (Obj.cells #[.int .i64 oc, .int .i64 fd, .int .i64 x] 60)).cell? ⟨wr.heap.size, 2, none⟩ = some (.int .i64 x) := HX.out.cell 2
      have HIN := HAX.out.1
      obtain ⟨pv, hpv⟩ : ∃ pv, pv = inoPtr (.slice A ni cap) (firstIx S x) := ⟨_, rfl⟩
      have HFI := Lib.hid (first_calls HAX.out.1.c0 HAX.out.1.s0 (by rw [HNI.out]; exact HI.out.keep HAX.out.1.bel) (by rw [HNI.out]; exact HN0.out) x)
      rw [← hpv] at HFI
      have HPV := Lib.hid hpv
      clear hpv HIN
      go_upto_region 3 with (fail)
      go_cut [4] (fun s wx => pv = s ∧ wr.alloc (Obj.cells #[.int .i64 oc, .int .i64 fd, .int .i64 x] 60) = wx)
      case first =>
        clear q0 q1 q2
        generalize wr.alloc (Obj.cells #[.int .i64 oc, .int .i64 fd, .int .i64 x] 60) = wy at *
        go_wp2_with (go_at_call 72; refine HFI.out.mono ?_; rintro e w' ⟨rfl, hw⟩; obtain rfl := hw.symm)
        go_meet
        case rel => exact ⟨rfl, rfl⟩
      case rest =>
        obtain ⟨rfl, rfl⟩ := hcut
        clear q0 q1 q2 hx2 HFI HAT
        generalize wr.alloc (Obj.cells #[.int .i64 oc, .int .i64 fd, .int .i64 x] 60) = wy at *
        generalize wr.heap.size = xg at *
        go_upto_region 4 with (fail)
        go_cut [5] (fun s wx => s = .bool ba ∧ ∃ d, wx = wy.drewN d)
        case first =>
          have x0 : wy.cell? ⟨xg, 0, none⟩ = some (.int .i64 oc) := HX.out.cell 0
          have x1 : wy.cell? ⟨xg, 1, none⟩ = some (.int .i64 fd) := HX.out.cell 1
          have c0 := HAX.out.1.c0
          have s2 := HAX.out.1.s2
          rcases hfi : firstIx S x with _ | i
          · obtain rfl : pv = .pointer none := by rw [HPV.out, hfi]; rfl
            have HBA := Lib.hid (show ba = true by rw [HBA.out, HDI.out, hfi]; rfl)
            clear hfi HPV HDI
            go_quiet (fail)
            go_wp2_with (fail)
            go_meet
            case rel => exact ⟨by rw [HBA.out], _, rfl⟩
          · obtain ⟨-, -, g', off', rfl, hcell⟩ := (HI.out.keep HAX.out.1.bel).at_ (i := i) (by
              have h2 := hfi
              unfold firstIx at h2
              rw [List.find?_range_eq_some] at h2
              have := h2.2.1
              rw [HNI.out] at this
              simpa using this)
            obtain rfl : pv = .pointer (some ⟨g', off' + i * 4, none⟩) := by rw [HPV.out, hfi]; rfl
            have y1 : wy.cell? ⟨g', off' + i * 4 + 1, none⟩ = some (.bool (S.dir i)) := hcell 1 (by omega)
            have HBA := Lib.hid (show ba = (S.dir i || decide (oc < 0) || decide ((m : Int) ≤ oc) || decide (fd < 0) || decide (4 ≤ fd)) by rw [HBA.out, HDI.out, hfi])
            clear hfi HPV HDI hcell
            generalize S.dir i = dv at *
            rcases bool_tf dv with rfl | rfl
            · go_quiet (fail)
              go_wp2_with (fail)
              go_meet
              case rel => exact ⟨by rw [HBA.out]; rfl, _, rfl⟩
            · by_cases h1 : oc < 0
              · go_quiet (fail)
                go_wp2_with (fail)
                go_meet
                case rel => exact ⟨by rw [HBA.out]; simp [h1], _, rfl⟩
              · have h1' : decide (oc < 0) = false := decide_eq_false h1
                by_cases h2 : (m : Int) ≤ oc
                · go_quiet (fail)
                  go_wp2_with (fail)
                  go_meet
                  case rel => exact ⟨by rw [HBA.out]; simp [h2], _, rfl⟩
                · have h2' : decide ((m : Int) ≤ oc) = false := decide_eq_false h2
                  by_cases h3 : fd < 0
                  · go_quiet (fail)
                    go_wp2_with (fail)
                    go_meet
                    case rel => exact ⟨by rw [HBA.out]; simp [h3], _, rfl⟩
                  · have h3' : decide (fd < 0) = false := decide_eq_false h3
                    go_quiet (fail)
                    go_wp2_with (fail)
                    go_meet
                    case rel => exact ⟨by rw [HBA.out, h1', h2', h3']; rfl, _, rfl⟩
        case rest =>
          obtain ⟨rfl, d, rfl⟩ := hcut
          have HAY := Lib.hid (HAX.out.drewN d)
          have HXY := Lib.hid (show Blk (wy.drewN d) xg 60 #[.int .i64 oc, .int .i64 fd, .int .i64 x] from HX.out)
          clear HAX HX HBA HPV HDI
          generalize wy.drewN d = wz at *
          go_upto_if 61 with (fail)
          go_cut [5] (fun s wx => s = .bool bb ∧ At w0 w wx c sb (.slice A ni cap) (.slice (some ⟨g, off, none⟩) n ocap) (.slice MA m mcap) D1 ∧ Blk wx xg 60 #[.int .i64 oc, .int .i64 fd, .int .i64 x])
          case first =>
            by_cases hk0 : 0 < k
            · obtain ⟨p, rfl⟩ : ∃ p, k = p + 1 := ⟨k - 1, by omega⟩
              obtain ⟨-, -, g', off', e, hcell⟩ := (HO.out.keep HAY.out.1.bel).at_ (i := p) (by omega)
              injection e with e
              injection e with e1 e2
              subst e1 e2
              have r0 : wz.cell? ⟨g, off + p * 3, none⟩ = some (.int .i64 (S.oc p)) := hcell 0 (by omega)
              have r1 : wz.cell? ⟨g, off + p * 3 + 1, none⟩ = some (.int .i64 (S.of p)) := hcell 1 (by omega)
              have r2 : wz.cell? ⟨g, off + p * 3 + 2, none⟩ = some (.int .i64 (S.on p)) := hcell 2 (by omega)
              have c0 := HAY.out.1.c0
              have s1 := HAY.out.1.s1
              have hk1 : decide (0 < p + 1) = true := decide_eq_true hk0
              have HBB := Lib.hid (show bb = (ba || (decide (oc < S.oc p) || (S.oc p == oc && decide (fd ≤ S.of p)))) by have := HBB.out; rw [hk1] at this; simpa using this)
              clear hcell
              generalize S.oc p = oq at *
              generalize S.of p = fq at *
              generalize S.on p = nq at *
              have HEB := Lib.hid (Blk.new wz 60 #[.int .i64 oq, .int .i64 fq, .int .i64 nq])
              have HAE := Lib.hid (HAY.out.alloc (Obj.cells #[.int .i64 oq, .int .i64 fq, .int .i64 nq] 60))
              have HXE := Lib.hid (HXY.out.alloc (Obj.cells #[.int .i64 oq, .int .i64 fq, .int .i64 nq] 60))
              have x0 : (wz.alloc (Obj.cells #[.int .i64 oq, .int .i64 fq, .int .i64 nq] 60)).cell? ⟨xg, 0, none⟩ = some (.int .i64 oc) := HXE.out.cell 0
              have x1 : (wz.alloc (Obj.cells #[.int .i64 oq, .int .i64 fq, .int .i64 nq] 60)).cell? ⟨xg, 1, none⟩ = some (.int .i64 fd) := HXE.out.cell 1
              rcases bool_tf ba with rfl | rfl
              · go_wp2_with (fail)
                go_meet
                case rel => exact ⟨by rw [HBB.out]; rfl, HAE.out, HXE.out⟩
              · by_cases h1 : oc < oq
                · go_wp2_with (fail)
                  go_meet
                  case rel => exact ⟨by rw [HBB.out]; simp [h1], HAE.out, HXE.out⟩
                · have h1' : decide (oc < oq) = false := decide_eq_false h1
                  by_cases h2 : (oq == oc) = true
                  · go_wp2_with (fail)
                    go_meet
                    case rel => exact ⟨by rw [HBB.out, h1', h2]; rfl, HAE.out, HXE.out⟩
                  · have h2 := Bool.eq_false_iff.2 h2
                    go_wp2_with (fail)
                    go_meet
                    case rel => exact ⟨by rw [HBB.out, h1', h2]; rfl, HAE.out, HXE.out⟩
            · have hk1 : decide (0 < k) = false := decide_eq_false hk0
              have HBB := Lib.hid (show bb = ba by have := HBB.out; rw [hk1] at this; simpa using this)
              go_wp2_with (fail)
              go_meet
              case rel => exact ⟨by rw [HBB.out], HAY.out, HXY.out⟩
          case rest =>
            have hb5 := hcut.1
            have HAZ := Lib.hid hcut.2.1
            have HXZ := Lib.hid hcut.2.2
            clear hcut HAY HXY
            subst hb5
            rcases bool_tf bb with rfl | rfl
            · have x2 : wc.cell? ⟨xg, 2, none⟩ = some (.int .i64 x) := HXZ.out.cell 2
              have HA := Lib.hid (add_calls HAZ.out.1 (by have := HLK.out; omega) 9 x nm0)
              go_wp2_with (fail)
              refine HA.out.mono ?_
              rintro e w1 ⟨rfl, h1, h2⟩
              have HR := Lib.hid (HAZ.out.to h1 h2)
              clear h1 h2
              go_wp2_with (fail)
              go_roundw
              case rel => exact ⟨k + 1, by go_num, by omega, by rw [HD1.out]; exact HR.out⟩
              case measure =>
                simp only [intOf]
                omega
            · have HD := Lib.hid (one_false D1 9 x nm0 rfl)
              go_wp2_with (fail)
              go_roundw
              case rel => exact ⟨k + 1, by go_num, by omega, by rw [HD1.out, ← HD.out]; exact HAZ.out⟩
              case measure =>
                simp only [intOf]
                omega
    · have e : k = n := by omega
      subst e
      go_wp2_with (fail)
      go_end0
      exact ⟨rfl, by rw [HNN.out, HNI.out, HMM.out, HNF.out]; exact HAT.out⟩
end Go.Proofs.Ytenlffhoinialaa
