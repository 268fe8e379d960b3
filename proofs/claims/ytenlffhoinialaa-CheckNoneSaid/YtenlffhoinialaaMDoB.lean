/- The document's Code, Parse. The document's Walk, Find, Parent, under the invariant. (Printed in part by genheld.py.) The document's Find, Parent, under the invariant. (Printed in part by genheld.py.) The document's full, under the invariant. (Printed in part by genheld.py.) -/
import Derived.Test.YtenlffhoinialaaMDo6
import Derived.Test.YtenlffhoinialaaMDoF
section
namespace Go.Proofs.Ytenlffhoinialaa
open Go.RowKit
set_option maxHeartbeats 1000000
attribute [local go_sem ↓] Go.wp_at_zero Go.wp_at_succ
def codeP (e : Int) : Int := if e = 0 then 0 else if e = 1101 then 6 else if e = 1102 then 6 else 9
theorem codeP_ne {e : Int} (h : e ≠ 0) : codeP e ≠ 0 := by
  unfold codeP
  rw [if_neg h]
  split
  · decide
  · split <;> decide
set_option maxRecDepth 1000000 in
theorem Code_calls (x : Int) (w : World) : Calls Try.prog 137 #[.int .i64 x] w fun e w' => e = .returned (.int .i64 (codeP x)) ∧ w' = w := by
  by_cases h : x = 0
  · subst h
    go_enter Try.func137, Try.ntmps137
    go_wp2_with (fail)
    go_ret
    exact ⟨rfl, rfl⟩
  · have hx : (x == 0) = false := by rw [beq_eq_false_iff_ne]; exact h
    by_cases h1 : x = 1101
    · subst h1
      go_enter Try.func137, Try.ntmps137
      go_wp2_with (fail)
      go_ret
      exact ⟨rfl, rfl⟩
    · have hx1 : (x == 1101) = false := by rw [beq_eq_false_iff_ne]; exact h1
      by_cases h2 : x = 1102
      · subst h2
        go_enter Try.func137, Try.ntmps137
        go_wp2_with (fail)
        go_ret
        exact ⟨rfl, rfl⟩
      · have hx2 : (x == 1102) = false := by rw [beq_eq_false_iff_ne]; exact h2
        have H := Lib.hid (show codeP x = 9 by unfold codeP; rw [if_neg h, if_neg h1, if_neg h2])
        clear h h1 h2
        go_enter Try.func137, Try.ntmps137
        go_wp2_with (fail)
        go_ret
        exact ⟨by rw [H.out]; rfl, rfl⟩
def encS (s : ByteArray) : List Value := [.string s]
theorem encS_len (s : ByteArray) : (encS s).length = 1 := rfl
theorem encS_one (s : ByteArray) : ∀ u ∈ encS s, u.oneCell' = true := by intro u hu; simp [encS] at hu; subst hu; rfl
theorem info_str1 : (Try.prog.info? 9).map (fun i => (i.zero, i.size, i.bytes)) = some (some (.string ⟨#[]⟩), 1, 16) := by kernel_rfl
def strC (L : List ByteArray) : Nat → Nat → Value := fun k _ => .string (L.getD k ByteArray.empty)
theorem cl_str (L : List ByteArray) : CL encS L (strC L) 1 := by
  intro k j hk hj
  have e : L.getD k ByteArray.empty = L[k] := getD_lt hk
  obtain rfl : j = 0 := by omega
  show some (Value.string _) = some (Value.string (L.getD k ByteArray.empty)); rw [e]
theorem ncheck_cases (s : ByteArray) : ncheck s = 0 ∨ ncheck s = 800 ∨ ncheck s = 801 := by
  unfold ncheck
  split
  · exact .inr (.inr rfl)
  · split
    · exact .inr (.inl rfl)
    · split
      · exact .inl rfl
      · exact .inr (.inl rfl)
/-- What Parse answers: the names, or an error. -/
def ParseR (w : World) (v : Value) (e : Int) : Prop := e ≠ 0 ∨ (e = 0 ∧ ∃ L : List ByteArray, RowAt w v L.length 1 (strC L) ∧ (∀ s ∈ L, ncheck s = 0) ∧ L.length ≤ 4)
set_option maxRecDepth 1000000 in
theorem Parse_calls (s : ByteArray) (w : World) : Calls Try.prog 136 #[.string s] w fun e w' => ∃ v x, e = .returned (.tuple #[v, .int .i64 x]) ∧ ParseR w' v x ∧ Below w.heap.size w w' := by
  obtain ⟨i0, hi, hz0, hz1, hz2⟩ := info_parts info_str1
  by_cases hs : 64 < s.size
  · have hs1 : (64 : Int) < (s.size : Int) := by omega
    go_enter Try.func136, Try.ntmps136
    go_wp2_with (fail)
    go_ret2
    exact ⟨_, 1101, rfl, .inl (by decide), Below.refl _ _⟩
  · have hs1 : ¬ (64 : Int) < (s.size : Int) := by omega
    by_cases h0 : s = ⟨#[]⟩
    · subst h0
      go_enter Try.func136, Try.ntmps136
      go_wp2_with (fail)
      go_ret2
      exact ⟨_, 1100, rfl, .inl (by decide), Below.refl _ _⟩
    · have h0' : (s.toList == []) = false := by
        rw [beq_eq_false_iff_ne]
        intro h
        exact h0 (toList_inj (by rw [h, ByteArray.toList_eq]))
      have hpos : 0 < s.size := by
        rcases Nat.eq_zero_or_pos s.size with q | q
        · exact absurd (by obtain ⟨d⟩ := s; have : d = #[] := Array.eq_empty_of_size_eq_zero q; rw [this]) h0
        · exact q
      clear h0
      go_enter Try.func136, Try.ntmps136
      go_wp2_with (fail)
      · go_ret2
        exact ⟨_, 1100, rfl, .inl (by decide), Below.refl _ _⟩
      · go_ret2
        exact ⟨_, 0, rfl, .inr ⟨rfl, [], RowAt.nil_ _ _ _, (fun _ h => by cases h), by decide⟩, Below.refl _ _⟩
      · go_loopw [4, 5, 6] (fun v fr i wr => ∃ (k f : Nat) (L : List ByteArray), i = .int .i64 k ∧ fr = .int .i64 f ∧ 1 ≤ f ∧ f ≤ k ∧ k ≤ s.size + 1 ∧ L.length ≤ k ∧ (∀ x ∈ L, ncheck x = 0) ∧ (∃ A cap, v = .slice A L.length cap) ∧ wr.ownsRow w.heap.size 9 1 v L.length (L.flatMap encS) ∧ Below w.heap.size w wr) (fun _ _ i _ => 70 - (intOf i).toNat)
        case atStart => exact ⟨1, 1, [], rfl, rfl, by omega, by omega, by omega, by simp, (fun _ h => by cases h), ⟨_, _, rfl⟩, World.ownsRow_nil _ _ _ _, Below.refl _ _⟩
        case round =>
          obtain ⟨k, f, L, rfl, rfl, hf1, hfk, hks, hLk, hLn, ⟨A, cap, rfl⟩, hown, hb⟩ := hrel
          have HO := Lib.hid hown
          have HB := Lib.hid hb
          have HLN := Lib.hid hLn
          have HLK := Lib.hid hLk
          clear hown hb hLn hLk
          by_cases hq : k ≤ s.size
          · have hq1 : (k : Int) ≤ (s.size : Int) := by omega
            obtain ⟨wo, hwo⟩ : ∃ wo : World, wo = wr := ⟨_, rfl⟩
            subst hwo
            go_upto_region 12 with (fail)
            go_cut [34] (fun u wx => ∃ b, u = .bool b ∧ wo = wx)
            case first =>
              by_cases hk1 : k < s.size
              · have hk2 : (k : Int) < (s.size : Int) := by omega
                go_wp2_with (fail)
                go_meet
                case rel => exact ⟨_, rfl, rfl⟩
              · have hk2 : ¬ (k : Int) < (s.size : Int) := by omega
                go_wp2_with (fail)
                go_meet
                case rel => exact ⟨_, rfl, rfl⟩
            case rest =>
              obtain ⟨b, rfl, rfl⟩ := hcut
              rcases bool_tf b with rfl | rfl
              · go_wp2_with (fail)
                go_roundw
                case rel => exact ⟨k + 1, f, L, by go_num, rfl, by omega, by omega, by omega, by have := HLK.out; omega, HLN.out, ⟨_, _, rfl⟩, HO.out, HB.out⟩
                case measure =>
                  simp only [intOf]
                  omega
              · have hfk1 : (f : Int) ≤ (k : Int) := by omega
                have HCK := Lib.hid (rcheck_any (s.extract f k) wo)
                rcases ncheck_cases (s.extract f k) with hc | hc | hc
                · have HCN := Lib.hid hc
                  rw [hc] at HCK
                  clear hc
                  go_upto_region 18 with (go_at_call 84; refine HCK.out.mono ?_; rintro e w2 ⟨rfl, d, rfl⟩)
                  have HO2 := Lib.hid (show (wo.drewN d).ownsRow w.heap.size 9 1 (.slice A L.length cap) L.length (L.flatMap encS) from HO.out)
                  have HB2 := Lib.hid (show Below w.heap.size w (wo.drewN d) from HB.out.trans ⟨rfl, rfl, rfl, Nat.le_refl _, fun _ _ => rfl⟩)
                  clear HO HB HCK
                  generalize wo.drewN d = w3 at *
                  have HO3 := Lib.hid (own_below HO2.out (below_alloc w3 (.cells #[.string (s.extract f k)] 9)))
                  have HB3 := Lib.hid (HB2.out.trans ((below_alloc w3 (.cells #[.string (s.extract f k)] 9)).mono HB2.out.size))
                  have HN3 := Lib.hid (Blk.new w3 9 #[.string (s.extract f k)])
                  go_wp2_with (at_builtin; refine wpList_app (enc := encS) _ rfl (.tmp 44) (.tmp 49) 45 9 rfl i0 _ 16 Try.underlying45 hi hz0 hz1 hz2 rfl (by decide) w.heap.size _ L rfl HO3.out (.slice (some ⟨w3.heap.size, 0, none⟩) 1 1) rfl [s.extract f k] (C := strC [s.extract f k]) (RowAt.blk HN3.out (Nat.le_refl _) (fun i j hi hj => by (obtain rfl : i = 0 := (by simpa using hi)); (obtain rfl : j = 0 := (by omega)); rfl)) (cl_str _) encS_len (fun x _ => encS_one x) (by have := HLK.out; simp; omega) (by decide) (by have := HB3.out.size; simpa using this) ?_; intro A6 n6 c6 w6 hn6 hown6 hgrow6; have HN6 := Lib.hid hn6; have HO6 := Lib.hid hown6; have HG6 := Lib.hid hgrow6; clear hn6 hown6 hgrow6)
                  go_roundw
                  case rel =>
                    refine ⟨k + 1, k + 1, L ++ [s.extract f k], by go_num, by go_num, by omega, by omega, by omega, by rw [List.length_append]; have := HLK.out; simp; omega, ?_, ⟨A6, c6, by rw [HN6.out]⟩, HO6.out, HB3.out.trans ⟨HG6.out.os, HG6.out.tape, HG6.out.output, HG6.out.size, fun q hq => HG6.out.block q (by have := HB3.out.size; omega) (fun e => by have := (HO3.out.lt q e.symm).1; omega)⟩⟩
                    intro x hx
                    rcases List.mem_append.1 hx with hx | hx
                    · exact HLN.out x hx
                    · simp at hx; subst hx; exact HCN.out
                  case measure =>
                    simp only [intOf]
                    omega
                · rw [hc] at HCK
                  clear hc
                  go_wp2_with (go_at_call 84; refine HCK.out.mono ?_; rintro e w2 ⟨rfl, d, rfl⟩)
                  go_ret2
                  exact ⟨_, 1100, rfl, .inl (by decide), HB.out.trans ⟨rfl, rfl, rfl, Nat.le_refl _, fun _ _ => rfl⟩⟩
                · rw [hc] at HCK
                  clear hc
                  go_wp2_with (go_at_call 84; refine HCK.out.mono ?_; rintro e w2 ⟨rfl, d, rfl⟩)
                  go_ret2
                  exact ⟨_, 1101, rfl, .inl (by decide), HB.out.trans ⟨rfl, rfl, rfl, Nat.le_refl _, fun _ _ => rfl⟩⟩
          · have hq1 : ¬ (k : Int) ≤ (s.size : Int) := by omega
            by_cases h4 : 4 < L.length
            · have h41 : (4 : Int) < (L.length : Int) := by omega
              go_wp2_with (fail)
              go_ret2
              exact ⟨_, 1102, rfl, .inl (by decide), HB.out⟩
            · have h41 : ¬ (4 : Int) < (L.length : Int) := by omega
              go_wp2_with (fail)
              go_ret2
              exact ⟨_, 0, rfl, .inr ⟨rfl, L, (own_rowT (by decide) encS_len HO.out (cl_str L)).at', HLN.out, by omega⟩, HB.out⟩
end Go.Proofs.Ytenlffhoinialaa
end

section
namespace Go.Proofs.Ytenlffhoinialaa
open Go.RowKit
set_option maxHeartbeats 2000000
attribute [local go_sem ↓] Go.wp_at_zero Go.wp_at_succ
/-- An inode is there, at a place. -/
def HasAt (S : St) (num : Int) (i : Nat) : Prop := i < S.inodes.length ∧ atF S num = (i : Int) ∧ S.num i = num ∧ firstIx S num = some i
def Has (S : St) (num : Int) : Prop := ∃ i, HasAt S num i
theorem Inv.has_mem {S : St} (h : Inv S) {y : Ino} (hy : y ∈ S.inodes) : Has S y.num := by
  obtain ⟨i, hi, e1, e2⟩ := h.firstIx_mem hy
  exact ⟨i, hi, by unfold atF; rw [e2]; rfl, by unfold St.num; rw [e1], e2⟩
theorem Inv.has_one {S : St} (h : Inv S) : Has S 1 := by
  obtain ⟨x, hx, h1, -⟩ := h.root
  have := h.has_mem (List.mem_of_getElem? hx)
  rwa [h1] at this
theorem HasAt.mem {S : St} {num : Int} {i : Nat} (h : HasAt S num i) : S.ino i ∈ S.inodes ∧ (S.ino i).num = num := ⟨Inv.ino_mem h.1, h.2.2.1⟩
theorem entF_at {S : St} {d : Int} {i : Nat} (h : HasAt S d i) (nm : ByteArray) : entF S d nm = entIn (S.ino i).ents nm := by
  unfold entF; rw [h.2.2.2]
theorem entIn_some {L : List (ByteArray × Int)} {nm : ByteArray} (h : entIn L nm ≠ 0) : (nm, entIn L nm) ∈ L := by
  unfold entIn at h ⊢
  cases hf : L.find? fun e => decide (e.1 = nm) with
  | none => rw [hf] at h; exact absurd rfl h
  | some e =>
    have h1 := List.find?_some hf
    have h2 := List.mem_of_find?_eq_some hf
    have h3 : e.1 = nm := by simpa using h1
    rw [← h3]
    exact h2
theorem entIn_zero {L : List (ByteArray × Int)} {nm : ByteArray} (hL : ∀ e ∈ L, e.2 ≠ 0) (h : entIn L nm = 0) : ∀ e ∈ L, e.1 ≠ nm := by
  intro e he hn
  unfold entIn at h
  cases hf : L.find? fun e => decide (e.1 = nm) with
  | none =>
    rw [List.find?_eq_none] at hf
    exact absurd hn (by simpa using hf e he)
  | some q =>
    rw [hf] at h
    exact hL q (List.mem_of_find?_eq_some hf) h
theorem Inv.ent_pos {S : St} (h : Inv S) {x : Ino} (hx : x ∈ S.inodes) : ∀ e ∈ x.ents, e.2 ≠ 0 := by
  intro e he
  obtain ⟨-, y, hy, h2⟩ := h.goal x hx e he
  have := h.num_bound hy
  omega
theorem Inv.has_ent {S : St} (h : Inv S) {d : Int} {i : Nat} (hd : HasAt S d i) {nm : ByteArray} (hn : entF S d nm ≠ 0) : Has S (entF S d nm) := by
  rw [entF_at hd] at hn ⊢
  obtain ⟨-, y, hy, h2⟩ := h.goal _ hd.mem.1 _ (entIn_some hn)
  have := h.has_mem hy
  rwa [h2] at this
/-- What Find answers. -/
def FindR (S : St) (num code : Int) : Prop := code ≠ 0 ∨ (code = 0 ∧ Has S num)
set_option maxRecDepth 1000000 in
theorem Walk_calls {w : World} {iv ov mv : Value} {ev : Nat → Value} {S : St} (hS : StM w iv ov mv ev S) (hI : Inv S) {nv : Value} {L : List ByteArray} (hL : RowAt w nv L.length 1 (strC L)) (hl4 : L.length ≤ 4) :
    Calls Try.prog 138 #[.agg #[iv, ov, mv], nv] w fun e w' => ∃ num code tv, e = .returned (.tuple #[.int .i64 num, .int .i64 code, tv]) ∧ FindR S num code ∧ Below w.heap.size w w' := by
  obtain ⟨i0_, hi, hz0, hz1, hz2⟩ := info_parts info_int1
  obtain ⟨A, cap, rfl⟩ := hS.ino.form
  obtain ⟨SA, scap, rfl⟩ := hL.form
  obtain ⟨OA, ocap, hov⟩ := hS.opn.form
  obtain ⟨MA, mcap, hmv⟩ := hS.mad.form
  have HI := Lib.hid hI
  have hni := hI.ni
  have HCA0 := Lib.hid (fun W hW x => At_calls (S := S) (w := W) (iv := .slice A S.inodes.length cap) (ov := ov) (mv := mv) (ev := ev) hW (by omega) x)
  have HCE0 := Lib.hid (fun W hW d nm => Entry_calls (S := S) (w := W) (iv := .slice A S.inodes.length cap) (ov := ov) (mv := mv) (ev := ev) hW (by omega) hI.small.en d nm)
  have HS := Lib.hid hS
  have HL := Lib.hid hL
  obtain ⟨n, hnn⟩ : ∃ n, S.inodes.length = n := ⟨_, rfl⟩
  have HNN := Lib.hid hnn
  rw [hnn] at HCA0 HCE0 HS ⊢
  obtain ⟨len, hlen⟩ : ∃ n, L.length = n := ⟨_, rfl⟩
  rw [hlen] at HL hl4 ⊢
  generalize S.opens.length = no at *
  generalize S.made.length = nm_ at *
  subst hov hmv
  have HB0 := Lib.hid (below_alloc w (.cells #[.slice A n cap, .slice OA no ocap, .slice MA nm_ mcap] 26))
  have HP0 := Lib.hid (Blk.new w 26 #[.slice A n cap, .slice OA no ocap, .slice MA nm_ mcap])
  clear hS hI hL hnn hlen
  go_enter Try.func138, Try.ntmps138
  go_wp2_with (fail)
  obtain ⟨p, hp⟩ : ∃ p, p = w.heap.size := ⟨_, rfl⟩
  have HP := Lib.hid hp
  rw [← hp] at HB0 HP0 ⊢
  clear hp
  generalize w.alloc (.cells #[.slice A n cap, .slice OA no ocap, .slice MA nm_ mcap] 26) = W0 at *
  go_loopw [7, 8, 9] (fun at_ tv i wr => ∃ (k : Nat) (a : Int) (Ts : List Int), i = .int .i64 k ∧ at_ = .int .i64 a ∧ k ≤ len ∧ Has S a ∧ Ts.length = k ∧ (∃ TA tc, tv = .slice TA k tc) ∧ wr.ownsRow p 3 1 tv Ts.length (Ts.flatMap encM) ∧ Below p w wr ∧ Blk wr p 26 #[.slice A n cap, .slice OA no ocap, .slice MA nm_ mcap]) (fun _ _ i _ => len - (intOf i).toNat)
  case atStart => exact ⟨0, 1, [], rfl, rfl, by omega, HI.out.has_one, rfl, ⟨_, _, rfl⟩, World.ownsRow_nil _ _ _ _, HB0.out, HP0.out⟩
  case round =>
    obtain ⟨k, a, Ts, rfl, rfl, hk, ⟨i, hha⟩, hTl, ⟨TA, tc, rfl⟩, hown, hb, hpb⟩ := hrel
    have HHA := Lib.hid hha
    have HO := Lib.hid hown
    have HB := Lib.hid hb
    have HPB := Lib.hid hpb
    have HTL := Lib.hid hTl
    have p0 : wr.cell? ⟨p, 0, none⟩ = some (.slice A n cap) := hpb.cell 0
    have p1 : wr.cell? ⟨p, 1, none⟩ = some (.slice OA no ocap) := hpb.cell 1
    have p2 : wr.cell? ⟨p, 2, none⟩ = some (.slice MA nm_ mcap) := hpb.cell 2
    clear hown hb hpb hTl hha
    by_cases hq : k < len
    · have hq1 : (k : Int) < (len : Int) := by omega
      have HSR := Lib.hid (HS.out.keep (by rw [← HP.out]; exact HB.out))
      have HCA := Lib.hid (HCA0.out wr HSR.out a)
      rw [HHA.out.2.1] at HCA
      have hil : i < n := by have := HHA.out.1; rwa [HNN.out] at this
      have hil1 : (i : Int) < (n : Int) := by omega
      go_upto_region 7 with (go_at_call 83; refine HCA.out.mono ?_; rintro e w3 ⟨rfl, hB3⟩; have HB3 := Lib.hid hB3; clear hB3)
      have HPC := Lib.hid (HPB.out.below HB3.out)
      have HBC := Lib.hid (HB.out.trans (HB3.out.mono (Nat.le_of_lt HPB.out.lt)))
      have HOC := Lib.hid (own_below HO.out HB3.out)
      have HSC := Lib.hid (HSR.out.keep HB3.out)
      clear p0 p1 p2 HCA HPB HB HO HSR
      have p0 : w3.cell? ⟨p, 0, none⟩ = some (.slice A n cap) := HPC.out.cell 0
      obtain ⟨-, -, ig, ioff, rfl, hcell⟩ := (show RowAt w3 (.slice A n cap) n 4 (inoC S ev) by have := HSC.out.ino; rwa [HNN.out] at this).at_ hil
      have q1 : w3.cell? ⟨ig, ioff + i * 4 + 1, none⟩ = some (.bool (S.dir i)) := hcell 1 (by omega)
      clear hcell
      generalize S.dir i = dv at *
      rcases bool_tf dv with rfl | rfl
      · have hkl : Ts.length + 1 ≤ 100 := by have := HTL.out; omega
        have HO4 := Lib.hid (own_below HOC.out (below_alloc w3 (.cells #[.int .i64 a] 3)))
        have HN4 := Lib.hid (Blk.new w3 3 #[.int .i64 a])
        have HP4 := Lib.hid (HPC.out.alloc (.cells #[.int .i64 a] 3))
        have HB4 := Lib.hid (HBC.out.trans ((below_alloc w3 (.cells #[.int .i64 a] 3)).mono (Nat.le_of_lt HPC.out.lt)))
        go_upto_region 10 with (at_builtin; refine wpList_app (enc := encM) _ rfl (.tmp 28) (.tmp 30) 24 3 rfl i0_ _ 8 Try.underlying24 hi hz0 hz1 hz2 rfl (by decide) p _ Ts rfl HO4.out (.slice (some ⟨w3.heap.size, 0, none⟩) 1 1) rfl [a] (C := fun _ _ => .int .i64 a) (RowAt.blk HN4.out (Nat.le_refl _) (fun i j hi hj => by (obtain rfl : i = 0 := (by simpa using hi)); (obtain rfl : j = 0 := (by omega)); rfl)) (fun i j hi hj => by (obtain rfl : i = 0 := (by simpa using hi)); (obtain rfl : j = 0 := (by omega)); rfl) encM_len (fun x _ => encM_one x) (by simp; omega) (by decide) (by have := HP4.out.lt; omega) ?_; intro A6 n6 c6 w6 hn6 hown6 hgrow6; have HN6 := Lib.hid hn6; have HO6 := Lib.hid hown6; have HG6 := Lib.hid hgrow6; clear hn6 hown6 hgrow6)
        have HB6 := Lib.hid (show Below p w w6 from HB4.out.trans ⟨HG6.out.os, HG6.out.tape, HG6.out.output, HG6.out.size, fun q hq => HG6.out.block q (by have := HP4.out.lt; omega) (fun e => by have := (HO4.out.lt q e.symm).1; omega)⟩)
        have HP6 := Lib.hid (blk_grown HG6.out HP4.out (own_blk_ne HO4.out HP4.out (by decide)))
        have HS6 := Lib.hid (HS.out.keep (by rw [← HP.out]; exact HB6.out))
        obtain ⟨-, hscap, sg, soff, rfl, hscell⟩ := (HL.out.keep (by rw [← HP.out]; exact HB6.out)).at_ hq
        have z0 : w6.cell? ⟨sg, soff + k, none⟩ = some (.string (L.getD k ByteArray.empty)) := by have := hscell 0 (by omega); rwa [Nat.mul_one] at this
        clear hscell p0 q1 HO4 HN4 HP4 HB4 HOC HBC HPC HSC HB3
        generalize L.getD k ByteArray.empty = nm at *
        have p0 : w6.cell? ⟨p, 0, none⟩ = some (.slice (some ⟨ig, ioff, none⟩) n cap) := HP6.out.cell 0
        have p1 : w6.cell? ⟨p, 1, none⟩ = some (.slice OA no ocap) := HP6.out.cell 1
        have p2 : w6.cell? ⟨p, 2, none⟩ = some (.slice MA nm_ mcap) := HP6.out.cell 2
        have HCE := Lib.hid (HCE0.out w6.drew (HS6.out.keep (show Below w6.heap.size w6 w6.drew from ⟨rfl, rfl, rfl, Nat.le_refl _, fun _ _ => rfl⟩)) a nm)
        have HEH := Lib.hid (fun (h : entF S a nm ≠ 0) => HI.out.has_ent HHA.out h)
        generalize entF S a nm = en at *
        have ek : IntKind.i64.wrap (k : Int) = (k : Int) := IntWalk.i64_in _ (by omega)
        have ek0 : (0 : Int) ≤ (k : Int) := by omega
        go_cut [7] (fun s wx => s = .int .i64 en ∧ Below w6.heap.size w6 wx)
        case first =>
            refine wp_region_held_drew (S := fun w' => w'.cell? ⟨p, 0, none⟩ = some (.slice (some ⟨ig, ioff, none⟩) n cap) ∧ w'.cell? ⟨p, 1, none⟩ = some (.slice OA no ocap) ∧ w'.cell? ⟨p, 2, none⟩ = some (.slice MA nm_ mcap) ∧ w'.cell? ⟨sg, soff + k, none⟩ = some (.string nm)) (by kernel_rfl) (⟨p0, p1, p2, z0⟩) (fun hHeld => ?_)
            refine wpAnyH_take (i := 0) (oi := ⟨some 32, _, _, _, _, _⟩) (v := .agg #[.slice (some ⟨ig, ioff, none⟩) n cap, .slice OA no ocap, .slice MA nm_ mcap]) rfl (by kernel_rfl) (by kernel_rfl) (by kernel_rfl) (fun _ _ _ h => h) (Or.inl ⟨by kernel_rfl, fun w hSw => by go_simp⟩) (by assumption) ?_
            simp only [Act.put, lTA, lC0, lCS]
            refine wpAnyH_take (i := 1) (oi := ⟨some 33, _, _, _, _, _⟩) (v := .int .i64 a) rfl (by kernel_rfl) (by kernel_rfl) (by kernel_rfl) (fun _ _ _ h => h) (Or.inl ⟨by kernel_rfl, fun w hSw => by go_simp⟩) (by assumption) ?_
            simp only [Act.put, lTA, lC0, lCS]
            refine wpAnyH_take (i := 2) (oi := ⟨some 34, _, _, _, _, _⟩) (v := .slice (some ⟨sg, soff, none⟩) len scap) rfl (by kernel_rfl) (by kernel_rfl) (by kernel_rfl) (fun _ _ _ h => h) (Or.inl ⟨by kernel_rfl, fun w hSw => by go_simp⟩) (by assumption) ?_
            simp only [Act.put, lTA, lC0, lCS]
            refine wpAnyH_take (i := 3) (oi := ⟨some 35, _, _, _, _, _⟩) (v := .int .i64 k) rfl (by kernel_rfl) (by kernel_rfl) (by kernel_rfl) (fun _ _ _ h => h) (Or.inl ⟨by kernel_rfl, fun w hSw => by go_simp⟩) (by assumption) ?_
            simp only [Act.put, lTA, lC0, lCS]
            refine wpAnyH_take (i := 4) (oi := ⟨some 36, _, _, _, _, _⟩) (v := .pointer (some ⟨sg, soff + k, none⟩)) rfl (by kernel_rfl) (by kernel_rfl) (by kernel_rfl) (fun _ _ _ h => h) (Or.inl ⟨by kernel_rfl, fun w hSw => by go_simp⟩) (by assumption) ?_
            simp only [Act.put, lTA, lC0, lCS]
            refine wpAnyH_take (i := 5) (oi := ⟨some 37, _, _, _, _, _⟩) (v := .string nm) rfl (by kernel_rfl) (by kernel_rfl) (by kernel_rfl) (fun _ _ _ h => h) (Or.inl ⟨by kernel_rfl, fun w hSw => by go_simp⟩) (by assumption) ?_
            simp only [Act.put, lTA, lC0, lCS]
            refine wpAnyH_ready (rs := [6]) (by kernel_rfl) (by simp) ?_
            refine AllReadyH.cons rfl (fun K hK => ?_) AllReadyH.nil
            go_simp
            refine HCE.out.mono ?_
            rintro e w5 ⟨rfl, hB5⟩
            show K _ _
            refine hK.out _ _ (⟨(hB5.cell (World.block_lt_of_cell? _ _ hHeld.1)).trans hHeld.1, (hB5.cell (World.block_lt_of_cell? _ _ hHeld.2.1)).trans hHeld.2.1, (hB5.cell (World.block_lt_of_cell? _ _ hHeld.2.2.1)).trans hHeld.2.2.1, (hB5.cell (World.block_lt_of_cell? _ _ hHeld.2.2.2)).trans hHeld.2.2.2⟩) (fun hHeld => ?_)
            clear hK K
            refine wpAnyH_take (i := 7) (oi := ⟨some 7, _, _, _, _, _⟩) (v := .int .i64 en) rfl (by kernel_rfl) (by kernel_rfl) (by kernel_rfl) (fun _ _ _ h => h) (Or.inl ⟨by kernel_rfl, fun w hSw => by go_simp⟩) (by assumption) ?_
            simp only [Act.put, lTA, lC0, lCS]
            refine wpAnyH_done (by kernel_rfl) ?_ _
            go_wp2_with (fail)
            go_meet
            case rel => exact ⟨rfl, Below.trans (b := w6.drew) ⟨rfl, rfl, rfl, Nat.le_refl _, fun _ _ => rfl⟩ hB5⟩
        case rest =>
          obtain ⟨rfl, hbc⟩ := hcut
          have HPz := Lib.hid (HP6.out.below hbc)
          have HBz := Lib.hid (HB6.out.trans (hbc.mono (Nat.le_of_lt HP6.out.lt)))
          have HOz := Lib.hid (own_below HO6.out hbc)
          clear p0 p1 p2 z0 hbc HCE HS6
          by_cases h0 : en = 0
          · subst h0
            go_wp2_with (fail)
            go_ret3
            exact ⟨_, 1, _, rfl, .inl (by decide), by rw [← HP.out]; exact HBz.out⟩
          · have h0' : (en == 0) = false := by rw [beq_eq_false_iff_ne]; exact h0
            have HEH := Lib.hid (HEH.out h0)
            clear h0
            go_wp2_with (fail)
            go_roundw
            case rel => exact ⟨k + 1, en, Ts ++ [a], by go_num, rfl, by omega, HEH.out, by rw [List.length_append, HTL.out]; rfl, ⟨A6, c6, by rw [HN6.out, List.length_append, HTL.out]; rfl⟩, HOz.out, HBz.out, HPz.out⟩
            case measure =>
              simp only [intOf]
              omega
      · go_wp2_with (fail)
        go_ret3
        exact ⟨_, 7, _, rfl, .inl (by decide), by rw [← HP.out]; exact HBC.out⟩
    · obtain rfl : k = len := by omega
      go_wp2_with (fail)
      go_ret3
      exact ⟨_, 0, _, rfl, .inr ⟨rfl, i, HHA.out⟩, by rw [← HP.out]; exact HB.out⟩
end Go.Proofs.Ytenlffhoinialaa
end

section
namespace Go.Proofs.Ytenlffhoinialaa
open Go.RowKit
set_option maxHeartbeats 2000000
attribute [local go_sem ↓] Go.wp_at_zero Go.wp_at_succ
set_option maxRecDepth 1000000 in
theorem Find_calls {w : World} {iv ov mv : Value} {ev : Nat → Value} {S : St} (hS : StM w iv ov mv ev S) (hI : Inv S) (path : ByteArray) :
    Calls Try.prog 122 #[.agg #[iv, ov, mv], .string path] w fun e w' => ∃ num code, e = .returned (.tuple #[.int .i64 num, .int .i64 code]) ∧ FindR S num code ∧ Below w.heap.size w w' := by
  obtain ⟨A, cap, rfl⟩ := hS.ino.form
  obtain ⟨OA, ocap, rfl⟩ := hS.opn.form
  obtain ⟨MA, mcap, rfl⟩ := hS.mad.form
  have HI := Lib.hid hI
  have hni := hI.ni
  have HS := Lib.hid hS
  have HWK0 := Lib.hid (fun W hW nv L hL h4 => Walk_calls (w := W) (iv := .slice A S.inodes.length cap) (ov := .slice OA S.opens.length ocap) (mv := .slice MA S.made.length mcap) (ev := ev) hW hI (nv := nv) (L := L) hL h4)
  have HCA0 := Lib.hid (fun W hW x => At_calls (S := S) (w := W) (iv := .slice A S.inodes.length cap) (ov := .slice OA S.opens.length ocap) (mv := .slice MA S.made.length mcap) (ev := ev) hW (by omega) x)
  obtain ⟨n, hnn⟩ : ∃ n, S.inodes.length = n := ⟨_, rfl⟩
  have HNN := Lib.hid hnn
  rw [hnn] at HS HWK0 HCA0 hni ⊢
  generalize S.opens.length = no at *
  generalize S.made.length = nm_ at *
  have HB0 := Lib.hid (below_alloc w (.cells #[.slice A n cap, .slice OA no ocap, .slice MA nm_ mcap] 26))
  have HP0 := Lib.hid (Blk.new w 26 #[.slice A n cap, .slice OA no ocap, .slice MA nm_ mcap])
  have HSW := Lib.hid (HS.out.keep HB0.out)
  have HPA := Lib.hid (fun W => Parse_calls path W)
  clear hS hI hnn
  go_enter Try.func122, Try.ntmps122
  go_upto_region 1 with (fail)
  obtain ⟨p, hp⟩ : ∃ p, p = w.heap.size := ⟨_, rfl⟩
  have HP := Lib.hid hp
  rw [← hp] at HB0 HP0 ⊢
  clear hp
  generalize w.alloc (.cells #[.slice A n cap, .slice OA no ocap, .slice MA nm_ mcap] 26) = W0 at *
  go_upto_region 2 with (go_at_call 136; refine (HPA.out _).mono ?_; rintro e w2 ⟨v, x, rfl, hpr, hB2⟩)
  · have HPR := Lib.hid hpr
    have HB2 := Lib.hid (HB0.out.trans (hB2.mono (Nat.le_of_lt HP0.out.lt)))
    have HP2 := Lib.hid (HP0.out.below hB2)
    have HS2 := Lib.hid (HSW.out.keep hB2)
    have p0 : w2.cell? ⟨p, 0, none⟩ = some (.slice A n cap) := HP2.out.cell 0
    have p1 : w2.cell? ⟨p, 1, none⟩ = some (.slice OA no ocap) := HP2.out.cell 1
    have p2 : w2.cell? ⟨p, 2, none⟩ = some (.slice MA nm_ mcap) := HP2.out.cell 2
    clear hpr hB2 HPA HSW HB0 HP0
    by_cases hx0 : x = 0
    · subst hx0
      obtain ⟨L, hL, hLn, hL4⟩ := HPR.out.resolve_left (fun h => h rfl) |>.2
      have HWK := Lib.hid (HWK0.out w2 HS2.out v L hL hL4)
      clear hL hLn HWK0 HPR
      go_wp2_with (go_at_call 138; refine HWK.out.mono ?_; rintro e w5 ⟨num, code, tv, rfl, hfr, hB5⟩)
      have hBz := HB2.out.trans (hB5.mono (Nat.le_of_lt HP2.out.lt))
      go_ret2
      exact ⟨_, _, rfl, hfr, by rw [← HP.out]; exact hBz⟩
    · have hx1 : (x != 0) = true := by simpa using hx0
      have HC := Lib.hid (Code_calls x w2)
      have HCN := Lib.hid (codeP_ne hx0)
      clear hx0
      go_wp2_with (go_at_call 137; refine HC.out.mono ?_; rintro e w5 ⟨rfl, hw⟩; obtain rfl := hw.symm)
      go_ret2
      exact ⟨_, _, rfl, .inl HCN.out, by rw [← HP.out]; exact HB2.out⟩
theorem fst_of_dropLast {L : List ByteArray} (h : L ≠ []) : ∃ M s, L = M ++ [s] := by
  rcases List.eq_nil_or_concat L with e | ⟨M, s, e⟩
  · exact absurd e h
  · exact ⟨M, s, by rw [e, List.concat_eq_append]⟩
/-- What Parent answers. -/
def ParentR (S : St) (num : Int) (nm : ByteArray) (code : Int) : Prop := code ≠ 0 ∨ (code = 0 ∧ (∃ i, HasAt S num i ∧ S.dir i = true) ∧ ncheck nm = 0)
set_option maxRecDepth 1000000 in
theorem Parent_calls {w : World} {iv ov mv : Value} {ev : Nat → Value} {S : St} (hS : StM w iv ov mv ev S) (hI : Inv S) (path : ByteArray) :
    Calls Try.prog 118 #[.agg #[iv, ov, mv], .string path] w fun e w' => ∃ num nm code, e = .returned (.tuple #[.int .i64 num, .string nm, .int .i64 code]) ∧ ParentR S num nm code ∧ Below w.heap.size w w' := by
  obtain ⟨A, cap, rfl⟩ := hS.ino.form
  obtain ⟨OA, ocap, rfl⟩ := hS.opn.form
  obtain ⟨MA, mcap, rfl⟩ := hS.mad.form
  have HI := Lib.hid hI
  have hni := hI.ni
  have HS := Lib.hid hS
  have HWK0 := Lib.hid (fun W hW nv L hL h4 => Walk_calls (w := W) (iv := .slice A S.inodes.length cap) (ov := .slice OA S.opens.length ocap) (mv := .slice MA S.made.length mcap) (ev := ev) hW hI (nv := nv) (L := L) hL h4)
  have HCA0 := Lib.hid (fun W hW x => At_calls (S := S) (w := W) (iv := .slice A S.inodes.length cap) (ov := .slice OA S.opens.length ocap) (mv := .slice MA S.made.length mcap) (ev := ev) hW (by omega) x)
  obtain ⟨n, hnn⟩ : ∃ n, S.inodes.length = n := ⟨_, rfl⟩
  have HNN := Lib.hid hnn
  rw [hnn] at HS HWK0 HCA0 hni ⊢
  generalize S.opens.length = no at *
  generalize S.made.length = nm_ at *
  have HB0 := Lib.hid (below_alloc w (.cells #[.slice A n cap, .slice OA no ocap, .slice MA nm_ mcap] 26))
  have HP0 := Lib.hid (Blk.new w 26 #[.slice A n cap, .slice OA no ocap, .slice MA nm_ mcap])
  have HSW := Lib.hid (HS.out.keep HB0.out)
  have HPA := Lib.hid (fun W => Parse_calls path W)
  clear hS hI hnn
  go_enter Try.func118, Try.ntmps118
  go_upto_region 1 with (fail)
  obtain ⟨p, hp⟩ : ∃ p, p = w.heap.size := ⟨_, rfl⟩
  have HP := Lib.hid hp
  rw [← hp] at HB0 HP0 ⊢
  clear hp
  generalize w.alloc (.cells #[.slice A n cap, .slice OA no ocap, .slice MA nm_ mcap] 26) = W0 at *
  go_upto_region 2 with (go_at_call 136; refine (HPA.out _).mono ?_; rintro e w2 ⟨v, x, rfl, hpr, hB2⟩)
  · have HPR := Lib.hid hpr
    have HB2 := Lib.hid (HB0.out.trans (hB2.mono (Nat.le_of_lt HP0.out.lt)))
    have HP2 := Lib.hid (HP0.out.below hB2)
    have HS2 := Lib.hid (HSW.out.keep hB2)
    have p0 : w2.cell? ⟨p, 0, none⟩ = some (.slice A n cap) := HP2.out.cell 0
    have p1 : w2.cell? ⟨p, 1, none⟩ = some (.slice OA no ocap) := HP2.out.cell 1
    have p2 : w2.cell? ⟨p, 2, none⟩ = some (.slice MA nm_ mcap) := HP2.out.cell 2
    clear hpr hB2 HPA HSW HB0 HP0
    by_cases hx0 : x = 0
    · subst hx0
      obtain ⟨L, hL, hLn, hL4⟩ := HPR.out.resolve_left (fun h => h rfl) |>.2
      obtain ⟨SA, scap, rfl⟩ := hL.form
      by_cases hL0 : L = []
      · subst hL0
        clear hL HWK0 HPR
        go_wp2_with (fail)
        go_ret3
        exact ⟨_, _, 9, rfl, .inl (by decide), by rw [← HP.out]; exact HB2.out⟩
      · obtain ⟨M, nm, rfl⟩ := fst_of_dropLast hL0
        have hlen : (M ++ [nm]).length = M.length + 1 := by rw [List.length_append]; rfl
        have HNM := Lib.hid (hLn nm (by simp))
        have HLM := Lib.hid hL
        have hLM : RowAt w2.drew (.slice SA M.length scap) M.length 1 (strC M) := by
          obtain ⟨A', cap', e1, h2, h3⟩ := hL
          injection e1 with e1 e2 e3
          subst e1 e3
          refine ⟨SA, scap, rfl, by omega, fun h0 => ?_⟩
          obtain ⟨g, off, rfl, hc⟩ := h3 (by omega)
          refine ⟨g, off, rfl, fun i j hi hj => ?_⟩
          have := hc i j (by omega) hj
          rw [show strC (M ++ [nm]) i j = strC M i j by
            unfold strC
            rw [List.getD_eq_getElem?_getD, List.getD_eq_getElem?_getD, List.getElem?_append_left hi]] at this
          exact this
        have HWK := Lib.hid (HWK0.out w2.drew (HS2.out.keep (show Below w2.heap.size w2 w2.drew from ⟨rfl, rfl, rfl, Nat.le_refl _, fun _ _ => rfl⟩)) _ M hLM (by omega))
        rw [hlen] at HLM hL4 ⊢
        obtain ⟨m, hm⟩ : ∃ m, M.length = m := ⟨_, rfl⟩
        have HMM := Lib.hid hm
        rw [hm] at HWK HLM hL4 ⊢
        clear hL hLn HWK0 HPR hL0 hlen hLM hm
        have hcapm : m + 1 ≤ scap := HLM.out.at2.1
        have ej : IntKind.i64.wrap ((m : Int) + 1 - 1) = (m : Int) := by rw [IntWalk.i64_in _ (by omega)]; omega
        have ej1 : (m : Int) + 1 - 1 = (m : Int) := by omega
        have ej2 : IntKind.i64.wrap (m : Int) = (m : Int) := IntWalk.i64_in _ (by omega)
        have ej3 : (0 : Int) ≤ (m : Int) := by omega
        have ej4 : (m : Int) < (m : Int) + 1 := by omega
        have ej5 : (m : Int) ≤ (scap : Int) := by omega
        have ej6 : ((m : Int) + 1 == 0) = false := by rw [beq_eq_false_iff_ne]; omega
        go_upto_region 6 with (fail)
        go_cut [9, 10] (fun s1 s2 wx => ∃ num code, s1 = .int .i64 num ∧ s2 = .int .i64 code ∧ FindR S num code ∧ Below w2.heap.size w2 wx)
        case first =>
          refine wp_region_held_drew (S := fun w' => w'.cell? ⟨p, 0, none⟩ = some (.slice A n cap) ∧ w'.cell? ⟨p, 1, none⟩ = some (.slice OA no ocap) ∧ w'.cell? ⟨p, 2, none⟩ = some (.slice MA nm_ mcap)) (by kernel_rfl) (⟨p0, p1, p2⟩) (fun hHeld => ?_)
          refine wpAnyH_take (i := 0) (oi := ⟨some 25, _, _, _, _, _⟩) (v := .agg #[.slice A n cap, .slice OA no ocap, .slice MA nm_ mcap]) rfl (by kernel_rfl) (by kernel_rfl) (by kernel_rfl) (fun _ _ _ h => h) (Or.inl ⟨by kernel_rfl, fun w hSw => by go_simp⟩) (by assumption) ?_
          simp only [Act.put, lTA, lC0, lCS]
          refine wpAnyH_take (i := 1) (oi := ⟨some 26, _, _, _, _, _⟩) (v := .slice SA (m + 1) scap) rfl (by kernel_rfl) (by kernel_rfl) (by kernel_rfl) (fun _ _ _ h => h) (Or.inl ⟨by kernel_rfl, fun w hSw => by go_simp⟩) (by assumption) ?_
          simp only [Act.put, lTA, lC0, lCS]
          refine wpAnyH_take (i := 2) (oi := ⟨some 27, _, _, _, _, _⟩) (v := .slice SA (m + 1) scap) rfl (by kernel_rfl) (by kernel_rfl) (by kernel_rfl) (fun _ _ _ h => h) (Or.inl ⟨by kernel_rfl, fun w hSw => by go_simp⟩) (by assumption) ?_
          simp only [Act.put, lTA, lC0, lCS]
          refine wpAnyH_take (i := 3) (oi := ⟨some 28, _, _, _, _, _⟩) (v := .int .i64 (m + 1)) rfl (by kernel_rfl) (by kernel_rfl) (by kernel_rfl) (fun _ _ _ h => h) (Or.inl ⟨by kernel_rfl, fun w hSw => by go_simp⟩) (by assumption) ?_
          simp only [Act.put, lTA, lC0, lCS]
          refine wpAnyH_take (i := 4) (oi := ⟨some 29, _, _, _, _, _⟩) (v := .int .i64 m) rfl (by kernel_rfl) (by kernel_rfl) (by kernel_rfl) (fun _ _ _ h => h) (Or.inl ⟨by kernel_rfl, fun w hSw => by go_simp⟩) (by assumption) ?_
          simp only [Act.put, lTA, lC0, lCS]
          refine wpAnyH_take (i := 5) (oi := ⟨some 30, _, _, _, _, _⟩) (v := .slice SA m scap) rfl (by kernel_rfl) (by kernel_rfl) (by kernel_rfl) (fun _ _ _ h => h) (Or.inl ⟨by kernel_rfl, fun w hSw => by go_simp⟩) (by assumption) ?_
          simp only [Act.put, lTA, lC0, lCS]
          refine wpAnyH_ready (rs := [6]) (by kernel_rfl) (by simp) ?_
          refine AllReadyH.cons rfl (fun K hK => ?_) AllReadyH.nil
          go_simp
          refine HWK.out.mono ?_
          rintro e w5 ⟨num, code, tv, rfl, hfr, hB5⟩
          show K _ _
          refine hK.out _ _ (⟨(hB5.cell (World.block_lt_of_cell? _ _ hHeld.1)).trans hHeld.1, (hB5.cell (World.block_lt_of_cell? _ _ hHeld.2.1)).trans hHeld.2.1, (hB5.cell (World.block_lt_of_cell? _ _ hHeld.2.2)).trans hHeld.2.2⟩) (fun hHeld => ?_)
          clear hK K
          refine wpAnyH_take (i := 7) (oi := ⟨some 24, _, _, _, _, _⟩) (v := .tuple #[.int .i64 num, .int .i64 code, tv]) rfl (by kernel_rfl) (by kernel_rfl) (by kernel_rfl) (fun _ _ _ h => h) (Or.inl ⟨by kernel_rfl, fun w hSw => by go_simp⟩) (by assumption) ?_
          simp only [Act.put, lTA, lC0, lCS]
          refine wpAnyH_take (i := 8) (oi := ⟨some 32, _, _, _, _, _⟩) (v := .int .i64 num) rfl (by kernel_rfl) (by kernel_rfl) (by kernel_rfl) (fun _ _ _ h => h) (Or.inl ⟨by kernel_rfl, fun w hSw => by go_simp⟩) (by assumption) ?_
          simp only [Act.put, lTA, lC0, lCS]
          refine wpAnyH_take (i := 9) (oi := ⟨some 33, _, _, _, _, _⟩) (v := .int .i64 code) rfl (by kernel_rfl) (by kernel_rfl) (by kernel_rfl) (fun _ _ _ h => h) (Or.inl ⟨by kernel_rfl, fun w hSw => by go_simp⟩) (by assumption) ?_
          simp only [Act.put, lTA, lC0, lCS]
          refine wpAnyH_take (i := 10) (oi := ⟨some 34, _, _, _, _, _⟩) (v := tv) rfl (by kernel_rfl) (by kernel_rfl) (by kernel_rfl) (fun _ _ _ h => h) (Or.inl ⟨by kernel_rfl, fun w hSw => by go_simp⟩) (by assumption) ?_
          simp only [Act.put, lTA, lC0, lCS]
          refine wpAnyH_take (i := 11) (oi := ⟨some 9, _, _, _, _, _⟩) (v := .int .i64 num) rfl (by kernel_rfl) (by kernel_rfl) (by kernel_rfl) (fun _ _ _ h => h) (Or.inl ⟨by kernel_rfl, fun w hSw => by go_simp⟩) (by assumption) ?_
          simp only [Act.put, lTA, lC0, lCS]
          refine wpAnyH_take (i := 12) (oi := ⟨some 10, _, _, _, _, _⟩) (v := .int .i64 code) rfl (by kernel_rfl) (by kernel_rfl) (by kernel_rfl) (fun _ _ _ h => h) (Or.inl ⟨by kernel_rfl, fun w hSw => by go_simp⟩) (by assumption) ?_
          simp only [Act.put, lTA, lC0, lCS]
          refine wpAnyH_take (i := 13) (oi := ⟨some 11, _, _, _, _, _⟩) (v := tv) rfl (by kernel_rfl) (by kernel_rfl) (by kernel_rfl) (fun _ _ _ h => h) (Or.inl ⟨by kernel_rfl, fun w hSw => by go_simp⟩) (by assumption) ?_
          simp only [Act.put, lTA, lC0, lCS]
          refine wpAnyH_done (by kernel_rfl) ?_ _
          go_wp2_with (fail)
          go_meet
          case rel => exact ⟨_, _, rfl, rfl, hfr, Below.trans (b := w2.drew) ⟨rfl, rfl, rfl, Nat.le_refl _, fun _ _ => rfl⟩ hB5⟩
        case rest =>
          obtain ⟨num, code, rfl, rfl, hfr, hbc⟩ := hcut
          have HFR := Lib.hid hfr
          have HP3 := Lib.hid (HP2.out.below hbc)
          have HB3 := Lib.hid (HB2.out.trans (hbc.mono (Nat.le_of_lt HP2.out.lt)))
          have HS3 := Lib.hid (HS2.out.keep hbc)
          have HL3 := Lib.hid (HLM.out.keep hbc)
          clear p0 p1 p2 hfr hbc HP2 HB2 HS2 HLM HWK
          obtain ⟨w3, rfl⟩ : ∃ x : World, x = wc := ⟨_, rfl⟩
          by_cases hc0 : code = 0
          · subst hc0
            obtain ⟨i, hha⟩ := (HFR.out.resolve_left (fun h => h rfl)).2
            have HHA := Lib.hid hha
            have hil : i < n := by have := hha.1; rwa [HNN.out] at this
            have hil1 : (i : Int) < (n : Int) := by omega
            have hil2 : (0 : Int) ≤ (i : Int) := by omega
            have ei : IntKind.i64.wrap (i : Int) = (i : Int) := IntWalk.i64_in _ (by omega)
            obtain ⟨-, -, ig, ioff, rfl, hcell⟩ := (show RowAt w3 (.slice A n cap) n 4 (inoC S ev) by have := HS3.out.ino; rwa [HNN.out] at this).at_ hil
            have q1 : w3.cell? ⟨ig, ioff + i * 4 + 1, none⟩ = some (.bool (S.dir i)) := hcell 1 (by omega)
            have p0 : w3.cell? ⟨p, 0, none⟩ = some (.slice (some ⟨ig, ioff, none⟩) n cap) := HP3.out.cell 0
            have p1 : w3.cell? ⟨p, 1, none⟩ = some (.slice OA no ocap) := HP3.out.cell 1
            have p2 : w3.cell? ⟨p, 2, none⟩ = some (.slice MA nm_ mcap) := HP3.out.cell 2
            have HCA := Lib.hid (HCA0.out w3.drew (HS3.out.keep (show Below w3.heap.size w3 w3.drew from ⟨rfl, rfl, rfl, Nat.le_refl _, fun _ _ => rfl⟩)) num)
            rw [hha.2.1] at HCA
            have HDV := Lib.hid (show S.dir i = S.dir i from rfl)
            obtain ⟨dv, hdv⟩ : ∃ x, S.dir i = x := ⟨_, rfl⟩
            have HDR := Lib.hid hdv
            rw [hdv] at q1
            clear hcell hha HDV hdv
            go_upto_region 9 with (fail)
            go_cut [46] (fun s wx => s = .bool (!dv) ∧ Below w3.heap.size w3 wx)
            case first =>
              refine wp_region_held_drew (S := fun w' => w'.cell? ⟨p, 0, none⟩ = some (.slice (some ⟨ig, ioff, none⟩) n cap) ∧ w'.cell? ⟨p, 1, none⟩ = some (.slice OA no ocap) ∧ w'.cell? ⟨p, 2, none⟩ = some (.slice MA nm_ mcap) ∧ w'.cell? ⟨ig, ioff + i * 4 + 1, none⟩ = some (.bool dv)) (by kernel_rfl) (⟨p0, p1, p2, q1⟩) (fun hHeld => ?_)
              refine wpAnyH_take (i := 0) (oi := ⟨some 38, _, _, _, _, _⟩) (v := .pointer (some ⟨p, 0, none⟩)) rfl (by kernel_rfl) (by kernel_rfl) (by kernel_rfl) (fun _ _ _ h => h) (Or.inl ⟨by kernel_rfl, fun w hSw => by go_simp⟩) (by assumption) ?_
              simp only [Act.put, lTA, lC0, lCS]
              refine wpAnyH_take (i := 1) (oi := ⟨some 39, _, _, _, _, _⟩) (v := .slice (some ⟨ig, ioff, none⟩) n cap) rfl (by kernel_rfl) (by kernel_rfl) (by kernel_rfl) (fun _ _ _ h => h) (Or.inl ⟨by kernel_rfl, fun w hSw => by go_simp⟩) (by assumption) ?_
              simp only [Act.put, lTA, lC0, lCS]
              refine wpAnyH_take (i := 2) (oi := ⟨some 40, _, _, _, _, _⟩) (v := .agg #[.slice (some ⟨ig, ioff, none⟩) n cap, .slice OA no ocap, .slice MA nm_ mcap]) rfl (by kernel_rfl) (by kernel_rfl) (by kernel_rfl) (fun _ _ _ h => h) (Or.inl ⟨by kernel_rfl, fun w hSw => by go_simp⟩) (by assumption) ?_
              simp only [Act.put, lTA, lC0, lCS]
              refine wpAnyH_take (i := 3) (oi := ⟨some 41, _, _, _, _, _⟩) (v := .int .i64 num) rfl (by kernel_rfl) (by kernel_rfl) (by kernel_rfl) (fun _ _ _ h => h) (Or.inl ⟨by kernel_rfl, fun w hSw => by go_simp⟩) (by assumption) ?_
              simp only [Act.put, lTA, lC0, lCS]
              refine wpAnyH_ready (rs := [4]) (by kernel_rfl) (by simp) ?_
              refine AllReadyH.cons rfl (fun K hK => ?_) AllReadyH.nil
              go_simp
              refine HCA.out.mono ?_
              rintro e w6 ⟨rfl, hB6⟩
              show K _ _
              refine hK.out _ _ (⟨(hB6.cell (World.block_lt_of_cell? _ _ hHeld.1)).trans hHeld.1, (hB6.cell (World.block_lt_of_cell? _ _ hHeld.2.1)).trans hHeld.2.1, (hB6.cell (World.block_lt_of_cell? _ _ hHeld.2.2.1)).trans hHeld.2.2.1, (hB6.cell (World.block_lt_of_cell? _ _ hHeld.2.2.2)).trans hHeld.2.2.2⟩) (fun hHeld => ?_)
              clear hK K
              refine wpAnyH_take (i := 5) (oi := ⟨some 43, _, _, _, _, _⟩) (v := .pointer (some ⟨ig, ioff + i * 4, none⟩)) rfl (by kernel_rfl) (by kernel_rfl) (by kernel_rfl) (fun _ _ _ h => h) (Or.inl ⟨by kernel_rfl, fun w hSw => by go_simp⟩) (by assumption) ?_
              simp only [Act.put, lTA, lC0, lCS]
              refine wpAnyH_take (i := 6) (oi := ⟨some 44, _, _, _, _, _⟩) (v := .pointer (some ⟨ig, ioff + i * 4 + 1, none⟩)) rfl (by kernel_rfl) (by kernel_rfl) (by kernel_rfl) (fun _ _ _ h => h) (Or.inl ⟨by kernel_rfl, fun w hSw => by go_simp⟩) (by assumption) ?_
              simp only [Act.put, lTA, lC0, lCS]
              refine wpAnyH_take (i := 7) (oi := ⟨some 45, _, _, _, _, _⟩) (v := .bool dv) rfl (by kernel_rfl) (by kernel_rfl) (by kernel_rfl) (fun _ _ _ h => h) (Or.inl ⟨by kernel_rfl, fun w hSw => by go_simp⟩) (by assumption) ?_
              simp only [Act.put, lTA, lC0, lCS]
              refine wpAnyH_take (i := 8) (oi := ⟨some 46, _, _, _, _, _⟩) (v := .bool (!dv)) rfl (by kernel_rfl) (by kernel_rfl) (by kernel_rfl) (fun _ _ _ h => h) (Or.inl ⟨by kernel_rfl, fun w hSw => by go_simp⟩) (by assumption) ?_
              simp only [Act.put, lTA, lC0, lCS]
              refine wpAnyH_done (by kernel_rfl) ?_ _
              go_wp2_with (fail)
              go_meet
              case rel => exact ⟨rfl, Below.trans (b := w3.drew) ⟨rfl, rfl, rfl, Nat.le_refl _, fun _ _ => rfl⟩ hB6⟩
            case rest =>
              obtain ⟨rfl, hbd⟩ := hcut
              have HB4 := Lib.hid (HB3.out.trans (hbd.mono (Nat.le_of_lt HP3.out.lt)))
              have HL4 := Lib.hid (HL3.out.keep hbd)
              clear p0 p1 p2 q1 hbd
              rcases bool_tf dv with rfl | rfl
              · obtain ⟨-, -, sg, soff, rfl, hscell⟩ := HL4.out.at_ (i := m) (by omega)
                have z0 : wc.cell? ⟨sg, soff + m, none⟩ = some (.string nm) := by
                  have := hscell 0 (by omega)
                  rw [Nat.mul_one] at this
                  rw [← show strC (M ++ [nm]) m 0 = .string nm by
                    unfold strC
                    rw [List.getD_eq_getElem?_getD, List.getElem?_append_right (by rw [HMM.out]; exact Nat.le_refl _), HMM.out, Nat.sub_self]; rfl]
                  exact this
                clear hscell
                go_wp2_with (fail)
                go_quiet (fail)
                go_wp2_with (fail)
                go_ret3
                exact ⟨_, _, 0, rfl, .inr ⟨rfl, ⟨i, HHA.out, HDR.out⟩, HNM.out⟩, by rw [← HP.out]; exact HB4.out.trans ⟨rfl, rfl, rfl, Nat.le_refl _, fun _ _ => rfl⟩⟩
              · go_wp2_with (fail)
                go_ret3
                exact ⟨_, _, 7, rfl, .inl (by decide), by rw [← HP.out]; exact HB4.out⟩
          · have hc1 : (code != 0) = true := by simpa using hc0
            have HCN := Lib.hid hc0
            clear hc0
            go_wp2_with (fail)
            go_ret3
            exact ⟨_, _, code, rfl, .inl HCN.out, by rw [← HP.out]; exact HB3.out⟩
    · have hx1 : (x != 0) = true := by simpa using hx0
      have HC := Lib.hid (Code_calls x w2)
      have HCN := Lib.hid (codeP_ne hx0)
      clear hx0
      go_wp2_with (go_at_call 137; refine HC.out.mono ?_; rintro e w5 ⟨rfl, hw⟩; obtain rfl := hw.symm)
      go_ret3
      exact ⟨_, _, _, rfl, .inl HCN.out, by rw [← HP.out]; exact HB2.out⟩
end Go.Proofs.Ytenlffhoinialaa
end

section
namespace Go.Proofs.Ytenlffhoinialaa
open Go.RowKit
set_option maxHeartbeats 400000
attribute [local go_sem ↓] Go.wp_at_zero Go.wp_at_succ
/-- Does an entry stand in a name's bucket, and is it another than one? -/
def inB (nm but : ByteArray) (e : ByteArray × Int) : Bool := !decide (e.1 = but) && (nbucket e.1 == nbucket nm)
def fullN (L : List (ByteArray × Int)) (nm but : ByteArray) : Nat := (L.filter (inB nm but)).length
theorem fullN_succ {L : List (ByteArray × Int)} {nm but : ByteArray} {k : Nat} (hk : k < L.length) : fullN (L.take (k + 1)) nm but = fullN (L.take k) nm but + if inB nm but L[k] = true then 1 else 0 := by
  unfold fullN
  rw [List.take_succ_eq_append_getElem hk, List.filter_append, List.length_append]
  congr 1
  by_cases h : inB nm but L[k] = true
  · rw [if_pos h]; simp [h]
  · rw [if_neg h]; simp [h]
set_option maxRecDepth 1000000 in
theorem full_calls {w : World} {iv ov mv : Value} {ev : Nat → Value} {S : St} (hS : StM w iv ov mv ev S) (hI : Inv S) {d : Int} {i : Nat} (hd : HasAt S d i) {nm but : ByteArray} (hn : nm.size ≤ 100) :
    Calls Try.prog 120 #[.agg #[iv, ov, mv], .int .i64 d, .string nm, .string but] w fun e w' => e = .returned (.bool (decide (4 ≤ fullN (S.ino i).ents nm but))) ∧ Below w.heap.size w w' := by
  obtain ⟨A, cap, rfl⟩ := hS.ino.form
  obtain ⟨OA, ocap, rfl⟩ := hS.opn.form
  obtain ⟨MA, mcap, rfl⟩ := hS.mad.form
  have hni := hI.ni
  have HS := Lib.hid hS
  have HCA0 := Lib.hid (fun W hW x => At_calls (S := S) (w := W) (iv := .slice A S.inodes.length cap) (ov := .slice OA S.opens.length ocap) (mv := .slice MA S.made.length mcap) (ev := ev) hW (by omega) x)
  have hil := hd.1
  have hda := hd.2.1
  have hen : S.ne i ≤ 32 := hI.en (Inv.ino_mem hil)
  have HENT := Lib.hid (hS.ent i hil)
  have HIN := Lib.hid hS.ino
  obtain ⟨n, hnn⟩ : ∃ n, S.inodes.length = n := ⟨_, rfl⟩
  rw [hnn] at HS HCA0 hni hil HIN ⊢
  generalize S.opens.length = no at *
  generalize S.made.length = nm_ at *
  have HB0 := Lib.hid (below_alloc w (.cells #[.slice A n cap, .slice OA no ocap, .slice MA nm_ mcap] 26))
  have HP0 := Lib.hid (Blk.new w 26 #[.slice A n cap, .slice OA no ocap, .slice MA nm_ mcap])
  have HSW := Lib.hid (HS.out.keep HB0.out)
  have HINW := Lib.hid (HIN.out.keep HB0.out)
  have HEW := Lib.hid (HENT.out.keep HB0.out)
  have HNS := Lib.hid (show ∀ k, S.enm i k = ((S.ino i).ents.getD k (ByteArray.empty, 0)).1 from fun _ => rfl)
  have HNE := Lib.hid (show (S.ino i).ents.length = S.ne i from rfl)
  have HNK := Lib.hid (fun k (hk : k < (S.ino i).ents.length) => (hI.en_at hd.1 hk).1)
  clear hS hI hnn hd HS HIN HENT
  go_enter Try.func120, Try.ntmps120
  go_upto_region 2 with (fail)
  obtain ⟨p, hp⟩ : ∃ p, p = w.heap.size := ⟨_, rfl⟩
  have HP := Lib.hid hp
  rw [← hp] at HB0 HP0 ⊢
  clear hp
  generalize w.alloc (.cells #[.slice A n cap, .slice OA no ocap, .slice MA nm_ mcap] 26) = W0 at *
  obtain ⟨-, -, ig, ioff, rfl, hcell⟩ := HINW.out.at_ hil
  have q0 : W0.cell? ⟨ig, ioff + i * 4, none⟩ = some (.int .i64 (S.num i)) := hcell 0 (by omega)
  have q1 : W0.cell? ⟨ig, ioff + i * 4 + 1, none⟩ = some (.bool (S.dir i)) := hcell 1 (by omega)
  have q2 : W0.cell? ⟨ig, ioff + i * 4 + 2, none⟩ = some (ev i) := hcell 2 (by omega)
  have q3 : W0.cell? ⟨ig, ioff + i * 4 + 3, none⟩ = some (.string (S.dat i)) := hcell 3 (by omega)
  obtain ⟨EA, ecap, hev⟩ := HEW.out.form
  rw [hev] at q2 HEW
  clear hcell hev HINW
  have HCA := Lib.hid (fun W hW => by have := HCA0.out W hW d; rwa [hda] at this)
  generalize S.num i = xn at *
  generalize S.dir i = dr at *
  generalize S.dat i = dat at *
  obtain ⟨ne, hne⟩ : ∃ x, S.ne i = x := ⟨_, rfl⟩
  rw [hne] at q2 HEW HNE hen
  clear HCA0 hne hda
  have p0 : W0.cell? ⟨p, 0, none⟩ = some (.slice (some ⟨ig, ioff, none⟩) n cap) := HP0.out.cell 0
  have p1 : W0.cell? ⟨p, 1, none⟩ = some (.slice OA no ocap) := HP0.out.cell 1
  have p2 : W0.cell? ⟨p, 2, none⟩ = some (.slice MA nm_ mcap) := HP0.out.cell 2
  have ei0 : (0 : Int) ≤ (i : Int) := by omega
  have ei1 : (i : Int) < (n : Int) := by omega
  have ei : IntKind.i64.wrap (i : Int) = (i : Int) := IntWalk.i64_in _ (by omega)
  go_cut [10] (fun s wx => ∃ b, s = .pointer (some ⟨b, 0, none⟩) ∧ W0.heap.size ≤ b ∧ Blk wx b 56 #[.int .i64 xn, .bool dr, .slice EA ne ecap, .string dat] ∧ Below W0.heap.size W0 wx)
  case first =>
      refine wp_region_held_drew (S := fun w' => (w'.cell? ⟨p, 0, none⟩ = some (.slice (some ⟨ig, ioff, none⟩) n cap) ∧ w'.cell? ⟨p, 1, none⟩ = some (.slice OA no ocap) ∧ w'.cell? ⟨p, 2, none⟩ = some (.slice MA nm_ mcap) ∧ w'.cell? ⟨ig, ioff + i * 4, none⟩ = some (.int .i64 xn) ∧ w'.cell? ⟨ig, ioff + i * 4 + 1, none⟩ = some (.bool dr) ∧ w'.cell? ⟨ig, ioff + i * 4 + 2, none⟩ = some (.slice EA ne ecap) ∧ w'.cell? ⟨ig, ioff + i * 4 + 3, none⟩ = some (.string dat))) (by kernel_rfl) (⟨p0, p1, p2, q0, q1, q2, q3⟩) (fun hHeld => ?_)
      refine wpAnyH_take (i := 0) (oi := ⟨some 12, _, _, _, _, _⟩) (v := .pointer (some ⟨p, 0, none⟩)) rfl (by kernel_rfl) (by kernel_rfl) (by kernel_rfl) (fun _ _ _ h => h) (Or.inl ⟨by kernel_rfl, fun w hSw => by go_simp⟩) (by assumption) ?_
      simp only [Act.put, lTA, lC0, lCS]
      refine wpAnyH_take (i := 1) (oi := ⟨some 13, _, _, _, _, _⟩) (v := .slice (some ⟨ig, ioff, none⟩) n cap) rfl (by kernel_rfl) (by kernel_rfl) (by kernel_rfl) (fun _ _ _ h => h) (Or.inl ⟨by kernel_rfl, fun w hSw => by go_simp⟩) (by assumption) ?_
      simp only [Act.put, lTA, lC0, lCS]
      refine wpAnyH_take (i := 2) (oi := ⟨some 14, _, _, _, _, _⟩) (v := .agg #[.slice (some ⟨ig, ioff, none⟩) n cap, .slice OA no ocap, .slice MA nm_ mcap]) rfl (by kernel_rfl) (by kernel_rfl) (by kernel_rfl) (fun _ _ _ h => h) (Or.inl ⟨by kernel_rfl, fun w hSw => by go_simp⟩) (by assumption) ?_
      simp only [Act.put, lTA, lC0, lCS]
      refine wpAnyH_take (i := 3) (oi := ⟨some 15, _, _, _, _, _⟩) (v := .int .i64 d) rfl (by kernel_rfl) (by kernel_rfl) (by kernel_rfl) (fun _ _ _ h => h) (Or.inl ⟨by kernel_rfl, fun w hSw => by go_simp⟩) (by assumption) ?_
      simp only [Act.put, lTA, lC0, lCS]
      refine wpAnyH_ready (rs := [4, 7]) (by kernel_rfl) (by simp) ?_
      refine AllReadyH.cons rfl (fun K hK => ?_) (AllReadyH.cons rfl (fun K hK => ?_) AllReadyH.nil)
      · go_simp
        refine (HCA.out W0.drew (HSW.out.keep (show Below W0.heap.size W0 W0.drew from ⟨rfl, rfl, rfl, Nat.le_refl _, fun _ _ => rfl⟩)) ).mono ?_
        rintro e w6 ⟨rfl, hB6⟩
        show K _ _
        refine hK.out _ _ (⟨(hB6.cell (World.block_lt_of_cell? _ _ hHeld.1)).trans hHeld.1, (hB6.cell (World.block_lt_of_cell? _ _ hHeld.2.1)).trans hHeld.2.1, (hB6.cell (World.block_lt_of_cell? _ _ hHeld.2.2.1)).trans hHeld.2.2.1, (hB6.cell (World.block_lt_of_cell? _ _ hHeld.2.2.2.1)).trans hHeld.2.2.2.1, (hB6.cell (World.block_lt_of_cell? _ _ hHeld.2.2.2.2.1)).trans hHeld.2.2.2.2.1, (hB6.cell (World.block_lt_of_cell? _ _ hHeld.2.2.2.2.2.1)).trans hHeld.2.2.2.2.2.1, (hB6.cell (World.block_lt_of_cell? _ _ hHeld.2.2.2.2.2.2)).trans hHeld.2.2.2.2.2.2⟩) (fun hHeld => ?_)
        clear hK K
        refine wpAnyH_take (i := 5) (oi := ⟨some 17, _, _, _, _, _⟩) (v := .pointer (some ⟨ig, ioff + i * 4, none⟩)) rfl (by kernel_rfl) (by kernel_rfl) (by kernel_rfl) (fun _ _ _ h => h) (Or.inl ⟨by kernel_rfl, fun w hSw => by go_simp⟩) (by assumption) ?_
        simp only [Act.put, lTA, lC0, lCS]
        refine wpAnyH_take (i := 6) (oi := ⟨some 18, _, _, _, _, _⟩) (v := .agg #[.int .i64 xn, .bool dr, .slice EA ne ecap, .string dat]) rfl (by kernel_rfl) (by kernel_rfl) (by kernel_rfl) (fun _ _ _ h => h) (Or.inl ⟨by kernel_rfl, fun w hSw => by go_simp⟩) (by assumption) ?_
        simp only [Act.put, lTA, lC0, lCS]
        refine wpAnyH_ready (rs := [7]) (by kernel_rfl) (by simp) ?_
        refine AllReadyH.cons rfl (fun K hK => ?_) AllReadyH.nil
        go_simp
        have hA7 := below_alloc w6 (.cells #[.int .i64 0, .bool false, .slice none 0 0, .string ⟨#[]⟩] 56)
        show K _ _
        refine hK.out _ _ (⟨(hA7.cell (World.block_lt_of_cell? _ _ hHeld.1)).trans hHeld.1, (hA7.cell (World.block_lt_of_cell? _ _ hHeld.2.1)).trans hHeld.2.1, (hA7.cell (World.block_lt_of_cell? _ _ hHeld.2.2.1)).trans hHeld.2.2.1, (hA7.cell (World.block_lt_of_cell? _ _ hHeld.2.2.2.1)).trans hHeld.2.2.2.1, (hA7.cell (World.block_lt_of_cell? _ _ hHeld.2.2.2.2.1)).trans hHeld.2.2.2.2.1, (hA7.cell (World.block_lt_of_cell? _ _ hHeld.2.2.2.2.2.1)).trans hHeld.2.2.2.2.2.1, (hA7.cell (World.block_lt_of_cell? _ _ hHeld.2.2.2.2.2.2)).trans hHeld.2.2.2.2.2.2⟩) (fun hHeld => ?_)
        clear hK K
        have hsz6 : W0.heap.size ≤ w6.heap.size := hB6.size
        have hF : Below W0.heap.size W0 (w6.alloc (Obj.cells #[.int .i64 xn, .bool dr, .slice EA ne ecap, .string dat] 56)) := ((below_drew1 W0).trans (show Below W0.heap.size W0.drew w6 from hB6)).alloc hsz6 _
        refine wpAnyH_ready (rs := [8]) (by kernel_rfl) (by simp) ?_
        refine AllReadyH.cons rfl (fun K hK => ?_) AllReadyH.nil
        go_simp
        show K _ _
        refine hK.out _ _ (⟨(hF.cell (World.block_lt_of_cell? _ _ p0)).trans p0, (hF.cell (World.block_lt_of_cell? _ _ p1)).trans p1, (hF.cell (World.block_lt_of_cell? _ _ p2)).trans p2, (hF.cell (World.block_lt_of_cell? _ _ q0)).trans q0, (hF.cell (World.block_lt_of_cell? _ _ q1)).trans q1, (hF.cell (World.block_lt_of_cell? _ _ q2)).trans q2, (hF.cell (World.block_lt_of_cell? _ _ q3)).trans q3⟩) (fun hHeld => ?_)
        clear hK K
        refine wpAnyH_done (by kernel_rfl) ?_ _
        go_wp2_with (fail)
        go_meet
        case rel => exact ⟨w6.heap.size, rfl, hsz6, Blk.new _ _ _, hF⟩
      · go_simp
        have hBd : Below W0.heap.size W0 (W0.alloc (.cells #[.int .i64 0, .bool false, .slice none 0 0, .string ⟨#[]⟩] 56)).drew := (below_alloc W0 _).trans ⟨rfl, rfl, rfl, Nat.le_refl _, fun _ _ => rfl⟩
        show K _ _
        refine hK.out _ _ (⟨(hBd.cell (World.block_lt_of_cell? _ _ p0)).trans p0, (hBd.cell (World.block_lt_of_cell? _ _ p1)).trans p1, (hBd.cell (World.block_lt_of_cell? _ _ p2)).trans p2, (hBd.cell (World.block_lt_of_cell? _ _ q0)).trans q0, (hBd.cell (World.block_lt_of_cell? _ _ q1)).trans q1, (hBd.cell (World.block_lt_of_cell? _ _ q2)).trans q2, (hBd.cell (World.block_lt_of_cell? _ _ q3)).trans q3⟩) (fun hHeld => ?_)
        clear hK K
        refine wpAnyH_ready (rs := [4]) (by kernel_rfl) (by simp) ?_
        refine AllReadyH.cons rfl (fun K hK => ?_) AllReadyH.nil
        go_simp
        refine (HCA.out _ (HSW.out.keep hBd)).mono ?_
        rintro e w6 ⟨rfl, hB6⟩
        show K _ _
        refine hK.out _ _ (⟨(hB6.cell (World.block_lt_of_cell? _ _ hHeld.1)).trans hHeld.1, (hB6.cell (World.block_lt_of_cell? _ _ hHeld.2.1)).trans hHeld.2.1, (hB6.cell (World.block_lt_of_cell? _ _ hHeld.2.2.1)).trans hHeld.2.2.1, (hB6.cell (World.block_lt_of_cell? _ _ hHeld.2.2.2.1)).trans hHeld.2.2.2.1, (hB6.cell (World.block_lt_of_cell? _ _ hHeld.2.2.2.2.1)).trans hHeld.2.2.2.2.1, (hB6.cell (World.block_lt_of_cell? _ _ hHeld.2.2.2.2.2.1)).trans hHeld.2.2.2.2.2.1, (hB6.cell (World.block_lt_of_cell? _ _ hHeld.2.2.2.2.2.2)).trans hHeld.2.2.2.2.2.2⟩) (fun hHeld => ?_)
        clear hK K
        have hlt : W0.heap.size < (W0.alloc (.cells #[.int .i64 0, .bool false, .slice none 0 0, .string ⟨#[]⟩] 56)).drew.heap.size := (Blk.new W0 56 #[.int .i64 0, .bool false, .slice none 0 0, .string ⟨#[]⟩]).lt
        have hG : Blk w6 W0.heap.size 56 #[.int .i64 0, .bool false, .slice none 0 0, .string ⟨#[]⟩] := Blk.of_heap (hB6.block _ hlt) (show Blk (W0.alloc (.cells #[.int .i64 0, .bool false, .slice none 0 0, .string ⟨#[]⟩] 56)).drew W0.heap.size 56 _ from Blk.new W0 _ _)
        have hF0 : Below W0.heap.size W0 w6 := hBd.trans (hB6.mono (Nat.le_of_lt hlt))
        refine wpAnyH_take (i := 5) (oi := ⟨some 17, _, _, _, _, _⟩) (v := .pointer (some ⟨ig, ioff + i * 4, none⟩)) rfl (by kernel_rfl) (by kernel_rfl) (by kernel_rfl) (fun _ _ _ h => h) (Or.inl ⟨by kernel_rfl, fun w hSw => by go_simp⟩) (by assumption) ?_
        simp only [Act.put, lTA, lC0, lCS]
        refine wpAnyH_take (i := 6) (oi := ⟨some 18, _, _, _, _, _⟩) (v := .agg #[.int .i64 xn, .bool dr, .slice EA ne ecap, .string dat]) rfl (by kernel_rfl) (by kernel_rfl) (by kernel_rfl) (fun _ _ _ h => h) (Or.inl ⟨by kernel_rfl, fun w hSw => by go_simp⟩) (by assumption) ?_
        simp only [Act.put, lTA, lC0, lCS]
        have g0 : w6.cell? ⟨W0.heap.size, 0, none⟩ = some (.int .i64 0) := hG.cell 0
        have g1 : w6.cell? ⟨W0.heap.size, 1, none⟩ = some (.bool false) := hG.cell 1
        have g2 : w6.cell? ⟨W0.heap.size, 2, none⟩ = some (.slice none 0 0) := hG.cell 2
        have g3 : w6.cell? ⟨W0.heap.size, 3, none⟩ = some (.string ⟨#[]⟩) := hG.cell 3
        have f0 := hG.frozen 0
        have f1 := hG.frozen 1
        have f2 := hG.frozen 2
        have f3 := hG.frozen 3
        have hF := (((hF0.setCell (p := ⟨W0.heap.size, 0, none⟩) (Nat.le_refl _) (.int .i64 xn)).setCell (p := ⟨W0.heap.size, 1, none⟩) (Nat.le_refl _) (.bool dr)).setCell (p := ⟨W0.heap.size, 2, none⟩) (Nat.le_refl _) (.slice EA ne ecap)).setCell (p := ⟨W0.heap.size, 3, none⟩) (Nat.le_refl _) (.string dat)
        have hN := (((hG.set_ 0 (.int .i64 xn)).set_ 1 (.bool dr)).set_ 2 (.slice EA ne ecap)).set_ 3 (.string dat)
        refine wpAnyH_ready (rs := [8]) (by kernel_rfl) (by simp) ?_
        refine AllReadyH.cons rfl (fun K hK => ?_) AllReadyH.nil
        go_simp
        show K _ _
        refine hK.out _ _ (⟨(hF.cell (World.block_lt_of_cell? _ _ p0)).trans p0, (hF.cell (World.block_lt_of_cell? _ _ p1)).trans p1, (hF.cell (World.block_lt_of_cell? _ _ p2)).trans p2, (hF.cell (World.block_lt_of_cell? _ _ q0)).trans q0, (hF.cell (World.block_lt_of_cell? _ _ q1)).trans q1, (hF.cell (World.block_lt_of_cell? _ _ q2)).trans q2, (hF.cell (World.block_lt_of_cell? _ _ q3)).trans q3⟩) (fun hHeld => ?_)
        clear hK K
        refine wpAnyH_done (by kernel_rfl) ?_ _
        go_wp2_with (fail)
        go_meet
        case rel => exact ⟨W0.heap.size, rfl, Nat.le_refl _, hN, hF⟩
  case rest =>
    obtain ⟨b, rfl, hb1, hbk, hbc⟩ := hcut
    have HX := Lib.hid hbk
    have HB := Lib.hid (HB0.out.trans (hbc.mono (Nat.le_of_lt HP0.out.lt)))
    have HE := Lib.hid (HEW.out.keep hbc)
    clear p0 p1 p2 q0 q1 q2 q3 hbc hbk hb1 HEW HSW HP0 HB0 HCA
    have HFN := Lib.hid (show fullN ((S.ino i).ents.take ne) nm but = fullN (S.ino i).ents nm but by rw [← HNE.out, List.take_length])
    have HFL := Lib.hid (show ∀ k, fullN ((S.ino i).ents.take k) nm but ≤ 32 from fun k => by
      unfold fullN
      have h1 := List.length_filter_le (inB nm but) ((S.ino i).ents.take k)
      have h2 := List.length_take_le' k (S.ino i).ents
      have := HNE.out
      omega)
    go_wp2_with (fail)
    go_loopw [9, 11] (fun m i' wr => ∃ k d : Nat, i' = .int .i64 k ∧ k ≤ ne ∧ m = .int .i64 (fullN ((S.ino i).ents.take k) nm but : Nat) ∧ wr = wc.drewN d) (fun _ i' _ => ne - (intOf i').toNat)
    case atStart => exact ⟨0, 0, rfl, by omega, rfl, rfl⟩
    case round =>
      obtain ⟨k, d, rfl, hk, rfl, rfl⟩ := hrel
      have HXd := Lib.hid (show Blk (wc.drewN d) b 56 _ from HX.out)
      have HEd := Lib.hid (show RowAt (wc.drewN d) (.slice EA ne ecap) ne 2 (entC S i) from HE.out)
      have x2 : (wc.drewN d).cell? ⟨b, 2, none⟩ = some (.slice EA ne ecap) := HXd.out.cell 2
      obtain ⟨wd, hwd⟩ : ∃ wd, wd = wc.drewN d := ⟨_, rfl⟩
      have HWD := Lib.hid hwd
      rw [← hwd] at HXd HEd x2 ⊢
      clear hwd
      by_cases hq : k < ne
      · have hq1 : (k : Int) < (ne : Int) := by omega
        obtain ⟨-, hecap, eg, eoff, rfl, hecell⟩ := HEd.out.at_ hq
        have e0 : wd.cell? ⟨eg, eoff + k * 2, none⟩ = some (.string (S.enm i k)) := hecell 0 (by omega)
        have hkl : k < (S.ino i).ents.length := by rw [HNE.out]; exact hq
        have HFS := Lib.hid (fullN_succ (nm := nm) (but := but) hkl)
        have hnk : (S.ino i).ents[k].1 = S.enm i k := by rw [HNS.out, getD_lt hkl]
        have hfl := HFL.out k
        have HSZ := Lib.hid (show (S.enm i k).size ≤ 100 by have := ncheck_size (HNK.out k hkl); omega)
        unfold inB at HFS
        rw [hnk] at HFS
        clear hecell hnk hkl
        generalize fullN ((S.ino i).ents.take k) nm but = fk at *
        generalize S.enm i k = s1 at *
        have HBK1 := Lib.hid (fun W => rbucket_calls s1 (by have := HSZ.out; omega) W)
        have HBK2 := Lib.hid (fun W => rbucket_calls nm (by omega) W)
        by_cases e1 : s1 = but
        · have e2 : (s1.toList == but.toList) = true := by rw [e1]; simp
          have HF2 := Lib.hid (show fullN ((S.ino i).ents.take (k + 1)) nm but = fk by rw [HFS.out, if_neg (by simp [e1])]; rfl)
          clear e1
          go_wp2_with (fail)
          go_roundw
          case rel => exact ⟨k + 1, d, by go_num, by omega, by rw [HF2.out], HWD.out⟩
          case measure =>
            simp only [intOf]
            omega
        · have e2 : (s1.toList == but.toList) = false := by
            rw [beq_eq_false_iff_ne]
            exact fun h => e1 (toList_inj h)
          by_cases e3 : nbucket s1 = nbucket nm
          · have e4 : ((nbucket s1 : Int) == (nbucket nm : Int)) = true := by rw [e3]; simp
            have HF2 := Lib.hid (show fullN ((S.ino i).ents.take (k + 1)) nm but = fk + 1 by rw [HFS.out, if_pos (by simp [e1, e3])])
            clear e1 e3
            generalize nbucket s1 = b1 at *
            generalize nbucket nm = b2 at *
            go_wp2_with (first | (go_at_call 85; refine (HBK1.out _).mono ?_; rintro e w5 ⟨rfl, d5, rfl⟩) | (go_at_call 85; refine (HBK2.out _).mono ?_; rintro e w6 ⟨rfl, d6, rfl⟩))
            go_roundw
            case rel => exact ⟨k + 1, d + (d5 + d6), by go_num, by omega, by rw [HF2.out]; go_num, by rw [HWD.out]; simp [World.drewN, Nat.add_assoc]⟩
            case measure =>
              simp only [intOf]
              omega
          · have e4 : ((nbucket s1 : Int) == (nbucket nm : Int)) = false := by rw [beq_eq_false_iff_ne]; omega
            have HF2 := Lib.hid (show fullN ((S.ino i).ents.take (k + 1)) nm but = fk by rw [HFS.out, if_neg (by simp [e1, e3])]; rfl)
            clear e1 e3
            generalize nbucket s1 = b1 at *
            generalize nbucket nm = b2 at *
            go_wp2_with (first | (go_at_call 85; refine (HBK1.out _).mono ?_; rintro e w5 ⟨rfl, d5, rfl⟩) | (go_at_call 85; refine (HBK2.out _).mono ?_; rintro e w6 ⟨rfl, d6, rfl⟩))
            go_roundw
            case rel => exact ⟨k + 1, d + (d5 + d6), by go_num, by omega, by rw [HF2.out], by rw [HWD.out]; simp [World.drewN, Nat.add_assoc]⟩
            case measure =>
              simp only [intOf]
              omega
      · obtain rfl : k = ne := by omega
        rw [HFN.out]
        have hfl := HFL.out k
        rw [HFN.out] at hfl
        obtain ⟨fk, hfk⟩ : ∃ f, fullN (S.ino i).ents nm but = f := ⟨_, rfl⟩
        have HFK := Lib.hid hfk
        rw [hfk] at hfl ⊢
        clear hfk
        go_wp2_with (fail)
        go_ret
        refine ⟨?_, ?_⟩
        · rw [HFK.out]; simp; omega
        · rw [← HP.out, HWD.out]; exact HB.out.trans ⟨rfl, rfl, rfl, Nat.le_refl _, fun _ _ => rfl⟩
end Go.Proofs.Ytenlffhoinialaa
end

