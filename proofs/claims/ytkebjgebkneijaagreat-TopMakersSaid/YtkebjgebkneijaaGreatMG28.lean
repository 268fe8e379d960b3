/- Texts of one's own that a claim's last text rests on: Dr9 Dr8 Dr10 Dr11 Reads. -/
import Derived.Test.YtkebjgebkneijaaGreatMG27
import Derived.Test.YtkebjgebkneijaaGreatMG23
import Derived.Defers
import Derived.Recover
import Derived.Laws.Pointers
import Derived.Test.YtkebjgebkneijaaGreatMG1
import Derived.Below
import Derived.Laws.OwnMore
import Derived.Deep.AppendLies
import Derived.Deep.Draws
import Derived.Maps.AppendAt
import Derived.RegionTactic
import Derived.OwnWalk
set_option linter.unusedVariables false
set_option linter.unusedSimpArgs false
namespace Go.Proofs.YtkebjgebkneijaaGreat
section
open Go.RowKit
set_option maxHeartbeats 2000000
section
variable {W : World} {base ob db : Nat} {c : CallV} {r : ResV} {iv ov mv : Value} {Iv : List InV} {S : St}
theorem Doer.mrow (h : Doer W base ob db c r iv ov mv Iv S) (hn : 0 < S.made.length) : ∃ g cap, mv = .slice (some ⟨g, 0, none⟩) S.made.length cap /\ base <= g /\ ∀ j, j < S.made.length -> W.cell? ⟨g, j, none⟩ = some (.int .i64 (S.mad j)) := by
 have hm := h.st.mad
 rcases hm.2 with ⟨-, q⟩ | ⟨g, cap, cur, rfl, hb, -⟩
 ·omega
 ·refine ⟨g, cap, rfl, hb, fun j hj => ?_⟩
  rw [own_cell hm (by omega)]
  have h2 := flat_get_k (k := 1) (enc := encM) (by decide) encM_len S.made j
  rw [Nat.div_one, Nat.mod_one] at h2
  rw [h2, List.getElem?_eq_getElem hj]
  show some (Value.int .i64 S.made[j]) = some (Value.int .i64 (S.made.getD j 0))
  rw [getD_lt hj]
theorem Doer.mcell {mg mcap n : Nat} (h : Doer W base ob db c r iv ov (.slice (some ⟨mg, 0, none⟩) n mcap) Iv S) (hn : n = S.made.length) {j : Nat} (hj : j < S.made.length) : W.cell? ⟨mg, j, none⟩ = some (.int .i64 (S.mad j)) /\ W.frozen? ⟨mg, j, none⟩ = false /\ base <= mg := by
 obtain ⟨g, cap, e, hb, hc⟩ := h.mrow (by omega)
 injection e with e1 e2 e3
 injection e1 with e1
 injection e1 with e1
 subst e1
 obtain ⟨-, cs, hB⟩ := own_type h.st.mad rfl
 exact ⟨hc j hj, Blk.frozen hB _, hb⟩
theorem Doer.putM {mg mcap n : Nat} (h : Doer W base ob db c r iv ov (.slice (some ⟨mg, 0, none⟩) n mcap) Iv S) (hn : n = S.made.length) {j : Nat} (hj : j < S.made.length) (v : Int) : Doer (W.setCell ⟨mg, j, none⟩ (.int .i64 v)) base ob db c r iv ov (.slice (some ⟨mg, 0, none⟩) n mcap) Iv { S with made := S.made.set j v } := by
 obtain ⟨-, cs, hB⟩ := own_type h.st.mad rfl
 exact ⟨h.ob_, h.db_, h.o.far (p := ⟨mg, j, none⟩) (Blk.ne_ h.o hB (by decide)) _, h.d.far (p := ⟨mg, j, none⟩) (Blk.ne_ h.d hB (by decide)) _, h.st.putM hn hj v⟩
theorem setI_num (S : St) (k : Nat) (L : List (ByteArray × Int)) (i : Nat) : (S.setI k { S.ino k with ents := L }).num i = S.num i := by
 unfold St.num St.ino St.setI
 simp only [List.getD_eq_getElem?_getD, List.getElem?_set]
 by_cases e : k = i
 ·subst e
  by_cases h : k < S.inodes.length
  ·rw [if_pos rfl, if_pos h]
   simp [St.ino, List.getElem?_eq_getElem h]
  ·rw [if_pos rfl, if_neg h]
   simp [List.getElem?_eq_none (show S.inodes.length <= k by omega)]
 ·rw [if_neg e]
theorem Doer.drew (h : Doer W base ob db c r iv ov mv Iv S) : Doer W.drew base ob db c r iv ov mv Iv S := h.below (below_drew W)
set_option maxRecDepth 1000000 in
theorem create_go (h : Doer W base ob db c r iv ov mv Iv S) (hI : Inv S) (hp : c.path.size <= 4611686018427387904) {cn : Nat} (hc : c.core = cn) (hcn : cn < S.made.length) {k : Nat} {nm : ByteArray} (hs : parentS S c.path = .ok (k, nm)) (hE : entF (S.ino k).ents nm = none) :
  Calls Tryz.prog 77 #[.pointer (some ⟨db, 0, none⟩)] W fun e w' => DoneR base ob db c W e w' (if (fullS (S.ino k).ents nm ⟨#[]⟩ || decide (32 <= S.mad cn)) = true then .error 5 else
   .ok (makeS S cn (S.num k) (insE (nm, 2 + (cn : Int) + 8 * S.mad cn) (S.ino k).ents) ⟨2 + (cn : Int) + 8 * S.mad cn, c.kind == 1, [], nm0⟩, r)) := by
 obtain ⟨g, icap, ics, rfl, -, -, -⟩ := h.row hI.pos
 obtain ⟨mg, mcap, rfl, hmb, hmc⟩ := h.mrow (by omega)
 have HPR := lhi (parent_calls h hI hp)
 rw [hs] at HPR
 obtain ⟨hk, hdir⟩ := parentS_lt hI hs
 have hl := h.st.len'
 have hkI : k < Iv.length := by omega
 have hino := h.st.at_ hkI
 have hek := h.st.ent k hkI
 have c2 := h.st.cell hl.symm hkI (show 2 < 4 by omega)
 have HBS := lhi h.bs
 have H := lhi h
 have d6 : W.cell? ⟨db, 6, none⟩ = some (.string c.path) := h.d.cell 6
 obtain ⟨q, hq⟩ : ∃ q, Iv[k] = q := ⟨_, rfl⟩
 rw [hq] at hino hek c2
 obtain ⟨p1, ev⟩ := q
 replace hino : p1 = S.ino k := hino
 subst hino
 obtain ⟨es, hes⟩ : ∃ es, (S.ino k).ents = es := ⟨_, rfl⟩
 replace hek : W.ownsRow base 132 2 ev es.length (es.flatMap encEn) := by rw [<- hes]; exact hek
 have hen := (hI.ord).ents k hk
 have HNE := lhi (entF_none hE)
 rw [hes] at hE hen HNE ⊢
 have HEN := lhi (fun (V : World) (hb : Below W.heap.size W V) => entry_no (own_rowT (by decide) encEn_len (own_below hek hb) (cl_entEn _)).at' hen.1 nm hen.2 hE)
 have HEK := lhi hek
 have HEO := lhi hen
 have HES := lhi hes
 have HI := lhi hI
 have hm := hmc cn hcn
 obtain ⟨m, hmm⟩ : ∃ m, S.mad cn = m := ⟨_, rfl⟩
 have HMM := lhi hmm
 have hcc : (cn : Int) < S.made.length := by omega
 rw [hmm] at hm ⊢
 obtain ⟨EA, ecap, rfl, -⟩ := own_form hek
 replace c2 : W.cell? ⟨g, k * 4 + 2, none⟩ = some (.slice EA es.length ecap) := c2
 have HFU := lhi (fun (V : World) (hb : Below W.heap.size W V) => full_calls (W := V) (g := g) (o := k * 4) ((hb.cell (World.block_lt_of_cell? _ _ c2)).trans c2) (own_rowT (by decide) encEn_len (own_below hek hb) (cl_entEn _)).at' hen.1 nm ⟨#[]⟩)
 obtain ⟨RES, hres⟩ : ∃ R : Except Int (St × ResV), (if (fullS es nm ⟨#[]⟩ || decide (32 <= m)) = true then .error 5 else .ok (makeS S cn (S.num k) (insE (nm, 2 + (cn : Int) + 8 * m) es) ⟨2 + (cn : Int) + 8 * m, c.kind == 1, [], nm0⟩, r)) = R := ⟨_, rfl⟩
 have HRES := lhi hres
 rw [hres]
 have hbs := h.bs
 clear h hI hp hs hek hes hq hen hE hkI hl hmm hmc hres
 go_enter Tryz.func77, Tryz.ntmps77
 go_upto_region 2 with (first
  | (go_at_call 115; refine HPR.out.mono ?_; rintro e w1 ⟨he, hb1⟩; have he : e = .returned (.tuple #[.pointer (some ⟨g, k * 4, none⟩), .string nm]) := he; subst he; have HB1 := lhi hb1; have y2 : w1.cell? ⟨g, k * 4 + 2, none⟩ = some (.slice EA es.length ecap) := (hb1.cell (World.block_lt_of_cell? _ _ c2)).trans c2; clear hb1 HPR)
  | (go_at_call 93; refine (HEN.out _ HB1.out).mono ?_; rintro e w2 ⟨⟨j, rfl⟩, hb2⟩; have HB2 := lhi (HB1.out.trans (hb2.mono HB1.out.size)); clear hb2 y2))
 go_upto_region 3 with (go_at_call 116; refine (mthrow_no _ _).mono ?_; rintro e w' ⟨rfl, rfl⟩)
 have H2 := lhi (H.out.below HB2.out)
 have d0 : w2.cell? ⟨db, 0, none⟩ = some (.pointer (some ⟨ob, 0, none⟩)) := H2.out.d.cell 0
 have d2 : w2.cell? ⟨db, 2, none⟩ = some (.int .i64 cn) := by rw [H2.out.d.cell 2, <- hc]; rfl
 have o2 : w2.cell? ⟨ob, 2, none⟩ = some (.slice (some ⟨mg, 0, none⟩) S.made.length mcap) := H2.out.o.cell 2
 have m0 : w2.cell? ⟨mg, cn, none⟩ = some (.int .i64 m) := (HB2.out.cell (World.block_lt_of_cell? _ _ hm)).trans hm
 go_region
 have HB3 := lhi (HB2.out.trans ((below_drew w2).mono HB2.out.size))
 have H3 := lhi H2.out.drew
 obtain ⟨w3, hw3⟩ : ∃ w3, w3 = w2.drew := ⟨_, rfl⟩
 rw [<- hw3] at HB3 H3 ⊢
 have hmr : 0 <= m /\ m <= 32 := by
  have := HI.out.mb _ (getD_mem (d := 0) hcn)
  rw [show S.made.getD cn 0 = m from HMM.out] at this
  exact this
 clear hw3 d0 d2 o2 m0 H2 HB2 HB1
 cases hF : fullS es nm ⟨#[]⟩ with
 | true =>
  obtain rfl : RES = .error 5 := by rw [<- HRES.out, hF]; rfl
  rw [hF] at HFU
  go_wp2_with (first
   | (go_at_call 117; refine (HFU.out _ HB3.out).mono ?_; rintro e w4 ⟨rfl, hb4⟩)
   | (go_at_call 116; refine (mthrow_yes _ _).mono ?_; rintro e w' ⟨rfl, rfl⟩))
  exact ⟨rfl, rfl, (HB3.out.mono hbs).trans (hb4.mono (Nat.le_trans hbs HB3.out.size))⟩
 | false =>
  rw [hF] at HFU
  by_cases h32 : 32 <= m
  ·obtain rfl : RES = .error 5 := by rw [<- HRES.out, hF, decide_eq_true h32]; rfl
   go_wp2_with (first
    | (go_at_call 117; refine (HFU.out _ HB3.out).mono ?_; rintro e w4 ⟨rfl, hb4⟩)
    | (go_at_call 116; refine (mthrow_yes _ _).mono ?_; rintro e w' ⟨rfl, rfl⟩))
   exact ⟨rfl, rfl, (HB3.out.mono hbs).trans (hb4.mono (Nat.le_trans hbs HB3.out.size))⟩
  ·obtain ⟨num, hnum⟩ : ∃ x, x = 2 + (cn : Int) + 8 * m := ⟨_, rfl⟩
   obtain ⟨SR, hSR⟩ : ∃ R, R = makeS S cn (S.num k) (insE (nm, num) es) ⟨num, c.kind == 1, [], nm0⟩ := ⟨_, rfl⟩
   obtain rfl : RES = .ok (SR, r) := by rw [<- HRES.out, hF, decide_eq_false h32, hSR, hnum]; rfl
   have HSR := lhi hSR
   have h8 := HI.out.m8
   have HNU := lhi (num_in (cn : Int) m ⟨by omega, by omega⟩ ⟨by omega, by omega⟩)
   rw [<- hnum] at HNU
   have HNM := lhi (show 0 <= num /\ num <= 1000000 by omega)
   have hd32 : decide ((32 : Int) <= m) = false := decide_eq_false h32
   have HNV := lhi hnum
   clear HRES hSR hnum
   go_upto_region 5 with (first
    | (go_at_call 117; refine (HFU.out _ HB3.out).mono ?_; rintro e w4 ⟨rfl, hb4⟩; have HB4 := lhi (HB3.out.trans (hb4.mono HB3.out.size)); have H4 := lhi (H3.out.below hb4); clear hb4)
    | (go_at_call 116; refine (mthrow_no _ _).mono ?_; rintro e w' ⟨rfl, rfl⟩))
   have d2 : w4.cell? ⟨db, 2, none⟩ = some (.int .i64 cn) := by rw [H4.out.d.cell 2, <- hc]; rfl
   have HPU := lhi (put_calls (num := num) H4.out hk (s := nm) (by rw [HES.out]; exact HEO.out.2) (by rw [HES.out]; exact HEO.out.1) (by rw [HES.out]; exact HNE.out))
   rw [HES.out] at HPU
   go_upto_region 7 with (first
    | (go_at_call 118; refine (HNU.out _).mono ?_; rintro e w' ⟨rfl, rfl⟩)
    | (go_at_call 119; refine HPU.out.mono ?_; rintro e w5 ⟨rfl, hb5, Iv5, hd5⟩; have HB5 := lhi hb5; have H5 := lhi hd5; clear hb5 hd5))
   obtain ⟨m0, f0, hmg⟩ := H5.out.mcell rfl hcn
   rw [show (S.setI k { S.ino k with ents := insE (nm, num) es }).mad cn = m from HMM.out] at m0
   have d0 : w5.cell? ⟨db, 0, none⟩ = some (.pointer (some ⟨ob, 0, none⟩)) := H5.out.d.cell 0
   have d2' : w5.cell? ⟨db, 2, none⟩ = some (.int .i64 cn) := by rw [H5.out.d.cell 2, <- hc]; rfl
   have o2 : w5.cell? ⟨ob, 2, none⟩ = some (.slice (some ⟨mg, 0, none⟩) S.made.length mcap) := H5.out.o.cell 2
   have hw1 : IntKind.i64.wrap (m + 1) = m + 1 := by rw [IntKind.wrap_i64]; omega
   clear d2
   go_region
   obtain ⟨S6, hS6⟩ : ∃ S6, S6 = { S.setI k { S.ino k with ents := insE (nm, num) es } with made := S.made.set cn (m + 1) } := ⟨_, rfl⟩
   have HS6 := lhi hS6
   have H6 := lhi (show Doer (w5.setCell ⟨mg, cn, none⟩ (.int .i64 (m + 1))).drew base ob db c r (.slice (some ⟨g, 0, none⟩) S.inodes.length icap) ov (.slice (some ⟨mg, 0, none⟩) S.made.length mcap) Iv5 S6 by rw [hS6]; exact (H5.out.putM rfl hcn (m + 1)).drew)
   have HB6 := lhi (show Below base W (w5.setCell ⟨mg, cn, none⟩ (.int .i64 (m + 1))).drew from by
    have h4 : Below base W w4 := HB4.out.mono hbs
    have h5 := (h4.trans HB5.out).setCell (p := ⟨mg, cn, none⟩) hmg (.int .i64 (m + 1))
    exact h5.trans ((below_drew _).mono (Nat.le_trans hbs h5.size)))
   obtain ⟨w6, hw6⟩ : ∃ w6, w6 = (w5.setCell ⟨mg, cn, none⟩ (.int .i64 (m + 1))).drew := ⟨_, rfl⟩
   rw [<- hw6] at H6 HB6 ⊢
   have hn6 : S6.inodes.length = S.inodes.length := by rw [hS6]; simp [St.setI]
   have hnm6 : ∀ i, S6.num i = S.num i := fun i => by rw [hS6]; exact setI_num S k _ i
   obtain ⟨n, hnn⟩ : ∃ n, S.inodes.length = n := ⟨_, rfl⟩
   have HNN := lhi hnn
   have hni := HI.out.small.ni
   rw [hnn] at H6 hn6
   have HBC := lhi (bsC_calls (w := w6) (by rw [<- hn6] at H6; exact H6.out.stm) (by omega) num HNM.out (fun i hi => by
    rw [hnm6]
    have := HI.out.num_bound (Inv.ino_mem (show i < S.inodes.length by omega))
    exact ⟨by have := this.1; show 0 <= (S.ino i).num; omega, by have := this.2; show (S.ino i).num <= _; omega⟩) (fun i j hij hj => by
    rw [hnm6, hnm6]
    exact HI.out.num_lt (by omega) hij))
   rw [hn6] at HBC
   have d0 : w6.cell? ⟨db, 0, none⟩ = some (.pointer (some ⟨ob, 0, none⟩)) := H6.out.d.cell 0
   have o0 : w6.cell? ⟨ob, 0, none⟩ = some (.slice (some ⟨g, 0, none⟩) n icap) := H6.out.o.cell 0
   clear hw6 hS6 hnn m0 f0 d2' o2 hw1 HPU HNU hni
   go_upto_region 9 with (go_at_call 120; refine HBC.out.mono ?_; rintro e w7 ⟨⟨at_, hat, h1, h2, rfl⟩, hb7⟩; have HA1 := lhi h1; have HA2 := lhi h2; have HB7 := lhi (HB6.out.trans (hb7.mono (Nat.le_trans hbs HB6.out.size))); have H7 := lhi (H6.out.below hb7); clear h1 h2 hb7 HBC d0 o0)
   have HBI := lhi (show Below w7.heap.size w7 (w7.alloc (.cells #[.int .i64 num, .bool (c.kind == 1), .slice none 0 0, .string ⟨#[]⟩] 93)).drew from by
    have q := (Below.refl w7.heap.size w7).alloc (Nat.le_refl _) (.cells #[.int .i64 num, .bool (c.kind == 1), .slice none 0 0, .string ⟨#[]⟩] 93)
    exact q.trans ((below_drew _).mono q.size))
   have H8 := lhi (H7.out.below HBI.out)
   have HXB := lhi (show Blk (w7.alloc (.cells #[.int .i64 num, .bool (c.kind == 1), .slice none 0 0, .string ⟨#[]⟩] 93)).drew w7.heap.size 93 #[.int .i64 num, .bool (c.kind == 1), .slice none 0 0, .string ⟨#[]⟩] from Blk.new w7 _ _)
   have HBE := lhi (HB7.out.trans (HBI.out.mono (Nat.le_trans hbs HB7.out.size)))
   have hlI : Iv5.length = n := by rw [H8.out.st.len', hn6]
   have hown8 := H8.out.st.ino
   rw [hlI] at hown8
   have HIN := lhi (show Calls Tryz.prog 122 #[.slice (some ⟨g, 0, none⟩) n icap, .int .i64 at_, .slice (some ⟨w7.heap.size, 0, none⟩) 1 1] _ _ from by
    have q := insertI_any (i := at_) (x := ((⟨num, c.kind == 1, [], nm0⟩ : Ino), Value.slice none 0 0)) (xb := w7.heap.size) H8.out.st.ino (by omega) HXB.out (fun q => by have := (H7.out.st.ino.lt _ q).2; omega) (fun y hy => by
     rcases List.mem_cons.1 hy with rfl | hy
     ·intro u hu
      simp only [encI, List.mem_cons, List.not_mem_nil, or_false] at hu
      rcases hu with rfl | rfl | rfl | rfl <;> rfl
     ·exact H8.out.st.one y hy) (by have := HI.out.small.ni; have := HNN.out; omega) H8.out.bs
    exact q)
   have HNO := lhi (own_blk_ne hown8 H8.out.o (by decide))
   have HND := lhi (own_blk_ne hown8 H8.out.d (by decide))
   have d0 : w7.drew.cell? ⟨db, 0, none⟩ = some (.pointer (some ⟨ob, 0, none⟩)) := H7.out.d.cell 0
   have o0 : w7.drew.cell? ⟨ob, 0, none⟩ = some (.slice (some ⟨g, 0, none⟩) n icap) := H7.out.o.cell 0
   have d1 : w7.drew.cell? ⟨db, 1, none⟩ = some (.int .i64 c.kind) := H7.out.d.cell 1
   clear hown8
   refine wp_region_E_drew (L := 24) (S := fun w' => w'.cell? ⟨db, 0, none⟩ = some (.pointer (some ⟨ob, 0, none⟩)) /\ w'.cell? ⟨ob, 0, none⟩ = some (.slice (some ⟨g, 0, none⟩) n icap) /\ w'.cell? ⟨db, 1, none⟩ = some (.int .i64 c.kind)) (by kernel_rfl) (⟨d0, o0, d1⟩) (fun hHeld => ?_)
   refine wpAnyF_take (i := 0) (oi := ⟨some 92, _, _, _, _, _⟩) (v := ?ve1) rfl (by kernel_rfl) (fun _ _ _ h => h) (Or.inl ⟨by kernel_rfl, fun w hSw => ?_⟩) (by assumption) ?_
   rotate_left
   ·(go_simp; rfl)
   simp only [Act.put, lTA, lC0, lCS]
   refine wpAnyF_take (i := 1) (oi := ⟨some 93, _, _, _, _, _⟩) (v := ?ve2) rfl (by kernel_rfl) (fun _ _ _ h => h) (Or.inl ⟨by kernel_rfl, fun w hSw => ?_⟩) (by assumption) ?_
   rotate_left
   ·(go_simp; rfl)
   simp only [Act.put, lTA, lC0, lCS]
   refine wpAnyF_take (i := 2) (oi := ⟨some 94, _, _, _, _, _⟩) (v := ?ve3) rfl (by kernel_rfl) (fun _ _ _ h => h) (Or.inl ⟨by kernel_rfl, fun w hSw => ?_⟩) (by assumption) ?_
   rotate_left
   ·(go_simp; rfl)
   simp only [Act.put, lTA, lC0, lCS]
   refine wpAnyF_take (i := 3) (oi := ⟨some 95, _, _, _, _, _⟩) (v := ?ve4) rfl (by kernel_rfl) (fun _ _ _ h => h) (Or.inl ⟨by kernel_rfl, fun w hSw => ?_⟩) (by assumption) ?_
   rotate_left
   ·(go_simp; rfl)
   simp only [Act.put, lTA, lC0, lCS]
   refine wpAnyF_take (i := 4) (oi := ⟨some 96, _, _, _, _, _⟩) (v := ?ve5) rfl (by kernel_rfl) (fun _ _ _ h => h) (Or.inl ⟨by kernel_rfl, fun w hSw => ?_⟩) (by assumption) ?_
   rotate_left
   ·(go_simp; rfl)
   simp only [Act.put, lTA, lC0, lCS]
   refine wpAnyF_take (i := 5) (oi := ⟨some 97, _, _, _, _, _⟩) (v := ?ve6) rfl (by kernel_rfl) (fun _ _ _ h => h) (Or.inl ⟨by kernel_rfl, fun w hSw => ?_⟩) (by assumption) ?_
   rotate_left
   ·(go_simp; rfl)
   simp only [Act.put, lTA, lC0, lCS]
   refine wpAnyF_take (i := 6) (oi := ⟨some 98, _, _, _, _, _⟩) (v := ?ve7) rfl (by kernel_rfl) (fun _ _ _ h => h) (Or.inl ⟨by kernel_rfl, fun w hSw => ?_⟩) (by assumption) ?_
   rotate_left
   ·(go_simp; rfl)
   simp only [Act.put, lTA, lC0, lCS]
   refine wpAnyF_take (i := 7) (oi := ⟨some 99, _, _, _, _, _⟩) (v := ?ve8) rfl (by kernel_rfl) (fun _ _ _ h => h) (Or.inl ⟨by kernel_rfl, fun w hSw => ?_⟩) (by assumption) ?_
   rotate_left
   ·(go_simp; rfl)
   simp only [Act.put, lTA, lC0, lCS]
   refine wpAnyF_take (i := 8) (oi := ⟨some 100, _, _, _, _, _⟩) (v := ?ve9) rfl (by kernel_rfl) (fun _ _ _ h => h) (Or.inl ⟨by kernel_rfl, fun w hSw => ?_⟩) (by assumption) ?_
   rotate_left
   ·(go_simp; rfl)
   simp only [Act.put, lTA, lC0, lCS]
   refine wpAnyF_take (i := 9) (oi := ⟨some 101, _, _, _, _, _⟩) (v := ?ve10) rfl (by kernel_rfl) (fun _ _ _ h => h) (Or.inl ⟨by kernel_rfl, fun w hSw => ?_⟩) (by assumption) ?_
   rotate_left
   ·(go_simp; rfl)
   simp only [Act.put, lTA, lC0, lCS]
   refine wpAnyF_take (i := 10) (oi := ⟨some 102, _, _, _, _, _⟩) (v := ?ve11) rfl (by kernel_rfl) (fun _ _ _ h => h) (Or.inl ⟨by kernel_rfl, fun w hSw => ?_⟩) (by assumption) ?_
   rotate_left
   ·(go_simp; rfl)
   simp only [Act.put, lTA, lC0, lCS]
   refine wpAnyF_take (i := 11) (oi := ⟨some 103, _, _, _, _, _⟩) (v := ?ve12) rfl (by kernel_rfl) (fun _ _ _ h => h) (Or.inl ⟨by kernel_rfl, fun w hSw => ?_⟩) (by assumption) ?_
   rotate_left
   ·(go_simp; rfl)
   simp only [Act.put, lTA, lC0, lCS]
   refine wpAnyF_take (i := 12) (oi := ⟨some 104, _, _, _, _, _⟩) (v := ?ve13) rfl (by kernel_rfl) (fun _ _ _ h => h) (Or.inl ⟨by kernel_rfl, fun w hSw => ?_⟩) (by assumption) ?_
   rotate_left
   ·(go_simp; rfl)
   simp only [Act.put, lTA, lC0, lCS]
   refine wpAnyF_take (i := 13) (oi := ⟨some 105, _, _, _, _, _⟩) (v := ?ve14) rfl (by kernel_rfl) (fun _ _ _ h => h) (Or.inl ⟨by kernel_rfl, fun w hSw => ?_⟩) (by assumption) ?_
   rotate_left
   ·(go_simp; rfl)
   simp only [Act.put, lTA, lC0, lCS]
   refine wpAnyF_take (i := 14) (oi := ⟨some 106, _, _, _, _, _⟩) (v := ?ve15) rfl (by kernel_rfl) (fun _ _ _ h => h) (Or.inl ⟨by kernel_rfl, fun w hSw => ?_⟩) (by assumption) ?_
   rotate_left
   ·(go_simp; rfl)
   simp only [Act.put, lTA, lC0, lCS]
   refine wpAnyF_take (i := 15) (oi := ⟨some 107, _, _, _, _, _⟩) (v := ?ve16) rfl (by kernel_rfl) (fun _ _ _ h => h) (Or.inl ⟨by kernel_rfl, fun w hSw => ?_⟩) (by assumption) ?_
   rotate_left
   ·(go_simp; rfl)
   simp only [Act.put, lTA, lC0, lCS]
   refine wpAnyF_take (i := 16) (oi := ⟨some 108, _, _, _, _, _⟩) (v := ?ve17) rfl (by kernel_rfl) (fun _ _ _ h => h) (Or.inl ⟨by kernel_rfl, fun w hSw => ?_⟩) (by assumption) ?_
   rotate_left
   ·(go_simp; rfl)
   simp only [Act.put, lTA, lC0, lCS]
   refine wpAnyF_take (i := 17) (oi := ⟨some 109, _, _, _, _, _⟩) (v := ?ve18) rfl (by kernel_rfl) (fun _ _ _ h => h) (Or.inl ⟨by kernel_rfl, fun w hSw => ?_⟩) (by assumption) ?_
   rotate_left
   ·(go_simp; rfl)
   simp only [Act.put, lTA, lC0, lCS]
   refine wpAnyF_take (i := 18) (oi := ⟨some 110, _, _, _, _, _⟩) (v := ?ve19) rfl (by kernel_rfl) (fun _ _ _ h => h) (Or.inl ⟨by kernel_rfl, fun w hSw => ?_⟩) (by assumption) ?_
   rotate_left
   ·(go_simp; rfl)
   simp only [Act.put, lTA, lC0, lCS]
   refine wpAnyF_take (i := 19) (oi := ⟨some 111, _, _, _, _, _⟩) (v := ?ve20) rfl (by kernel_rfl) (fun _ _ _ h => h) (Or.inl ⟨by kernel_rfl, fun w hSw => ?_⟩) (by assumption) ?_
   rotate_left
   ·(go_simp; rfl)
   simp only [Act.put, lTA, lC0, lCS]
   refine wpAnyE_one (i := 20) (by kernel_rfl) rfl (fun K hK => ?_)
   go_simp
   obtain ⟨w8, hw8⟩ : ∃ w8, w8 = (w7.alloc (.cells #[.int .i64 num, .bool (c.kind == 1), .slice none 0 0, .string ⟨#[]⟩] 93)).drew := ⟨_, rfl⟩
   rw [<- hw8] at HIN H8 HXB HBE HBI ⊢
   clear hw8
   show K _ _
   refine hK.out _ _ (fun _ => by obtain ⟨a1, a2, a3⟩ := hHeld; exact ⟨H8.out.d.cell 0, H8.out.o.cell 0, H8.out.d.cell 1⟩) (fun hHeld => ?_)
   replace hHeld := hHeld (by decide)
   clear hK K
   refine wpAnyE_one (i := 21) (by kernel_rfl) rfl (fun K hK => ?_)
   go_simp
   refine HIN.out.mono ?_
   rintro e w9 ⟨v', rfl, hown, hgr, hbl⟩
   obtain ⟨NA, ncap, rfl, -⟩ := own_form hown
   have HOW := lhi hown
   have HGR := lhi hgr
   have H9O := lhi (blk_grow H8.out.o HGR.out HNO.out)
   have H9D := lhi (blk_grow H8.out.d HGR.out HND.out)
   clear hown hgr hbl HIN
   show K _ _
   refine hK.out _ _ (fun _ => ⟨H9D.out.cell 0, H9O.out.cell 0, H9D.out.cell 1⟩) (fun hHeld => ?_)
   replace hHeld := hHeld (by decide)
   clear hK K
   refine wpAnyF_take (i := 22) (oi := ⟨some 114, _, _, _, _, _⟩) (v := ?ve21) rfl (by kernel_rfl) (fun _ _ _ h => h) (Or.inl ⟨by kernel_rfl, fun w hSw => ?_⟩) (by assumption) ?_
   rotate_left
   ·(go_simp; rfl)
   simp only [Act.put, lTA, lC0, lCS]
   refine wpAnyF_take (i := 23) (oi := ⟨some 115, _, _, _, _, _⟩) (v := ?ve22) rfl (by kernel_rfl) (fun _ _ _ h => h) (Or.inl ⟨by kernel_rfl, fun w hSw => ?_⟩) (by assumption) ?_
   rotate_left
   ·(go_simp; rfl)
   simp only [Act.put, lTA, lC0, lCS]
   have z0 := hHeld.2.1
   have f0 : w9.frozen? ⟨ob, 0, none⟩ = false := H9O.out.frozen _
   refine wpAnyE_one (i := 24) (by kernel_rfl) rfl (fun K hK => ?_)
   go_simp
   show K _ _
   refine hK.out _ _ (fun h => absurd rfl h) (fun _ => ?_)
   clear hK K
   refine wpAnyE_done (by kernel_rfl) ?_ _
   go_end0
   have hst := H8.out.st.putI (w1 := w9) HGR.out (a := at_) (by omega) (x := ⟨num, c.kind == 1, [], nm0⟩) rfl HOW.out
   have hob := H8.out.ob_
   have hgb : base <= g := (H7.out.st.ino.lt g rfl).1
   have hSQ : SR = { S6 with inodes := S6.inodes.take at_ ++ ⟨num, c.kind == 1, [], nm0⟩ :: S6.inodes.drop at_ } := by
    have e1 : (setE S (S.num k) (insE (nm, num) es)).inodes = S6.inodes := by rw [setE_set HI.out hk, HS6.out]; rfl
    have hget : ∀ i (hi : i < S6.inodes.length), S6.inodes[i].num = S.num i := fun i hi => by rw [<- num_get hi]; exact hnm6 i
    have e2 := insBy_at (lt := ltN) (p := (⟨num, c.kind == 1, [], nm0⟩ : Ino)) (l := S6.inodes) (k := at_) (by omega) (fun i hi hik => by
     unfold ltN
     simp only [hget i hi]
     have := HA1.out i hik
     rw [hnm6] at this
     exact decide_eq_false (by omega)) (fun i hi hik => by
     unfold ltN
     simp only [hget i hi]
     have h1 := HA2.out i hik (by omega)
     rw [hnm6] at h1
     have h2 := HI.out.fresh hcn _ (Inv.ino_mem (show i < S.inodes.length by have := HNN.out; omega))
     rw [HMM.out, <- HNV.out] at h2
     have h2 : S.num i ≠ num := h2
     exact decide_eq_true (by omega))
    rw [HSR.out]
    unfold makeS
    rw [e1, <- e2, HMM.out, HS6.out]
    rfl
   rw [hSQ]
   rw [hlI] at hst
   have hbw : Below base W (w9.setCell ⟨ob, 0, none⟩ (.slice NA (n + 1) ncap)) := (HBE.out.trans (below_grow HGR.out H8.out.bs (fun b hb => by
    have e : g = b := by injection hb
    omega))).setCell (p := ⟨ob, 0, none⟩) hob _
   exact ⟨rfl, hbw, .slice NA (n + 1) ncap, _, _, _, H8.out.ob_, H8.out.db_, H9O.out.set_ 0 _, H9D.out.far (p := ⟨ob, 0, none⟩) (Blk.ne_ H9D.out H9O.out (by decide)) _, hst.far H9O.out (by decide) (by decide) (by decide) (by decide) 0 _⟩
theorem create_calls (h : Doer W base ob db c r iv ov mv Iv S) (hI : Inv S) (hp : c.path.size <= 4611686018427387904) (hc : 0 <= c.core /\ c.core < S.made.length) :
  Calls Tryz.prog 77 #[.pointer (some ⟨db, 0, none⟩)] W fun e w' => DoneR base ob db c W e w' ((createS S c.kind c.core c.path).map fun S' => (S', r)) := by
 unfold createS
 cases hs : parentS S c.path with
 | error k => exact (create_bad1 h hI hp hs).mono fun e w' hq => hq
 | ok q =>
  obtain ⟨k, nm⟩ := q
  cases hE : entF (S.ino k).ents nm with
  | some j =>
   simp only [hE, Option.isSome_some, if_true]
   exact (create_bad2 h hI hp hs hE).mono fun e w' hq => hq
  | none =>
   have e : (c.core.toNat : Int) = c.core := by omega
   have q := create_go h hI hp (cn := c.core.toNat) e.symm (by omega) hs hE
   simp only [hE, Option.isSome_none, Bool.false_eq_true, if_false]
   rw [e] at q
   split
   ·rename_i hx
    rw [if_pos hx] at q
    exact q
   ·rename_i hx
    rw [if_neg hx] at q
    exact q
end
end
section
open Go.RowKit
set_option maxHeartbeats 2000000
set_option maxRecDepth 1000000 in
theorem may_yes {w : World} {sp cp : Nat} {iv ov mv : Value} {ev : Nat -> Value} {S : St} {c : CallV} (hS : StM w iv ov mv ev S) (hI : Inv S) (hs : Blk w sp 30 #[iv, ov, mv]) (hc : Blk w cp 24 c.cs) (hk : 0 <= c.kind /\ c.kind <= 16) (hcore : 0 <= c.core /\ c.core < S.made.length) :
  Calls Tryz.prog 30 #[.pointer (some ⟨sp, 0, none⟩), .pointer (some ⟨cp, 0, none⟩)] w fun e w' => e = .returned (.bool true) /\ Below w.heap.size w w' := by
 have HMY := lhi (fun (V : World) (hb : Below w.heap.size w V) => May_yes (hS.keep hb) hI)
 obtain ⟨A, cap, rfl, -, -⟩ := hS.ino
 obtain ⟨OA, ocap, rfl, -, -⟩ := hS.opn
 obtain ⟨MA, mcap, rfl, -, -⟩ := hS.mad
 have x0 : ∀ x : WIn (Bel w), x.v.cell? ⟨sp, 0, none⟩ = some (.slice A S.inodes.length cap) := fun x => x.cell (hs.cell 0)
 have x1 : ∀ x : WIn (Bel w), x.v.cell? ⟨sp, 1, none⟩ = some (.slice OA S.opens.length ocap) := fun x => x.cell (hs.cell 1)
 have x2 : ∀ x : WIn (Bel w), x.v.cell? ⟨sp, 2, none⟩ = some (.slice MA S.made.length mcap) := fun x => x.cell (hs.cell 2)
 have y0 : ∀ x : WIn (Bel w), x.v.cell? ⟨cp, 0, none⟩ = some (.int .i64 c.kind) := fun x => x.cell (hc.cell 0)
 have y1 : ∀ x : WIn (Bel w), x.v.cell? ⟨cp, 1, none⟩ = some (.int .i64 c.core) := fun x => x.cell (hc.cell 1)
 obtain ⟨h1, h2⟩ := hk
 obtain ⟨h3, h4⟩ := hcore
 have d1 : decide ((0 : Int) <= c.kind) = true := decide_eq_true h1
 have d2 : decide (c.kind <= (16 : Int)) = true := decide_eq_true h2
 have d3 : decide ((0 : Int) <= c.core) = true := decide_eq_true h3
 have d4 : decide (c.core < (S.made.length : Int)) = true := decide_eq_true h4
 clear hS hI hs hc
 go_enter Tryz.func30, Tryz.ntmps30
 go_upto_region 1 with (fail)
 refine wp_region_in (C := Bel w) (by kernel_rfl) (by kernel_rfl) (Bel.drew w) ?_
 repeat (go_big_quiet_step (first | (go_at_call 22; exact Calls.bel _ (HMY.out _ (WIn.h _)))))
 refine wpQuiet_nil ?_
 rintro _ ⟨⟨wx, hbx⟩, rfl⟩
 have HBX := lhi hbx
 clear hbx x0 x1 x2 y0 y1
 go_wp2_with (fail)
 go_ret
 exact ⟨rfl, HBX.out⟩
theorem mcatch_idle (s p q : Addr) (w : World) :
  CallsD Tryz.prog 32 #[.pointer (some s), .pointer (some p), .pointer (some q)] .returning w fun e u' w' => e = .returned (.tuple #[]) /\ u' = .returning /\ w' = w := by
 refine callsD_of_wpS Tryz.func32 rfl fun c₀ cs hu => ?_
 simp only [Tryz.ntmps32, List.size_toArray, List.length_cons, List.length_nil, Nat.reduceAdd, Nat.reduceSub, Array.replicate_succ, Array.replicate_zero, List.push_toArray, List.append_toArray, List.nil_append, List.cons_append]
 apply wpS_seq
 apply wpS_region
 simp [wpOpsS, go_sem, recoverD, hu, Exit.thenS]
 refine wpS_of_wp (Code.wp_mono (Q := DoneQ (fun w' => w' = w)) ?_ ?_)
 ·rintro e a w' ⟨he, hd, rfl⟩
  cases c₀
  rcases he with rfl | rfl <;> simp_all [bodyPostS, results, Tryz.results32]
 ·clear hu
  go_wp2_with (fail)
  exact ⟨.inl rfl, rfl, rfl⟩
theorem StO.base_le {w : World} {b b' : Nat} {iv ov mv : Value} {Iv : List InV} {S : St} (h : StO w b iv ov mv Iv S) (hb : b' <= b) : StO w b' iv ov mv Iv S := ⟨h.len, own_base0 h.ino hb, fun i hi => own_base0 (h.ent i hi) hb, h.apart, own_base0 h.opn hb, own_base0 h.mad hb⟩
end
section
open Go.RowKit
set_option maxHeartbeats 2000000
structure DoB (w : World) (n : Nat) (iv ov mv : Value) (c : CallV) (W : World) : Prop where
 b : Below n w W
 s : Blk W n 30 #[iv, ov, mv]
 c : Blk W (n + 1) 24 c.cs
 o : Blk W (n + 2) 30 #[.slice none 0 0, .slice none 0 0, .slice none 0 0]
 r : Blk W (n + 3) 41 #[.int .i64 0, .int .i64 0, .int .i64 0, .bool false, .string ⟨#[]⟩, .slice none 0 0]
theorem DoB.below {w W W' : World} {n : Nat} {iv ov mv : Value} {c : CallV} {B : Nat} (h : DoB w n iv ov mv c W) (hb : Below B W W') (hB : n + 4 <= B) : DoB w n iv ov mv c W' :=
 ⟨h.b.trans (hb.mono (by omega)), Blk.of_heap (hb.block _ (by omega)) h.s, Blk.of_heap (hb.block _ (by omega)) h.c, Blk.of_heap (hb.block _ (by omega)) h.o, Blk.of_heap (hb.block _ (by omega)) h.r⟩
theorem blk_drew {w : World} {g : Nat} {t : TypeId} {cs : Array Value} (h : Blk w g t cs) : Blk w.drew g t cs := h
set_option maxRecDepth 1000000 in
theorem Do_ok {w : World} {iv ov mv : Value} {ev : Nat -> Value} {S S' : St} {c : CallV} {r : ResV} (hS : StV w 0 iv ov mv ev S) (hI : Inv S) (hk : 0 <= c.kind /\ c.kind <= 16) (hcore : 0 <= c.core /\ c.core < S.made.length)
  (hrun : ∀ (W : World) (base ob db : Nat) (iv' ov' mv' : Value) (Iv : List InV), Doer W base ob db c noRes iv' ov' mv' Iv S -> Calls Tryz.prog 33 #[.pointer (some ⟨db, 0, none⟩)] W fun e w' => DoneR base ob db c W e w' (.ok (S', r))) :
  Calls Tryz.prog 12 #[.agg #[iv, ov, mv], .agg c.cs] w fun e w' => (∃ iv' ov' mv' ev', e = .returned (.tuple #[.agg #[iv', ov', mv'], .agg r.cs]) /\ StV w' 0 iv' ov' mv' ev' S') /\ Below w.heap.size w w' := by
 have hmf : ∀ (fn : Fn) (first cap : Array Value) (w : World), (Instr.makeFunc fn first cap).run Tryz.prog w = .ok (.func fn first cap) w := fun _ _ _ _ => rfl
 obtain ⟨A, cap, rfl, -⟩ := hS.ino
 obtain ⟨OA, ocap, rfl, -⟩ := hS.opn
 obtain ⟨MA, mcap, rfl, -⟩ := hS.mad
 obtain ⟨n, hn⟩ : ∃ n, n = w.heap.size := ⟨_, rfl⟩
 obtain ⟨w4, hw4⟩ : ∃ x, x = (((w.alloc (.cells #[.slice A S.inodes.length cap, .slice OA S.opens.length ocap, .slice MA S.made.length mcap] 30)).alloc (.cells c.cs 24)).alloc (.cells #[.slice none 0 0, .slice none 0 0, .slice none 0 0] 30)).alloc (.cells #[.int .i64 0, .int .i64 0, .int .i64 0, .bool false, .string ⟨#[]⟩, .slice none 0 0] 41) := ⟨_, rfl⟩
 have HD := lhi (show DoB w n (.slice A S.inodes.length cap) (.slice OA S.opens.length ocap) (.slice MA S.made.length mcap) c w4 from by
  rw [hw4, hn]
  refine ⟨((((Below.refl _ _).alloc (Nat.le_refl _) _).alloc (by simp) _).alloc (by simp; omega) _).alloc (by simp; omega) _, (((Blk.new w _ _).alloc _).alloc _).alloc _, ((Blk.newAt _ _ _ (by simp)).alloc _).alloc _, (Blk.newAt _ _ _ (by simp)).alloc _, Blk.newAt _ _ _ (by simp)⟩)
 have HS := lhi (hS.below (by rw [<- hn]; exact HD.out.b))
 have hsz4 : w4.heap.size = n + 4 := by rw [hw4, hn]; simp
 have HMY := lhi (may_yes HS.out.stm hI HD.out.s HD.out.c hk hcore)
 have HCL := lhi (fun (V : World) (hb : Below w4.heap.size w4 V) => mClone_calls (HS.out.below hb) hI.small)
 have HRU := lhi hrun
 have HN := lhi hn
 clear hS hI hrun hk hcore
 obtain ⟨kind, core, fd, off, num, path, path2, data⟩ := c
 simp only [CallV.cs] at hw4 ⊢
 go_enter_defers Tryz.func12, Tryz.ntmps12
 go_upto_region 1 with (fail)
 rw [<- hw4]
 have e2 : w.heap.size + 1 + 1 = n + 2 := by omega
 have e3 : w.heap.size + 1 + 1 + 1 = n + 3 := by omega
 have e1 : w.heap.size + 1 = n + 1 := by omega
 try rw [e3]
 try rw [e2]
 try rw [e1]
 try rw [<- hn]
 clear hw4 hn e1 e2 e3
 go_upto_region 4 with (go_at_call 30; refine HMY.out.mono ?_; rintro e w5 ⟨rfl, hb5⟩; have HD5 := lhi (HD.out.below hb5 (by omega)); have HB5 := lhi hb5; clear hb5)
 have s0 : w5.cell? ⟨n, 0, none⟩ = some (.slice A S.inodes.length cap) := HD5.out.s.cell 0
 have s1 : w5.cell? ⟨n, 1, none⟩ = some (.slice OA S.opens.length ocap) := HD5.out.s.cell 1
 have s2 : w5.cell? ⟨n, 2, none⟩ = some (.slice MA S.made.length mcap) := HD5.out.s.cell 2
 go_upto_region 5 with (go_at_call 31; refine (HCL.out _ HB5.out).mono ?_; rintro e w6 ⟨iv', ov', mv', Iv, rfl, hst, hb6⟩; have HST := lhi hst; have HB6 := lhi hb6; have HD6 := lhi (HD5.out.below hb6 (by have := HB5.out.size; omega)); obtain ⟨A', cap', rfl, -⟩ := own_form hst.ino; obtain ⟨O', ocap', rfl, -⟩ := own_form hst.opn; obtain ⟨M', mcap', rfl, -⟩ := own_form hst.mad; clear hst hb6)
 obtain ⟨w7, hw7⟩ : ∃ x, x = w6.alloc (.cells #[.slice A' Iv.length cap', .slice O' S.opens.length ocap', .slice M' S.made.length mcap'] 30) := ⟨_, rfl⟩
 have hs5 := HB5.out.size
 have hs6 := HB6.out.size
 have HB7 := lhi (show Below w6.heap.size w6 w7 by rw [hw7]; exact (Below.refl _ _).alloc (Nat.le_refl _) _)
 have HO7 := lhi (show Blk w7 w6.heap.size 30 _ by rw [hw7]; exact Blk.new w6 30 #[.slice A' Iv.length cap', .slice O' S.opens.length ocap', .slice M' S.made.length mcap'])
 have HD7 := lhi (HD6.out.below HB7.out (by omega))
 have HST7 := lhi (HST.out.below HB7.out)
 obtain ⟨ob, hob⟩ : ∃ x, x = w6.heap.size := ⟨_, rfl⟩
 rw [<- hob] at HO7
 rw [<- hw7, <- hob]
 have HOB := lhi hob
 clear hw7 hob s0 s1 s2
 have c0 : w7.cell? ⟨n + 1, 0, none⟩ = some (.int .i64 kind) := HD7.out.c.cell 0
 have c1 : w7.cell? ⟨n + 1, 1, none⟩ = some (.int .i64 core) := HD7.out.c.cell 1
 have c2 : w7.cell? ⟨n + 1, 2, none⟩ = some (.int .i64 fd) := HD7.out.c.cell 2
 have c3 : w7.cell? ⟨n + 1, 3, none⟩ = some (.int .i64 off) := HD7.out.c.cell 3
 have c4 : w7.cell? ⟨n + 1, 4, none⟩ = some (.int .i64 num) := HD7.out.c.cell 4
 have c5 : w7.cell? ⟨n + 1, 5, none⟩ = some (.string path) := HD7.out.c.cell 5
 have c6 : w7.cell? ⟨n + 1, 6, none⟩ = some (.string path2) := HD7.out.c.cell 6
 have c7 : w7.cell? ⟨n + 1, 7, none⟩ = some (.string data) := HD7.out.c.cell 7
 go_upto_region 6 with (fail)
 have hs7 := HB7.out.size
 obtain ⟨w8, hw8⟩ : ∃ x, x = w7.alloc (.cells (doerCs ob ⟨kind, core, fd, off, num, path, path2, data⟩ noRes) 88) := ⟨_, rfl⟩
 have HB8 := lhi (show Below w7.heap.size w7 w8 by rw [hw8]; exact (Below.refl _ _).alloc (Nat.le_refl _) _)
 have HDD := lhi (show Blk w8 w7.heap.size 88 _ by rw [hw8]; exact Blk.new w7 88 (doerCs ob ⟨kind, core, fd, off, num, path, path2, data⟩ noRes))
 have HD8 := lhi (HD7.out.below HB8.out (by omega))
 have HO8 := lhi (Blk.of_heap (HB8.out.block _ HO7.out.lt) HO7.out)
 have HST8 := lhi (HST7.out.below HB8.out)
 obtain ⟨db, hdb⟩ : ∃ x, x = w7.heap.size := ⟨_, rfl⟩
 rw [<- hdb] at HDD
 have HDO := lhi (show Doer w8 w5.heap.size ob db ⟨kind, core, fd, off, num, path, path2, data⟩ noRes (.slice A' Iv.length cap') (.slice O' S.opens.length ocap') (.slice M' S.made.length mcap') Iv S from ⟨by rw [HOB.out]; exact hs6, by omega, HO8.out, HDD.out, HST8.out⟩)
 have HR8 := lhi (HRU.out _ _ _ _ _ _ _ _ HDO.out)
 simp only [doerCs, noRes] at hw8
 rw [<- hw8, <- hdb]
 have HDB := lhi hdb
 clear hw8 hdb c0 c1 c2 c3 c4 c5 c6 c7
 go_upto_region 7 with (go_at_call 33; refine HR8.out.mono ?_; rintro e w9 ⟨rfl, hb9, iv2, ov2, mv2, Iv2, hd9⟩; have HB9 := lhi hb9; have H9 := lhi hd9; clear hb9 hd9 HR8)
 have HD9 := lhi (HD8.out.below HB9.out (by omega))
 obtain ⟨A2, n2, cap2, rfl⟩ : ∃ a b c, iv2 = .slice a b c := by obtain ⟨a, c, h, -⟩ := own_form H9.out.st.ino; exact ⟨a, _, c, h⟩
 obtain ⟨O2, m2, ocap2, rfl⟩ : ∃ a b c, ov2 = .slice a b c := by obtain ⟨a, c, h, -⟩ := own_form H9.out.st.opn; exact ⟨a, _, c, h⟩
 obtain ⟨M2, l2, mcap2, rfl⟩ : ∃ a b c, mv2 = .slice a b c := by obtain ⟨a, c, h, -⟩ := own_form H9.out.st.mad; exact ⟨a, _, c, h⟩
 have hs9 := HB9.out.size
 have a0 : w9.drew.cell? ⟨ob, 0, none⟩ = some ((.slice A2 n2 cap2)) := H9.out.o.cell 0
 have a0' : w9.cell? ⟨ob, 0, none⟩ = some ((.slice A2 n2 cap2)) := H9.out.o.cell 0
 have a1 : w9.drew.cell? ⟨ob, 1, none⟩ = some ((.slice O2 m2 ocap2)) := H9.out.o.cell 1
 have a1' : w9.cell? ⟨ob, 1, none⟩ = some ((.slice O2 m2 ocap2)) := H9.out.o.cell 1
 have a2 : w9.drew.cell? ⟨ob, 2, none⟩ = some ((.slice M2 l2 mcap2)) := H9.out.o.cell 2
 have a2' : w9.cell? ⟨ob, 2, none⟩ = some ((.slice M2 l2 mcap2)) := H9.out.o.cell 2
 have b0 : w9.drew.cell? ⟨db, 9, none⟩ = some (.int .i64 r.code) := H9.out.d.cell 9
 have b0' : w9.cell? ⟨db, 9, none⟩ = some (.int .i64 r.code) := H9.out.d.cell 9
 have b1 : w9.drew.cell? ⟨db, 10, none⟩ = some (.int .i64 r.fd) := H9.out.d.cell 10
 have b1' : w9.cell? ⟨db, 10, none⟩ = some (.int .i64 r.fd) := H9.out.d.cell 10
 have b2 : w9.drew.cell? ⟨db, 11, none⟩ = some (.int .i64 r.num) := H9.out.d.cell 11
 have b2' : w9.cell? ⟨db, 11, none⟩ = some (.int .i64 r.num) := H9.out.d.cell 11
 have b3 : w9.drew.cell? ⟨db, 12, none⟩ = some (.bool r.dir) := H9.out.d.cell 12
 have b3' : w9.cell? ⟨db, 12, none⟩ = some (.bool r.dir) := H9.out.d.cell 12
 have b4 : w9.drew.cell? ⟨db, 13, none⟩ = some (.string r.data) := H9.out.d.cell 13
 have b4' : w9.cell? ⟨db, 13, none⟩ = some (.string r.data) := H9.out.d.cell 13
 have b5 : w9.drew.cell? ⟨db, 14, none⟩ = some (Value.slice r.na r.nl r.nc) := H9.out.d.cell 14
 have b5' : w9.cell? ⟨db, 14, none⟩ = some (Value.slice r.na r.nl r.nc) := H9.out.d.cell 14
 have p0 : w9.drew.cell? ⟨n + 2, 0, none⟩ = some (.slice none 0 0) := HD9.out.o.cell 0
 have p0' : w9.cell? ⟨n + 2, 0, none⟩ = some (.slice none 0 0) := HD9.out.o.cell 0
 have f0 : w9.drew.frozen? ⟨n + 2, 0, none⟩ = false := HD9.out.o.frozen 0
 have f0' : w9.frozen? ⟨n + 2, 0, none⟩ = false := HD9.out.o.frozen 0
 have p1 : w9.drew.cell? ⟨n + 2, 1, none⟩ = some (.slice none 0 0) := HD9.out.o.cell 1
 have p1' : w9.cell? ⟨n + 2, 1, none⟩ = some (.slice none 0 0) := HD9.out.o.cell 1
 have f1 : w9.drew.frozen? ⟨n + 2, 1, none⟩ = false := HD9.out.o.frozen 1
 have f1' : w9.frozen? ⟨n + 2, 1, none⟩ = false := HD9.out.o.frozen 1
 have p2 : w9.drew.cell? ⟨n + 2, 2, none⟩ = some (.slice none 0 0) := HD9.out.o.cell 2
 have p2' : w9.cell? ⟨n + 2, 2, none⟩ = some (.slice none 0 0) := HD9.out.o.cell 2
 have f2 : w9.drew.frozen? ⟨n + 2, 2, none⟩ = false := HD9.out.o.frozen 2
 have f2' : w9.frozen? ⟨n + 2, 2, none⟩ = false := HD9.out.o.frozen 2
 have q0 : w9.drew.cell? ⟨n + 3, 0, none⟩ = some (.int .i64 0) := HD9.out.r.cell 0
 have q0' : w9.cell? ⟨n + 3, 0, none⟩ = some (.int .i64 0) := HD9.out.r.cell 0
 have g0 : w9.drew.frozen? ⟨n + 3, 0, none⟩ = false := HD9.out.r.frozen 0
 have g0' : w9.frozen? ⟨n + 3, 0, none⟩ = false := HD9.out.r.frozen 0
 have q1 : w9.drew.cell? ⟨n + 3, 1, none⟩ = some (.int .i64 0) := HD9.out.r.cell 1
 have q1' : w9.cell? ⟨n + 3, 1, none⟩ = some (.int .i64 0) := HD9.out.r.cell 1
 have g1 : w9.drew.frozen? ⟨n + 3, 1, none⟩ = false := HD9.out.r.frozen 1
 have g1' : w9.frozen? ⟨n + 3, 1, none⟩ = false := HD9.out.r.frozen 1
 have q2 : w9.drew.cell? ⟨n + 3, 2, none⟩ = some (.int .i64 0) := HD9.out.r.cell 2
 have q2' : w9.cell? ⟨n + 3, 2, none⟩ = some (.int .i64 0) := HD9.out.r.cell 2
 have g2 : w9.drew.frozen? ⟨n + 3, 2, none⟩ = false := HD9.out.r.frozen 2
 have g2' : w9.frozen? ⟨n + 3, 2, none⟩ = false := HD9.out.r.frozen 2
 have q3 : w9.drew.cell? ⟨n + 3, 3, none⟩ = some (.bool false) := HD9.out.r.cell 3
 have q3' : w9.cell? ⟨n + 3, 3, none⟩ = some (.bool false) := HD9.out.r.cell 3
 have g3 : w9.drew.frozen? ⟨n + 3, 3, none⟩ = false := HD9.out.r.frozen 3
 have g3' : w9.frozen? ⟨n + 3, 3, none⟩ = false := HD9.out.r.frozen 3
 have q4 : w9.drew.cell? ⟨n + 3, 4, none⟩ = some (.string ⟨#[]⟩) := HD9.out.r.cell 4
 have q4' : w9.cell? ⟨n + 3, 4, none⟩ = some (.string ⟨#[]⟩) := HD9.out.r.cell 4
 have g4 : w9.drew.frozen? ⟨n + 3, 4, none⟩ = false := HD9.out.r.frozen 4
 have g4' : w9.frozen? ⟨n + 3, 4, none⟩ = false := HD9.out.r.frozen 4
 have q5 : w9.drew.cell? ⟨n + 3, 5, none⟩ = some (.slice none 0 0) := HD9.out.r.cell 5
 have q5' : w9.cell? ⟨n + 3, 5, none⟩ = some (.slice none 0 0) := HD9.out.r.cell 5
 have g5 : w9.drew.frozen? ⟨n + 3, 5, none⟩ = false := HD9.out.r.frozen 5
 have g5' : w9.frozen? ⟨n + 3, 5, none⟩ = false := HD9.out.r.frozen 5
 have x1 : n + 2 ≠ ob := by have := HOB.out; omega
 have x2 : n + 3 ≠ ob := by have := HOB.out; omega
 have x3 : n + 2 ≠ db := by have := HDB.out; omega
 have x4 : n + 3 ≠ db := by have := HDB.out; omega
 have y1 := Ne.symm x1
 have y2 := Ne.symm x2
 have y3 := Ne.symm x3
 have y4 := Ne.symm x4
 go_region
 have h0 := HD9.out.b
 have h1 := h0.setCell (p := ⟨n + 2, 0, none⟩) (show n <= n + 2 by omega) (.slice A2 n2 cap2)
 have P1 := HD9.out.o.set_ 0 (.slice A2 n2 cap2)
 have Q1 := HD9.out.r.far (p := ⟨n + 2, 0, none⟩) (show n + 3 ≠ n + 2 by omega) (.slice A2 n2 cap2)
 have T1 := H9.out.st.far HD9.out.o (by decide) (by decide) (by decide) (by decide) 0 (.slice A2 n2 cap2)
 have h2 := h1.setCell (p := ⟨n + 2, 1, none⟩) (show n <= n + 2 by omega) (.slice O2 m2 ocap2)
 have P2 := P1.set_ 1 (.slice O2 m2 ocap2)
 have Q2 := Q1.far (p := ⟨n + 2, 1, none⟩) (show n + 3 ≠ n + 2 by omega) (.slice O2 m2 ocap2)
 have T2 := T1.far P1 (by decide) (by decide) (by decide) (by decide) 1 (.slice O2 m2 ocap2)
 have h3 := h2.setCell (p := ⟨n + 2, 2, none⟩) (show n <= n + 2 by omega) (.slice M2 l2 mcap2)
 have P3 := P2.set_ 2 (.slice M2 l2 mcap2)
 have Q3 := Q2.far (p := ⟨n + 2, 2, none⟩) (show n + 3 ≠ n + 2 by omega) (.slice M2 l2 mcap2)
 have T3 := T2.far P2 (by decide) (by decide) (by decide) (by decide) 2 (.slice M2 l2 mcap2)
 have h4 := h3.setCell (p := ⟨n + 3, 0, none⟩) (show n <= n + 3 by omega) (.int .i64 r.code)
 have P4 := P3.far (p := ⟨n + 3, 0, none⟩) (show n + 2 ≠ n + 3 by omega) (.int .i64 r.code)
 have Q4 := Q3.set_ 0 (.int .i64 r.code)
 have T4 := T3.far Q3 (by decide) (by decide) (by decide) (by decide) 0 (.int .i64 r.code)
 have h5 := h4.setCell (p := ⟨n + 3, 1, none⟩) (show n <= n + 3 by omega) (.int .i64 r.fd)
 have P5 := P4.far (p := ⟨n + 3, 1, none⟩) (show n + 2 ≠ n + 3 by omega) (.int .i64 r.fd)
 have Q5 := Q4.set_ 1 (.int .i64 r.fd)
 have T5 := T4.far Q4 (by decide) (by decide) (by decide) (by decide) 1 (.int .i64 r.fd)
 have h6 := h5.setCell (p := ⟨n + 3, 2, none⟩) (show n <= n + 3 by omega) (.int .i64 r.num)
 have P6 := P5.far (p := ⟨n + 3, 2, none⟩) (show n + 2 ≠ n + 3 by omega) (.int .i64 r.num)
 have Q6 := Q5.set_ 2 (.int .i64 r.num)
 have T6 := T5.far Q5 (by decide) (by decide) (by decide) (by decide) 2 (.int .i64 r.num)
 have h7 := h6.setCell (p := ⟨n + 3, 3, none⟩) (show n <= n + 3 by omega) (.bool r.dir)
 have P7 := P6.far (p := ⟨n + 3, 3, none⟩) (show n + 2 ≠ n + 3 by omega) (.bool r.dir)
 have Q7 := Q6.set_ 3 (.bool r.dir)
 have T7 := T6.far Q6 (by decide) (by decide) (by decide) (by decide) 3 (.bool r.dir)
 have h8 := h7.setCell (p := ⟨n + 3, 4, none⟩) (show n <= n + 3 by omega) (.string r.data)
 have P8 := P7.far (p := ⟨n + 3, 4, none⟩) (show n + 2 ≠ n + 3 by omega) (.string r.data)
 have Q8 := Q7.set_ 4 (.string r.data)
 have T8 := T7.far Q7 (by decide) (by decide) (by decide) (by decide) 4 (.string r.data)
 have h9 := h8.setCell (p := ⟨n + 3, 5, none⟩) (show n <= n + 3 by omega) (Value.slice r.na r.nl r.nc)
 have P9 := P8.far (p := ⟨n + 3, 5, none⟩) (show n + 2 ≠ n + 3 by omega) (Value.slice r.na r.nl r.nc)
 have Q9 := Q8.set_ 5 (Value.slice r.na r.nl r.nc)
 have T9 := T8.far Q8 (by decide) (by decide) (by decide) (by decide) 5 (Value.slice r.na r.nl r.nc)
 have HP := lhi (blk_drew P9)
 have HQ := lhi (blk_drew Q9)
 have HT := lhi (T9.below (below_drew _))
 have HH := lhi (h9.trans ((below_drew _).mono (Nat.le_trans (show n <= w.heap.size by have := HN.out; omega) h9.size)))
 clear h0 h1 h2 h3 h4 h5 h6 h7 h8 h9 P1 P2 P3 P4 P5 P6 P7 P8 P9 Q1 Q2 Q3 Q4 Q5 Q6 Q7 Q8 Q9 T1 T2 T3 T4 T5 T6 T7 T8 T9
 obtain ⟨wf, hwf⟩ : ∃ x, x = (((((((((w9.setCell ⟨n + 2, 0, none⟩ (.slice A2 n2 cap2)).setCell ⟨n + 2, 1, none⟩ (.slice O2 m2 ocap2)).setCell ⟨n + 2, 2, none⟩ (.slice M2 l2 mcap2)).setCell ⟨n + 3, 0, none⟩ (.int .i64 r.code)).setCell ⟨n + 3, 1, none⟩ (.int .i64 r.fd)).setCell ⟨n + 3, 2, none⟩ (.int .i64 r.num)).setCell ⟨n + 3, 3, none⟩ (.bool r.dir)).setCell ⟨n + 3, 4, none⟩ (.string r.data)).setCell ⟨n + 3, 5, none⟩ (Value.slice r.na r.nl r.nc)).drew := ⟨_, rfl⟩
 rw [<- hwf] at HP HQ HT HH ⊢
 clear hwf
 go_wp2_with (fail)
 refine leaves_cons (f := 32) (args := #[.pointer (some ⟨n, 0, none⟩), .pointer (some ⟨n + 2, 0, none⟩), .pointer (some ⟨n + 3, 0, none⟩)]) (by simp) (by simp [go_sem]) ?_
 refine (mcatch_idle _ _ _ _).mono ?_
 rintro e u' w'' ⟨rfl, rfl, rfl⟩
 have z0 : w''.cell? ⟨n + 2, 0, none⟩ = some (.slice A2 n2 cap2) := HP.out.cell 0
 have z1 : w''.cell? ⟨n + 2, 1, none⟩ = some (.slice O2 m2 ocap2) := HP.out.cell 1
 have z2 : w''.cell? ⟨n + 2, 2, none⟩ = some (.slice M2 l2 mcap2) := HP.out.cell 2
 have u0 : w''.cell? ⟨n + 3, 0, none⟩ = some (.int .i64 r.code) := HQ.out.cell 0
 have u1 : w''.cell? ⟨n + 3, 1, none⟩ = some (.int .i64 r.fd) := HQ.out.cell 1
 have u2 : w''.cell? ⟨n + 3, 2, none⟩ = some (.int .i64 r.num) := HQ.out.cell 2
 have u3 : w''.cell? ⟨n + 3, 3, none⟩ = some (.bool r.dir) := HQ.out.cell 3
 have u4 : w''.cell? ⟨n + 3, 4, none⟩ = some (.string r.data) := HQ.out.cell 4
 have u5 : w''.cell? ⟨n + 3, 5, none⟩ = some (Value.slice r.na r.nl r.nc) := HQ.out.cell 5
 refine ⟨.tuple #[.agg #[.slice A2 n2 cap2, .slice O2 m2 ocap2, .slice M2 l2 mcap2], .agg r.cs], ?_, ⟨.slice A2 n2 cap2, .slice O2 m2 ocap2, .slice M2 l2 mcap2, _, rfl, HT.out.stv.base_le (Nat.zero_le _)⟩, by rw [<- HN.out]; exact HH.out⟩
 simp [results, Tryz.results12, go_sem, ResV.cs, z0, z1, z2, u0, u1, u2, u3, u4, u5]
end
section
open Go.RowKit
set_option maxHeartbeats 2000000
set_option maxRecDepth 1000000 in
theorem run_make {W : World} {base ob db : Nat} {c : CallV} {r : ResV} {iv ov mv : Value} {Iv : List InV} {S S' : St} (h : Doer W base ob db c r iv ov mv Iv S) (hI : Inv S) (hp : c.path.size <= 4611686018427387904) (hc : 0 <= c.core /\ c.core < S.made.length) (hk : c.kind = 0 ∨ c.kind = 1) (hs : createS S c.kind c.core c.path = .ok S') :
  Calls Tryz.prog 33 #[.pointer (some ⟨db, 0, none⟩)] W fun e w' => DoneR base ob db c W e w' (.ok (S', r)) := by
 have HC := lhi (create_calls h hI hp hc)
 rw [hs] at HC
 have d1 : W.cell? ⟨db, 1, none⟩ = some (.int .i64 c.kind) := h.d.cell 1
 clear h hI hp hc hs
 rcases hk with hk | hk
 all_goals
  rw [hk] at d1
  clear hk
  go_enter Tryz.func33, Tryz.ntmps33
  go_wp2_with (go_at_call 77; refine HC.out.mono ?_; rintro e w1 ⟨rfl, hd⟩; have HD := lhi hd; clear hd)
  go_end0
  exact ⟨rfl, HD.out⟩
theorem Do_make {w : World} {iv ov mv : Value} {ev : Nat -> Value} {S S' : St} {c : CallV} (hS : StV w 0 iv ov mv ev S) (hI : Inv S) (hp : c.path.size <= 4611686018427387904) (hc : 0 <= c.core /\ c.core < S.made.length) (hk : c.kind = 0 ∨ c.kind = 1) (hs : createS S c.kind c.core c.path = .ok S') :
  Calls Tryz.prog 12 #[.agg #[iv, ov, mv], .agg c.cs] w fun e w' => (∃ iv' ov' mv' ev', e = .returned (.tuple #[.agg #[iv', ov', mv'], .agg noRes.cs]) /\ StV w' 0 iv' ov' mv' ev' S') /\ Below w.heap.size w w' :=
 Do_ok hS hI (by omega) hc fun W base ob db iv' ov' mv' Iv h => run_make h hI hp hc hk hs
end
section
open Go.RowKit
theorem block_of_add (a : Addr) (n : Nat) : (a.add n).block = a.block := by unfold Addr.add; split <;> rfl
def Reads (w : World) (B size : Nat) (A : Option Addr) (n : Nat) (xs : List Value) : Prop :=
 xs.length = n * size /\ (0 < n -> ∃ ad, A = some ad /\ ad.block < B /\ ∀ j u, xs[j]? = some u -> w.cell? (ad.add j) = some u)
section
variable {w w' : World} {B B' size n : Nat} {A : Option Addr} {xs : List Value}
theorem Reads.at_ {k : Nat} (h : Reads w B 1 A n xs) (hk : k < n) : ∃ ad u, A = some ad /\ ad.block < B /\ xs[k]? = some u /\ w.cell? (ad.add k) = some u := by
 obtain ⟨ad, e, hb, hc⟩ := h.2 (by omega)
 have hl : k < xs.length := by have := h.1; omega
 exact ⟨ad, xs[k], e, hb, List.getElem?_eq_getElem hl, hc k _ (List.getElem?_eq_getElem hl)⟩
theorem Reads.keep (h : Reads w B size A n xs) (hk : ∀ p : Addr, p.block < B -> w'.cell? p = w.cell? p) : Reads w' B size A n xs :=
 ⟨h.1, fun hn => by
  obtain ⟨ad, e, hb, hc⟩ := h.2 hn
  exact ⟨ad, e, hb, fun j u hu => (hk _ (by rw [block_of_add]; exact hb)).trans (hc j u hu)⟩⟩
theorem Reads.more (h : Reads w B size A n xs) (hB : B <= B') : Reads w B' size A n xs :=
 ⟨h.1, fun hn => by
  obtain ⟨ad, e, hb, hc⟩ := h.2 hn
  exact ⟨ad, e, by omega, hc⟩⟩
theorem Reads.below (h : Reads w B size A n xs) (hb : Below B w w') : Reads w' B size A n xs := h.keep fun _ hp => hb.cell hp
theorem Reads.drew (h : Reads w B size A n xs) : Reads w.drew B size A n xs := h
theorem Reads.drewN (h : Reads w B size A n xs) (k : Nat) : Reads (w.drewN k) B size A n xs := h
theorem Reads.alloc (h : Reads w B size A n xs) (hB : B <= w.heap.size) (o : Obj) : Reads (w.alloc o) B size A n xs := h.keep fun p hp => World.cell?_alloc_lt w o p (by omega)
theorem Reads.setCell (h : Reads w B size A n xs) {p : Addr} (hB : B <= p.block) (u : Value) : Reads (w.setCell p u) B size A n xs :=
 h.keep fun q hq => World.cell?_setCell_other w p q u (fun e => by subst e; omega)
theorem Reads.grown (h : Reads w B size A n xs) {row : Option Nat} (hg : w.grownBy w' row) (hB : B <= w.heap.size) (hr : ∀ g, row = some g -> B <= g) : Reads w' B size A n xs :=
 h.keep fun p hp => World.cell?_of_block (hg.block p.block (by omega) (fun e => by have := hr _ e.symm; omega))
end
section
variable {P : Program} (w : World)
theorem run_append_of_nil (base : Nat) (t ty e : TypeId) (i : TypeInfo) (size : Nat) (ht : P.underlying t = some (.slice e)) (hi : P.info? e = some i)
  (v : Value) (n : Nat) (xs : List Value) (hown : w.ownsRow base e size v n xs) (c : Nat) : (Builtin.append_ #[t, t] ty #[v, .slice none 0 c]).run P w = .ok v w := by
 rcases hown.2 with ⟨rfl, rfl⟩ | ⟨g, cap, cur, rfl, _, _, hnc, _⟩
 ·simp [Builtin.append_, run_underlying ht, sizeOf, typeInfo, hi, Builtin.lenOf, Builtin.firstCells]
 ·simp [Builtin.append_, run_underlying ht, sizeOf, typeInfo, hi, Builtin.lenOf, Builtin.firstCells, hnc, storeCells]
theorem run_append_any (base : Nat) (t ty e : TypeId) (i : TypeInfo) (z : Value) (size bytes : Nat) (ht : P.underlying t = some (.slice e)) (hi : P.info? e = some i) (hz : i.zero = some z)
  (hsize : i.size = size) (hby : i.bytes = bytes) (hzs : z.cells.size = size) (hsz : 0 < size)
  (v : Value) (n : Nat) (xs : List Value) (hown : w.ownsRow base e size v n xs)
  (B : Nat) (A : Option Addr) (m c : Nat) (news : List Value) (hr : Reads w B size A m news) (h1 : ∀ u ∈ news, u.oneCell' = true)
  (h63 : n + m <= maxLen) (hbytes : (n + m) * bytes <= 140737488355328) (hbase : base <= w.heap.size) :
  ∃ v' w', (Builtin.append_ #[t, t] ty #[v, .slice A m c]).run P w = .ok v' w' /\ w'.ownsRow base e size v' (n + m) (xs ++ news) /\ w.grownBy w' v.ownBlock /\
   (v'.ownBlock = v.ownBlock ∨ v'.ownBlock = some w.heap.size) := by
 rcases A with _ | ad
 ·have hm : m = 0 := by
   rcases Nat.eq_zero_or_pos m with h0 | h0
   ·exact h0
   ·obtain ⟨ad, h, _⟩ := hr.2 h0
    cases h
  subst hm
  have hn : news = [] := List.eq_nil_of_length_eq_zero (by simpa using hr.1)
  subst hn
  exact ⟨v, w, run_append_of_nil w base t ty e i size ht hi v n xs hown c, by simpa using hown, World.grownBy.refl w _, .inl rfl⟩
 ·have hcells : ∀ j u, news[j]? = some u -> w.cell? (ad.add j) = some u := by
   intro j u hu
   rcases Nat.eq_zero_or_pos m with h0 | h0
   ·subst h0
    have hn : news = [] := List.eq_nil_of_length_eq_zero (by simpa using hr.1)
    subst hn
    simp at hu
   ·obtain ⟨ad', h, _, hc⟩ := hr.2 h0
    injection h with h
    subst h
    exact hc j u hu
  obtain ⟨v', w', hrun, h2, h3, _, h5⟩ := run_append_own_at (P := P) w base t ty e i z size bytes ht hi hz hsize hby hzs hsz v n xs hown ad m c news hr.1 hcells h1 h63 hbytes hbase
  exact ⟨v', w', hrun, h2, h3, h5⟩
theorem wp_append_any {o : Oper} {a : Act} {K : Act -> World -> Prop} {Q : Exit -> Act -> World -> Prop} (s x : Operand) (t : TypeId)
  (ho : o.op = .call { callee := .builtin .append, args := #[s, x], argTypes := #[t, t] })
  (base : Nat) (e : TypeId) (i : TypeInfo) (z : Value) (size bytes : Nat) (ht : P.underlying t = some (.slice e)) (hi : P.info? e = some i) (hz : i.zero = some z)
  (hsize : i.size = size) (hby : i.bytes = bytes) (hzs : z.cells.size = size) (hsz : 0 < size)
  (v : Value) (n : Nat) (xs : List Value) (hs : a.eval s = v) (hown : w.ownsRow base e size v n xs)
  (B : Nat) (A : Option Addr) (m c : Nat) (news : List Value) (hx : a.eval x = .slice A m c) (hr : Reads w B size A m news) (h1 : ∀ u ∈ news, u.oneCell' = true)
  (h63 : n + m <= maxLen) (hbytes : (n + m) * bytes <= 140737488355328) (hbase : base <= w.heap.size)
  (h : ∀ v' w', w'.ownsRow base e size v' (n + m) (xs ++ news) -> w.grownBy w' v.ownBlock -> (v'.ownBlock = v.ownBlock ∨ v'.ownBlock = some w.heap.size) -> K (a.put o.dst v') w') : o.wp P a w K Q := by
 obtain ⟨v', w', hrun, h2, h3, h4⟩ := run_append_any (P := P) w base t o.type e i z size bytes ht hi hz hsize hby hzs hsz v n xs hown B A m c news hr h1 h63 hbytes hbase
 unfold Oper.wp execOp
 simp only [ho, resolve, invoke, builtin, Sem.run_bind, Sem.run_pure, Result.andThen_ok, List.map_toArray, List.map_cons, List.map_nil, hs, hx, hrun]
 exact h v' w' h2 h3 h4
theorem wpList_append_any {ops : Array Oper} {rest : List Oper} {o : Oper} {a : Act} {Q : Exit -> Act -> World -> Prop} (hgd : o.guard = none) (s x : Operand) (t : TypeId)
  (ho : o.op = .call { callee := .builtin .append, args := #[s, x], argTypes := #[t, t] })
  (base : Nat) (e : TypeId) (i : TypeInfo) (z : Value) (size bytes : Nat) (ht : P.underlying t = some (.slice e)) (hi : P.info? e = some i) (hz : i.zero = some z)
  (hsize : i.size = size) (hby : i.bytes = bytes) (hzs : z.cells.size = size) (hsz : 0 < size)
  (v : Value) (n : Nat) (xs : List Value) (hs : a.eval s = v) (hown : w.ownsRow base e size v n xs)
  (B : Nat) (A : Option Addr) (m c : Nat) (news : List Value) (hx : a.eval x = .slice A m c) (hr : Reads w B size A m news) (h1 : ∀ u ∈ news, u.oneCell' = true)
  (h63 : n + m <= maxLen) (hbytes : (n + m) * bytes <= 140737488355328) (hbase : base <= w.heap.size)
  (h : ∀ v' w', w'.ownsRow base e size v' (n + m) (xs ++ news) -> w.grownBy w' v.ownBlock -> (v'.ownBlock = v.ownBlock ∨ v'.ownBlock = some w.heap.size) -> wpList P ops Q rest (a.put o.dst v') w') : wpList P ops Q (o :: rest) a w :=
 wpList_plain hgd fun _ hK => wp_append_any w s x t ho base e i z size bytes ht hi hz hsize hby hzs hsz v n xs hs hown B A m c news hx hr h1 h63 hbytes hbase fun v' w' h2 h3 h4 => hK _ _ (h v' w' h2 h3 h4)
end
section
variable {w w' : World} {B size n k : Nat} {A : Option Addr} {xs : List Value}
end
end
end Go.Proofs.YtkebjgebkneijaaGreat
