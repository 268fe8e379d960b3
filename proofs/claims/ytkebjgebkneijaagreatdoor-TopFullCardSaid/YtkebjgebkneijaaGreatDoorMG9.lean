/- Texts of one's own that a claim's last text rests on: Un3 Un4 Mf16 Un5. -/
import Derived.Test.YtkebjgebkneijaaGreatDoorMG8
set_option linter.unusedVariables false
set_option linter.unusedSimpArgs false
namespace Go.Proofs.YtkebjgebkneijaaGreatDoor
section
open Go.RowKit
set_option maxHeartbeats 2000000
section
variable {L : Nat -> Prop} {w W : World} {s : Nat} {M : Mem} {Bs : List LB} {Rs : List RB} {m : Nat}
theorem add_m (h : MemAt L w s M) (hok : M.ok m) (hm : m <= 1000000000) {c i v r : Int} (hc : 0 <= c /\ c < M.ts.length) (hi : 0 <= i /\ i < 9549) (hr : wrap64 (rd M.ws i + v) = r) {a : Nat} (ha : w.cell? ⟨s, 0, none⟩ = some (.pointer (some ⟨a, 0, none⟩))) :
  Calls Tryz.prog 177 #[.pointer (some ⟨a, 0, none⟩), .int .i64 c, .int .i64 i, .int .i64 v] w fun e w' => (e = .returned (.tuple #[.int .i64 r, .int .i64 0]) /\ w'.cell? ⟨s, 0, none⟩ = w.cell? ⟨s, 0, none⟩) /\ MemAt L w' s ((M.put i r).note c (i, true)) /\ Kp L w w' := by
 obtain ⟨a', L1, h0, har, hback⟩ := h.lend
 have e : a' = a := by
  rw [h0] at ha
  injection ha with ha
  injection ha with ha
  injection ha with ha
  injection ha
 subst e
 refine (add_to har (Room.of hok.sh (by omega)) hc (i := i) (by rw [hok.wl]; exact hi) hr rfl rfl).mono ?_
 rintro e w' ⟨rfl, hA, hK⟩
 obtain ⟨h1, h2, h3, h4⟩ := hback w' _ _ (by simp) hA hK
 exact ⟨⟨rfl, h4.trans h0.symm⟩, h1, h2, h3⟩
theorem Wk.add_wk (h : Wk L w s M Bs Rs W) (hok : M.ok m) (hm : m <= 1000000000) {c i v r : Int} (hc : 0 <= c /\ c < M.ts.length) (hi : 0 <= i /\ i < 9549) (hr : wrap64 (rd M.ws i + v) = r) {a : Nat} (ha : W.cell? ⟨s, 0, none⟩ = some (.pointer (some ⟨a, 0, none⟩))) :
  Calls Tryz.prog 177 #[.pointer (some ⟨a, 0, none⟩), .int .i64 c, .int .i64 i, .int .i64 v] W fun e w' => ((e = .returned (.tuple #[.int .i64 r, .int .i64 0]) /\ w'.cell? ⟨s, 0, none⟩ = W.cell? ⟨s, 0, none⟩) /\ KI W w') /\ Wk L w s ((M.put i r).note c (i, true)) Bs Rs w' :=
 h.call (R := fun e w' => (e = .returned (.tuple #[.int .i64 r, .int .i64 0]) /\ w'.cell? ⟨s, 0, none⟩ = W.cell? ⟨s, 0, none⟩) /\ KI W w') fun K hK => (add_m hK hok hm hc hi hr ha).mono fun e w' ⟨h1, h2, h3⟩ => ⟨⟨h1, h3.i⟩, h2, h3⟩
end
def removeM (M : Mem) (c : Int) (it : Item) (nm : ByteArray) (num : Int) : Mem :=
 let b : Int := (nbucket nm : Nat)
 ((M.put (wd num (8 + c)) (wrap64 (rd M.ws (wd num (8 + c)) + (-1)))).note c (wd num (8 + c), true)).setW c (wd it.num b) (.bucket (withoutL (M.bkt it.num b) nm))
set_option maxRecDepth 1000000 in
theorem remove_ok {L : Nat -> Prop} {w : World} {s : Nat} {M M1 : Mem} {m : Nat} (h : MemAt L w s M) (hok : M.ok m) (hm : m <= 700000000) {c : Int} (hc : 0 <= c /\ c < M.ts.length) (hf : M.fit)
  {sp : Nat} (hL : L sp) (s0 : w.cell? ⟨sp, 0, none⟩ = some (.pointer (some ⟨s, 0, none⟩))) (s1 : w.cell? ⟨sp, 1, none⟩ = some (.int .i64 c)) (s2 : w.cell? ⟨sp, 2, none⟩ = some (.int .i64 9)) {path : ByteArray} (s7 : w.cell? ⟨sp, 7, none⟩ = some (.string path)) (hs : path.size <= 4611686018427387904)
  {ns : List ByteArray} {nm : ByteArray} (hp : parseF path = .ok (ns ++ [nm])) (hn : ns.length <= 100) {it : Item} (hw : walkM c ns M rootItem = (.at_ it, M1)) (hd : it.dir = true) {xn : ByteArray} {xu : Int} (hfi : (M.bkt it.num (nbucket nm : Nat)).find? (Item.is nm) = some ⟨xn, xu, false⟩) :
  Calls Tryz.prog 135 #[.pointer (some ⟨sp, 0, none⟩)] w fun e w' => e = .returned (.tuple #[]) /\ MemAt L w' s (removeM (M1.see c (wd it.num (nbucket nm : Nat))) c it nm xu) /\ Kp L w w' := by
 have hsame := walkM_same c ns M rootItem
 have hok1 := walkM_ok c ns M rootItem m hok
 have hnum := walkM_num c ns M rootItem it hf ⟨by decide, by decide⟩ (by rw [hw])
 rw [hw] at hsame hok1
 have hts8 := h.tsl
 have HPA := lhi (parent_ok h hok (by omega) hc hf hL s0 s1 hs hp hn hw hd)
 have HL := lhi hL
 obtain ⟨inm, inu, idr⟩ := it
 obtain rfl : idr = true := hd
 have hnum : 1 <= inu /\ inu <= 257 := hnum
 have hnum0 := hnum
 obtain ⟨M2, hM2⟩ : ∃ X, M1.see c (wd inu (nbucket nm : Nat)) = X := ⟨_, rfl⟩
 have hsame2 : M.same M2 := hM2 ▸ hsame.trans (Mem.same.see _ _ _)
 have hok2 : M2.ok (m + ns.length + 1) := hM2 ▸ hok1.see _ _
 obtain ⟨l, hl⟩ : ∃ X, M.bkt inu (nbucket nm : Nat) = X := ⟨_, rfl⟩
 have hl2 : M2.bkt inu (nbucket nm : Nat) = l := by rw [hsame2.bkt, hl]
 have hlf := hf.it inu (nbucket nm : Nat) hnum (by have := nbucket_lt nm; omega)
 rw [hl] at hlf
 have hll : l.length <= 1000 := hlf.1
 have hfi : l.find? (Item.is nm) = some ⟨xn, xu, false⟩ := hl ▸ hfi
 have hxu : 1 <= xu /\ xu <= 257 := hlf.2 _ (List.mem_of_find?_eq_some hfi)
 have HPA := lhi (show Calls Tryz.prog 166 #[.pointer (some ⟨sp, 0, none⟩), .string path] w fun e w' => (∃ tn tc ta bv, e = .returned (.agg #[.string inm, .int .i64 inu, .bool true, .slice ta tn tc, .string nm, .int .i64 (wd inu (nbucket nm : Nat)), bv]) /\ ItB w' bv l) /\ MemAt L w' s M2 /\ Kp L w w' by have := HPA.out; rw [hl, hM2] at this; exact this)
 have HOK2 := lhi hok2
 have HC2 := lhi (show 0 <= c /\ c < M2.ts.length by rw [hsame2.ts]; exact hc)
 have HNB := lhi (show (0 : Int) <= (nbucket nm : Nat) /\ ((nbucket nm : Nat) : Int) < 8 by have := nbucket_lt nm; omega)
 have HTH := lhi (show ∀ e, ThereR l nm e -> e = .returned (.agg #[.string xn, .int .i64 xu, .bool false]) from fun e he => by unfold ThereR at he; rw [hfi] at he; exact he)
 have HLL := lhi hll
 have HCR := lhi (show removeM M2 c ⟨inm, inu, true⟩ nm xu = ((M2.put (wd xu (8 + c)) (wrap64 (rd M2.ws (wd xu (8 + c)) + (-1)))).note c (wd xu (8 + c), true)).setW c (wd inu (nbucket nm : Nat)) (.bucket (withoutL l nm)) by rw [<- hl2]; rfl)
 rw [hM2]
 have hc8 : 0 <= c /\ c < 8 := ⟨hc.1, by omega⟩
 obtain ⟨hc0, hc1⟩ := hc8
 have hmn : m + ns.length + 100 <= 800000000 := by omega
 obtain ⟨mm, hmm⟩ : ∃ y, m + ns.length = y := ⟨_, rfl⟩
 rw [hmm] at HOK2 hmn
 clear h hok hc hf hp hw hsame hok1 hsame2 hok2 hM2 hl2 hl hfi hll hs hmm hts8 hlf
 go_enter Tryz.func135, Tryz.ntmps135
 go_upto_region 1 with (go_at_call 166; refine HPA.out.mono ?_; rintro e w1 ⟨⟨tn, tc, ta, bv, rfl, hbv⟩, hM, hK⟩; have HM := lhi hM; have HK := lhi hK; have HBV := lhi hbv; obtain ⟨BA, bcap, rfl, -, -⟩ := RowT.at' hbv; clear hM hK hbv; obtain ⟨bn, hbn⟩ : ∃ y, l.length = y := ⟨_, rfl⟩; have HBN := lhi hbn; rw [hbn] at HBV HLL; rw [hbn]; clear hbn)
 have HX1 := lhi (show Blk (w1.alloc (.cells #[.string inm, .int .i64 inu, .bool true, .slice ta tn tc, .string nm, .int .i64 (wd inu (nbucket nm : Nat)), .slice BA bn bcap] 260)) w1.heap.size 260 (spotA ⟨inm, inu, true⟩ (.slice ta tn tc) nm (wd inu (nbucket nm : Nat)) (.slice BA bn bcap)) from Blk.new _ _ _)
 have HB1 := lhi (HBV.out.ki (KI.below (below_alloc w1 (.cells #[.string inm, .int .i64 inu, .bool true, .slice ta tn tc, .string nm, .int .i64 (wd inu (nbucket nm : Nat)), .slice BA bn bcap] 260))))
 go_upto_region 2 with (go_at_call 178; refine (there_calls HX1.out HB1.out (by rw [HBN.out]; exact HLL.out)).mono ?_; rintro e w2 ⟨he, hb2⟩; obtain rfl := HTH.out _ he; have HB2 := lhi hb2; clear hb2 he)
 obtain ⟨p2, hp2⟩ : ∃ p, p = w1.heap.size := ⟨_, rfl⟩
 obtain ⟨p3, hp3⟩ : ∃ p, p = w2.heap.size := ⟨_, rfl⟩
 have HW2 := lhi ((((Wk.start HM.out).allocAt HM.out.bd #[.string inm, .int .i64 inu, .bool true, .slice ta tn tc, .string nm, .int .i64 (wd inu (nbucket nm : Nat)), .slice BA bn bcap] 260 hp2).below HB2.out HM.out.bd).allocAt HM.out.bd #[.string xn, .int .i64 xu, .bool false] 165 hp3)
 have HBV2 := lhi (show ItB (w2.alloc (.cells #[.string xn, .int .i64 xu, .bool false] 165)) (.slice BA bn bcap) l from (HB1.out.ki (KI.below HB2.out)).ki (KI.below (below_alloc _ _)))
 have HBD1 := lhi HM.out.bd
 rw [<- hp2, <- hp3]
 generalize w2.alloc (.cells #[.string xn, .int .i64 xu, .bool false] 165) = wb at *
 have t0 := HK.out.cellOf (p := ⟨sp, 0, none⟩) HL.out s0
 have t1 := HK.out.cellOf (p := ⟨sp, 1, none⟩) HL.out s1
 have t2 := HK.out.cellOf (p := ⟨sp, 2, none⟩) HL.out s2
 obtain ⟨BSX, hBSX⟩ : ∃ X, [(⟨p3, 165, #[.string xn, .int .i64 xu, .bool false]⟩ : LB), ⟨p2, 260, #[.string inm, .int .i64 inu, .bool true, .slice ta tn tc, .string nm, .int .i64 (wd inu (nbucket nm : Nat)), .slice BA bn bcap]⟩] = X := ⟨_, rfl⟩
 have HS := lhi (show ∀ (M' : Mem) (W : World), Wk L w1 s M' BSX [] W -> (W.cell? ⟨sp, 0, none⟩ = some (.pointer (some ⟨s, 0, none⟩)) /\ W.cell? ⟨sp, 1, none⟩ = some (.int .i64 c) /\ W.cell? ⟨sp, 2, none⟩ = some (.int .i64 9) /\ W.cell? ⟨p2, 4, none⟩ = some (.string nm) /\ W.cell? ⟨p2, 5, none⟩ = some (.int .i64 (wd inu (nbucket nm : Nat))) /\ W.cell? ⟨p2, 6, none⟩ = some (.slice BA bn bcap) /\ W.cell? ⟨p3, 1, none⟩ = some (.int .i64 xu) /\ W.cell? ⟨p3, 2, none⟩ = some (.bool false)) from fun M' W hW => by
  subst hBSX
  have h1 := hW.bk (.tail _ (.head _))
  have h3 := hW.bk (.head _)
  exact ⟨hW.old HL.out t0, hW.old HL.out t1, hW.old HL.out t2, h1.cell 4, h1.cell 5, h1.cell 6, h3.cell 1, h3.cell 2⟩)
 have HW2 := lhi (show Wk L w1 s M2 BSX [] wb by rw [<- hBSX]; exact HW2.out)
 have HT0 := lhi t0
 have HT1 := lhi t1
 clear hp2 hp3 HM HB2 HB1 HX1 HBV s0 s1 s2 s7 t0 t1 t2 HPA HTH hBSX
 obtain ⟨r0, r1, r2, r3, r4, r5, r6, r7⟩ := HS.out _ _ HW2.out
 go_upto_region 4 with (go_at_call 168; refine (throw_no _ _).mono ?_; rintro e w' ⟨rfl, rfl⟩)
 obtain ⟨a, ra⟩ := HW2.out.arena
 have HRA := lhi ra
 have H0 := lhi HW2.out.drew
 have HDI := lhi (show 0 <= wd xu (8 + c) /\ wd xu (8 + c) < 9549 from wd_in hxu ⟨by omega, by omega⟩)
 have HWD := lhi (fun W => word_calls xu (8 + c) (by omega) (by omega) W)
 have e8 : IntKind.i64.wrap (8 + c) = 8 + c := IntWalk.i64_in _ (by omega)
 obtain ⟨rr, hrr⟩ : ∃ x, wrap64 (rd M2.ws (wd xu (8 + c)) + (-1)) = x := ⟨_, rfl⟩
 have HST := lhi (H0.out.add_wk HOK2.out (by omega) HC2.out HDI.out hrr (a := a) ra)
 obtain ⟨Mb, hMb⟩ : ∃ X, (M2.put (wd xu (8 + c)) rr).note c (wd xu (8 + c), true) = X := ⟨_, rfl⟩
 have HMB := lhi hMb
 rw [hrr] at HCR
 rw [hMb] at HST
 have HOKB := lhi (show Mb.ok (mm + 2) from hMb ▸ (HOK2.out.put _ _).note _ _)
 have HCB := lhi (show 0 <= c /\ c < Mb.ts.length by rw [<- hMb]; simp only [Mem.note, Mem.put, noted_length]; exact HC2.out)
 have HZC := lhi (show (wb.drew.cell? ⟨sp, 0, none⟩ = some (.pointer (some ⟨s, 0, none⟩)) /\ wb.drew.cell? ⟨sp, 1, none⟩ = some (.int .i64 c) /\ wb.drew.cell? ⟨p3, 1, none⟩ = some (.int .i64 xu) /\ wb.drew.cell? ⟨s, 0, none⟩ = some (.pointer (some ⟨a, 0, none⟩))) from ⟨r0, r1, r6, ra⟩)
 clear r0 r1 r2 r3 r4 r5 r6 r7 ra hMb hrr
 go_cut [] (fun wx => Wk L w1 s Mb BSX [] wx /\ KI wb wx)
 case first =>
  go_region_held3 (fun w' => (w'.cell? ⟨sp, 0, none⟩ = some (.pointer (some ⟨s, 0, none⟩)) /\ w'.cell? ⟨sp, 1, none⟩ = some (.int .i64 c) /\ w'.cell? ⟨p3, 1, none⟩ = some (.int .i64 xu) /\ w'.cell? ⟨s, 0, none⟩ = some (.pointer (some ⟨a, 0, none⟩))))
   (with_reducible first | exact HZC.out | exact ⟨z0, z1, z6, z2⟩)
   ((first
    | (go_at_call 85; refine (HWD.out _).mono ?_; rintro e w' ⟨rfl, rfl⟩)
    | (go_at_call 177; refine HST.out.mono ?_; rintro e wv1 ⟨⟨⟨rfl, hc0'⟩, hki⟩, hq⟩; have HQ5 := lhi hq; have HKI := lhi hki; obtain ⟨z0, z1, -, -, -, -, z6, -⟩ := HS.out _ _ hq; have z2 := hc0'.trans HRA.out; clear hq hki hc0')))
  all_goals
   go_wp2_with (fail)
   go_meet
   case rel => exact ⟨HQ5.out, HKI.out⟩
 case rest =>
  obtain ⟨hq, hki⟩ := hcut
  have HQ6 := lhi hq
  have HBV4 := lhi (HBV2.out.ki hki)
  clear hq hki H0 HW2 HBV2 HST HZC e8
  obtain ⟨wd6, hwd6⟩ : ∃ x : World, x = wc := ⟨_, rfl⟩
  subst hwd6
  have H6 := lhi HQ6.out.drew
  have HZD := lhi (HS.out _ _ H6.out)
  have HWT := lhi (without_calls (HBV4.out.ki (KI.refl _) : ItB wd6.drew _ l) (by rw [HBN.out]; exact HLL.out) nm)
  have HWI := lhi (show 0 <= wd inu (nbucket nm : Nat) /\ wd inu (nbucket nm : Nat) < 9549 from wd_in hnum0 (by have := HNB.out; omega))
  obtain ⟨Mc, hMc⟩ : ∃ X, Mb.setW c (wd inu (nbucket nm : Nat)) (.bucket (withoutL l nm)) = X := ⟨_, rfl⟩
  have HSE := lhi (show ∀ (W : World) (sv : Value), Below wd6.drew.heap.size wd6.drew W -> ItB W sv (withoutL l nm) -> (∀ q, svBlk sv q -> wd6.drew.heap.size <= q) -> Calls Tryz.prog 164 #[.pointer (some ⟨sp, 0, none⟩), .int .i64 (wd inu (nbucket nm : Nat)), .iface 161 sv] W fun e w' => e = .returned (.tuple #[]) /\ Wk L w1 s Mc BSX [] w' from fun W sv h1 h2 h3 => hMc ▸ H6.out.set_wk HBD1.out h1 HOKB.out (by omega) HCB.out HWI.out HL.out HT0.out HT1.out h2 h3)
  have HMC := lhi hMc
  clear hMc
  go_upto_region 11 with (fail)
  go_region_held3 (fun w' => (w'.cell? ⟨sp, 0, none⟩ = some (.pointer (some ⟨s, 0, none⟩)) /\ w'.cell? ⟨sp, 1, none⟩ = some (.int .i64 c) /\ w'.cell? ⟨sp, 2, none⟩ = some (.int .i64 9) /\ w'.cell? ⟨p2, 4, none⟩ = some (.string nm) /\ w'.cell? ⟨p2, 5, none⟩ = some (.int .i64 (wd inu (nbucket nm : Nat))) /\ w'.cell? ⟨p2, 6, none⟩ = some (.slice BA bn bcap) /\ w'.cell? ⟨p3, 1, none⟩ = some (.int .i64 xu) /\ w'.cell? ⟨p3, 2, none⟩ = some (.bool false)))
   (with_reducible first | exact HZD.out | exact HS.out _ _ HQ61.out | exact HS.out _ _ HQ62.out)
   ((first
    | (go_at_call 179; refine HWT.out.mono ?_; rintro e wv1 ⟨⟨nv, rfl, hnv, hnq⟩, hb⟩; have HNV := lhi hnv; have HNQ := lhi hnq; have HNB2 := lhi hb; have HQ61 := lhi (H6.out.below hb HBD1.out); clear hnv hnq hb)
    | (go_at_call 164; refine (HSE.out _ _ HNB2.out HNV.out HNQ.out).mono ?_; rintro e wv2 ⟨rfl, hq⟩; have HQ62 := lhi hq; clear hq)))
  all_goals
   go_wp2_with (fail)
   go_end0
   exact ⟨rfl, by rw [HCR.out, HMB.out, HMC.out]; exact HQ62.out.mem, HK.out.trans HQ62.out.kp⟩
end
section
open Go.RowKit
set_option maxHeartbeats 2000000
set_option maxRecDepth 1000000 in
theorem remove_no {L : Nat -> Prop} {w : World} {s : Nat} {M M1 : Mem} {m : Nat} (h : MemAt L w s M) (hok : M.ok m) (hm : m <= 700000000) {c : Int} (hc : 0 <= c /\ c < M.ts.length) (hf : M.fit)
  {sp : Nat} (hL : L sp) (s0 : w.cell? ⟨sp, 0, none⟩ = some (.pointer (some ⟨s, 0, none⟩))) (s1 : w.cell? ⟨sp, 1, none⟩ = some (.int .i64 c)) (s2 : w.cell? ⟨sp, 2, none⟩ = some (.int .i64 9)) {path : ByteArray} (s7 : w.cell? ⟨sp, 7, none⟩ = some (.string path)) (hs : path.size <= 4611686018427387904)
  {ns : List ByteArray} {nm : ByteArray} (hp : parseF path = .ok (ns ++ [nm])) (hn : ns.length <= 100) {it : Item} (hw : walkM c ns M rootItem = (.at_ it, M1)) (hd : it.dir = true) (hfi : (M.bkt it.num (nbucket nm : Nat)).find? (Item.is nm) = none) :
  Calls Tryz.prog 135 #[.pointer (some ⟨sp, 0, none⟩)] w fun e w' => e = thrown 1 /\ MemAt L w' s (M1.see c (wd it.num (nbucket nm : Nat))) /\ Kp L w w' := by
 have hsame := walkM_same c ns M rootItem
 have hok1 := walkM_ok c ns M rootItem m hok
 have hnum := walkM_num c ns M rootItem it hf ⟨by decide, by decide⟩ (by rw [hw])
 rw [hw] at hsame hok1
 have hts8 := h.tsl
 have HPA := lhi (parent_ok h hok (by omega) hc hf hL s0 s1 hs hp hn hw hd)
 have HL := lhi hL
 obtain ⟨inm, inu, idr⟩ := it
 obtain rfl : idr = true := hd
 have hnum : 1 <= inu /\ inu <= 257 := hnum
 have hnum0 := hnum
 obtain ⟨M2, hM2⟩ : ∃ X, M1.see c (wd inu (nbucket nm : Nat)) = X := ⟨_, rfl⟩
 have hsame2 : M.same M2 := hM2 ▸ hsame.trans (Mem.same.see _ _ _)
 have hok2 : M2.ok (m + ns.length + 1) := hM2 ▸ hok1.see _ _
 obtain ⟨l, hl⟩ : ∃ X, M.bkt inu (nbucket nm : Nat) = X := ⟨_, rfl⟩
 have hl2 : M2.bkt inu (nbucket nm : Nat) = l := by rw [hsame2.bkt, hl]
 have hlf := hf.it inu (nbucket nm : Nat) hnum (by have := nbucket_lt nm; omega)
 rw [hl] at hlf
 have hll : l.length <= 1000 := hlf.1
 have hfi : l.find? (Item.is nm) = none := hl ▸ hfi
 have HPA := lhi (show Calls Tryz.prog 166 #[.pointer (some ⟨sp, 0, none⟩), .string path] w fun e w' => (∃ tn tc ta bv, e = .returned (.agg #[.string inm, .int .i64 inu, .bool true, .slice ta tn tc, .string nm, .int .i64 (wd inu (nbucket nm : Nat)), bv]) /\ ItB w' bv l) /\ MemAt L w' s M2 /\ Kp L w w' by have := HPA.out; rw [hl, hM2] at this; exact this)
 have HOK2 := lhi hok2
 have HC2 := lhi (show 0 <= c /\ c < M2.ts.length by rw [hsame2.ts]; exact hc)
 have HNB := lhi (show (0 : Int) <= (nbucket nm : Nat) /\ ((nbucket nm : Nat) : Int) < 8 by have := nbucket_lt nm; omega)
 have HTH := lhi (show ∀ e, ThereR l nm e -> e = thrown 1 from fun e he => by unfold ThereR at he; rw [hfi] at he; exact he)
 have HLL := lhi hll
 rw [hM2]
 have hc8 : 0 <= c /\ c < 8 := ⟨hc.1, by omega⟩
 obtain ⟨hc0, hc1⟩ := hc8
 have hmn : m + ns.length + 100 <= 800000000 := by omega
 obtain ⟨mm, hmm⟩ : ∃ y, m + ns.length = y := ⟨_, rfl⟩
 rw [hmm] at HOK2 hmn
 clear h hok hc hf hp hw hsame hok1 hsame2 hok2 hM2 hl2 hl hfi hll hs hmm hts8 hlf
 go_enter Tryz.func135, Tryz.ntmps135
 go_upto_region 1 with (go_at_call 166; refine HPA.out.mono ?_; rintro e w1 ⟨⟨tn, tc, ta, bv, rfl, hbv⟩, hM, hK⟩; have HM := lhi hM; have HK := lhi hK; have HBV := lhi hbv; obtain ⟨BA, bcap, rfl, -, -⟩ := RowT.at' hbv; clear hM hK hbv; obtain ⟨bn, hbn⟩ : ∃ y, l.length = y := ⟨_, rfl⟩; have HBN := lhi hbn; rw [hbn] at HBV HLL; rw [hbn]; clear hbn)
 have HX1 := lhi (show Blk (w1.alloc (.cells #[.string inm, .int .i64 inu, .bool true, .slice ta tn tc, .string nm, .int .i64 (wd inu (nbucket nm : Nat)), .slice BA bn bcap] 260)) w1.heap.size 260 (spotA ⟨inm, inu, true⟩ (.slice ta tn tc) nm (wd inu (nbucket nm : Nat)) (.slice BA bn bcap)) from Blk.new _ _ _)
 have HB1 := lhi (HBV.out.ki (KI.below (below_alloc w1 (.cells #[.string inm, .int .i64 inu, .bool true, .slice ta tn tc, .string nm, .int .i64 (wd inu (nbucket nm : Nat)), .slice BA bn bcap] 260))))
 go_wp2_with (go_at_call 178; refine (there_calls HX1.out HB1.out (by rw [HBN.out]; exact HLL.out)).mono ?_; rintro e w2 ⟨he, hb2⟩; obtain rfl := HTH.out _ he; have HB2 := lhi hb2; clear hb2 he)
 (try simp only [Exit.inBlock, Exit.then])
 have HW2 := ((Wk.start HM.out).allocAt HM.out.bd #[.string inm, .int .i64 inu, .bool true, .slice ta tn tc, .string nm, .int .i64 (wd inu (nbucket nm : Nat)), .slice BA bn bcap] 260 rfl).below HB2.out HM.out.bd
 exact ⟨rfl, rfl, HW2.mem, HK.out.trans HW2.kp⟩
end
section
open Go.RowKit
set_option maxHeartbeats 1000000
structure CallV where
 kind : Int
 core : Int
 fd : Int
 off : Int
 num : Int
 path : ByteArray
 path2 : ByteArray
 data : ByteArray
def CallV.cs (c : CallV) : Array Value := #[.int .i64 c.kind, .int .i64 c.core, .int .i64 c.fd, .int .i64 c.off, .int .i64 c.num, .string c.path, .string c.path2, .string c.data]
structure ResV where
 code : Int
 fd : Int
 num : Int
 dir : Bool
 data : ByteArray
 na : Option Addr
 nl : Nat
 nc : Nat
def ResV.cs (r : ResV) : Array Value := #[.int .i64 r.code, .int .i64 r.fd, .int .i64 r.num, .bool r.dir, .string r.data, Value.slice r.na r.nl r.nc]
def noRes : ResV := ⟨0, 0, 0, false, ⟨#[]⟩, none, 0, 0⟩
def stepCs (s : Nat) (core : Int) (c : CallV) (r : ResV) : Array Value := #[.pointer (some ⟨s, 0, none⟩), .int .i64 core, .int .i64 c.kind, .int .i64 c.core, .int .i64 c.fd, .int .i64 c.off, .int .i64 c.num, .string c.path, .string c.path2, .string c.data, .int .i64 r.code, .int .i64 r.fd, .int .i64 r.num, .bool r.dir, .string r.data, Value.slice r.na r.nl r.nc]
def stepBs (n s : Nat) (core : Int) (c : CallV) (r : ResV) : List LB := [⟨n + 3, 184, stepCs s core c r⟩, ⟨n + 2, 20, #[.nilIface]⟩, ⟨n + 1, 37, noRes.cs⟩, ⟨n, 42, c.cs⟩]
theorem step_cells {L : Nat -> Prop} {w w1 : World} {s n : Nat} {M' : Mem} {core : Int} {c : CallV} {r : ResV} (hw1 : Wk L w s M' (stepBs n s core c r) [] w1) :
  w1.cell? ⟨n + 3, 10, none⟩ = some (Value.int IntKind.i64 r.code) /\ w1.cell? ⟨n + 3, 11, none⟩ = some (Value.int IntKind.i64 r.fd) /\ w1.cell? ⟨n + 3, 12, none⟩ = some (Value.int IntKind.i64 r.num) /\ w1.cell? ⟨n + 3, 13, none⟩ = some (Value.bool r.dir) /\ w1.cell? ⟨n + 3, 14, none⟩ = some (Value.string r.data) /\ w1.cell? ⟨n + 3, 15, none⟩ = some (Value.slice r.na r.nl r.nc) /\ w1.cell? ⟨n + 1, 0, none⟩ = some (Value.int IntKind.i64 0) /\ w1.frozen? ⟨n + 1, 0, none⟩ = false /\ w1.cell? ⟨n + 1, 1, none⟩ = some (Value.int IntKind.i64 0) /\ w1.frozen? ⟨n + 1, 1, none⟩ = false /\ w1.cell? ⟨n + 1, 2, none⟩ = some (Value.int IntKind.i64 0) /\ w1.frozen? ⟨n + 1, 2, none⟩ = false /\ w1.cell? ⟨n + 1, 3, none⟩ = some (Value.bool false) /\ w1.frozen? ⟨n + 1, 3, none⟩ = false /\ w1.cell? ⟨n + 1, 4, none⟩ = some (Value.string ⟨#[]⟩) /\ w1.frozen? ⟨n + 1, 4, none⟩ = false /\ w1.cell? ⟨n + 1, 5, none⟩ = some (Value.slice none 0 0) /\ w1.frozen? ⟨n + 1, 5, none⟩ = false /\ w1.cell? ⟨n + 1 + 1, 0, none⟩ = some Value.nilIface /\ w1.frozen? ⟨n + 1 + 1, 0, none⟩ = false /\ n + 1 < w1.heap.size := by
 have B3 := hw1.bk (g := n + 3) (t := 184) (cs := stepCs s core c r) (by simp [stepBs])
 have B2 := hw1.bk (g := n + 2) (t := 20) (cs := #[.nilIface]) (by simp [stepBs])
 have B1 := hw1.bk (g := n + 1) (t := 37) (cs := noRes.cs) (by simp [stepBs])
 exact ⟨B3.cell 10, B3.cell 11, B3.cell 12, B3.cell 13, B3.cell 14, B3.cell 15, B1.cell 0, B1.frozen 0, B1.cell 1, B1.frozen 1, B1.cell 2, B1.frozen 2, B1.cell 3, B1.frozen 3, B1.cell 4, B1.frozen 4, B1.cell 5, B1.frozen 5, B2.cell 0, B2.frozen 0, B1.lt⟩
theorem step_fin {L : Nat -> Prop} {w w1 : World} {s n : Nat} {M' : Mem} {core : Int} {c : CallV} {r r' : ResV} (hl : Bd L w) (h : Wk L w s M' (stepBs n s core c r') [] w1) :
  Wk L w s M' [⟨n + 2, 20, #[.nilIface]⟩, ⟨n + 1, 37, r.cs⟩] [] ((w1.setCells (n + 1) 0 [.int .i64 r.code, .int .i64 r.fd, .int .i64 r.num, .bool r.dir, .string r.data, .slice r.na r.nl r.nc]).setCell ⟨n + 1 + 1, 0, none⟩ .nilIface) := by
 have h2 : Wk L w s M' [⟨n + 2, 20, #[.nilIface]⟩, ⟨n + 1, 37, noRes.cs⟩] [] w1 := h.drop0.sub (List.sublist_append_left [_, _] [_])
 exact (Wk.setAll hl [.int .i64 r.code, .int .i64 r.fd, .int .i64 r.num, .bool r.dir, .string r.data, .slice r.na r.nl r.nc] 0 _ _ h2.swap).swap.set0 hl 0 .nilIface
set_option maxRecDepth 1000000 in
theorem step_ret {L : Nat -> Prop} {w : World} {s : Nat} {M M' : Mem} (h : MemAt L w s M) {fb : Nat} (hf : w.cell? ⟨fb, 0, none⟩ = some (.pointer (some ⟨s, 0, none⟩))) {core : Int} {c : CallV} {at_ : Value} {r : ResV}
  (hrun : ∀ W, Wk L w s M (stepBs w.heap.size s core c noRes) [] W -> Calls Tryz.prog 96 #[.pointer (some ⟨w.heap.size + 3, 0, none⟩), at_] W fun e w' => e = .returned (.tuple #[]) /\ Wk L w s M' (stepBs w.heap.size s core c r) [] w') :
  Calls Tryz.prog 51 #[.pointer (some ⟨fb, 0, none⟩), .int .i64 core, .agg c.cs, at_] w fun e w' => e = .returned (.tuple #[.agg r.cs, .nilIface]) /\ MemAt L w' s M' /\ Kp L w w' := by
 have hmf : ∀ (fn : Fn) (first cap : Array Value) (w : World), (Instr.makeFunc fn first cap).run Tryz.prog w = .ok (.func fn first cap) w := fun _ _ _ _ => rfl
 have hl := h.bd
 have hfb : fb < w.heap.size := World.block_lt_of_cell? w _ hf
 have q0 : (((w.alloc (.cells #[Value.int IntKind.i64 c.kind, Value.int IntKind.i64 c.core, Value.int IntKind.i64 c.fd, Value.int IntKind.i64 c.off, Value.int IntKind.i64 c.num, Value.string c.path, Value.string c.path2, Value.string c.data] 42)).alloc (.cells #[.int .i64 0, .int .i64 0, .int .i64 0, .bool false, .string ⟨#[]⟩, .slice none 0 0] 37)).alloc (.cells #[.nilIface] 20)).cell? ⟨w.heap.size, 0, none⟩ = some (Value.int IntKind.i64 c.kind) := by simp [go_sem]
 have q1 : (((w.alloc (.cells #[Value.int IntKind.i64 c.kind, Value.int IntKind.i64 c.core, Value.int IntKind.i64 c.fd, Value.int IntKind.i64 c.off, Value.int IntKind.i64 c.num, Value.string c.path, Value.string c.path2, Value.string c.data] 42)).alloc (.cells #[.int .i64 0, .int .i64 0, .int .i64 0, .bool false, .string ⟨#[]⟩, .slice none 0 0] 37)).alloc (.cells #[.nilIface] 20)).cell? ⟨w.heap.size, 1, none⟩ = some (Value.int IntKind.i64 c.core) := by simp [go_sem]
 have q2 : (((w.alloc (.cells #[Value.int IntKind.i64 c.kind, Value.int IntKind.i64 c.core, Value.int IntKind.i64 c.fd, Value.int IntKind.i64 c.off, Value.int IntKind.i64 c.num, Value.string c.path, Value.string c.path2, Value.string c.data] 42)).alloc (.cells #[.int .i64 0, .int .i64 0, .int .i64 0, .bool false, .string ⟨#[]⟩, .slice none 0 0] 37)).alloc (.cells #[.nilIface] 20)).cell? ⟨w.heap.size, 2, none⟩ = some (Value.int IntKind.i64 c.fd) := by simp [go_sem]
 have q3 : (((w.alloc (.cells #[Value.int IntKind.i64 c.kind, Value.int IntKind.i64 c.core, Value.int IntKind.i64 c.fd, Value.int IntKind.i64 c.off, Value.int IntKind.i64 c.num, Value.string c.path, Value.string c.path2, Value.string c.data] 42)).alloc (.cells #[.int .i64 0, .int .i64 0, .int .i64 0, .bool false, .string ⟨#[]⟩, .slice none 0 0] 37)).alloc (.cells #[.nilIface] 20)).cell? ⟨w.heap.size, 3, none⟩ = some (Value.int IntKind.i64 c.off) := by simp [go_sem]
 have q4 : (((w.alloc (.cells #[Value.int IntKind.i64 c.kind, Value.int IntKind.i64 c.core, Value.int IntKind.i64 c.fd, Value.int IntKind.i64 c.off, Value.int IntKind.i64 c.num, Value.string c.path, Value.string c.path2, Value.string c.data] 42)).alloc (.cells #[.int .i64 0, .int .i64 0, .int .i64 0, .bool false, .string ⟨#[]⟩, .slice none 0 0] 37)).alloc (.cells #[.nilIface] 20)).cell? ⟨w.heap.size, 4, none⟩ = some (Value.int IntKind.i64 c.num) := by simp [go_sem]
 have q5 : (((w.alloc (.cells #[Value.int IntKind.i64 c.kind, Value.int IntKind.i64 c.core, Value.int IntKind.i64 c.fd, Value.int IntKind.i64 c.off, Value.int IntKind.i64 c.num, Value.string c.path, Value.string c.path2, Value.string c.data] 42)).alloc (.cells #[.int .i64 0, .int .i64 0, .int .i64 0, .bool false, .string ⟨#[]⟩, .slice none 0 0] 37)).alloc (.cells #[.nilIface] 20)).cell? ⟨w.heap.size, 5, none⟩ = some (Value.string c.path) := by simp [go_sem]
 have q6 : (((w.alloc (.cells #[Value.int IntKind.i64 c.kind, Value.int IntKind.i64 c.core, Value.int IntKind.i64 c.fd, Value.int IntKind.i64 c.off, Value.int IntKind.i64 c.num, Value.string c.path, Value.string c.path2, Value.string c.data] 42)).alloc (.cells #[.int .i64 0, .int .i64 0, .int .i64 0, .bool false, .string ⟨#[]⟩, .slice none 0 0] 37)).alloc (.cells #[.nilIface] 20)).cell? ⟨w.heap.size, 6, none⟩ = some (Value.string c.path2) := by simp [go_sem]
 have q7 : (((w.alloc (.cells #[Value.int IntKind.i64 c.kind, Value.int IntKind.i64 c.core, Value.int IntKind.i64 c.fd, Value.int IntKind.i64 c.off, Value.int IntKind.i64 c.num, Value.string c.path, Value.string c.path2, Value.string c.data] 42)).alloc (.cells #[.int .i64 0, .int .i64 0, .int .i64 0, .bool false, .string ⟨#[]⟩, .slice none 0 0] 37)).alloc (.cells #[.nilIface] 20)).cell? ⟨w.heap.size, 7, none⟩ = some (Value.string c.data) := by simp [go_sem]
 have qf : (((w.alloc (.cells #[Value.int IntKind.i64 c.kind, Value.int IntKind.i64 c.core, Value.int IntKind.i64 c.fd, Value.int IntKind.i64 c.off, Value.int IntKind.i64 c.num, Value.string c.path, Value.string c.path2, Value.string c.data] 42)).alloc (.cells #[.int .i64 0, .int .i64 0, .int .i64 0, .bool false, .string ⟨#[]⟩, .slice none 0 0] 37)).alloc (.cells #[.nilIface] 20)).cell? ⟨fb, 0, none⟩ = some (.pointer (some ⟨s, 0, none⟩)) := by rw [World.cell?_alloc_past _ _ _ (by simp only [World.size_alloc]; omega), World.cell?_alloc_past _ _ _ (by simp only [World.size_alloc]; omega), World.cell?_alloc_past _ _ _ hfb]; exact hf
 have HS : (((w.alloc (.cells #[Value.int IntKind.i64 c.kind, Value.int IntKind.i64 c.core, Value.int IntKind.i64 c.fd, Value.int IntKind.i64 c.off, Value.int IntKind.i64 c.num, Value.string c.path, Value.string c.path2, Value.string c.data] 42)).alloc (.cells #[.int .i64 0, .int .i64 0, .int .i64 0, .bool false, .string ⟨#[]⟩, .slice none 0 0] 37)).alloc (.cells #[.nilIface] 20)).heap.size = w.heap.size + 3 := by simp
 have HW := lhi (show Wk L w s M [⟨w.heap.size + 2, 20, #[.nilIface]⟩, ⟨w.heap.size + 1, 37, #[.int .i64 0, .int .i64 0, .int .i64 0, .bool false, .string ⟨#[]⟩, .slice none 0 0]⟩, ⟨w.heap.size, 42, #[Value.int IntKind.i64 c.kind, Value.int IntKind.i64 c.core, Value.int IntKind.i64 c.fd, Value.int IntKind.i64 c.off, Value.int IntKind.i64 c.num, Value.string c.path, Value.string c.path2, Value.string c.data]⟩] [] (((w.alloc (.cells #[Value.int IntKind.i64 c.kind, Value.int IntKind.i64 c.core, Value.int IntKind.i64 c.fd, Value.int IntKind.i64 c.off, Value.int IntKind.i64 c.num, Value.string c.path, Value.string c.path2, Value.string c.data] 42)).alloc (.cells #[.int .i64 0, .int .i64 0, .int .i64 0, .bool false, .string ⟨#[]⟩, .slice none 0 0] 37)).alloc (.cells #[.nilIface] 20)) from by simpa using (((Wk.start h).alloc hl #[Value.int IntKind.i64 c.kind, Value.int IntKind.i64 c.core, Value.int IntKind.i64 c.fd, Value.int IntKind.i64 c.off, Value.int IntKind.i64 c.num, Value.string c.path, Value.string c.path2, Value.string c.data] 42).alloc hl #[.int .i64 0, .int .i64 0, .int .i64 0, .bool false, .string ⟨#[]⟩, .slice none 0 0] 37).alloc hl #[.nilIface] 20)
 have HL := lhi hl
 have HR := lhi hrun
 clear h hrun hf
 simp only [CallV.cs, ResV.cs] at ⊢
 go_enter_defers Tryz.func51, Tryz.ntmps51
 go_wp2_with (fail)
 generalize hW : (((w.alloc (.cells #[Value.int IntKind.i64 c.kind, Value.int IntKind.i64 c.core, Value.int IntKind.i64 c.fd, Value.int IntKind.i64 c.off, Value.int IntKind.i64 c.num, Value.string c.path, Value.string c.path2, Value.string c.data] 42)).alloc (.cells #[.int .i64 0, .int .i64 0, .int .i64 0, .bool false, .string ⟨#[]⟩, .slice none 0 0] 37)).alloc (.cells #[.nilIface] 20)) = w3 at *
 go_region
 have HK := lhi (show Wk L w s M (stepBs w.heap.size s core c noRes) [] (w3.alloc (.cells #[.pointer (some ⟨s, 0, none⟩), .int .i64 core, Value.int IntKind.i64 c.kind, Value.int IntKind.i64 c.core, Value.int IntKind.i64 c.fd, Value.int IntKind.i64 c.off, Value.int IntKind.i64 c.num, Value.string c.path, Value.string c.path2, Value.string c.data, Value.int IntKind.i64 0, Value.int IntKind.i64 0, Value.int IntKind.i64 0, Value.bool false, Value.string ⟨#[]⟩, Value.slice none 0 0] 184)).drew from by have := (HW.out.alloc HL.out #[.pointer (some ⟨s, 0, none⟩), .int .i64 core, Value.int IntKind.i64 c.kind, Value.int IntKind.i64 c.core, Value.int IntKind.i64 c.fd, Value.int IntKind.i64 c.off, Value.int IntKind.i64 c.num, Value.string c.path, Value.string c.path2, Value.string c.data, Value.int IntKind.i64 0, Value.int IntKind.i64 0, Value.int IntKind.i64 0, Value.bool false, Value.string ⟨#[]⟩, Value.slice none 0 0] 184).drew; rw [HS] at this; exact this)
 go_wp2_with (go_at_call 96; refine (HR.out _ HK.out).mono ?_; rintro e w1 ⟨rfl, hw1⟩; obtain ⟨s0, s1, s2, s3, s4, s5, z0, y0, z1, y1, z2, y2, z3, y3, z4, y4, z5, y5, z6, y6, h1s⟩ := step_cells hw1; have H1 := lhi hw1; clear hw1)
 have HF := lhi (step_fin (r := r) HL.out H1.out)
 refine leaves_cons (f := 95) (args := #[.pointer (some ⟨w.heap.size + 1, 0, none⟩), .pointer (some ⟨w.heap.size + 1 + 1, 0, none⟩)]) (by simp) (by simp [go_sem]) ?_
 refine (catch_idle _ _ _).mono ?_
 rintro e u' w'' ⟨rfl, rfl, rfl⟩
 refine ⟨_, ?_, rfl, HF.out.fin⟩
 simp [results, Tryz.results51, go_sem, z0, z1, z2, z3, z4, z5, z6]
set_option maxRecDepth 1000000 in
theorem step_fault {L : Nat -> Prop} {w : World} {s : Nat} {M M' : Mem} (h : MemAt L w s M) {fb : Nat} (hf : w.cell? ⟨fb, 0, none⟩ = some (.pointer (some ⟨s, 0, none⟩))) {core : Int} {c : CallV} {at_ : Value} {r : ResV} {code : Int}
  (hrun : ∀ W, Wk L w s M (stepBs w.heap.size s core c noRes) [] W -> Calls Tryz.prog 96 #[.pointer (some ⟨w.heap.size + 3, 0, none⟩), at_] W fun e w' => e = thrown code /\ Wk L w s M' (stepBs w.heap.size s core c r) [] w') :
  Calls Tryz.prog 51 #[.pointer (some ⟨fb, 0, none⟩), .int .i64 core, .agg c.cs, at_] w fun e w' => e = .returned (.tuple #[.agg (codeRes code).toArray, .nilIface]) /\ MemAt L w' s M' /\ Kp L w w' := by
 have hmf : ∀ (fn : Fn) (first cap : Array Value) (w : World), (Instr.makeFunc fn first cap).run Tryz.prog w = .ok (.func fn first cap) w := fun _ _ _ _ => rfl
 have hl := h.bd
 have hfb : fb < w.heap.size := World.block_lt_of_cell? w _ hf
 have q0 : (((w.alloc (.cells #[Value.int IntKind.i64 c.kind, Value.int IntKind.i64 c.core, Value.int IntKind.i64 c.fd, Value.int IntKind.i64 c.off, Value.int IntKind.i64 c.num, Value.string c.path, Value.string c.path2, Value.string c.data] 42)).alloc (.cells #[.int .i64 0, .int .i64 0, .int .i64 0, .bool false, .string ⟨#[]⟩, .slice none 0 0] 37)).alloc (.cells #[.nilIface] 20)).cell? ⟨w.heap.size, 0, none⟩ = some (Value.int IntKind.i64 c.kind) := by simp [go_sem]
 have q1 : (((w.alloc (.cells #[Value.int IntKind.i64 c.kind, Value.int IntKind.i64 c.core, Value.int IntKind.i64 c.fd, Value.int IntKind.i64 c.off, Value.int IntKind.i64 c.num, Value.string c.path, Value.string c.path2, Value.string c.data] 42)).alloc (.cells #[.int .i64 0, .int .i64 0, .int .i64 0, .bool false, .string ⟨#[]⟩, .slice none 0 0] 37)).alloc (.cells #[.nilIface] 20)).cell? ⟨w.heap.size, 1, none⟩ = some (Value.int IntKind.i64 c.core) := by simp [go_sem]
 have q2 : (((w.alloc (.cells #[Value.int IntKind.i64 c.kind, Value.int IntKind.i64 c.core, Value.int IntKind.i64 c.fd, Value.int IntKind.i64 c.off, Value.int IntKind.i64 c.num, Value.string c.path, Value.string c.path2, Value.string c.data] 42)).alloc (.cells #[.int .i64 0, .int .i64 0, .int .i64 0, .bool false, .string ⟨#[]⟩, .slice none 0 0] 37)).alloc (.cells #[.nilIface] 20)).cell? ⟨w.heap.size, 2, none⟩ = some (Value.int IntKind.i64 c.fd) := by simp [go_sem]
 have q3 : (((w.alloc (.cells #[Value.int IntKind.i64 c.kind, Value.int IntKind.i64 c.core, Value.int IntKind.i64 c.fd, Value.int IntKind.i64 c.off, Value.int IntKind.i64 c.num, Value.string c.path, Value.string c.path2, Value.string c.data] 42)).alloc (.cells #[.int .i64 0, .int .i64 0, .int .i64 0, .bool false, .string ⟨#[]⟩, .slice none 0 0] 37)).alloc (.cells #[.nilIface] 20)).cell? ⟨w.heap.size, 3, none⟩ = some (Value.int IntKind.i64 c.off) := by simp [go_sem]
 have q4 : (((w.alloc (.cells #[Value.int IntKind.i64 c.kind, Value.int IntKind.i64 c.core, Value.int IntKind.i64 c.fd, Value.int IntKind.i64 c.off, Value.int IntKind.i64 c.num, Value.string c.path, Value.string c.path2, Value.string c.data] 42)).alloc (.cells #[.int .i64 0, .int .i64 0, .int .i64 0, .bool false, .string ⟨#[]⟩, .slice none 0 0] 37)).alloc (.cells #[.nilIface] 20)).cell? ⟨w.heap.size, 4, none⟩ = some (Value.int IntKind.i64 c.num) := by simp [go_sem]
 have q5 : (((w.alloc (.cells #[Value.int IntKind.i64 c.kind, Value.int IntKind.i64 c.core, Value.int IntKind.i64 c.fd, Value.int IntKind.i64 c.off, Value.int IntKind.i64 c.num, Value.string c.path, Value.string c.path2, Value.string c.data] 42)).alloc (.cells #[.int .i64 0, .int .i64 0, .int .i64 0, .bool false, .string ⟨#[]⟩, .slice none 0 0] 37)).alloc (.cells #[.nilIface] 20)).cell? ⟨w.heap.size, 5, none⟩ = some (Value.string c.path) := by simp [go_sem]
 have q6 : (((w.alloc (.cells #[Value.int IntKind.i64 c.kind, Value.int IntKind.i64 c.core, Value.int IntKind.i64 c.fd, Value.int IntKind.i64 c.off, Value.int IntKind.i64 c.num, Value.string c.path, Value.string c.path2, Value.string c.data] 42)).alloc (.cells #[.int .i64 0, .int .i64 0, .int .i64 0, .bool false, .string ⟨#[]⟩, .slice none 0 0] 37)).alloc (.cells #[.nilIface] 20)).cell? ⟨w.heap.size, 6, none⟩ = some (Value.string c.path2) := by simp [go_sem]
 have q7 : (((w.alloc (.cells #[Value.int IntKind.i64 c.kind, Value.int IntKind.i64 c.core, Value.int IntKind.i64 c.fd, Value.int IntKind.i64 c.off, Value.int IntKind.i64 c.num, Value.string c.path, Value.string c.path2, Value.string c.data] 42)).alloc (.cells #[.int .i64 0, .int .i64 0, .int .i64 0, .bool false, .string ⟨#[]⟩, .slice none 0 0] 37)).alloc (.cells #[.nilIface] 20)).cell? ⟨w.heap.size, 7, none⟩ = some (Value.string c.data) := by simp [go_sem]
 have qf : (((w.alloc (.cells #[Value.int IntKind.i64 c.kind, Value.int IntKind.i64 c.core, Value.int IntKind.i64 c.fd, Value.int IntKind.i64 c.off, Value.int IntKind.i64 c.num, Value.string c.path, Value.string c.path2, Value.string c.data] 42)).alloc (.cells #[.int .i64 0, .int .i64 0, .int .i64 0, .bool false, .string ⟨#[]⟩, .slice none 0 0] 37)).alloc (.cells #[.nilIface] 20)).cell? ⟨fb, 0, none⟩ = some (.pointer (some ⟨s, 0, none⟩)) := by rw [World.cell?_alloc_past _ _ _ (by simp only [World.size_alloc]; omega), World.cell?_alloc_past _ _ _ (by simp only [World.size_alloc]; omega), World.cell?_alloc_past _ _ _ hfb]; exact hf
 have HS : (((w.alloc (.cells #[Value.int IntKind.i64 c.kind, Value.int IntKind.i64 c.core, Value.int IntKind.i64 c.fd, Value.int IntKind.i64 c.off, Value.int IntKind.i64 c.num, Value.string c.path, Value.string c.path2, Value.string c.data] 42)).alloc (.cells #[.int .i64 0, .int .i64 0, .int .i64 0, .bool false, .string ⟨#[]⟩, .slice none 0 0] 37)).alloc (.cells #[.nilIface] 20)).heap.size = w.heap.size + 3 := by simp
 have HW := lhi (show Wk L w s M [⟨w.heap.size + 2, 20, #[.nilIface]⟩, ⟨w.heap.size + 1, 37, #[.int .i64 0, .int .i64 0, .int .i64 0, .bool false, .string ⟨#[]⟩, .slice none 0 0]⟩, ⟨w.heap.size, 42, #[Value.int IntKind.i64 c.kind, Value.int IntKind.i64 c.core, Value.int IntKind.i64 c.fd, Value.int IntKind.i64 c.off, Value.int IntKind.i64 c.num, Value.string c.path, Value.string c.path2, Value.string c.data]⟩] [] (((w.alloc (.cells #[Value.int IntKind.i64 c.kind, Value.int IntKind.i64 c.core, Value.int IntKind.i64 c.fd, Value.int IntKind.i64 c.off, Value.int IntKind.i64 c.num, Value.string c.path, Value.string c.path2, Value.string c.data] 42)).alloc (.cells #[.int .i64 0, .int .i64 0, .int .i64 0, .bool false, .string ⟨#[]⟩, .slice none 0 0] 37)).alloc (.cells #[.nilIface] 20)) from by simpa using (((Wk.start h).alloc hl #[Value.int IntKind.i64 c.kind, Value.int IntKind.i64 c.core, Value.int IntKind.i64 c.fd, Value.int IntKind.i64 c.off, Value.int IntKind.i64 c.num, Value.string c.path, Value.string c.path2, Value.string c.data] 42).alloc hl #[.int .i64 0, .int .i64 0, .int .i64 0, .bool false, .string ⟨#[]⟩, .slice none 0 0] 37).alloc hl #[.nilIface] 20)
 have HL := lhi hl
 have HR := lhi hrun
 clear h hrun hf
 simp only [CallV.cs] at ⊢
 go_enter_defers Tryz.func51, Tryz.ntmps51
 go_wp2_with (fail)
 generalize hW : (((w.alloc (.cells #[Value.int IntKind.i64 c.kind, Value.int IntKind.i64 c.core, Value.int IntKind.i64 c.fd, Value.int IntKind.i64 c.off, Value.int IntKind.i64 c.num, Value.string c.path, Value.string c.path2, Value.string c.data] 42)).alloc (.cells #[.int .i64 0, .int .i64 0, .int .i64 0, .bool false, .string ⟨#[]⟩, .slice none 0 0] 37)).alloc (.cells #[.nilIface] 20)) = w3 at *
 go_region
 have HK := lhi (show Wk L w s M (stepBs w.heap.size s core c noRes) [] (w3.alloc (.cells #[.pointer (some ⟨s, 0, none⟩), .int .i64 core, Value.int IntKind.i64 c.kind, Value.int IntKind.i64 c.core, Value.int IntKind.i64 c.fd, Value.int IntKind.i64 c.off, Value.int IntKind.i64 c.num, Value.string c.path, Value.string c.path2, Value.string c.data, Value.int IntKind.i64 0, Value.int IntKind.i64 0, Value.int IntKind.i64 0, Value.bool false, Value.string ⟨#[]⟩, Value.slice none 0 0] 184)).drew from by have := (HW.out.alloc HL.out #[.pointer (some ⟨s, 0, none⟩), .int .i64 core, Value.int IntKind.i64 c.kind, Value.int IntKind.i64 c.core, Value.int IntKind.i64 c.fd, Value.int IntKind.i64 c.off, Value.int IntKind.i64 c.num, Value.string c.path, Value.string c.path2, Value.string c.data, Value.int IntKind.i64 0, Value.int IntKind.i64 0, Value.int IntKind.i64 0, Value.bool false, Value.string ⟨#[]⟩, Value.slice none 0 0] 184).drew; rw [HS] at this; exact this)
 go_wp2_with (go_at_call 96; refine (HR.out _ HK.out).mono ?_; rintro e w1 ⟨rfl, hw1⟩; obtain ⟨s0, s1, s2, s3, s4, s5, z0, y0, z1, y1, z2, y2, z3, y3, z4, y4, z5, y5, z6, y6, h1s⟩ := step_cells hw1; have H1 := lhi hw1; clear hw1)
 have HF := lhi ((step_fin (r := ⟨code, 0, 0, false, ⟨#[]⟩, none, 0, 0⟩) HL.out H1.out).alloc HL.out #[.int .i64 code] 186)
 have B2 := H1.out.bk (g := w.heap.size + 2) (t := 20) (cs := #[.nilIface]) (by simp [stepBs])
 have B1 := H1.out.bk (g := w.heap.size + 1) (t := 37) (cs := noRes.cs) (by simp [stepBs])
 refine leaves_cons (f := 95) (args := #[.pointer (some ⟨w.heap.size + 1, 0, none⟩), .pointer (some ⟨w.heap.size + 1 + 1, 0, none⟩)]) (by simp) (by simp [go_sem]) ?_
 refine (catch_fault (c := code) (by omega) rfl B1 B2 []).mono ?_
 rintro e u' w'' ⟨rfl, rfl, rfl⟩
 have l1 := B1.lt
 have l2 := B2.lt
 refine ⟨_, ?_, rfl, HF.out.fin⟩
 simp [results, Tryz.results51, go_sem, codeRes, World.setCells, z0, z1, z2, z3, z4, z5, z6, l1, l2]
end
section
open Go.RowKit
set_option maxHeartbeats 2000000
set_option maxRecDepth 1000000 in
theorem create_full {L : Nat -> Prop} {w : World} {s : Nat} {M M1 : Mem} {m : Nat} (h : MemAt L w s M) (hok : M.ok m) (hm : m <= 700000000) {c : Int} (hc : 0 <= c /\ c < M.ts.length) (hf : M.fit)
  {sp : Nat} (hL : L sp) (s0 : w.cell? ⟨sp, 0, none⟩ = some (.pointer (some ⟨s, 0, none⟩))) (s1 : w.cell? ⟨sp, 1, none⟩ = some (.int .i64 c)) {kind : Int} (s2 : w.cell? ⟨sp, 2, none⟩ = some (.int .i64 kind)) (hkind : kind = 0 ∨ kind = 1) {path : ByteArray} (s7 : w.cell? ⟨sp, 7, none⟩ = some (.string path)) (hs : path.size <= 4611686018427387904)
  {ns : List ByteArray} {nm : ByteArray} (hp : parseF path = .ok (ns ++ [nm])) (hn : ns.length <= 100) {it : Item} (hw : walkM c ns M rootItem = (.at_ it, M1)) (hd : it.dir = true) (hfr : freshC (M.bkt it.num (nbucket nm : Nat)) nm = 0)
  {n : Int} (hmade : rd M.ws (mdw c) = n) (hn0 : 32 <= n) :
  Calls Tryz.prog 127 #[.pointer (some ⟨sp, 0, none⟩)] w fun e w' => e = thrown 5 /\ MemAt L w' s ((M1.see c (wd it.num (nbucket nm : Nat))).see c (mdw c)) /\ Kp L w w' := by
 have hsame := walkM_same c ns M rootItem
 have hok1 := walkM_ok c ns M rootItem m hok
 have hnum := walkM_num c ns M rootItem it hf ⟨by decide, by decide⟩ (by rw [hw])
 rw [hw] at hsame hok1
 have hts8 := h.tsl
 have HPA := lhi (parent_ok h hok (by omega) hc hf hL s0 s1 hs hp hn hw hd)
 have HBD := lhi h.bd
 have HL := lhi hL
 obtain ⟨inm, inu, idr⟩ := it
 obtain rfl : idr = true := hd
 have hnum : 1 <= inu /\ inu <= 257 := hnum
 have hnum0 := hnum
 obtain ⟨M2, hM2⟩ : ∃ X, M1.see c (wd inu (nbucket nm : Nat)) = X := ⟨_, rfl⟩
 have hsame2 : M.same M2 := hM2 ▸ hsame.trans (Mem.same.see _ _ _)
 have hok2 : M2.ok (m + ns.length + 1) := hM2 ▸ hok1.see _ _
 obtain ⟨l, hl⟩ : ∃ X, M.bkt inu (nbucket nm : Nat) = X := ⟨_, rfl⟩
 have hl2 : M2.bkt inu (nbucket nm : Nat) = l := by rw [hsame2.bkt, hl]
 have hll : l.length <= 1000 := hl ▸ (hf.it inu (nbucket nm : Nat) hnum (by have := nbucket_lt nm; omega)).1
 rw [hl] at hfr
 have HPA := lhi (show Calls Tryz.prog 166 #[.pointer (some ⟨sp, 0, none⟩), .string path] w fun e w' => (∃ tn tc ta bv, e = .returned (.agg #[.string inm, .int .i64 inu, .bool true, .slice ta tn tc, .string nm, .int .i64 (wd inu (nbucket nm : Nat)), bv]) /\ ItB w' bv l) /\ MemAt L w' s M2 /\ Kp L w w' by have := HPA.out; rw [hl, hM2] at this; exact this)
 have HOK2 := lhi hok2
 have HC2 := lhi (show 0 <= c /\ c < M2.ts.length by rw [hsame2.ts]; exact hc)
 have HNB := lhi (show (0 : Int) <= (nbucket nm : Nat) /\ ((nbucket nm : Nat) : Int) < 8 by have := nbucket_lt nm; omega)
 have HMD := lhi (show rd M2.ws (mdw c) = n by rw [hsame2.ws]; exact hmade)
 have HFR := lhi hfr
 have HLL := lhi hll
 rw [hM2]
 have hc8 : 0 <= c /\ c < 8 := ⟨hc.1, by omega⟩
 obtain ⟨hc0, hc1⟩ := hc8
 have hmn : m + ns.length + 100 <= 800000000 := by omega
 obtain ⟨mm, hmm⟩ : ∃ y, m + ns.length = y := ⟨_, rfl⟩
 rw [hmm] at HOK2 hmn
 clear h hok hc hf hp hw hsame hok1 hsame2 hok2 hM2 hl2 hl hfr hll hmade hs hmm hts8
 go_enter Tryz.func127, Tryz.ntmps127
 go_upto_region 2 with (first
  | (go_at_call 166; refine HPA.out.mono ?_; rintro e w1 ⟨⟨tn, tc, ta, bv, rfl, hbv⟩, hM, hK⟩; have HM := lhi hM; have HK := lhi hK; have HBV := lhi hbv; obtain ⟨BA, bcap, rfl, -, -⟩ := RowT.at' hbv; clear hM hK hbv; obtain ⟨bn, hbn⟩ : ∃ y, l.length = y := ⟨_, rfl⟩; have HBN := lhi hbn; rw [hbn] at HBV HLL; rw [hbn]; clear hbn)
  | (go_at_call 167; refine (fresh_ok (it := ⟨inm, inu, true⟩) (show Blk (w1.alloc (.cells #[.string inm, .int .i64 inu, .bool true, .slice ta tn tc, .string nm, .int .i64 (wd inu (nbucket nm : Nat)), .slice BA bn bcap] 260)) w1.heap.size 260 #[.string inm, .int .i64 inu, .bool true, .slice ta tn tc, .string nm, .int .i64 (wd inu (nbucket nm : Nat)), .slice BA bn bcap] from Blk.new _ _ _) (HBV.out.ki (KI.below (below_alloc _ _))) (by rw [HBN.out]; exact HLL.out) HFR.out).mono ?_; rintro e w2 ⟨rfl, hb2⟩; have HB2 := lhi hb2; clear hb2))
 obtain ⟨p2, hp2⟩ : ∃ p, p = w1.heap.size := ⟨_, rfl⟩
 have HW2 := lhi (((Wk.start HM.out).allocAt HM.out.bd #[.string inm, .int .i64 inu, .bool true, .slice ta tn tc, .string nm, .int .i64 (wd inu (nbucket nm : Nat)), .slice BA bn bcap] 260 hp2).below HB2.out HM.out.bd)
 have HBV2 := lhi (show ItB w2 (.slice BA bn bcap) l from (HBV.out.ki (KI.below (below_alloc _ _))).ki (KI.below HB2.out))
 have HBD1 := lhi HM.out.bd
 rw [<- hp2]
 have t0 := HK.out.cellOf (p := ⟨sp, 0, none⟩) HL.out s0
 have t1 := HK.out.cellOf (p := ⟨sp, 1, none⟩) HL.out s1
 have t2 := HK.out.cellOf (p := ⟨sp, 2, none⟩) HL.out s2
 have HS := lhi (show ∀ (M' : Mem) (W : World), Wk L w1 s M' [⟨p2, 260, #[.string inm, .int .i64 inu, .bool true, .slice ta tn tc, .string nm, .int .i64 (wd inu (nbucket nm : Nat)), .slice BA bn bcap]⟩] [] W -> (W.cell? ⟨sp, 0, none⟩ = some (.pointer (some ⟨s, 0, none⟩)) /\ W.cell? ⟨sp, 1, none⟩ = some (.int .i64 c) /\ W.cell? ⟨sp, 2, none⟩ = some (.int .i64 kind) /\ W.cell? ⟨p2, 4, none⟩ = some (.string nm) /\ W.cell? ⟨p2, 5, none⟩ = some (.int .i64 (wd inu (nbucket nm : Nat))) /\ W.cell? ⟨p2, 6, none⟩ = some (.slice BA bn bcap)) from fun M' W hW => by
  have h1 := hW.bk (.head _)
  exact ⟨hW.old HL.out t0, hW.old HL.out t1, hW.old HL.out t2, h1.cell 4, h1.cell 5, h1.cell 6⟩)
 have HT0 := lhi t0
 have HT1 := lhi t1
 clear hp2 HM HB2 HBV s0 s1 s2 s7 t0 t1 t2 HPA HFR
 have H0 := lhi HW2.out.drew
 have HWH := lhi (show Who M2 c from .inr HC2.out)
 have HMI := lhi (show 0 <= mdw c /\ mdw c < 9549 by unfold mdw; omega)
 go_cut [3] (fun s3 wx => s3 = .int .i64 n /\ Wk L w1 s (M2.see c (mdw c)) [⟨p2, 260, #[.string inm, .int .i64 inu, .bool true, .slice ta tn tc, .string nm, .int .i64 (wd inu (nbucket nm : Nat)), .slice BA bn bcap]⟩] [] wx /\ KI w2 wx)
 case first =>
  go_region_held3 (fun w' => (w'.cell? ⟨sp, 0, none⟩ = some (.pointer (some ⟨s, 0, none⟩)) /\ w'.cell? ⟨sp, 1, none⟩ = some (.int .i64 c) /\ w'.cell? ⟨sp, 2, none⟩ = some (.int .i64 kind) /\ w'.cell? ⟨p2, 4, none⟩ = some (.string nm) /\ w'.cell? ⟨p2, 5, none⟩ = some (.int .i64 (wd inu (nbucket nm : Nat))) /\ w'.cell? ⟨p2, 6, none⟩ = some (.slice BA bn bcap)))
   (with_reducible first | exact HS.out _ _ H0.out | exact HS.out _ _ HQ.out)
   ((first
    | (go_at_call 46; refine (mfmade_calls c (by omega) _).mono ?_; rintro e w' ⟨rfl, rfl⟩)
    | (go_at_call 121; refine (H0.out.callKI (fun K hK => load_v' hK HOK2.out (by omega) HWH.out HMI.out HMD.out)).mono ?_; rintro e wv1 ⟨rfl, hq, hki⟩; have HQ := lhi hq; have HKI := lhi hki; clear hq hki)))
  all_goals
   go_wp2_with (fail)
   go_meet
   case rel => exact ⟨rfl, HQ.out, HKI.out⟩
 case rest =>
  obtain ⟨rfl, hq, hki⟩ := hcut
  have HQ := lhi hq
  have HBV3 := lhi (HBV2.out.ki hki)
  have hd32 : decide ((32 : Int) <= n) = true := by simpa using hn0
  clear hq hki H0 HW2 HBV2
  obtain ⟨wb, hwb⟩ : ∃ x : World, x = wc := ⟨_, rfl⟩
  subst hwb
  go_wp2_with (go_at_call 168; refine (throw_yes _ _).mono ?_; rintro e w' ⟨rfl, rfl⟩)
  (try simp only [Exit.inBlock, Exit.then])
  exact ⟨rfl, rfl, HQ.out.mem, HK.out.trans HQ.out.kp⟩
end
end Go.Proofs.YtkebjgebkneijaaGreatDoor
