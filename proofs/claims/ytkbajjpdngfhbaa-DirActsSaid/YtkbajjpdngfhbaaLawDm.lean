
/- law9: made; names that awake uses. -/
import Derived.Test.YtkbajjpdngfhbaaDirDs
import Derived.Test.YtkbajjpdngfhbaaReads
namespace Go.Proofs.Ytkbajjpdngfhbaa
open Go.RowKit
set_option maxHeartbeats 1000000
set_option maxRecDepth 1000000 in
theorem made_d (w : World) {P : List (List Acc) → Prop} (hP : P (List.replicate 4 [])) :
    Calls Try.prog 9 #[] w fun e w' => ∃ a d, e = .returned (.tuple #[.pointer (some ⟨a, 0, none⟩), .pointer (some ⟨d, 0, none⟩), .bool true]) ∧ w.heap.size ≤ d ∧ DS (ins (fun b => b < w.heap.size) d) w' d a 0 4 0 P [] ∧ Below w.heap.size w w' := by
  obtain ⟨ws, hws⟩ : ∃ ws : List Int, List.replicate (1024 : Int).toNat 0 = ws := ⟨_, rfl⟩
  have hwl : ws.length = 1024 := by rw [← hws, List.length_replicate]; rfl
  have HN := Lib.hid (new_to (Bd.below w) (n := 1024) (k := 4) (by omega) (by omega) hws (ts := List.replicate 4 []) rfl)
  clear hws
  have HP := Lib.hid hP
  clear hP
  go_enter Try.func9, Try.ntmps9
  go_wp2_with (fail)
  refine HN.out.mono ?_
  rintro e w2 ⟨a, rfl, hA, hK⟩
  have hA2 : ArP (fun b => b < w.heap.size) w2 a ws 4 0 P := ArP.new 4 HP.out hA
  have HW := Lib.hid hwl
  have HD := Lib.hid (New_ok hA2 (f := 0) 1024 (by omega) (by omega) (by rw [HW.out]; omega))
  clear hwl hA hA2
  go_wp2_with (fail)
  refine HD.out.mono ?_
  rintro e w3 ⟨ws', rfl, hl, hT, hsz, hDA, hA3, hK3⟩
  have HS := Lib.hid (show DS (ins (fun b => b < w.heap.size) (w3.heap.size - 1)) w3 (w3.heap.size - 1) a 0 4 0 P [] from ⟨ws', _, hDA, hA3, hT, by
    have e : ents (fun _ _ => (none : Option Ent)) = [] := by
      unfold ents entsTo
      exact List.filterMap_eq_nil_iff.2 fun _ _ => rfl
    rw [e]⟩)
  have hKK := Lib.hid ((hK.trans hK3).below fun _ h => h)
  have hge : w.heap.size ≤ w3.heap.size - 1 := Nat.le_trans hK.size hsz
  clear hl hT hDA hA3 hK3 HD
  generalize w3.heap.size - 1 = d at *
  go_wp2_with (go_at_call 11; refine (num_calls _ _).mono ?_; rintro e w' ⟨rfl, rfl⟩)
  go_ret3
  exact ⟨a, d, rfl, hge, HS.out, hKK.out⟩
end Go.Proofs.Ytkbajjpdngfhbaa
