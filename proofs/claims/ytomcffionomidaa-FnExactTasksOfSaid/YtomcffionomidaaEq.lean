/- Comparing what is the same: the comparing functions of the laws answer true. -/
import Derived.Test.YtomcffionomidaaData
namespace Go.Proofs.Ytomcffionomidaa
open Go.RowKit

set_option maxRecDepth 100000 in
theorem eqTaskS_same (A B : Option Addr) (cA cB' : Nat) (xs : List Tsk) (w : World) (hA : SlAt w 3 A (xs.map cT)) (hB : SlAt w 3 B (xs.map cT)) (hn : xs.length ≤ 140737488355328) :
    Calls Try.prog 14 #[.slice A xs.length cA, .slice B xs.length cB'] w fun e w' => e = .returned (.bool true) ∧ Below w.heap.size w w' := by
  go_enter Try.func14, Try.ntmps14
  go_wp2
  go_loopg [5] xs.length (fun g i wr => ∃ k : Nat, k ≤ xs.length ∧ g = xs.length - k ∧ i = .int .i64 k ∧ Below w.heap.size w wr)
  case atStart => exact ⟨0, by omega, by omega, by go_num, Below.refl _ _⟩
  case round =>
    obtain ⟨k, hk, rfl, rfl, hb⟩ := hrel
    by_cases hlt : k < xs.length
    · obtain ⟨ga, oa, rfl, -, -, hla⟩ := (hA.below hb).elem (P := Try.prog) (k := k) (by simpa using hlt) 74 Try.underlying74 rfl (by kernel_rfl)
      obtain ⟨gb, ob, rfl, -, -, hlb⟩ := (hB.below hb).elem (P := Try.prog) (k := k) (by simpa using hlt) 74 Try.underlying74 rfl (by kernel_rfl)
      simp only [List.getElem_map] at hla hlb
      go_wp2
      refine wp_region_below (by kernel_rfl) (by kernel_rfl) ?_
      repeat (first | go_big_quiet_skip | (go_big_quiet_want; first | (refine quiet_load_run 74 _ rfl _ hla ?_; go_simp; go_big_quiet_on) | (refine quiet_load_run 74 _ rfl _ hlb ?_; go_simp; go_big_quiet_on) | (go_big_quiet_op; first | go_big_quiet_on | (apply Exists.intro; refine ⟨fun W hW => ?_, ?_⟩; (focus (go_at_call 48; refine (eqTask_same _ _).mono ?_; rintro e w1 ⟨rfl, h1⟩; exact ⟨rfl, Bel.then hW h1⟩)); go_big_quiet_on) | (apply Exists.intro; refine ⟨fun _ _ => ?_, ?_⟩; (focus (with_reducible rfl)); go_big_quiet_on))))
      refine wpQuiet_nil ?_
      intro W2 hW2
      go_wp2
      go_roundg (xs.length - (k + 1))
      case measure => omega
      case rel => exact ⟨k + 1, by omega, rfl, by go_num, Bel.then hb hW2⟩
    · go_wp2
      go_ret
      exact ⟨rfl, hb⟩
end Go.Proofs.Ytomcffionomidaa
