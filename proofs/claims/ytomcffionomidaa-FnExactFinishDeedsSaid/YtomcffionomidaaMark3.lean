/- Marks, and what they leave as it was. -/
import Derived.Test.YtomcffionomidaaMark2
import Derived.Test.YtomcffionomidaaIn
namespace Go.Proofs.Ytomcffionomidaa
open Go.RowKit

theorem Only.kept {w w' : World} {g lo hi : Nat} (h : Only w g w') (h1 : lo ≤ g) (h2 : g < hi) : Kept lo hi w w' :=
  ⟨h.os, h.tape, h.output, h.size, fun k hk ho => h.block k hk (fun e => by injection e; omega)⟩

set_option maxRecDepth 100000 in
theorem markBatchS_in (lo hi : Nat) (A : Option Addr) (c : Nat) (xs : List (Array Value)) (w : World) (hn : xs.length ≤ 1048576) (hA : OwnIn w lo hi 9 A xs) :
    Calls Try.prog 50 #[.slice A xs.length c, .int .i64 1] w fun e w' => e = .returned (.int .i64 (1 + 9 * xs.length)) ∧ Kept lo hi w w' := by
  by_cases h0 : 0 < xs.length
  · obtain ⟨g, rfl, h1, h2, h3, _, ht⟩ := hA.2 h0
    exact (markBatchS_any g xs.length c w hn h3 ht).mono fun e w' ⟨he, ho⟩ => ⟨he, ho.kept h1 h2⟩
  · obtain rfl : xs = [] := List.eq_nil_of_length_eq_zero (by omega)
    clear hn hA h0
    simp only [List.length_nil]
    go_enter Try.func50, Try.ntmps50
    go_wp2
    refine wp_loop_rounds 1 ?_
    rw [rounds_succ]
    go_wp2
    go_ret
    exact ⟨rfl, Kept.refl _ _ _⟩

set_option maxRecDepth 100000 in
theorem markWorks_in (r : Int) (lo hi : Nat) (A : Option Addr) (c : Nat) (xs : List (Array Value)) (w : World) (hn : xs.length ≤ 1048576) (hA : OwnIn w lo hi 9 A xs) (hhi : hi ≤ w.heap.size) :
    Calls Try.prog 16 #[.agg #[.int .i64 r, .slice A xs.length c], .int .i64 1] w fun e w' => e = .returned (.int .i64 (1 + 9 * xs.length)) ∧ Kept lo hi w w' := by
  have hbel : ∀ o, Below w.heap.size w (w.alloc o) := fun o => (Below.refl _ _).alloc (Nat.le_refl _) _
  go_enter Try.func16, Try.ntmps16
  go_wp2_with (go_at_call 50; refine (markBatchS_in lo hi _ _ _ _ hn (hA.below (hbel _) hhi)).mono ?_; rintro e w1 ⟨rfl, hb1⟩)
  go_ret
  exact ⟨rfl, Kept.after (hbel _) hb1⟩
end Go.Proofs.Ytomcffionomidaa
