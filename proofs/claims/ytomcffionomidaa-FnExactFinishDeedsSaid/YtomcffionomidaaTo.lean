/- The laws' arguments are copied into the program's types. -/
import Derived.Test.YtomcffionomidaaData
namespace Go.Proofs.Ytomcffionomidaa
open Go.RowKit

set_option maxRecDepth 100000 in
set_option maxHeartbeats 1000000 in
theorem toVat8 (d0 d1 d2 d3 d4 d5 d6 d7 : Int) (w : World) :
    Calls Try.prog 111 #[.agg #[.int .i64 d0, .int .i64 d1, .int .i64 d2, .int .i64 d3, .int .i64 d4, .int .i64 d5, .int .i64 d6, .int .i64 d7]] w fun e w' =>
      e = .returned (.agg #[.int .i64 d0, .int .i64 d1, .int .i64 d2, .int .i64 d3, .int .i64 d4, .int .i64 d5, .int .i64 d6, .int .i64 d7]) ∧ Below w.heap.size w w' := by
  go_enter Try.func111, Try.ntmps111
  go_wp2
  refine wp_loop_rounds 9 ?_
  repeat (rw [rounds_succ]; go_wp2)
  refine bodyPost_ret (v := .agg #[.int .i64 d0, .int .i64 d1, .int .i64 d2, .int .i64 d3, .int .i64 d4, .int .i64 d5, .int .i64 d6, .int .i64 d7]) (by simp [results, Try.results111, go_sem]) rfl ⟨rfl, ?_⟩
  exact (((Below.refl _ _).alloc (Nat.le_refl _) _).alloc (by simp) _).alloc (by simp; omega) _

def cV (d : List Int) : Array Value := (d.map (Value.int .i64)).toArray

theorem eight (d : List Int) (h : d.length = 8) : ∃ d0 d1 d2 d3 d4 d5 d6 d7, d = [d0, d1, d2, d3, d4, d5, d6, d7] := by
  match d, h with
  | [d0, d1, d2, d3, d4, d5, d6, d7], _ => exact ⟨d0, d1, d2, d3, d4, d5, d6, d7, rfl⟩

theorem toVat_any (d : List Int) (h : d.length = 8) (w : World) :
    Calls Try.prog 111 #[.agg (cV d)] w fun e w' => e = .returned (.agg (cV d)) ∧ Below w.heap.size w w' := by
  obtain ⟨d0, d1, d2, d3, d4, d5, d6, d7, rfl⟩ := eight d h
  exact toVat8 d0 d1 d2 d3 d4 d5 d6 d7 w

set_option maxRecDepth 100000 in
set_option maxHeartbeats 1000000 in
theorem toBatch_any (b : Bat) (h : b.d.length = 8) (w : World) :
    Calls Try.prog 86 #[.agg (cB b)] w fun e w' => e = .returned (.agg (cB b)) ∧ Below w.heap.size w w' := by
  obtain ⟨s, d⟩ := b
  obtain ⟨d0, d1, d2, d3, d4, d5, d6, d7, rfl⟩ := eight d h
  clear h
  simp only [cB, List.map_cons, List.map_nil]
  go_enter Try.func86, Try.ntmps86
  go_wp2_with (go_at_call 111; refine (toVat8 _ _ _ _ _ _ _ _ _).mono ?_; rintro e w1 ⟨rfl, hb⟩; obtain ⟨hc, hf⟩ := bcell hb; have hz := hb.size; simp at hz)
  refine bodyPost_ret (v := .agg #[.string s, .int .i64 d0, .int .i64 d1, .int .i64 d2, .int .i64 d3, .int .i64 d4, .int .i64 d5, .int .i64 d6, .int .i64 d7]) (by simp [results, Try.results86, go_sem, hc]) rfl ⟨rfl, ?_⟩
  (repeat (first | (with_reducible exact Below.refl _ _) | (with_reducible assumption) | ((with_reducible refine Below.setCell ?_ ?_ _); rotate_left; focus (first | (with_reducible exact Nat.le_refl _) | omega | (simp; done) | (simp; omega) | (simp at *; omega))) | ((with_reducible refine Below.alloc ?_ ?_ _); rotate_left; focus (first | (with_reducible exact Nat.le_refl _) | omega | (simp; done) | (simp; omega) | (simp at *; omega))) | (with_reducible refine Below.drew ?_) | (with_reducible refine below_drewN ?_ _) | ((with_reducible refine Below.trans ?_ (Below.mono hb ?_)); rotate_left; focus (first | (with_reducible exact Nat.le_refl _) | omega | (simp; done) | (simp; omega) | (simp at *; omega)))))

end Go.Proofs.Ytomcffionomidaa
