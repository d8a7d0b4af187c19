/- Comparing works: what is the same is told so. -/
import Derived.Test.YtomcffionomidaaTo2
namespace Go.Proofs.Ytomcffionomidaa
open Go.RowKit

set_option maxRecDepth 100000 in
set_option maxHeartbeats 1000000 in
theorem eqVat8 (d0 d1 d2 d3 d4 d5 d6 d7 : Int) (w : World) :
    Calls Try.prog 26 #[.agg #[.int .i64 d0, .int .i64 d1, .int .i64 d2, .int .i64 d3, .int .i64 d4, .int .i64 d5, .int .i64 d6, .int .i64 d7], .agg #[.int .i64 d0, .int .i64 d1, .int .i64 d2, .int .i64 d3, .int .i64 d4, .int .i64 d5, .int .i64 d6, .int .i64 d7]] w fun e w' =>
      e = .returned (.bool true) ∧ Below w.heap.size w w' := by
  go_enter Try.func26, Try.ntmps26
  go_wp2
  refine wp_loop_rounds 9 ?_
  repeat (rw [rounds_succ]; go_wp2; try (go_quiet (fail); go_wp2))
  go_ret
  refine ⟨rfl, ?_⟩
  (repeat (first | (with_reducible exact Below.refl _ _) | (with_reducible assumption) | ((with_reducible refine Below.setCell ?_ ?_ _); rotate_left; focus (first | (with_reducible exact Nat.le_refl _) | omega | (simp; done) | (simp; omega) | (simp at *; omega))) | ((with_reducible refine Below.alloc ?_ ?_ _); rotate_left; focus (first | (with_reducible exact Nat.le_refl _) | omega | (simp; done) | (simp; omega) | (simp at *; omega))) | (with_reducible refine Below.drew ?_) | (with_reducible refine below_drewN ?_ _)))

set_option maxRecDepth 100000 in
theorem eqBatch_same (b : Bat) (h : b.d.length = 8) (w : World) :
    Calls Try.prog 90 #[.agg (cB b), .agg (cB b)] w fun e w' => e = .returned (.bool true) ∧ Below w.heap.size w w' := by
  obtain ⟨s, d⟩ := b
  obtain ⟨d0, d1, d2, d3, d4, d5, d6, d7, rfl⟩ := eight d h
  clear h
  simp only [cB, List.map_cons, List.map_nil]
  go_enter Try.func90, Try.ntmps90
  go_wp2_with (go_at_call 26; refine (eqVat8 _ _ _ _ _ _ _ _ _).mono ?_; rintro e w1 ⟨rfl, hb⟩)
  go_ret
  refine ⟨rfl, ?_⟩
  (repeat (first | (with_reducible exact Below.refl _ _) | (with_reducible assumption) | ((with_reducible refine Below.setCell ?_ ?_ _); rotate_left; focus (first | (with_reducible exact Nat.le_refl _) | omega | (simp; done) | (simp; omega) | (simp at *; omega))) | ((with_reducible refine Below.alloc ?_ ?_ _); rotate_left; focus (first | (with_reducible exact Nat.le_refl _) | omega | (simp; done) | (simp; omega) | (simp at *; omega))) | (with_reducible refine Below.drew ?_) | (with_reducible refine below_drewN ?_ _) | ((with_reducible refine Below.trans ?_ (Below.mono hb ?_)); rotate_left; focus (first | (with_reducible exact Nat.le_refl _) | omega | (simp; done) | (simp; omega) | (simp at *; omega)))))

set_option maxRecDepth 100000 in
theorem eqBatchS_same (A B : Option Addr) (cA cB' : Nat) (xs : List Bat) (w : World) (hA : SlAt w 9 A (xs.map cB)) (hB : SlAt w 9 B (xs.map cB)) (h8 : ∀ b ∈ xs, b.d.length = 8) (hn : xs.length ≤ 140737488355328) :
    Calls Try.prog 49 #[.slice A xs.length cA, .slice B xs.length cB'] w fun e w' => e = .returned (.bool true) ∧ Below w.heap.size w w' := by
  go_enter Try.func49, Try.ntmps49
  go_wp2
  go_loopg [5] xs.length (fun g i wr => ∃ k : Nat, k ≤ xs.length ∧ g = xs.length - k ∧ i = .int .i64 k ∧ Below w.heap.size w wr)
  case atStart => exact ⟨0, by omega, by omega, by go_num, Below.refl _ _⟩
  case round =>
    obtain ⟨k, hk, rfl, rfl, hb⟩ := hrel
    by_cases hlt : k < xs.length
    · obtain ⟨ga, oa, rfl, -, -, hla⟩ := (hA.below hb).elem (P := Try.prog) (k := k) (by simpa using hlt) 72 Try.underlying72 rfl (by kernel_rfl)
      obtain ⟨gb, ob, rfl, -, -, hlb⟩ := (hB.below hb).elem (P := Try.prog) (k := k) (by simpa using hlt) 72 Try.underlying72 rfl (by kernel_rfl)
      simp only [List.getElem_map] at hla hlb
      have h8k := h8 xs[k] (List.getElem_mem hlt)
      go_wp2
      refine wp_region_below (by kernel_rfl) (by kernel_rfl) ?_
      repeat (first | go_big_quiet_skip | (go_big_quiet_want; first | (refine quiet_load_run 72 _ rfl _ hla ?_; go_simp; go_big_quiet_on) | (refine quiet_load_run 72 _ rfl _ hlb ?_; go_simp; go_big_quiet_on) | (go_big_quiet_op; first | go_big_quiet_on | (apply Exists.intro; refine ⟨fun W hW => ?_, ?_⟩; (focus (go_at_call 90; refine (eqBatch_same _ h8k _).mono ?_; rintro e w1 ⟨rfl, h1⟩; exact ⟨rfl, Bel.then hW h1⟩)); go_big_quiet_on) | (apply Exists.intro; refine ⟨fun _ _ => ?_, ?_⟩; (focus (with_reducible rfl)); go_big_quiet_on))))
      refine wpQuiet_nil ?_
      intro W2 hW2
      go_wp2
      go_roundg (xs.length - (k + 1))
      case measure => omega
      case rel => exact ⟨k + 1, by omega, rfl, by go_num, Bel.then hb hW2⟩
    · go_wp2
      go_ret
      exact ⟨rfl, hb⟩

set_option maxRecDepth 100000 in
theorem eqWorks_same (r : Int) (A B : Option Addr) (cA cB' : Nat) (xs : List Bat) (w : World) (hA : SlAt w 9 A (xs.map cB)) (hB : SlAt w 9 B (xs.map cB)) (h8 : ∀ b ∈ xs, b.d.length = 8) (hn : xs.length ≤ 140737488355328) :
    Calls Try.prog 15 #[.agg #[.int .i64 r, .slice A xs.length cA], .agg #[.int .i64 r, .slice B xs.length cB']] w fun e w' => e = .returned (.bool true) ∧ Below w.heap.size w w' := by
  go_enter Try.func15, Try.ntmps15
  have hbel : ∀ o o', Below w.heap.size w ((w.alloc o).alloc o') := fun o o' => ((Below.refl _ _).alloc (Nat.le_refl _) _).alloc (by simp) _
  go_wp2_with (go_at_call 49; refine (eqBatchS_same _ _ _ _ _ _ (hA.below (hbel _ _)) (hB.below (hbel _ _)) h8 hn).mono ?_; rintro e w1 ⟨rfl, hb⟩)
  go_ret
  exact ⟨rfl, (hbel _ _).trans (hb.mono (by simp; omega))⟩

set_option maxRecDepth 100000 in
theorem toWorks_any (r : Int) (A : Option Addr) (c : Nat) (bs : List Bat) (w : World) (hA : SlAt w 9 A (bs.map cB)) (hn : bs.length ≤ 1048576) (h8 : ∀ b ∈ bs, b.d.length = 8) :
    Calls Try.prog 12 #[.agg #[.int .i64 r, .slice A bs.length c]] w fun e w' => ∃ A', e = .returned (.agg #[.int .i64 r, .slice A' bs.length bs.length]) ∧ OwnSl w' w.heap.size 9 A' (bs.map cB) ∧ Below w.heap.size w w' := by
  have hbel : ∀ o o' o'', Below w.heap.size w (((w.alloc o).alloc o').alloc o'') := fun o o' o'' => (((Below.refl _ _).alloc (Nat.le_refl _) _).alloc (by simp) _).alloc (by simp; omega) _
  go_enter Try.func12, Try.ntmps12
  go_wp2_with (go_at_call 45; refine (toBatchS_any _ _ _ _ (hA.below (hbel _ _ _)) hn h8).mono ?_; rintro e w1 ⟨A', rfl, hO, hb⟩; obtain ⟨hc, hf⟩ := bcell hb; have hz := hb.size; simp at hz)
  refine bodyPost_ret (v := .agg #[.int .i64 r, .slice A' bs.length bs.length]) (by simp [results, Try.results12, go_sem, hc]) rfl ⟨A', rfl, ?_, ?_⟩
  · exact (((hO.setCell (by simp) _).setCell (by simp) _).setCell (by simp) _).mono (by simp; omega)
  · (repeat (first | (with_reducible exact Below.refl _ _) | (with_reducible assumption) | ((with_reducible refine Below.setCell ?_ ?_ _); rotate_left; focus (first | (with_reducible exact Nat.le_refl _) | omega | (simp; done) | (simp; omega) | (simp at *; omega))) | ((with_reducible refine Below.alloc ?_ ?_ _); rotate_left; focus (first | (with_reducible exact Nat.le_refl _) | omega | (simp; done) | (simp; omega) | (simp at *; omega))) | (with_reducible refine Below.drew ?_) | (with_reducible refine below_drewN ?_ _) | ((with_reducible refine Below.trans ?_ (Below.mono hb ?_)); rotate_left; focus (first | (with_reducible exact Nat.le_refl _) | omega | (simp; done) | (simp; omega) | (simp at *; omega)))))
end Go.Proofs.Ytomcffionomidaa
