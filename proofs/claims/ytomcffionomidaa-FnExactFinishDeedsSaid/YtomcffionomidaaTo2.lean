/- The slices of the laws' arguments are copied. -/
import Derived.Test.YtomcffionomidaaTo
namespace Go.Proofs.Ytomcffionomidaa
open Go.RowKit

theorem Try.infoBatch : (Try.prog.info? 72).map (fun i => (i.zero, i.size, i.bytes)) = some (some (.agg #[.string ⟨#[]⟩, .int .i64 0, .int .i64 0, .int .i64 0, .int .i64 0, .int .i64 0, .int .i64 0, .int .i64 0, .int .i64 0]), 9, 80) := by kernel_rfl

set_option maxRecDepth 100000 in
theorem toBatchS_any (A : Option Addr) (c : Nat) (bs : List Bat) (w : World) (hA : SlAt w 9 A (bs.map cB)) (hn : bs.length ≤ 1048576) (h8 : ∀ b ∈ bs, b.d.length = 8) :
    Calls Try.prog 45 #[.slice A bs.length c] w fun e w' => ∃ A', e = .returned (.slice A' bs.length bs.length) ∧ OwnSl w' w.heap.size 9 A' (bs.map cB) ∧ Below w.heap.size w w' := by
  obtain ⟨i0, hi, hz0, hz1, hz2⟩ := info_parts Try.infoBatch
  have hall : ∀ x ∈ bs.map cB, x.size = 9 := fun x hx => by
    obtain ⟨b, hb, rfl⟩ := List.mem_map.1 hx; exact cB_size b (h8 b hb)
  go_enter Try.func45, Try.ntmps45
  have hmk := run_make (P := Try.prog) w 29 72 i0 _ Try.underlying29 hi hz0 .i64 .i64 bs.length bs.length (by omega) (Int.le_refl _) (by rw [hz2]; omega) (by omega)
  go_wp2
  clear hmk
  go_loopg [4] bs.length (fun g i wr => ∃ k : Nat, k ≤ bs.length ∧ g = bs.length - k ∧ i = .int .i64 k ∧ Fill wr w.heap.size 9 bs.length (bs.map cB) k ∧ Below w.heap.size w wr)
  case atStart => exact ⟨0, by omega, by omega, by go_num, Fill.start _ _ _ _ _ _, (Below.refl _ _).alloc (Nat.le_refl _) _⟩
  case round =>
    obtain ⟨k, hk, rfl, rfl, hF, hb⟩ := hrel
    by_cases hlt : k < bs.length
    · obtain ⟨ga, oa, rfl, -, -, hl⟩ := (hA.below hb).elem (P := Try.prog) (k := k) (by simpa using hlt) 126 Try.underlying126 rfl (by kernel_rfl)
      have hl1 := hl wr (Below.refl _ _)
      simp only [List.getElem_map] at hl1
      clear hl
      have h8k := h8 bs[k] (List.getElem_mem hlt)
      go_wp2_with (first | ((with_reducible refine wpList_load_at (ty := 126) ?_); refine ⟨_, hl1, ?_⟩) | (go_at_call 86; refine (toBatch_any bs[k] h8k _).mono ?_; rintro e w1 ⟨rfl, hb1⟩; obtain ⟨hst, hF1⟩ := (hF.below hb1).step hall (by simp) (by simpa using hlt) (P := Try.prog) 72 (by kernel_rfl) (by simpa using cB_one _); simp only [List.getElem_map] at hst hF1) | ((with_reducible refine wpList_store_at (ty := 72) ?_); refine ⟨_, hst, ?_⟩))
      go_roundg (bs.length - (k + 1))
      case measure => omega
      case rel => exact ⟨k + 1, by omega, rfl, by go_num, hF1, Below.setCells' (Nat.le_refl _) _ _ _ (Bel.then hb hb1)⟩
    · go_wp2
      go_ret
      obtain rfl : k = bs.length := by omega
      exact ⟨_, rfl, hF.own hall (by simp) (Nat.le_refl _), hb⟩
end Go.Proofs.Ytomcffionomidaa
