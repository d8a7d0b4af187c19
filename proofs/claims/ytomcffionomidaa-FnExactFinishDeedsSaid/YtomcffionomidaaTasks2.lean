/- The program's list of tasks. -/
import Derived.Test.YtomcffionomidaaTasks
import Derived.Test.YtomcffionomidaaOk6
namespace Go.Proofs.Ytomcffionomidaa
open Go.RowKit

set_option maxRecDepth 100000 in
set_option maxHeartbeats 1000000 in
theorem tasks_any (r : Int) (A : Option Addr) (c : Nat) (bs : List Bat) (w : World) (hA : SlAt w 9 A (bs.map cB)) (hn : bs.length ≤ 6) (h8 : ∀ b ∈ bs, b.d.length = 8) :
    Calls Try.prog 47 #[.agg #[.int .i64 r, .slice A bs.length c]] w fun e w' => ∃ v, e = .returned v ∧ Row w' w.heap.size 74 3 v ((tasksOf bs).map cT) ∧ Below w.heap.size w w' := by
  have hbox : Below w.heap.size w (w.alloc (.cells #[.int .i64 r, .slice A bs.length c] 31)) := (Below.refl _ _).alloc (Nat.le_refl _) _
  go_enter Try.func47, Try.ntmps47
  go_wp2
  go_loopg [3, 12] bs.length (LtRel w bs)
  case atStart => exact ⟨0, by omega, by omega, by go_num, by have := Row.empty (w.alloc (.cells #[.int .i64 r, .slice A bs.length c] 31)) (base := w.heap.size) (by simp) 74 3; simpa [tasksTo_zero] using this, hbox.alloc hbox.size _⟩
  case round =>
    obtain ⟨k, hk, rfl, rfl, hR, hb⟩ := hrel
    by_cases hlt : k < bs.length
    · have h8k := h8 _ (List.getElem_mem hlt)
      obtain ⟨ga, oa, rfl, -, -, hl⟩ := (hA.below hb).elem (P := Try.prog) (k := k) (by simpa using hlt) 72 Try.underlying72 rfl (by kernel_rfl)
      have hl1 := hl wr (Below.refl _ _)
      simp only [List.getElem_map] at hl1
      clear hl
      obtain ⟨-, hx1⟩ := boxed (w := wr) bs[k] h8k
      have hst := run_storeAt_new (P := Try.prog) wr 72 #[.string ⟨#[]⟩, .int .i64 0, .int .i64 0, .int .i64 0, .int .i64 0, .int .i64 0, .int .i64 0, .int .i64 0, .int .i64 0] (cB bs[k]) (by rw [cB_size _ h8k]; kernel_rfl) (by rw [cB_size _ h8k]; rfl) (cB_one _)
      have hx1' := hx1 _ (Below.refl _ _)
      have hR0 := (hR.setOff (ys := (tasksTo bs k ++ tasksOfBat k (dropsAt bs k) 0).map cT) (by simp [tasksOfBat_zero])).alloc (.cells (cB bs[k]) 72)
      have hb0 := hb.alloc hb.size (.cells (cB bs[k]) 72)
      clear hx1 hR hb
      go_wp2_with (first | ((with_reducible refine wpList_load_at (ty := 72) ?_); refine ⟨_, hl1, ?_⟩) | ((with_reducible refine wpList_store_at (ty := 72) ?_); refine ⟨_, hst, ?_⟩) | ((with_reducible refine wpList_load_at (ty := 47) ?_); refine ⟨_, hx1', ?_⟩))
      clear hl1 hst hx1'
      go_loopg [3, 19] 8 (LtRel2 w bs k)
      case atStart => exact ⟨0, by omega, by omega, by go_num, hR0, hb0⟩
      case round =>
        obtain ⟨t, ht, rfl, rfl, hR, hb⟩ := hrel
        clear hR0 hb0
        by_cases hlt2 : t < 8
        · have hct := run_index_one (P := Try.prog) (t := 47) Try.underlying47 Try.underlying2 rfl (by kernel_rfl) hlt2 (cV_at bs[k].d t (by omega)) .i64
          have hlen : (tasksTo bs k ++ tasksOfBat k (dropsAt bs k) t).length ≤ 100 := by
            have := tasksTo_len bs k; have := tasksOfBat_len k (dropsAt bs k) t; simp; omega
          by_cases hpos : 0 < bs[k].d[t]
          · obtain ⟨v', w1, hap, hR1, -, hb1⟩ := hR.push (P := Try.prog) 26 26 Try.underlying26 Try.infoTask rfl (by omega) #[.int .i64 k, .int .i64 t, .int .i64 bs[k].d[t]] rfl (by simp [Value.oneCell']) (by rw [List.length_map]; omega) (by omega) hb.size
            have hR2 := hR1.setOff (ys := (tasksTo bs k ++ tasksOfBat k (dropsAt bs k) (t + 1)).map cT) (by
              rw [tasksOfBat_succ, dropsAt_eq hlt, taskOf_yes (by omega) hpos]; simp [cT])
            clear hR1 hR
            go_wp2_with ((with_reducible refine wpList_app_at (t := 26) ?_); refine ⟨_, _, hap, ?_⟩)
            go_roundg (8 - (t + 1))
            case measure => omega
            case rel => exact ⟨t + 1, by omega, rfl, by go_num, hR2, hb.trans hb1⟩
          · have hR2 := hR.setOff (ys := (tasksTo bs k ++ tasksOfBat k (dropsAt bs k) (t + 1)).map cT) (by
              rw [tasksOfBat_succ, dropsAt_eq hlt, taskOf_no (by omega) hpos, List.append_nil])
            go_wp2
            go_roundg (8 - (t + 1))
            case measure => omega
            case rel => exact ⟨t + 1, by omega, rfl, by go_num, hR2, hb⟩
        · obtain rfl : t = 8 := by omega
          go_wp2
          go_roundg (bs.length - (k + 1))
          case measure => omega
          case rel => exact ⟨k + 1, by omega, rfl, by go_num, hR.setOff (by rw [tasksTo_succ]), hb⟩
    · obtain rfl : k = bs.length := by omega
      go_wp2
      go_ret
      exact ⟨_, rfl, hR, hb⟩
end Go.Proofs.Ytomcffionomidaa
