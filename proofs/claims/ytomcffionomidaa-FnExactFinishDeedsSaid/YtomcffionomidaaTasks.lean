/- The reference's list of tasks. -/
import Derived.Test.YtomcffionomidaaTasksDef
import Derived.Test.YtomcffionomidaaOk4
import Derived.Test.YtomcffionomidaaRow
namespace Go.Proofs.Ytomcffionomidaa
open Go.RowKit

theorem Try.infoTask : (Try.prog.info? 74).map (fun i => (i.zero, i.size, i.bytes)) = some (some (.agg #[.int .i64 0, .int .i64 0, .int .i64 0]), 3, 24) := by kernel_rfl

/-- The tasks so far lie in a row of the call's own. -/
def LtRel (w : World) (bs : List Bat) (G : Nat) (out i : Value) (wr : World) : Prop :=
  ∃ k : Nat, k ≤ bs.length ∧ G = bs.length - k ∧ i = .int .i64 k ∧ Row wr w.heap.size 74 3 out ((tasksTo bs k).map cT) ∧ Below w.heap.size w wr
def LtRel2 (w : World) (bs : List Bat) (k : Nat) (G : Nat) (out j : Value) (wr : World) : Prop :=
  ∃ t : Nat, t ≤ 8 ∧ G = 8 - t ∧ j = .int .i64 t ∧ Row wr w.heap.size 74 3 out ((tasksTo bs k ++ tasksOfBat k (dropsAt bs k) t).map cT) ∧ Below w.heap.size w wr

theorem taskOf_yes {i : Nat} {d : List Int} {j : Nat} (hj : j < d.length) (h : 0 < d[j]) : taskOf i d j = [⟨i, j, d[j]⟩] := by
  have : d.getD j 0 = d[j] := by simp [hj]
  simp only [taskOf, this]; rw [if_pos h]
theorem taskOf_no {i : Nat} {d : List Int} {j : Nat} (hj : j < d.length) (h : ¬ 0 < d[j]) : taskOf i d j = [] := by
  have : d.getD j 0 = d[j] := by simp [hj]
  simp only [taskOf, this]; rw [if_neg h]

theorem Row.setOff {w : World} {base : Nat} {e : TypeId} {sz : Nat} {v : Value} {xs ys : List (Array Value)} (h : Row w base e sz v xs) (e' : xs = ys) : Row w base e sz v ys := e' ▸ h

set_option maxRecDepth 100000 in
set_option maxHeartbeats 1000000 in
theorem l07Tasks_any (p : Nat) (A : Option Addr) (c : Nat) (bs : List Bat) (w : World) (hp : p < w.heap.size) (h1 : w.cell? ⟨p, 1, none⟩ = some (.slice A bs.length c))
    (hA : SlAt w 9 A (bs.map cB)) (hn : bs.length ≤ 6) (h8 : ∀ b ∈ bs, b.d.length = 8) :
    Calls Try.prog 44 #[.pointer (some ⟨p, 0, none⟩)] w fun e w' => ∃ v, e = .returned v ∧ Row w' w.heap.size 74 3 v ((tasksOf bs).map cT) ∧ Below w.heap.size w w' := by
  go_enter Try.func44, Try.ntmps44
  go_wp2
  go_loopg [3, 4] bs.length (LtRel w bs)
  case atStart => exact ⟨0, by omega, by omega, by go_num, Row.empty w (Nat.le_refl _) _ _, (Below.refl _ _).alloc (Nat.le_refl _) _⟩
  case round =>
    obtain ⟨k, hk, rfl, rfl, hR, hb⟩ := hrel
    have c1 : wr.cell? ⟨p, 1, none⟩ = some (.slice A bs.length c) := (hb.cell (p := ⟨p, 1, none⟩) hp).trans h1
    by_cases hlt : k < bs.length
    · go_wp2
      have hR0 := hR.setOff (ys := (tasksTo bs k ++ tasksOfBat k (dropsAt bs k) 0).map cT) (by simp [tasksOfBat_zero])
      obtain ⟨hb0, hbz⟩ : ∃ hb' : Below w.heap.size w wr, True := ⟨hb, trivial⟩
      clear c1 hR hb hbz
      go_loopg [3, 5] 8 (LtRel2 w bs k)
      case atStart => exact ⟨0, by omega, by omega, by go_num, hR0, hb0⟩
      case round =>
        obtain ⟨t, ht, rfl, rfl, hR, hb⟩ := hrel
        clear hR0 hb0
        have c1 : wr.cell? ⟨p, 1, none⟩ = some (.slice A bs.length c) := (hb.cell (p := ⟨p, 1, none⟩) hp).trans h1
        by_cases hlt2 : t < 8
        · obtain ⟨ga, oa, rfl, -, -, -, hc⟩ := (hA.below hb).batch hlt
          have h8k := h8 _ (List.getElem_mem hlt)
          have hct := hc t (by omega)
          clear hc
          have hlen : (tasksTo bs k ++ tasksOfBat k (dropsAt bs k) t).length ≤ 100 := by
            have := tasksTo_len bs k; have := tasksOfBat_len k (dropsAt bs k) t; simp; omega
          by_cases hpos : 0 < bs[k].d[t]
          · obtain ⟨v', w1, hap, hR1, -, hb1⟩ := hR.push (P := Try.prog) 26 26 Try.underlying26 Try.infoTask rfl (by omega) #[.int .i64 k, .int .i64 t, .int .i64 bs[k].d[t]] rfl (by simp [Value.oneCell']) (by rw [List.length_map]; omega) (by omega) hb.size
            have hR2 := hR1.setOff (ys := (tasksTo bs k ++ tasksOfBat k (dropsAt bs k) (t + 1)).map cT) (by
              rw [tasksOfBat_succ, dropsAt_eq hlt, taskOf_yes (by omega) hpos]; simp [cT])
            clear hR1 hR
            go_wp2_with ((with_reducible refine wpList_app_at (t := 26) ?_); refine ⟨_, _, hap, ?_⟩)
            go_roundg (8 - (t + 1))
            case measure => omega
            case rel => exact ⟨t + 1, by omega, rfl, by go_num, hR2, hb.trans hb1⟩
          · have hR2 := hR.setOff (ys := (tasksTo bs k ++ tasksOfBat k (dropsAt bs k) (t + 1)).map cT) (by
              rw [tasksOfBat_succ, dropsAt_eq hlt, taskOf_no (by omega) hpos, List.append_nil])
            go_wp2
            go_roundg (8 - (t + 1))
            case measure => omega
            case rel => exact ⟨t + 1, by omega, rfl, by go_num, hR2, hb⟩
        · obtain rfl : t = 8 := by omega
          go_wp2
          go_roundg (bs.length - (k + 1))
          case measure => omega
          case rel => exact ⟨k + 1, by omega, rfl, by go_num, hR.setOff (by rw [tasksTo_succ]), hb⟩
    · obtain rfl : k = bs.length := by omega
      go_wp2
      go_ret
      exact ⟨_, rfl, hR, hb⟩
end Go.Proofs.Ytomcffionomidaa
