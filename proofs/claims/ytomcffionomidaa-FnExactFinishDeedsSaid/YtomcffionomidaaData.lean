/- The data of chapter 7 as Lean has it, and their cells. -/
import Derived.Test.YtomcffionomidaaBase
import Derived.Test.YtomcffionomidaaProg
namespace Go.Proofs.Ytomcffionomidaa
open Go.RowKit

structure Bat where
  name : ByteArray
  d : List Int

structure Tsk where
  b : Int
  j : Int
  n : Int
  deriving DecidableEq

def cB (b : Bat) : Array Value := (Value.string b.name :: b.d.map (Value.int .i64)).toArray
def cT (t : Tsk) : Array Value := #[.int .i64 t.b, .int .i64 t.j, .int .i64 t.n]

theorem cB_size (b : Bat) (h : b.d.length = 8) : (cB b).size = 9 := by simp [cB, h]
theorem cB_zero (b : Bat) : (cB b)[0]? = some (.string b.name) := by simp [cB]
theorem cB_succ (b : Bat) (j : Nat) (hj : j < b.d.length) : (cB b)[j + 1]? = some (.int .i64 b.d[j]) := by simp [cB, hj]

theorem cB_one (b : Bat) : (cB b).all (·.oneCell') = true := by simp [cB, Value.oneCell']

theorem in_any (n lo hi : Int) (w : World) :
    Calls Try.prog 58 #[.int .i64 n, .int .i64 lo, .int .i64 hi] w fun e w' => e = .returned (.bool (decide (lo ≤ n) && decide (n ≤ hi))) ∧ w = w' := by
  go_enter Try.func58, Try.ntmps58
  go_wp2
  all_goals go_ret
  all_goals (refine ⟨?_, rfl⟩; congr 2; first | rfl | (simp; omega))

theorem inRange_any (n lo hi : Int) (w : World) :
    Calls Try.prog 59 #[.int .i64 n, .int .i64 lo, .int .i64 hi] w fun e w' => e = .returned (.bool (decide (lo ≤ n) && decide (n ≤ hi))) ∧ w = w' := by
  go_enter Try.func59, Try.ntmps59
  go_wp2
  all_goals go_ret
  all_goals (refine ⟨?_, rfl⟩; congr 2; first | rfl | (simp; omega))

/-- What is left when 'n' more have been counted. -/
def szR (left n : Int) : Int := if left < n then -1 else left - n

theorem szBatch_any (b : Bat) (left : Int) (hs : b.name.size ≤ 9223372036854775807) (hl : left ≤ 1048576) (hl0 : 0 ≤ left) (w : World) :
    Calls Try.prog 82 #[.agg (cB b), .int .i64 left] w fun e w' => e = .returned (.int .i64 (szR left b.name.size)) ∧ Below w.heap.size w w' := by
  have h0 := cB_zero b
  go_enter Try.func82, Try.ntmps82
  go_wp2
  all_goals go_ret
  · refine ⟨?_, (Below.refl _ _).alloc (Nat.le_refl _) _⟩
    rw [szR, if_pos (by omega)]; rfl
  · refine ⟨?_, (Below.refl _ _).alloc (Nat.le_refl _) _⟩
    rw [szR, if_neg (by omega)]; rfl

theorem eqTask_same (t : Tsk) (w : World) :
    Calls Try.prog 48 #[.agg (cT t), .agg (cT t)] w fun e w' => e = .returned (.bool true) ∧ Below w.heap.size w w' := by
  unfold cT
  go_enter Try.func48, Try.ntmps48
  go_wp2
  go_ret
  exact ⟨rfl, ((Below.refl _ _).alloc (Nat.le_refl _) _).alloc (by simp) _⟩

def SzPost (bs : List Bat) (w : World) (e : Ending) (w' : World) : Prop :=
  ∃ r : Int, e = .returned (.int .i64 r) ∧ (0 ≤ r → bs.length ≤ 1048576 ∧ ∀ b ∈ bs, b.name.size ≤ 1048576) ∧ Below w.heap.size w w'

def SzRel (bs : List Bat) (w : World) (g : Nat) (l i : Value) (wr : World) : Prop :=
  ∃ (k : Nat) (r : Int), k ≤ bs.length ∧ g = bs.length - k ∧ i = .int .i64 k ∧ l = .int .i64 r ∧ 0 ≤ r ∧ r ≤ 1048576 ∧ (∀ j (h : j < bs.length), j < k → bs[j].name.size ≤ 1048576) ∧ Below w.heap.size w wr

set_option maxRecDepth 100000 in
theorem szBatchS_any (A : Option Addr) (c : Nat) (bs : List Bat) (w : World) (hA : SlAt w 9 A (bs.map cB)) (hs : ∀ b ∈ bs, b.name.size ≤ 9223372036854775807) (hn : bs.length ≤ 9223372036854775807) :
    Calls Try.prog 42 #[.slice A bs.length c, .int .i64 1048576] w (SzPost bs w) := by
  go_enter Try.func42, Try.ntmps42
  by_cases h0 : (1048576 : Int) - bs.length < 0
  · go_wp2
    go_ret
    exact ⟨-1, rfl, fun h => by omega, Below.refl _ _⟩
  go_wp2
  go_loopg [1, 5] bs.length (SzRel bs w)
  case atStart => exact ⟨0, 1048576 - bs.length, by omega, by omega, by go_num, by go_num, by omega, by omega, fun j h hj => by omega, Below.refl _ _⟩
  case round =>
    obtain ⟨k, r, hk, rfl, rfl, rfl, hr0, hr1, hj, hb⟩ := hrel
    by_cases hlt : k < bs.length
    · obtain ⟨ga, oa, rfl, hg, -, hl⟩ := (hA.below hb).elem (P := Try.prog) (k := k) (by simpa using hlt) 126 Try.underlying126 rfl (by kernel_rfl)
      have hl1 := hl wr (Below.refl _ _)
      clear hl
      have hsk := hs bs[k] (List.getElem_mem hlt)
      simp only [List.getElem_map] at hl1
      go_wp2_with (first | ((with_reducible refine wpList_load_at (ty := 126) ?_); refine ⟨_, hl1, ?_⟩) | (go_at_call 82; refine (szBatch_any bs[k] _ hsk (by omega) (by omega) _).mono ?_; rintro e w1 ⟨rfl, hb1⟩))
      · go_ret
        exact ⟨-1, rfl, fun h => by omega, Bel.then hb hb1⟩
      · have hz : szR r bs[k].name.size = r - bs[k].name.size ∧ bs[k].name.size ≤ r := by
          rename_i h; revert h; unfold szR; split <;> omega
        go_roundg (bs.length - (k + 1))
        case measure => omega
        case rel => exact ⟨k + 1, _, by omega, rfl, by go_num, rfl, by omega, by omega, fun j h hjk => by
            by_cases e : j = k
            · subst e; omega
            · exact hj j h (by omega), Bel.then hb hb1⟩
    · go_wp2
      go_ret
      exact ⟨r, rfl, fun _ => ⟨by omega, fun b hb => by obtain ⟨j, hj', rfl⟩ := List.getElem_of_mem hb; exact hj j hj' (by omega)⟩, hb⟩
end Go.Proofs.Ytomcffionomidaa
