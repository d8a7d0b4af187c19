/- The tasks of works, in plain Lean. -/
import Derived.Test.YtomcffionomidaaOkDef
namespace Go.Proofs.Ytomcffionomidaa

/-- The task of a jar, if there are drops of it. -/
def taskOf (i : Nat) (d : List Int) (j : Nat) : List Tsk := if 0 < d.getD j 0 then [⟨i, j, d.getD j 0⟩] else []
def tasksOfBat (i : Nat) (d : List Int) (j : Nat) : List Tsk := (List.range j).flatMap (taskOf i d)
def dropsAt (bs : List Bat) (i : Nat) : List Int := match bs[i]? with | some b => b.d | none => []
def tasksTo (bs : List Bat) (k : Nat) : List Tsk := (List.range k).flatMap fun i => tasksOfBat i (dropsAt bs i) 8
def tasksOf (bs : List Bat) : List Tsk := tasksTo bs bs.length

theorem tasksOfBat_zero (i : Nat) (d : List Int) : tasksOfBat i d 0 = [] := rfl
theorem tasksOfBat_succ (i : Nat) (d : List Int) (j : Nat) : tasksOfBat i d (j + 1) = tasksOfBat i d j ++ taskOf i d j := by
  simp [tasksOfBat, List.range_succ]
theorem tasksTo_zero (bs : List Bat) : tasksTo bs 0 = [] := rfl
theorem tasksTo_succ (bs : List Bat) (k : Nat) : tasksTo bs (k + 1) = tasksTo bs k ++ tasksOfBat k (dropsAt bs k) 8 := by
  simp [tasksTo, List.range_succ]
theorem taskOf_len (i : Nat) (d : List Int) (j : Nat) : (taskOf i d j).length ≤ 1 := by unfold taskOf; split <;> simp
theorem tasksOfBat_len (i : Nat) (d : List Int) (j : Nat) : (tasksOfBat i d j).length ≤ j := by
  induction j with
  | zero => simp [tasksOfBat]
  | succ j ih => rw [tasksOfBat_succ, List.length_append]; have := taskOf_len i d j; omega
theorem tasksTo_len (bs : List Bat) (k : Nat) : (tasksTo bs k).length ≤ 8 * k := by
  induction k with
  | zero => simp [tasksTo]
  | succ k ih => rw [tasksTo_succ, List.length_append]; have := tasksOfBat_len k (dropsAt bs k) 8; omega
theorem dropsAt_eq {bs : List Bat} {i : Nat} (h : i < bs.length) : dropsAt bs i = bs[i].d := by simp [dropsAt, h]
end Go.Proofs.Ytomcffionomidaa
