/- 'FinishDeeds': the plan, in plain Lean; the reference's step. -/
import Derived.Test.YtomcffionomidaaVat2
import Derived.Test.YtomcffionomidaaRepeat
namespace Go.Proofs.Ytomcffionomidaa
open Go.RowKit
set_option linter.unusedSimpArgs false
set_option linter.unusedVariables false

/-- What the plan does for a task. -/
def finTask (known : List Bool) (t : Nat) : List Dd := if known.getD t false = true then [] else [⟨1, t⟩, ⟨2, 0⟩, ⟨2, 0⟩]
def finTo (known : List Bool) (k : Nat) : List Dd := (List.range k).flatMap (finTask known)
def plan (f : Fl) : List Dd := List.replicate f.wire.length ⟨4, 0⟩ ++ finTo f.known f.known.length ++ [⟨5, 0⟩]
theorem finTo_succ (known : List Bool) (k : Nat) : finTo known (k + 1) = finTo known k ++ finTask known k := by simp [finTo, List.range_succ]
theorem finTask_len (known : List Bool) (t : Nat) : (finTask known t).length ≤ 3 := by unfold finTask; split <;> simp
theorem finTo_len (known : List Bool) (k : Nat) : (finTo known k).length ≤ 3 * k := by
  induction k with
  | zero => simp [finTo]
  | succ k ih => rw [finTo_succ, List.length_append]; have := finTask_len known k; omega

def StepPost (w : World) (lo : Nat → Prop) (p : Nat) (pty : TypeId) (hd : List Value) (ts : List Tsk) (f : Fl) (base : Nat) (xs : List Dd) (e : Ending) (w' : World) : Prop :=
  ∃ A c, e = .returned (.slice A xs.length c) ∧ Row w' base 91 2 (.slice A xs.length c) (xs.map cD) ∧ ShopAt w' (foreignTo base (.slice A xs.length c)) p pty hd ts f ∧ Below base w w'

theorem Try.infoDeed2 : (Try.prog.info? 91).map (fun i => (i.zero, i.size, i.bytes)) = some (some (.agg #[.int .i64 0, .int .i64 0]), 2, 16) := by kernel_rfl

set_option maxRecDepth 100000 in
set_option maxHeartbeats 1000000 in
theorem l07Step_any (base p wp r nb : Nat) (ts : List Tsk) (f : Fl) (A : Option Addr) (c : Nat) (xs : List Dd) (d : Dd) (w : World) (hS : ShopAt w (foreignTo base (.slice A xs.length c)) p 101 [.pointer (some ⟨wp, 0, none⟩)] ts f) (hok : FlOk r nb ts f) (hd : okDeed d = true)
    (hR : Row w base 91 2 (.slice A xs.length c) (xs.map cD)) (hb : base ≤ w.heap.size) (hwp : wp < base) (hwne : wp ≠ p) (hr : w.cell? ⟨wp, 0, none⟩ = some (.int .i64 r)) (hx : xs.length ≤ 1000) :
    Calls Try.prog 64 #[.pointer (some ⟨p, 0, none⟩), .slice A xs.length c, .int .i64 d.k, .int .i64 d.a] w (StepPost w (foreignTo base (.slice A xs.length c)) p 101 [.pointer (some ⟨wp, 0, none⟩)] ts (step r ts f d).1 base (xs ++ [d])) := by
  obtain ⟨k, a⟩ := d
  have hbx : Below w.heap.size w (w.alloc (.cells #[.int .i64 k, .int .i64 a] 91)) := (Below.refl _ _).alloc (Nat.le_refl _) _
  have b0 : (w.alloc (.cells #[.int .i64 k, .int .i64 a] 91)).cell? ⟨w.heap.size, 0, none⟩ = some (.int .i64 k) := by rw [World.cell?_alloc_at _ _ _ _ rfl]; rfl
  have b1 : (w.alloc (.cells #[.int .i64 k, .int .i64 a] 91)).cell? ⟨w.heap.size, 1, none⟩ = some (.int .i64 a) := by rw [World.cell?_alloc_at _ _ _ _ rfl]; rfl
  have hz : w.heap.size < (w.alloc (.cells #[.int .i64 k, .int .i64 a] 91)).heap.size := by simp
  -- foreign to the shop: what was, the list's block, the box
  have hS1 : ShopAt (w.alloc (.cells #[.int .i64 k, .int .i64 a] 91)) (fun b => foreignTo base (.slice A xs.length c) b ∨ b = w.heap.size) p 101 [.pointer (some ⟨wp, 0, none⟩)] ts f := hS.more hbx fun b hb => by
    rcases hb with hb | rfl
    · refine ⟨.inl hb, ?_⟩
      obtain ⟨o, S, hS⟩ := hS
      have := hS.lo b hb
      simp; omega
    · exact ⟨.inr (Nat.le_refl _), by simp⟩
  have hdo := spDo_any (fun b => foreignTo base (.slice A xs.length c) b ∨ b = w.heap.size) p wp r nb ts f _ hS1 hok ⟨k, a⟩ hd (by simp; omega) hwne ((hbx.cell (p := ⟨wp, 0, none⟩) (by show wp < _; omega)).trans hr)
  obtain ⟨s, hs⟩ : ∃ s, step r ts f ⟨k, a⟩ = s := ⟨_, rfl⟩
  rw [hs] at hdo ⊢
  obtain ⟨f2, cc⟩ := s
  generalize hw0 : w.alloc (.cells #[.int .i64 k, .int .i64 a] 91) = w0 at hbx b0 b1 hz hS1 hdo
  have hR0 := hR.kept hbx
  go_enter Try.func64, Try.ntmps64
  go_wp2_with fail
  clear hw0
  refine hdo.mono ?_
  rintro e w1 ⟨rfl, hS2, hA2⟩
  have hR1 := hR0.apart hA2 fun g hg => .inl (.inr hg)
  have d0 := (hA2.cell (p := ⟨w.heap.size, 0, none⟩) (.inr rfl) hz).trans b0
  have d1 := (hA2.cell (p := ⟨w.heap.size, 1, none⟩) (.inr rfl) hz).trans b1
  have hs1 := hA2.size
  have hs0 := hbx.size
  obtain ⟨v', w3, hap, hR3, hg3, hat⟩ := hR1.push_at (P := Try.prog) 42 42 Try.underlying42 Try.infoDeed2 rfl (by omega) #[.int .i64 k, .int .i64 a] rfl (by simp [Value.oneCell']) (by simp; omega) (by omega) (by omega)
  obtain ⟨A3, c3, rfl, -, -⟩ := hR3.form
  have hl3 : (List.map cD xs ++ [#[Value.int .i64 k, .int .i64 a]]) = (xs ++ [(⟨k, a⟩ : Dd)]).map cD := by simp [cD]
  rw [hl3] at hR3 hap hat
  rw [List.length_map] at hR3 hap hat
  have hsz : w1.heap.size + 1 ≤ w3.heap.size := by have := hg3.size; simpa using this
  have hfin : ShopAt w3 (foreignTo base (.slice A3 (xs ++ [(⟨k, a⟩ : Dd)]).length c3)) p 101 [.pointer (some ⟨wp, 0, none⟩)] ts f2 := by
    have hS2a := hS2.more (lo' := fun b => foreignTo base (.slice A xs.length c) b ∨ b = w.heap.size) ((Below.refl _ w1).alloc (Nat.le_refl _) (.cells #[.int .i64 k, .int .i64 a] 91)) fun b hb => ⟨.inl hb, by
      obtain ⟨o, S, hS⟩ := hS2
      have := hS.lo b hb
      simp; omega⟩
    refine hS2a.aside hg3 (fun b hb => .inl (.inr hb)) fun b hb => ?_
    rcases hb with hb | hb
    · exact ⟨.inl (.inl (.inl hb)), by omega⟩
    · refine ⟨?_, hR3.own_lt b hb⟩
      rcases hat with e | e
      · exact .inl (.inl (.inr (e ▸ hb)))
      · rw [e, Option.some.injEq] at hb
        exact .inr (by simp; omega)
  have hB3 : Below base w w3 := by
    have h1 : Below base w w1 := (hbx.mono hb).trans ((hA2.mono (G := under base) fun b hb' _ => .inl (.inl hb')).below (by omega))
    exact (h1.alloc (by omega) _).grown hg3 (by simp; omega) fun b hb' => (hR1.2.lt b hb').1
  clear b0 b1 hat hg3
  go_wp2_with ((with_reducible refine wpList_app_at (t := 42) ?_); refine ⟨_, _, hap, ?_⟩)
  go_ret
  exact ⟨A3, c3, by rw [List.length_append]; rfl, hR3, hfin, hB3⟩
end Go.Proofs.Ytomcffionomidaa
