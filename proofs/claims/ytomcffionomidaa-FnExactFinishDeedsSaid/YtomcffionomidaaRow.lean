/- Slices that a call makes by append. -/
import Derived.Test.YtomcffionomidaaBase
import Derived.Maps.AppendAt
namespace Go.Proofs.Ytomcffionomidaa
open Go.RowKit

section
variable {P : Program} {ops : Array Oper} {rest : List Oper} {a : Act} {w : World} {Q : Exit → Act → World → Prop}

/-- An append whose run is known. -/
theorem wpList_app_at {dst : Option Tmp} {t type : TypeId} {s x : Operand} {pos : String} {after : Array Edge} (h : ∃ v' w', (Builtin.append_ #[t, t] type #[a.eval s, a.eval x]).run P w = .ok v' w' ∧ wpList P ops Q rest (a.put dst v') w') :
    wpList P ops Q (⟨dst, .call { callee := .builtin .append, args := #[s, x], argTypes := #[t, t] }, type, pos, after, none⟩ :: rest) a w := by
  obtain ⟨v', w', hrun, h⟩ := h
  refine wpList_plain rfl fun _ hK => ?_
  unfold Oper.wp execOp
  simp only [resolve, invoke, builtin, Sem.run_bind, Sem.run_pure, Result.andThen_ok, List.map_toArray, List.map_cons, List.map_nil, hrun]
  exact hK _ _ h
end

/-- A row of the call's own: the elements 'xs', each of 'sz' cells, in a block from 'base' on. -/
def Row (w : World) (base : Nat) (e : TypeId) (sz : Nat) (v : Value) (xs : List (Array Value)) : Prop :=
  (∀ x ∈ xs, x.size = sz) ∧ w.ownsRow base e sz v xs.length (xs.flatMap Array.toList)

theorem flat_len {sz : Nat} {xs : List (Array Value)} (h : ∀ x ∈ xs, x.size = sz) : (xs.flatMap Array.toList).length = xs.length * sz := by
  induction xs with
  | nil => simp
  | cons x xs ih =>
    rw [List.flatMap_cons, List.length_append, ih (fun y hy => h y (List.mem_cons_of_mem _ hy))]
    have := h x (List.mem_cons_self ..)
    simp [this, Nat.add_mul, Nat.add_comm]

theorem flat_at {sz : Nat} {xs : List (Array Value)} (h : ∀ x ∈ xs, x.size = sz) : ∀ (i : Nat) (x : Array Value) (j : Nat) (v : Value), xs[i]? = some x → x[j]? = some v → (xs.flatMap Array.toList)[i * sz + j]? = some v := by
  induction xs with
  | nil => intro i x j v hx; simp at hx
  | cons y xs ih =>
    intro i x j v hx hv
    have hy := h y (List.mem_cons_self ..)
    rw [List.flatMap_cons]
    cases i with
    | zero =>
      simp at hx
      subst hx
      have hj : j < y.size := (Array.getElem?_eq_some_iff.1 hv).1
      rw [Nat.zero_mul, Nat.zero_add, List.getElem?_append_left (by simpa using hj)]
      simpa using hv
    | succ i =>
      have := ih (fun z hz => h z (List.mem_cons_of_mem _ hz)) i x j v (by simpa using hx) hv
      rw [List.getElem?_append_right (by simp [hy, Nat.succ_mul]; omega)]
      rw [show (i + 1) * sz + j - y.toList.length = i * sz + j by simp [hy, Nat.succ_mul]; omega]
      exact this

theorem Row.nil (w : World) (base : Nat) (e : TypeId) (sz : Nat) : Row w base e sz (.slice none 0 0) [] := ⟨by simp, World.ownsRow_nil w base e sz⟩

theorem Row.kept {w w' : World} {base : Nat} {e : TypeId} {sz : Nat} {v : Value} {xs : List (Array Value)} (h : Row w base e sz v xs) (hb : Below w.heap.size w w') : Row w' base e sz v xs :=
  ⟨h.1, h.2.kept (row := none) ⟨hb.os, hb.tape, hb.output, hb.size, fun k hk _ => hb.block k hk⟩ (by cases v.ownBlock <;> simp)⟩

theorem Row.alloc {w : World} {base : Nat} {e : TypeId} {sz : Nat} {v : Value} {xs : List (Array Value)} (h : Row w base e sz v xs) (o : Obj) : Row (w.alloc o) base e sz v xs := ⟨h.1, h.2.alloc o⟩

/-- A slice literal without elements. -/
theorem Row.empty (w : World) {base : Nat} (hb : base ≤ w.heap.size) (e : TypeId) (sz : Nat) : Row (w.alloc (.cells #[] e)) base e sz (.slice (some ⟨w.heap.size, 0, none⟩) 0 0) [] :=
  ⟨by simp, by simpa using World.ownsRow_lit w #[] 0 hb (by unfold maxLen; omega) (by simp)⟩

/-- 'append(v, x)': the element lies in a block that was made for it. -/
theorem Row.push {P : Program} {w : World} {base : Nat} {e : TypeId} {sz : Nat} {v : Value} {xs : List (Array Value)} (h : Row w base e sz v xs) (t ty : TypeId) {z : Value} {bytes : Nat}
    (ht : P.underlying t = some (.slice e)) (hinfo : (P.info? e).map (fun i => (i.zero, i.size, i.bytes)) = some (some z, sz, bytes)) (hzs : z.cells.size = sz) (hsz : 0 < sz)
    (x : Array Value) (hx : x.size = sz) (h1 : x.all (·.oneCell') = true) (hn : xs.length + 1 ≤ 4294967296) (hby : bytes ≤ 4096) (hbase : base ≤ w.heap.size) :
    ∃ v' w', (Builtin.append_ #[t, t] ty #[v, .slice (some ⟨w.heap.size, 0, none⟩) 1 1]).run P (w.alloc (.cells x e)) = .ok v' w' ∧ Row w' base e sz v' (xs ++ [x]) ∧ (w.alloc (.cells x e)).grownBy w' v.ownBlock ∧ Below base w w' := by
  obtain ⟨i0, hi, hz0, hz1, hz2⟩ := info_parts hinfo
  have hbytes : (xs.length + 1) * bytes ≤ 140737488355328 := by
    calc (xs.length + 1) * bytes ≤ 4294967296 * 4096 := Nat.mul_le_mul hn hby
      _ ≤ 140737488355328 := by decide
  obtain ⟨v', w', hr, ho, hg, _⟩ := run_append_own (P := P) (w.alloc (.cells x e)) base t ty e i0 z sz bytes ht hi hz0 hz1 hz2 hzs hsz v xs.length _ (h.2.alloc _) ⟨w.heap.size, 0, none⟩ 1 1 x.toList (by simp [hx])
    (fun j u hu => by
      have hadd : (⟨w.heap.size, 0, none⟩ : Addr).add j = ⟨w.heap.size, j, none⟩ := by unfold Addr.add; split <;> simp_all
      rw [hadd, World.cell?_alloc_at _ _ _ _ rfl]; simpa using hu)
    (fun u hu => (Array.all_eq_true_iff_forall_mem.1 h1) u (by simpa using hu)) (by unfold maxLen; omega) hbytes (by simp; omega)
  refine ⟨v', w', hr, ⟨fun y hy => ?_, by simpa using ho⟩, hg, ?_⟩
  · rw [List.mem_append] at hy
    rcases hy with hy | hy
    · exact h.1 y hy
    · simp at hy; subst hy; exact hx
  · refine ((Below.refl base w).alloc hbase _).grown hg (by simp; omega) fun k hk => (h.2.lt k hk).1

/-- .. and where the row lies then. -/
theorem Row.push_at {P : Program} {w : World} {base : Nat} {e : TypeId} {sz : Nat} {v : Value} {xs : List (Array Value)} (h : Row w base e sz v xs) (t ty : TypeId) {z : Value} {bytes : Nat}
    (ht : P.underlying t = some (.slice e)) (hinfo : (P.info? e).map (fun i => (i.zero, i.size, i.bytes)) = some (some z, sz, bytes)) (hzs : z.cells.size = sz) (hsz : 0 < sz)
    (x : Array Value) (hx : x.size = sz) (h1 : x.all (·.oneCell') = true) (hn : xs.length + 1 ≤ 4294967296) (hby : bytes ≤ 4096) (hbase : base ≤ w.heap.size) :
    ∃ v' w', (Builtin.append_ #[t, t] ty #[v, .slice (some ⟨w.heap.size, 0, none⟩) 1 1]).run P (w.alloc (.cells x e)) = .ok v' w' ∧ Row w' base e sz v' (xs ++ [x]) ∧ (w.alloc (.cells x e)).grownBy w' v.ownBlock ∧ (v'.ownBlock = v.ownBlock ∨ v'.ownBlock = some (w.heap.size + 1)) := by
  obtain ⟨i0, hi, hz0, hz1, hz2⟩ := info_parts hinfo
  have hbytes : (xs.length + 1) * bytes ≤ 140737488355328 := by
    calc (xs.length + 1) * bytes ≤ 4294967296 * 4096 := Nat.mul_le_mul hn hby
      _ ≤ 140737488355328 := by decide
  obtain ⟨v', w', hr, ho, hg, -, hat⟩ := run_append_own_at (P := P) (w.alloc (.cells x e)) base t ty e i0 z sz bytes ht hi hz0 hz1 hz2 hzs hsz v xs.length _ (h.2.alloc _) ⟨w.heap.size, 0, none⟩ 1 1 x.toList (by simp [hx])
    (fun j u hu => by
      have hadd : (⟨w.heap.size, 0, none⟩ : Addr).add j = ⟨w.heap.size, j, none⟩ := by unfold Addr.add; split <;> simp_all
      rw [hadd, World.cell?_alloc_at _ _ _ _ rfl]; simpa using hu)
    (fun u hu => (Array.all_eq_true_iff_forall_mem.1 h1) u (by simpa using hu)) (by unfold maxLen; omega) hbytes (by simp; omega)
  refine ⟨v', w', hr, ⟨fun y hy => ?_, by simpa using ho⟩, hg, by simpa using hat⟩
  rw [List.mem_append] at hy
  rcases hy with hy | hy
  · exact h.1 y hy
  · simp at hy; subst hy; exact hx

/-- A row as a slice. -/
theorem Row.form {w : World} {base : Nat} {e : TypeId} {sz : Nat} {v : Value} {xs : List (Array Value)} (h : Row w base e sz v xs) : ∃ A c, v = .slice A xs.length c ∧ xs.length ≤ c ∧ OwnSl w base sz A xs := by
  obtain ⟨hall, hlen, h2⟩ := h
  rcases h2 with ⟨rfl, h0⟩ | ⟨g, cap, cur, rfl, hb, hh, hnc, hcm, hcs, htk⟩
  · exact ⟨none, 0, by rw [h0], by omega, hall, fun hn => by omega⟩
  · refine ⟨some ⟨g, 0, none⟩, cap, rfl, hnc, hall, fun hn => ⟨g, rfl, hb, lt_of_block hh, fun i x hx j u hu => ?_, fun j hj => ?_⟩⟩
    · rw [cell_of_row _ _ _ _ _ _ hh]
      have hf := flat_at hall i x j u hx (by simpa using hu)
      rw [← htk, List.getElem?_take] at hf
      split at hf
      · simpa using hf
      · cases hf
    · constructor
      · rw [cell_of_row _ _ _ _ _ _ hh]
        have : 0 + j < cur.size := by
          rw [hcs]; calc 0 + j < xs.length * sz := by omega
            _ ≤ cap * sz := Nat.mul_le_mul_right sz hnc
        rw [Array.getElem?_eq_getElem this]; rfl
      · rw [frozen_of_row _ _ _ _ _ hh]
end Go.Proofs.Ytomcffionomidaa
