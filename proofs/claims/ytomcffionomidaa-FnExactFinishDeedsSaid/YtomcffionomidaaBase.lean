/- Words and lemmas on memory that the contracts of this seat share. -/
import Derived.WalkKit
import Derived.WalkLawsBesides
import Derived.WalkSpells
import Derived.Deep.MidRow
import Derived.Deep.LoopGhost
import Derived.Deep.Quiet
import Derived.Deep.QuietTactic
import Derived.BigQuiet
import Derived.Laws.MakeOwn
namespace Go.Proofs.Ytomcffionomidaa
open Go.RowKit

/-- Old cells and old marks read as before. -/
theorem bcell {W w1 : World} (hb : Below W.heap.size W w1) : (∀ b o, b < W.heap.size → w1.cell? ⟨b, o, none⟩ = W.cell? ⟨b, o, none⟩) ∧ (∀ b o, b < W.heap.size → w1.frozen? ⟨b, o, none⟩ = W.frozen? ⟨b, o, none⟩) :=
  ⟨fun b o h => hb.cell (p := ⟨b, o, none⟩) h, fun b o h => hb.frozen (p := ⟨b, o, none⟩) h⟩

/-- One after the other. -/
theorem Bel.then {w w1 w2 : World} (h : Below w.heap.size w w1) (k : Below w1.heap.size w1 w2) : Below w.heap.size w w2 := h.trans (k.mono h.size)

theorem rangeAt_below {B : Nat} {w w' : World} {g o : Nat} {cs : List Value} (h : w.rangeAt g o cs) (hb : Below B w w') (hg : g < B) : w'.rangeAt g o cs :=
  fun j v hv => (hb.cell (p := ⟨g, o + j, none⟩) hg).trans (h j v hv)

/-- A slice's elements, each a row of 'sz' cells. -/
def SlAt (w : World) (sz : Nat) (A : Option Addr) (xs : List (Array Value)) : Prop :=
  (∀ x ∈ xs, x.size = sz) ∧ (0 < xs.length → ∃ g o, A = some ⟨g, o, none⟩ ∧ g < w.heap.size ∧ ∀ i x, xs[i]? = some x → w.rangeAt g (o + i * sz) x.toList)

theorem SlAt.nil (w : World) (sz : Nat) (A : Option Addr) : SlAt w sz A [] := ⟨by simp, fun h => by simp at h⟩

theorem SlAt.below {w w' : World} {sz : Nat} {A : Option Addr} {xs : List (Array Value)} (h : SlAt w sz A xs) (hb : Below w.heap.size w w') : SlAt w' sz A xs :=
  ⟨h.1, fun hn => by
    obtain ⟨g, o, e, hg, hc⟩ := h.2 hn
    exact ⟨g, o, e, Nat.lt_of_lt_of_le hg hb.size, fun i x hx => rangeAt_below (hc i x hx) hb hg⟩⟩

theorem SlAt.take {w : World} {sz : Nat} {A : Option Addr} {xs : List (Array Value)} (h : SlAt w sz A xs) (n : Nat) : SlAt w sz A (xs.take n) :=
  ⟨fun x hx => h.1 x (List.mem_of_mem_take hx), fun hn => by
    obtain ⟨g, o, e, hg, hc⟩ := h.2 (by simp at hn; omega)
    refine ⟨g, o, e, hg, fun i x hx => hc i x ?_⟩
    rw [List.getElem?_take] at hx
    split at hx
    · exact hx
    · cases hx⟩

/-- A cell of the element k. -/
theorem SlAt.cell {w : World} {sz : Nat} {A : Option Addr} {xs : List (Array Value)} (h : SlAt w sz A xs) {k : Nat} (hk : k < xs.length) :
    ∃ g o, A = some ⟨g, o, none⟩ ∧ g < w.heap.size ∧ ∀ j v, (xs[k])[j]? = some v → w.cell? ⟨g, o + k * sz + j, none⟩ = some v := by
  obtain ⟨g, o, e, hg, hc⟩ := h.2 (by omega)
  exact ⟨g, o, e, hg, fun j v hv => hc k xs[k] (List.getElem?_eq_getElem hk) j v (by simpa using hv)⟩

/-- The element k of a slice: where it lies, and that a load of it gives it, in every later world. -/
theorem SlAt.elem {P : Program} {w : World} {sz : Nat} {A : Option Addr} {xs : List (Array Value)} (h : SlAt w sz A xs) {k : Nat} (hk : k < xs.length) (ty : TypeId) {d : TypeDesc}
    (hu : P.underlying ty = some d) (hd : d.isRow = true) (hi : (P.info? ty).map (·.size) = some sz) :
    ∃ g o, A = some ⟨g, o, none⟩ ∧ g < w.heap.size ∧ w.rangeAt g (o + k * sz) (xs[k]).toList ∧
      ∀ W, Below w.heap.size w W → (Instr.loadAt ty (.pointer (some ⟨g, o + k * sz, none⟩))).run P W = .ok (.agg xs[k]) W := by
  obtain ⟨g, o, e, hg, hc⟩ := h.2 (by omega)
  have hr := hc k xs[k] (List.getElem?_eq_getElem hk)
  refine ⟨g, o, e, hg, hr, fun W hW => ?_⟩
  have := run_loadAt_mid (P := P) W g (o + k * sz) ty (xs[k]).toList d (rangeAt_below hr hW hg) hu hd (by simpa [h.1 _ (List.getElem_mem hk)] using hi)
  simpa using this

/-- A region that draws its order, all of whose operations read, or call what makes memory and hands back one value. -/
theorem wp_region_below {P : Program} {id : Nat} {Q : Exit → Act → World → Prop} {a : Act} {w : World} {l : List Oper} (hm : P.follows .mixedOrders = true) (hB : Region.lexB .any l.toArray = true)
    (h : wpQuiet P l.toArray (fun w' => Below w.heap.size w w') (fun a' => ∀ w', Below w.heap.size w w' → Q .normal a' w') l a) : (Code.region id l.toArray true).wp P Q a w :=
  wp_region_quiet (C := fun w' => Below w.heap.size w w') hm hB ((Below.refl _ w).drew) (by simpa using h)

/-- A load of one cell. -/
theorem run_loadAt_one {P : Program} {W : World} {ty : TypeId} {d : TypeDesc} {a : Addr} {v : Value} (hu : P.underlying ty = some d) (hd : d.isRow = false) (hc : W.cell? a = some v) :
    (Instr.loadAt ty (.pointer (some a))).run P W = .ok v W := by
  have hagg : (isAgg ty).run P W = .ok false W := by
    unfold isAgg
    rw [Sem.run_bind, run_underlying hu W]
    cases d <;> simp_all [TypeDesc.isRow]
  simp [Instr.loadAt, Instr.sureAddr, loadVar, Sem.run_bind, hagg, hc]

/-- An element of an array's value. -/
theorem run_index_one {P : Program} {t e : TypeId} {n : Nat} {d : TypeDesc} (hu : P.underlying t = some (.array n e)) (he : P.underlying e = some d) (hd : d.isRow = false) (hi : (P.info? e).map (·.size) = some 1)
    {cs : Array Value} {i : Nat} {v : Value} (hn : i < n) (hv : cs[i]? = some v) (k : IntKind) (W : World) : (Instr.index t (.agg cs) (.int k (i : Int))).run P W = .ok v W := by
  have hagg : (isAgg e).run P W = .ok false W := by
    unfold isAgg
    rw [Sem.run_bind, run_underlying he W]
    cases d <;> simp_all [TypeDesc.isRow]
  cases hq : P.info? e with
  | none => simp [hq] at hi
  | some ti =>
    have hs : ti.size = 1 := by simpa [hq] using hi
    have h2 : ¬ n ≤ i := by omega
    simp [Instr.index, asIntOf, run_underlying hu W, part, hagg, sizeOf, typeInfo, hq, hs, h2, hv]

theorem later_one {P : Program} {w : World} (ty : TypeId) {d : TypeDesc} {a : Addr} {v : Value} (hu : P.underlying ty = some d) (hd : d.isRow = false) (hc : w.cell? a = some v) :
    ∀ W, Below w.heap.size w W → (Instr.loadAt ty (.pointer (some a))).run P W = .ok v W := fun _ hW =>
  run_loadAt_one hu hd ((hW.cell (World.block_lt_of_cell? _ _ hc)).trans hc)

theorem later_row {P : Program} {w : World} (ty : TypeId) {d : TypeDesc} {g o : Nat} (x : Array Value) (hu : P.underlying ty = some d) (hd : d.isRow = true) (hi : (P.info? ty).map (·.size) = some x.size)
    (hg : g < w.heap.size) (hr : w.rangeAt g o x.toList) : ∀ W, Below w.heap.size w W → (Instr.loadAt ty (.pointer (some ⟨g, o, none⟩))).run P W = .ok (.agg x) W := fun W hW => by
  have := run_loadAt_mid (P := P) W g o ty x.toList d (rangeAt_below hr hW hg) hu hd (by simpa using hi)
  simpa using this

section
variable {P : Program} {ops : Array Oper} {rest : List Oper} {o : Oper} {a : Act} {w : World} {Q : Exit → Act → World → Prop} {C : World → Prop}

/-- A load whose run is known. -/
theorem wpList_load_at {dst : Option Tmp} {ty type : TypeId} {x : Operand} {pos : String} {after : Array Edge} (h : ∃ v, (Instr.loadAt ty (a.eval x)).run P w = .ok v w ∧ wpList P ops Q rest (a.put dst v) w) :
    wpList P ops Q (⟨dst, .load ty x, type, pos, after, none⟩ :: rest) a w := by
  obtain ⟨v, hrun, h⟩ := h
  refine wpList_plain rfl fun _ hK => ?_
  unfold Oper.wp execOp
  simp only [Sem.run_bind, hrun, Sem.run_pure, Result.andThen_ok]
  exact hK _ _ h

/-- .. behind a guard that says yes. -/
theorem wpList_load_atG {dst : Option Tmp} {ty type : TypeId} {x : Operand} {pos : String} {after : Array Edge} {g : Nat × Bool}
    (h : ∃ v, (Instr.loadAt ty (a.eval x)).run P w = .ok v w ∧ Region.wanted ⟨dst, .load ty x, type, pos, after, some g⟩ (yielded ops a.tmps) = true ∧ wpList P ops Q rest (a.put dst v) w) :
    wpList P ops Q (⟨dst, .load ty x, type, pos, after, some g⟩ :: rest) a w := by
  obtain ⟨v, hrun, hw, h⟩ := h
  refine wpList_step fun K hK => ?_
  rw [if_pos hw]
  unfold Oper.wp execOp
  simp only [Sem.run_bind, hrun, Sem.run_pure, Result.andThen_ok]
  exact hK _ _ h

/-- A store whose run is known. -/
theorem wpList_store_at {dst : Option Tmp} {ty type : TypeId} {x y : Operand} {pos : String} {after : Array Edge} (h : ∃ w', (Instr.storeAt ty (a.eval x) (a.eval y)).run P w = .ok () w' ∧ wpList P ops Q rest (a.put dst undef) w') :
    wpList P ops Q (⟨dst, .store ty x y, type, pos, after, none⟩ :: rest) a w := by
  obtain ⟨w', hrun, h⟩ := h
  refine wpList_plain rfl fun _ hK => ?_
  unfold Oper.wp execOp
  simp only [Sem.run_bind, hrun, Sem.run_pure, Result.andThen_ok]
  exact hK _ _ h

/-- A load in a region that draws. -/
theorem quiet_load_run {K : Act → Prop} (ty : TypeId) (x : Operand) (ho : o.op = .load ty x) (v : Value) (hrun : ∀ W, C W → (Instr.loadAt ty (a.eval x)).run P W = .ok v W)
    (h : K (a.put o.dst v)) : o.quiet P a C K := by
  refine ⟨v, fun W hW => ?_, h⟩
  unfold Oper.quietAt execOp
  simp only [ho, Sem.run_bind, hrun W hW, Sem.run_pure, Result.andThen_ok]
  exact ⟨rfl, rfl⟩
end

/-! ### Slices of the call's own -/

theorem there_below {B : Nat} {w w' : World} {g o n : Nat} (h : w.there g o n) (hb : Below B w w') (hg : g < B) : w'.there g o n :=
  fun j hj => by rw [hb.cell (p := ⟨g, o + j, none⟩) hg, hb.frozen (p := ⟨g, o + j, none⟩) hg]; exact h j hj

theorem there_sub {w : World} {g o n o' n' : Nat} (h : w.there g o n) (h1 : o ≤ o') (h2 : o' + n' ≤ o + n) : w.there g o' n' := fun j hj => by
  have := h (o' - o + j) (by omega)
  rwa [show o + (o' - o + j) = o' + j by omega] at this

theorem there_made (w : World) (z : Array Value) (m : Nat) (e : TypeId) : (w.alloc (.cells (madeCells z m) e)).there w.heap.size 0 m := fun j hj => by
  have hs : j < (madeCells z m).size := by rw [size_madeCells]; exact hj
  have hb := heap_alloc_new w (.cells (madeCells z m) e)
  constructor
  · rw [cell_of_row _ _ _ _ _ _ hb]; simp [hs]
  · rw [frozen_of_row _ _ _ _ _ hb]

theorem setCells_size (g : Nat) : ∀ (vs : List Value) (o : Nat) (w : World), (w.setCells g o vs).heap.size = w.heap.size
  | [], _, _ => rfl
  | v :: r, o, w => by rw [World.setCells, setCells_size g r (o + 1)]; simp [World.setCell]

theorem Below.setCells' {B : Nat} {a : World} {g : Nat} (hg : B ≤ g) : ∀ (vs : List Value) (o : Nat) (w : World), Below B a w → Below B a (w.setCells g o vs)
  | [], _, _, h => h
  | v :: r, o, w, h => by rw [World.setCells]; exact Below.setCells' hg r (o + 1) _ (h.setCell (p := ⟨g, o, none⟩) hg v)

/-- The first k of n elements of block g are written. -/
def Fill (w : World) (g sz n : Nat) (xs : List (Array Value)) (k : Nat) : Prop :=
  g < w.heap.size ∧ w.there g 0 (n * sz) ∧ ∀ i x, i < k → xs[i]? = some x → w.rangeAt g (i * sz) x.toList

theorem Fill.below {w w' : World} {g sz n k : Nat} {xs : List (Array Value)} (h : Fill w g sz n xs k) (hb : Below w.heap.size w w') : Fill w' g sz n xs k :=
  ⟨Nat.lt_of_lt_of_le h.1 hb.size, there_below h.2.1 hb h.1, fun i x hi hx => rangeAt_below (h.2.2 i x hi hx) hb h.1⟩

theorem Fill.start (w : World) (z : Array Value) (n sz : Nat) (e : TypeId) (xs : List (Array Value)) : Fill (w.alloc (.cells (madeCells z (n * sz)) e)) w.heap.size sz n xs 0 :=
  ⟨by simp, there_made _ _ _ _, fun i x hi => by omega⟩

/-- The store of the element k. -/
theorem Fill.step {w : World} {g sz n k : Nat} {xs : List (Array Value)} (h : Fill w g sz n xs k) (hall : ∀ x ∈ xs, x.size = sz) (hn : xs.length = n) (hk : k < xs.length) {P : Program} (ty : TypeId)
    (hi : (P.info? ty).map (·.size) = some sz) (h1 : (xs[k]).all (·.oneCell') = true) :
    (Instr.storeAt ty (.pointer (some ⟨g, k * sz, none⟩)) (.agg xs[k])).run P w = .ok () (w.setCells g (k * sz) (xs[k]).toList) ∧ Fill (w.setCells g (k * sz) (xs[k]).toList) g sz n xs (k + 1) := by
  have hsz : (xs[k]).size = sz := hall _ (List.getElem_mem hk)
  have hle : k * sz + sz ≤ n * sz := by rw [← Nat.succ_mul]; exact Nat.mul_le_mul_right sz (by omega)
  have ht : w.there g (k * sz) (xs[k]).size := there_sub h.2.1 (by omega) (by omega)
  refine ⟨run_storeAt_mid w g (k * sz) ty xs[k] ht (by simpa [hsz] using hi) h1, by rw [setCells_size]; exact h.1, World.there_setCells h.2.1 _ _ _, fun i x hik hx => ?_⟩
  by_cases e : i = k
  · subst e
    rw [List.getElem?_eq_getElem hk] at hx
    cases hx
    exact World.rangeAt_setCells_same w g (i * sz) _ (by simpa using ht)
  · have hlt : i < k := by omega
    have hx' : x.size = sz := hall _ (List.mem_of_getElem? hx)
    have hle' : i * sz + sz ≤ k * sz := by rw [← Nat.succ_mul]; exact Nat.mul_le_mul_right sz (by omega)
    exact World.rangeAt_setCells_apart (h.2.2 i x hlt hx) g (k * sz) _ (.inr (.inl (by simp; omega)))

/-- A slice at the head of a block of its own, from block 'base' on, which may be written. -/
def OwnSl (w : World) (base sz : Nat) (A : Option Addr) (xs : List (Array Value)) : Prop :=
  (∀ x ∈ xs, x.size = sz) ∧ (0 < xs.length → ∃ g, A = some ⟨g, 0, none⟩ ∧ base ≤ g ∧ g < w.heap.size ∧ (∀ i x, xs[i]? = some x → w.rangeAt g (i * sz) x.toList) ∧ w.there g 0 (xs.length * sz))

theorem OwnSl.at {w : World} {base sz : Nat} {A : Option Addr} {xs : List (Array Value)} (h : OwnSl w base sz A xs) : SlAt w sz A xs :=
  ⟨h.1, fun hn => by obtain ⟨g, e, _, hg, hc, _⟩ := h.2 hn; exact ⟨g, 0, e, hg, fun i x hx => by simpa using hc i x hx⟩⟩

theorem OwnSl.below {w w' : World} {base sz : Nat} {A : Option Addr} {xs : List (Array Value)} (h : OwnSl w base sz A xs) (hb : Below w.heap.size w w') : OwnSl w' base sz A xs :=
  ⟨h.1, fun hn => by
    obtain ⟨g, e, h1, hg, hc, ht⟩ := h.2 hn
    exact ⟨g, e, h1, Nat.lt_of_lt_of_le hg hb.size, fun i x hx => rangeAt_below (hc i x hx) hb hg, there_below ht hb hg⟩⟩

theorem OwnSl.setCell {w : World} {base sz : Nat} {A : Option Addr} {xs : List (Array Value)} (h : OwnSl w base sz A xs) {p : Addr} (hp : p.block < base) (v : Value) : OwnSl (w.setCell p v) base sz A xs :=
  ⟨h.1, fun hn => by
    obtain ⟨g, e, h1, hg, hc, ht⟩ := h.2 hn
    have hk : (w.setCell p v).heap[g]? = w.heap[g]? := Below.heap_setCell w p v g (by omega)
    refine ⟨g, e, h1, by simpa using hg, fun i x hx j u hu => ?_, fun j hj => ?_⟩
    · rw [World.cell?_of_block (w := w) (a := ⟨g, i * sz + j, none⟩) hk]; exact hc i x hx j u hu
    · rw [World.cell?_of_block (w := w) (a := ⟨g, 0 + j, none⟩) hk, World.frozen?_of_block (w := w) (a := ⟨g, 0 + j, none⟩) hk]; exact ht j hj⟩

theorem OwnSl.mono {w : World} {base base' sz : Nat} {A : Option Addr} {xs : List (Array Value)} (h : OwnSl w base sz A xs) (hb : base' ≤ base) : OwnSl w base' sz A xs :=
  ⟨h.1, fun hn => by obtain ⟨g, e, h1, hg, hc, ht⟩ := h.2 hn; exact ⟨g, e, by omega, hg, hc, ht⟩⟩

theorem Fill.own {w : World} {base g sz n : Nat} {xs : List (Array Value)} (h : Fill w g sz n xs n) (hall : ∀ x ∈ xs, x.size = sz) (hn : xs.length = n) (hg : base ≤ g) : OwnSl w base sz (some ⟨g, 0, none⟩) xs :=
  ⟨hall, fun _ => ⟨g, rfl, hg, h.1, fun i x hx => h.2.2 i x (by rw [← hn]; exact (List.getElem?_eq_some_iff.1 hx).1) hx, by rw [hn]; exact h.2.1⟩⟩

end Go.Proofs.Ytomcffionomidaa
