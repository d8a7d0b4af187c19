/- The shop of chapter 7 in memory: rows with owners. -/
import Derived.Test.YtomcffionomidaaFloor
import Derived.Test.YtomcffionomidaaRow
import Derived.Test.YtomcffionomidaaTo
import Derived.Maps.AppendAt
namespace Go.Proofs.Ytomcffionomidaa
open Go.RowKit

/-- Nothing of the blocks of F is changed. -/
structure Apart (F : Nat → Prop) (w w' : World) : Prop where
  os : w'.os = w.os
  tape : w'.tape = w.tape
  output : w'.output = w.output
  size : w.heap.size ≤ w'.heap.size
  block : ∀ k, F k → k < w.heap.size → w'.heap[k]? = w.heap[k]?

section
variable {F : Nat → Prop} {a b c w w' : World}
theorem Apart.refl (F : Nat → Prop) (w : World) : Apart F w w := ⟨rfl, rfl, rfl, Nat.le_refl _, fun _ _ _ => rfl⟩
theorem Apart.trans (h : Apart F a b) (k : Apart F b c) : Apart F a c :=
  ⟨k.os.trans h.os, k.tape.trans h.tape, k.output.trans h.output, Nat.le_trans h.size k.size, fun i hi hl => (k.block i hi (Nat.lt_of_lt_of_le hl h.size)).trans (h.block i hi hl)⟩
theorem belAp (h : Below a.heap.size a b) : Apart F a b := ⟨h.os, h.tape, h.output, h.size, fun i _ hl => h.block i hl⟩
theorem Apart.drew (h : Apart F a w) : Apart F a w.drew := ⟨h.os, h.tape, h.output, h.size, h.block⟩
theorem Apart.alloc (h : Apart F a w) (o : Obj) : Apart F a (w.alloc o) := h.trans (belAp ((Below.refl w.heap.size w).alloc (Nat.le_refl _) o))
theorem Apart.setCell (h : Apart F a w) {p : Addr} (hp : ¬ F p.block) (u : Value) : Apart F a (w.setCell p u) :=
  ⟨h.os, h.tape, h.output, by simpa using h.size, fun i hi hl => (Below.heap_setCell w p u i (fun e => hp (e ▸ hi))).trans (h.block i hi hl)⟩
theorem Apart.grown {row : Option Nat} (h : Apart F a w) (hg : w.grownBy w' row) (hr : ∀ k, row = some k → ¬ F k) : Apart F a w' :=
  h.trans ⟨hg.os, hg.tape, hg.output, hg.size, fun i hi hl => hg.block i hl (fun e => hr i e.symm hi)⟩
theorem Apart.mono {G : Nat → Prop} (h : Apart F a b) (hG : ∀ k, G k → k < a.heap.size → F k) : Apart G a b := ⟨h.os, h.tape, h.output, h.size, fun i hi hl => h.block i (hG i hi hl) hl⟩
theorem Apart.cell (h : Apart F a b) {p : Addr} (hp : F p.block) (hl : p.block < a.heap.size) : b.cell? p = a.cell? p := World.cell?_of_block (w := a) (h.block p.block hp hl)
end
/-- The blocks before n. -/
def under (n : Nat) : Nat → Prop := fun b => b < n
theorem Apart.below {n : Nat} {w w' : World} (h : Apart (under n) w w') (hn : n ≤ w.heap.size) : Below n w w' := ⟨h.os, h.tape, h.output, h.size, fun k hk => h.block k hk (Nat.lt_of_lt_of_le hk hn)⟩

/-- A row of the shop's: its block is owned by 'id'. -/
def RowO (w : World) (o : Nat → Nat) (id : Nat) (e : TypeId) (sz : Nat) (v : Value) (xs : List (Array Value)) : Prop :=
  Row w 0 e sz v xs ∧ ∀ g, v.ownBlock = some g → o g = id

/-- Only blocks of 'id', and new ones, are changed. -/
def Moves (o o' : Nat → Nat) (id : Nat) (w w' : World) : Prop :=
  w.heap.size ≤ w'.heap.size ∧ ∀ b, b < w.heap.size → o' b = o b ∧ (o b ≠ id → w'.heap[b]? = w.heap[b]?)

theorem Moves.trans {o o1 o2 : Nat → Nat} {id : Nat} {w w1 w2 : World} (h : Moves o o1 id w w1) (k : Moves o1 o2 id w1 w2) : Moves o o2 id w w2 :=
  ⟨Nat.le_trans h.1 k.1, fun b hb => by
    have h1 := h.2 b hb
    have h2 := k.2 b (Nat.lt_of_lt_of_le hb h.1)
    exact ⟨h2.1.trans h1.1, fun hne => (h2.2 (by rw [h1.1]; exact hne)).trans (h1.2 hne)⟩⟩

theorem RowO.moves {w w' : World} {o o' : Nat → Nat} {id id2 : Nat} {e : TypeId} {sz : Nat} {v : Value} {xs : List (Array Value)} (h : RowO w o id2 e sz v xs) (hm : Moves o o' id w w') (hne : id2 ≠ id) : RowO w' o' id2 e sz v xs := by
  obtain ⟨⟨hall, hlen, h2⟩, ho⟩ := h
  rcases h2 with ⟨rfl, h0⟩ | ⟨g, cap, cur, rfl, hb, hh, hnc, hcm, hcs, htk⟩
  · exact ⟨⟨hall, hlen, .inl ⟨rfl, h0⟩⟩, fun g hg => by simp [Value.ownBlock] at hg⟩
  · have hgo := ho g rfl
    have hlt := lt_of_block hh
    have hmv := hm.2 g hlt
    refine ⟨⟨hall, hlen, .inr ⟨g, cap, cur, rfl, hb, ?_, hnc, hcm, hcs, htk⟩⟩, fun g' hg' => ?_⟩
    · rw [hmv.2 (by omega)]; exact hh
    · simp only [Value.ownBlock, Option.some.injEq] at hg'
      subst hg'
      rw [hmv.1]; exact hgo

theorem Moves.setCell {o : Nat → Nat} {id : Nat} {w : World} {p : Addr} (hp : o p.block = id) (v : Value) : Moves o o id w (w.setCell p v) :=
  ⟨by simp, fun b _ => ⟨rfl, fun hne => heap_setCell_other w p b v (fun e => hne (by rw [e]; exact hp))⟩⟩

/-- The owners behind new blocks. -/
def oNew (o : Nat → Nat) (n id : Nat) : Nat → Nat := fun b => if b < n then o b else id

theorem oNew_lt {o : Nat → Nat} {n id b : Nat} (h : b < n) : oNew o n id b = o b := by simp [oNew, h]
theorem oNew_ge {o : Nat → Nat} {n id b : Nat} (h : n ≤ b) : oNew o n id b = id := by simp [oNew]; omega

theorem Moves.below {o : Nat → Nat} {id n : Nat} {w w' : World} (hb : Below w.heap.size w w') (hn : w.heap.size ≤ n) (id2 : Nat) : Moves o (oNew o n id2) id w w' :=
  ⟨hb.size, fun b h => ⟨oNew_lt (by omega), fun _ => hb.block b h⟩⟩

theorem Moves.grown {o : Nat → Nat} {id : Nat} {w w' : World} {r : Option Nat} (hg : w.grownBy w' r) (hr : ∀ g, r = some g → o g = id) (id2 : Nat) : Moves o (oNew o w.heap.size id2) id w w' :=
  ⟨hg.size, fun b h => ⟨oNew_lt h, fun hne => hg.block b h (fun e => hne (hr b e.symm))⟩⟩

/-- A row with elements, as a block. -/
theorem RowO.at {w : World} {o : Nat → Nat} {id : Nat} {e : TypeId} {sz : Nat} {v : Value} {xs : List (Array Value)} (h : RowO w o id e sz v xs) (hn : 0 < xs.length) :
    ∃ g c, v = .slice (some ⟨g, 0, none⟩) xs.length c ∧ o g = id ∧ g < w.heap.size ∧ xs.length ≤ c ∧ (∀ i (hi : i < xs.length) j u, (xs[i])[j]? = some u → w.cell? ⟨g, i * sz + j, none⟩ = some u) ∧ (∀ i, w.frozen? ⟨g, i, none⟩ = false) := by
  obtain ⟨⟨hall, hlen, h2⟩, ho⟩ := h
  rcases h2 with ⟨rfl, h0⟩ | ⟨g, cap, cur, rfl, hb, hh, hnc, hcm, hcs, htk⟩
  · omega
  · refine ⟨g, cap, rfl, ho g rfl, lt_of_block hh, hnc, fun i hi j u hu => ?_, fun i => frozen_of_row _ _ _ _ _ hh⟩
    rw [cell_of_row _ _ _ _ _ _ hh]
    have hf := flat_at hall i xs[i] j u (List.getElem?_eq_getElem hi) hu
    rw [← htk, List.getElem?_take] at hf
    split at hf
    · simpa using hf
    · cases hf

theorem flat_set {sz : Nat} : ∀ (xs : List (Array Value)) (_ : ∀ x ∈ xs, x.size = sz) (i : Nat) (hi : i < xs.length) (j : Nat) (_ : j < sz) (u : Value),
    (xs.flatMap Array.toList).set (i * sz + j) u = (xs.set i ((xs[i]).setIfInBounds j u)).flatMap Array.toList
  | [], _, i, hi, _, _, _ => by simp at hi
  | y :: xs, h, 0, _, j, hj, u => by
    have hy := h y (List.mem_cons_self ..)
    rw [List.flatMap_cons, Nat.zero_mul, Nat.zero_add, List.set_append_left _ _ (by simpa [hy] using hj)]
    simp
  | y :: xs, h, i + 1, hi, j, hj, u => by
    have hy := h y (List.mem_cons_self ..)
    have hi' : i < xs.length := by simpa using hi
    have ih := flat_set xs (fun z hz => h z (List.mem_cons_of_mem _ hz)) i hi' j hj u
    rw [List.flatMap_cons, List.set_append_right _ _ (by simp [hy, Nat.succ_mul]; omega)]
    rw [show (i + 1) * sz + j - y.toList.length = i * sz + j by simp [hy, Nat.succ_mul]; omega, ih]
    simp

/-- A store into a row. -/
theorem RowO.set {w : World} {o : Nat → Nat} {id : Nat} {e : TypeId} {sz g n c : Nat} {xs : List (Array Value)} (h : RowO w o id e sz (.slice (some ⟨g, 0, none⟩) n c) xs) {i j : Nat} (hi : i < xs.length) (hj : j < sz) (u : Value) :
    RowO (w.setCell ⟨g, i * sz + j, none⟩ u) o id e sz (.slice (some ⟨g, 0, none⟩) n c) (xs.set i ((xs[i]).setIfInBounds j u)) := by
  obtain ⟨⟨hall, hown⟩, ho⟩ := h
  have hn : n = xs.length := by
    rcases hown.2 with ⟨h0, -⟩ | ⟨g', cap', cur, h0, -⟩
    · cases h0
    · cases h0; rfl
  subst hn
  have := (World.ownsRow.stored hown (i * sz + j) u).1
  rw [flat_set xs hall i hi j hj u] at this
  refine ⟨⟨fun x hx => ?_, by simpa using this⟩, ho⟩
  rcases mem_set_of hx with hx | rfl
  · exact hall _ hx
  · simpa using hall _ (List.getElem_mem hi)

/-- The values that the shop's cells hold. -/
structure Slots where
  t : Value
  v : Value
  b : Value
  k : Value
  s : Value
  w : Value
  hs : List Value

def slotsL (S : Slots) : List Value := [S.t, S.v, S.b, S.k, S.s, S.w]

/-- The shop at block 'p': its block, and a row for each field. -/
structure Shop (w : World) (o : Nat → Nat) (lo : Nat → Prop) (p : Nat) (pty : TypeId) (hd : List Value) (ts : List Tsk) (f : Fl) (S : Slots) : Prop where
  foreign : ∀ b, lo b → o b = 0
  lo : ∀ b, lo b → b < w.heap.size
  hp : o p = 1
  block : w.heap[p]? = some (.cells (hd ++ slotsL S).toArray pty (0, 0))
  tasks : RowO w o 2 74 3 S.t (ts.map cT)
  vats : RowO w o 3 47 8 S.v (f.vats.map cV)
  books : RowO w o 4 59 1 S.b (S.hs.map fun v => #[v])
  hl : S.hs.length = f.books.length
  book : ∀ i v l, S.hs[i]? = some v → f.books[i]? = some l → RowO w o (10 + i) 4 1 v (l.map cBo)
  known : RowO w o 5 4 1 S.k (f.known.map cBo)
  saved : RowO w o 6 4 1 S.s (f.saved.map cBo)
  wire : RowO w o 7 123 2 S.w (f.wire.map cN)

section
variable {w : World} {o : Nat → Nat} {lo : Nat → Prop} {p : Nat} {pty : TypeId} {hd : List Value} {ts : List Tsk} {f : Fl} {S : Slots}

theorem Shop.lt (h : Shop w o lo p pty hd ts f S) : p < w.heap.size := lt_of_block h.block

theorem Shop.pge (h : Shop w o lo p pty hd ts f S) : ¬ lo p := fun e => by have := h.foreign p e; have := h.hp; omega
theorem Shop.ge (h : Shop w o lo p pty hd ts f S) {g : Nat} (hg : o g ≠ 0) : ¬ lo g := fun e => hg (h.foreign g e)

theorem Shop.cell (h : Shop w o lo p pty hd ts f S) {k : Nat} {v : Value} (hv : (hd ++ slotsL S)[k]? = some v) : w.cell? ⟨p, k, none⟩ = some v := by
  rw [cell_of_row _ _ _ _ _ _ h.block]; simpa using hv

theorem Shop.froz (h : Shop w o lo p pty hd ts f S) (k : Nat) : w.frozen? ⟨p, k, none⟩ = false := frozen_of_row _ _ _ _ _ h.block

/-- Nothing of the shop's is changed. -/
theorem Shop.kept {w' : World} (h : Shop w o lo p pty hd ts f S) (hb : Below w.heap.size w w') (id2 : Nat) : Shop w' (oNew o w.heap.size id2) lo p pty hd ts f S := by
  have hm : Moves o (oNew o w.heap.size id2) 999 w w' := Moves.below hb (Nat.le_refl _) id2
  refine ⟨fun b hb' => by rw [oNew_lt (h.lo b hb')]; exact h.foreign b hb', fun b hb' => Nat.lt_of_lt_of_le (h.lo b hb') hb.size, by rw [oNew_lt h.lt]; exact h.hp, by rw [hb.block p h.lt]; exact h.block,
    h.tasks.moves hm (by omega), h.vats.moves hm (by omega), h.books.moves hm (by omega), h.hl, fun i v l hv hl => ?_, h.known.moves hm (by omega), h.saved.moves hm (by omega), h.wire.moves hm (by omega)⟩
  have hr := h.book i v l hv hl
  obtain ⟨⟨hall, hlen, h2⟩, ho⟩ := hr
  rcases h2 with ⟨rfl, h0⟩ | ⟨g, cap, cur, rfl, hb', hh, hnc, hcm, hcs, htk⟩
  · exact ⟨⟨hall, hlen, .inl ⟨rfl, h0⟩⟩, fun g hg => by simp [Value.ownBlock] at hg⟩
  · have hlt := lt_of_block hh
    refine ⟨⟨hall, hlen, .inr ⟨g, cap, cur, rfl, hb', by rw [hb.block g hlt]; exact hh, hnc, hcm, hcs, htk⟩⟩, fun g' hg' => ?_⟩
    have hgo := ho g' hg'
    simp only [Value.ownBlock, Option.some.injEq] at hg'
    subst hg'
    rw [oNew_lt hlt]; exact hgo

def ShopAt (w : World) (lo : Nat → Prop) (p : Nat) (pty : TypeId) (hd : List Value) (ts : List Tsk) (f : Fl) : Prop := ∃ o S, Shop w o lo p pty hd ts f S

/-- A field's cell is written, and its row is another one. -/
theorem Shop.field {w' : World} {o' : Nat → Nat} {id : Nat} (h : Shop w o lo p pty hd ts f S) (hm : Moves o o' id w w') (hlo : ∀ b, lo b → o' b = 0) (hid : 5 ≤ id ∧ id ≤ 7) (k : Nat) (v : Value) (f' : Fl) (S' : Slots)
    (hS : (hd ++ slotsL S).set k v = hd ++ slotsL S') (ht : S'.t = S.t) (hv : S'.v = S.v) (hb : S'.b = S.b) (hh : S'.hs = S.hs) (fv : f'.vats = f.vats) (fb : f'.books = f.books)
    (h5 : (id ≠ 5 ∧ S'.k = S.k ∧ f'.known = f.known) ∨ RowO w' o' 5 4 1 S'.k (f'.known.map cBo))
    (h6 : (id ≠ 6 ∧ S'.s = S.s ∧ f'.saved = f.saved) ∨ RowO w' o' 6 4 1 S'.s (f'.saved.map cBo))
    (h7 : (id ≠ 7 ∧ S'.w = S.w ∧ f'.wire = f.wire) ∨ RowO w' o' 7 123 2 S'.w (f'.wire.map cN)) :
    Shop (w'.setCell ⟨p, k, none⟩ v) o' lo p pty hd ts f' S' := by
  have hop : o' p = 1 := by rw [(hm.2 p h.lt).1]; exact h.hp
  have hm2 : Moves o' o' 1 w' (w'.setCell ⟨p, k, none⟩ v) := Moves.setCell hop v
  have hbl : w'.heap[p]? = some (.cells (hd ++ slotsL S).toArray pty (0, 0)) := by rw [(hm.2 p h.lt).2 (by have := h.hp; omega)]; exact h.block
  refine ⟨hlo, fun b hb' => by have := hm.1; have := h.lo b hb'; simp; omega, hop, ?_, ?_, ?_, ?_, by rw [hh, fb]; exact h.hl, fun i u l hu hl => ?_, ?_, ?_, ?_⟩
  · rw [heap_setCell_same w' p k _ pty v hbl, ← hS]; simp
  · rw [ht]; exact (h.tasks.moves hm (by omega)).moves hm2 (by omega)
  · rw [hv, fv]; exact (h.vats.moves hm (by omega)).moves hm2 (by omega)
  · rw [hb, hh]; exact (h.books.moves hm (by omega)).moves hm2 (by omega)
  · rw [hh] at hu; rw [fb] at hl; exact ((h.book i u l hu hl).moves hm (by omega)).moves hm2 (by omega)
  · rcases h5 with ⟨a, b, c⟩ | a
    · rw [b, c]; exact (h.known.moves hm (by omega)).moves hm2 (by omega)
    · exact a.moves hm2 (by omega)
  · rcases h6 with ⟨a, b, c⟩ | a
    · rw [b, c]; exact (h.saved.moves hm (by omega)).moves hm2 (by omega)
    · exact a.moves hm2 (by omega)
  · rcases h7 with ⟨a, b, c⟩ | a
    · rw [b, c]; exact (h.wire.moves hm (by omega)).moves hm2 (by omega)
    · exact a.moves hm2 (by omega)

/-- A mark in 'Known'. -/
theorem Shop.setKnown {g n c t : Nat} (h : Shop w o lo p pty hd ts f S) (hk : S.k = .slice (some ⟨g, 0, none⟩) n c) (ht : t < f.known.length) :
    Shop (w.setCell ⟨g, t, none⟩ (.bool true)) o lo p pty hd ts { f with known := f.known.set t true } S := by
  have hr := h.known
  rw [hk] at hr
  have hgo : o g = 5 := hr.2 g rfl
  have hm : Moves o o 5 w (w.setCell ⟨g, t, none⟩ (.bool true)) := Moves.setCell (p := ⟨g, t, none⟩) hgo _
  have hs := hr.set (i := t) (j := 0) (by simpa using ht) (by omega) (.bool true)
  rw [Nat.mul_one, Nat.add_zero] at hs
  refine ⟨h.foreign, by simpa using h.lo, h.hp, ?_, h.tasks.moves hm (by omega), h.vats.moves hm (by omega), h.books.moves hm (by omega), h.hl, fun i v l hv hl => (h.book i v l hv hl).moves hm (by omega), ?_, h.saved.moves hm (by omega), h.wire.moves hm (by omega)⟩
  · rw [(hm.2 p h.lt).2 (by have := h.hp; omega)]; exact h.block
  · rw [hk]
    have e : (f.known.set t true).map cBo = (f.known.map cBo).set t (((f.known.map cBo)[t]'(by simpa using ht)).setIfInBounds 0 (.bool true)) := by
      rw [List.map_set]; congr 1
      simp [cBo]
    rw [e]; exact hs

/-- A mark in a book. -/
theorem Shop.setBook {g n c room t : Nat} (h : Shop w o lo p pty hd ts f S) (hroom : room < f.books.length) (hk : S.hs[room]? = some (.slice (some ⟨g, 0, none⟩) n c)) (ht : t < (f.books.getD room []).length) :
    Shop (w.setCell ⟨g, t, none⟩ (.bool true)) o lo p pty hd ts { f with books := bookSet f room t } S := by
  have hl : f.books[room]? = some f.books[room] := List.getElem?_eq_getElem hroom
  have hgd : f.books.getD room [] = f.books[room] := by rw [List.getD_eq_getElem?_getD, hl]; rfl
  rw [hgd] at ht
  have hr := h.book room _ _ hk hl
  have hgo : o g = 10 + room := hr.2 g rfl
  have hm : Moves o o (10 + room) w (w.setCell ⟨g, t, none⟩ (.bool true)) := Moves.setCell (p := ⟨g, t, none⟩) hgo _
  have hs := hr.set (i := t) (j := 0) (by simpa using ht) (by omega) (.bool true)
  rw [Nat.mul_one, Nat.add_zero] at hs
  refine ⟨h.foreign, by simpa using h.lo, h.hp, ?_, h.tasks.moves hm (by omega), h.vats.moves hm (by omega), h.books.moves hm (by omega), by simpa [bookSet] using h.hl, fun i v l hv hl' => ?_, h.known.moves hm (by omega), h.saved.moves hm (by omega), h.wire.moves hm (by omega)⟩
  · rw [(hm.2 p h.lt).2 (by have := h.hp; omega)]; exact h.block
  · by_cases e : i = room
    · subst e
      rw [hk] at hv
      cases hv
      simp only [bookSet, hgd, List.getElem?_set_self hroom, Option.some.injEq] at hl'
      subst hl'
      have e : ((f.books[i]).set t true).map cBo = ((f.books[i]).map cBo).set t ((((f.books[i]).map cBo)[t]'(by simpa using ht)).setIfInBounds 0 (.bool true)) := by
        rw [List.map_set]; congr 1
        simp [cBo]
      rw [e]; exact hs
    · rw [bookSet, List.getElem?_set_ne (by omega)] at hl'
      exact (h.book i v l hv hl').moves hm (by omega)

/-- A vat's number. -/
theorem Shop.setVat {g n c b j : Nat} (h : Shop w o lo p pty hd ts f S) (hk : S.v = .slice (some ⟨g, 0, none⟩) n c) (hb : b < f.vats.length) (hj : j < 8) (z : Int) :
    Shop (w.setCell ⟨g, b * 8 + j, none⟩ (.int .i64 z)) o lo p pty hd ts { f with vats := f.vats.set b ((f.vats.getD b []).set j z) } S := by
  have hgd : f.vats.getD b [] = f.vats[b] := by rw [List.getD_eq_getElem?_getD, List.getElem?_eq_getElem hb]; rfl
  rw [hgd]
  have hr := h.vats
  rw [hk] at hr
  have hgo : o g = 3 := hr.2 g rfl
  have hm : Moves o o 3 w (w.setCell ⟨g, b * 8 + j, none⟩ (.int .i64 z)) := Moves.setCell (p := ⟨g, b * 8 + j, none⟩) hgo _
  have hs := hr.set (i := b) (j := j) (by simpa using hb) hj (.int .i64 z)
  refine ⟨h.foreign, by simpa using h.lo, h.hp, ?_, h.tasks.moves hm (by omega), ?_, h.books.moves hm (by omega), h.hl, fun i v l hv hl => (h.book i v l hv hl).moves hm (by omega), h.known.moves hm (by omega), h.saved.moves hm (by omega), h.wire.moves hm (by omega)⟩
  · rw [(hm.2 p h.lt).2 (by have := h.hp; omega)]; exact h.block
  · rw [hk]
    have e : (f.vats.set b ((f.vats[b]).set j z)).map cV = (f.vats.map cV).set b (((f.vats.map cV)[b]'(by simpa using hb)).setIfInBounds j (.int .i64 z)) := by
      rw [List.map_set]; congr 1
      simp [cV, List.map_set]
    rw [e]; exact hs
end

/-- A row of the call's own, made behind a world, as a row with an owner. -/
theorem Row.owned {w w1 : World} {o : Nat → Nat} {id : Nat} {e : TypeId} {sz : Nat} {v : Value} {xs : List (Array Value)} (h : Row w1 w.heap.size e sz v xs) : RowO w1 (oNew o w.heap.size id) id e sz v xs := by
  obtain ⟨hall, hlen, h2⟩ := h
  rcases h2 with ⟨rfl, h0⟩ | ⟨g, cap, cur, rfl, hb', hh, hnc, hcm, hcs, htk⟩
  · exact ⟨⟨hall, hlen, .inl ⟨rfl, h0⟩⟩, fun g hg => by simp [Value.ownBlock] at hg⟩
  · refine ⟨⟨hall, hlen, .inr ⟨g, cap, cur, rfl, by omega, hh, hnc, hcm, hcs, htk⟩⟩, fun g' hg' => ?_⟩
    simp only [Value.ownBlock, Option.some.injEq] at hg'
    subst hg'
    exact oNew_ge hb'

theorem Try.infoNote : (Try.prog.info? 123).map (fun i => (i.zero, i.size, i.bytes)) = some (some (.agg #[.bool false, .int .i64 0]), 2, 16) := by kernel_rfl

section
variable {w : World} {o : Nat → Nat} {lo : Nat → Prop} {p : Nat} {pty : TypeId} {hd : List Value} {ts : List Tsk} {f : Fl} {S : Slots}

theorem slots_set (hd : List Value) (S : Slots) (v : Value) : (hd ++ slotsL S).set (hd.length + 5) v = hd ++ slotsL { S with w := v } ∧ (hd ++ slotsL S).set (hd.length + 4) v = hd ++ slotsL { S with s := v } ∧ (hd ++ slotsL S).set (hd.length + 3) v = hd ++ slotsL { S with k := v } := by
  refine ⟨?_, ?_, ?_⟩ <;> (rw [List.set_append_right _ _ (by omega)]; simp [slotsL])

/-- A note is appended to the wire, and the wire's field is written. -/
theorem Shop.push (h : Shop w o lo p pty hd ts f S) (ty : TypeId) (n : Nt) (hn : f.wire.length ≤ 10) :
    ∃ A c w', (Builtin.append_ #[60, 60] ty #[S.w, .slice (some ⟨w.heap.size, 0, none⟩) 1 1]).run Try.prog (w.alloc (.cells (cN n) 123)) = .ok (.slice A (f.wire.length + 1) c) w' ∧
      ShopAt (w'.setCell ⟨p, hd.length + 5, none⟩ (.slice A (f.wire.length + 1) c)) lo p pty hd ts { f with wire := f.wire ++ [n] } ∧ Apart lo w w' ∧ (∀ k v, (hd ++ slotsL S)[k]? = some v → w'.cell? ⟨p, k, none⟩ = some v) ∧ (∀ k, w'.frozen? ⟨p, k, none⟩ = false) := by
  obtain ⟨v', w', hr, hrow, hg, hat⟩ := h.wire.1.push_at (P := Try.prog) 60 ty Try.underlying60 Try.infoNote rfl (by omega) (cN n) rfl (cN_one n) (by simp; omega) (by omega) (Nat.zero_le _)
  obtain ⟨A, c, rfl, -, -⟩ := hrow.form
  have hsz : w.heap.size + 1 ≤ w'.heap.size := by have := hg.size; simpa using this
  have hblk : ∀ b, b < w.heap.size → some b ≠ S.w.ownBlock → w'.heap[b]? = w.heap[b]? := fun b hb hne => by
    rw [hg.block b (by simp; omega) hne]; exact ((Below.refl w.heap.size w).alloc (Nat.le_refl _) _).block b hb
  have hm : Moves o (oNew o w.heap.size 7) 7 w w' := ⟨by omega, fun b hb => ⟨oNew_lt hb, fun hne => hblk b hb (fun e => hne (h.wire.2 b e.symm))⟩⟩
  have hrO : RowO w' (oNew o w.heap.size 7) 7 123 2 (.slice A (List.map cN f.wire ++ [cN n]).length c) (List.map cN f.wire ++ [cN n]) := by
    refine ⟨hrow, fun g hg' => ?_⟩
    rcases hat with e | e
    · rw [e] at hg'
      have hog := h.wire.2 g hg'
      have hlt : g < w.heap.size := by
        obtain ⟨hall, hlen, h2⟩ := h.wire.1
        rcases h2 with ⟨e0, -⟩ | ⟨g', cap, cur, e0, -, hh, -⟩
        · rw [e0] at hg'; cases hg'
        · rw [e0] at hg'; cases hg'; exact lt_of_block hh
      rw [oNew_lt hlt]; exact hog
    · rw [e] at hg'; cases hg'; exact oNew_ge (by omega)
  have hlen : (List.map cN f.wire ++ [cN n]).length = f.wire.length + 1 := by simp
  rw [hlen] at hr hrO
  have hop : o p = 1 := h.hp
  refine ⟨A, c, w', hr, ⟨oNew o w.heap.size 7, { S with w := .slice A (f.wire.length + 1) c }, ?_⟩, ?_, ?_, ?_⟩
  · exact h.field hm (fun b hb => by rw [oNew_lt (h.lo b hb)]; exact h.foreign b hb) (by omega) _ _ _ { S with w := .slice A (f.wire.length + 1) c } (slots_set hd S _).1 rfl rfl rfl rfl rfl rfl
      (.inl ⟨by omega, rfl, rfl⟩) (.inl ⟨by omega, rfl, rfl⟩) (.inr (by simpa using hrO))
  · have hb0 : Apart lo w (w.alloc (.cells (cN n) 123)) := (Apart.refl lo w).alloc _
    exact hb0.grown hg fun k hk => h.ge (by have := h.wire.2 k hk; omega)
  · intro k v hv
    rw [World.cell?_of_block (w := w) (a := ⟨p, k, none⟩) ((hm.2 p h.lt).2 (by omega))]
    exact h.cell hv
  · intro k
    rw [World.frozen?_of_block (w := w) (a := ⟨p, k, none⟩) ((hm.2 p h.lt).2 (by omega))]
    exact h.froz k
end
end Go.Proofs.Ytomcffionomidaa
