/- Slices whose block lies between two bounds, and steps that turn nothing beyond such bounds. -/
import Derived.Test.YtomcffionomidaaRow
namespace Go.Proofs.Ytomcffionomidaa
open Go.RowKit

/-- Of the blocks that were there, only those from 'lo' on and below 'hi' may have turned. -/
structure Kept (lo hi : Nat) (w w' : World) : Prop where
  os : w'.os = w.os
  tape : w'.tape = w.tape
  output : w'.output = w.output
  size : w.heap.size ≤ w'.heap.size
  block : ∀ k, k < w.heap.size → (k < lo ∨ hi ≤ k) → w'.heap[k]? = w.heap[k]?

theorem Kept.cell {lo hi : Nat} {w w' : World} (h : Kept lo hi w w') {p : Addr} (hp : p.block < w.heap.size) (ho : p.block < lo ∨ hi ≤ p.block) : w'.cell? p = w.cell? p := World.cell?_of_block (w := w) (h.block _ hp ho)
theorem Kept.frozen {lo hi : Nat} {w w' : World} (h : Kept lo hi w w') {p : Addr} (hp : p.block < w.heap.size) (ho : p.block < lo ∨ hi ≤ p.block) : w'.frozen? p = w.frozen? p := World.frozen?_of_block (w := w) (h.block _ hp ho)
theorem Kept.below {lo hi B : Nat} {w w' : World} (h : Kept lo hi w w') (hB : B ≤ lo) (hw : B ≤ w.heap.size) : Below B w w' := ⟨h.os, h.tape, h.output, h.size, fun k hk => h.block k (by omega) (.inl (by omega))⟩
theorem Kept.refl (lo hi : Nat) (w : World) : Kept lo hi w w := ⟨rfl, rfl, rfl, Nat.le_refl _, fun _ _ _ => rfl⟩
theorem Kept.then {lo hi : Nat} {w w1 w2 : World} (h : Kept lo hi w w1) (k : Below w1.heap.size w1 w2) : Kept lo hi w w2 :=
  ⟨k.os.trans h.os, k.tape.trans h.tape, k.output.trans h.output, Nat.le_trans h.size k.size, fun b hb ho => (k.block b (Nat.lt_of_lt_of_le hb h.size)).trans (h.block b hb ho)⟩
theorem Kept.after {lo hi : Nat} {w w1 w2 : World} (h : Below w.heap.size w w1) (k : Kept lo hi w1 w2) : Kept lo hi w w2 :=
  ⟨k.os.trans h.os, k.tape.trans h.tape, k.output.trans h.output, Nat.le_trans h.size k.size, fun b hb ho => (k.block b (Nat.lt_of_lt_of_le hb h.size) ho).trans (h.block b hb)⟩

/-- A slice that is read; its block lies from 'lo' on and below 'hi'. -/
def SlIn (w : World) (lo hi sz : Nat) (A : Option Addr) (xs : List (Array Value)) : Prop :=
  (∀ x ∈ xs, x.size = sz) ∧ (0 < xs.length → ∃ g o, A = some ⟨g, o, none⟩ ∧ lo ≤ g ∧ g < hi ∧ g < w.heap.size ∧ ∀ i x, xs[i]? = some x → w.rangeAt g (o + i * sz) x.toList)

theorem SlIn.at {w : World} {lo hi sz : Nat} {A : Option Addr} {xs : List (Array Value)} (h : SlIn w lo hi sz A xs) : SlAt w sz A xs :=
  ⟨h.1, fun hn => by obtain ⟨g, o, e, _, _, hg, hc⟩ := h.2 hn; exact ⟨g, o, e, hg, hc⟩⟩
theorem SlIn.below {w w' : World} {lo hi sz B : Nat} {A : Option Addr} {xs : List (Array Value)} (h : SlIn w lo hi sz A xs) (hb : Below B w w') (hB : hi ≤ B) : SlIn w' lo hi sz A xs :=
  ⟨h.1, fun hn => by
    obtain ⟨g, o, e, h1, h2, hg, hc⟩ := h.2 hn
    exact ⟨g, o, e, h1, h2, Nat.lt_of_lt_of_le hg hb.size, fun i x hx => rangeAt_below (hc i x hx) hb (by omega)⟩⟩
theorem SlIn.kept {w w' : World} {lo hi lo' hi' sz : Nat} {A : Option Addr} {xs : List (Array Value)} (h : SlIn w lo hi sz A xs) (hk : Kept lo' hi' w w') (ho : hi ≤ lo' ∨ hi' ≤ lo) : SlIn w' lo hi sz A xs :=
  ⟨h.1, fun hn => by
    obtain ⟨g, o, e, h1, h2, hg, hc⟩ := h.2 hn
    exact ⟨g, o, e, h1, h2, Nat.lt_of_lt_of_le hg hk.size, fun i x hx j v hv => (hk.cell (p := ⟨g, _, none⟩) hg (by show g < lo' ∨ hi' ≤ g; omega)).trans (hc i x hx j v hv)⟩⟩
theorem SlAt.in {w : World} {sz : Nat} {A : Option Addr} {xs : List (Array Value)} (h : SlAt w sz A xs) : SlIn w 0 w.heap.size sz A xs :=
  ⟨h.1, fun hn => by obtain ⟨g, o, e, hg, hc⟩ := h.2 hn; exact ⟨g, o, e, Nat.zero_le _, hg, hg, hc⟩⟩

/-- A slice at the head of its own block, which may be written. -/
def OwnIn (w : World) (lo hi sz : Nat) (A : Option Addr) (xs : List (Array Value)) : Prop :=
  (∀ x ∈ xs, x.size = sz) ∧ (0 < xs.length → ∃ g, A = some ⟨g, 0, none⟩ ∧ lo ≤ g ∧ g < hi ∧ g < w.heap.size ∧ (∀ i x, xs[i]? = some x → w.rangeAt g (i * sz) x.toList) ∧ w.there g 0 (xs.length * sz))

theorem OwnSl.in {w : World} {base sz : Nat} {A : Option Addr} {xs : List (Array Value)} (h : OwnSl w base sz A xs) : OwnIn w base w.heap.size sz A xs :=
  ⟨h.1, fun hn => by obtain ⟨g, e, h1, h2, hc, ht⟩ := h.2 hn; exact ⟨g, e, h1, h2, h2, hc, ht⟩⟩
theorem OwnIn.own {w : World} {lo hi sz : Nat} {A : Option Addr} {xs : List (Array Value)} (h : OwnIn w lo hi sz A xs) : OwnSl w lo sz A xs :=
  ⟨h.1, fun hn => by obtain ⟨g, e, h1, _, h2, hc, ht⟩ := h.2 hn; exact ⟨g, e, h1, h2, hc, ht⟩⟩
theorem OwnIn.sl {w : World} {lo hi sz : Nat} {A : Option Addr} {xs : List (Array Value)} (h : OwnIn w lo hi sz A xs) : SlIn w lo hi sz A xs :=
  ⟨h.1, fun hn => by obtain ⟨g, e, h1, h2, h3, hc, _⟩ := h.2 hn; exact ⟨g, 0, e, h1, h2, h3, fun i x hx => by simpa using hc i x hx⟩⟩
theorem OwnIn.below {w w' : World} {lo hi sz B : Nat} {A : Option Addr} {xs : List (Array Value)} (h : OwnIn w lo hi sz A xs) (hb : Below B w w') (hB : hi ≤ B) : OwnIn w' lo hi sz A xs :=
  ⟨h.1, fun hn => by
    obtain ⟨g, e, h1, h2, h3, hc, ht⟩ := h.2 hn
    exact ⟨g, e, h1, h2, Nat.lt_of_lt_of_le h3 hb.size, fun i x hx => rangeAt_below (hc i x hx) hb (by omega), there_below ht hb (by omega)⟩⟩
theorem OwnIn.kept {w w' : World} {lo hi lo' hi' sz : Nat} {A : Option Addr} {xs : List (Array Value)} (h : OwnIn w lo hi sz A xs) (hk : Kept lo' hi' w w') (ho : hi ≤ lo' ∨ hi' ≤ lo) : OwnIn w' lo hi sz A xs :=
  ⟨h.1, fun hn => by
    obtain ⟨g, e, h1, h2, h3, hc, ht⟩ := h.2 hn
    have hg : g < lo' ∨ hi' ≤ g := by omega
    exact ⟨g, e, h1, h2, Nat.lt_of_lt_of_le h3 hk.size, fun i x hx j v hv => (hk.cell (p := ⟨g, _, none⟩) h3 hg).trans (hc i x hx j v hv),
      fun j hj => by rw [hk.cell (p := ⟨g, 0 + j, none⟩) h3 hg, hk.frozen (p := ⟨g, 0 + j, none⟩) h3 hg]; exact ht j hj⟩⟩
end Go.Proofs.Ytomcffionomidaa
