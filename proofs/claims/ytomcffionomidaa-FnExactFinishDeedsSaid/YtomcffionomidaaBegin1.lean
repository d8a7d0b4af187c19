/- One book more. -/
import Derived.Test.YtomcffionomidaaBegin0
namespace Go.Proofs.Ytomcffionomidaa
open Go.RowKit

theorem Try.infoBools : (Try.prog.info? 59).map (fun i => (i.zero, i.size, i.bytes)) = some (some (.slice none 0 0), 1, 24) := by kernel_rfl

theorem slots_setB (hd : List Value) (S : Slots) (v : Value) (hs : List Value) : (hd ++ slotsL S).set (hd.length + 2) v = hd ++ slotsL { S with b := v, hs := hs } := by
  rw [List.set_append_right _ _ (by omega)]; simp [slotsL]

section
variable {w : World} {o : Nat → Nat} {lo : Nat → Prop} {p : Nat} {pty : TypeId} {hd : List Value} {ts : List Tsk} {f : Fl} {S : Slots}

theorem Shop.pushBook (h : Shop w o lo p pty hd ts f S) (ty : TypeId) (n : Nat) (hn : n ≤ 48) (hk : f.books.length ≤ 4) :
    ∃ A c w', (Builtin.append_ #[58, 58] ty #[S.b, .slice (some ⟨w.heap.size + 1, 0, none⟩) 1 1]).run Try.prog ((w.alloc (.cells (madeCells zB n) 4)).alloc (.cells #[.slice (some ⟨w.heap.size, 0, none⟩) n n] 59)) = .ok (.slice A (f.books.length + 1) c) w' ∧
      ShopAt (w'.setCell ⟨p, hd.length + 2, none⟩ (.slice A (f.books.length + 1) c)) lo p pty hd ts { f with books := f.books ++ [List.replicate n false] } ∧ Apart lo w w' ∧ (∀ k v, (hd ++ slotsL S)[k]? = some v → w'.cell? ⟨p, k, none⟩ = some v) ∧ (∀ k, w'.frozen? ⟨p, k, none⟩ = false) := by
  obtain ⟨w1, hw1⟩ : ∃ w1, w.alloc (.cells (madeCells zB n) 4) = w1 := ⟨_, rfl⟩
  have hb1 : Below w.heap.size w w1 := by rw [← hw1]; exact (Below.refl _ _).alloc (Nat.le_refl _) _
  have hz1 : w1.heap.size = w.heap.size + 1 := by rw [← hw1]; simp
  have hH : w1.heap[w.heap.size]? = some (.cells (madeCells zB n) 4) := by rw [← hw1]; exact heap_alloc_new w _
  have h1 := h.kept hb1 (10 + f.books.length)
  have hop1 : oNew o w.heap.size (10 + f.books.length) p = 1 := h1.hp
  rw [hw1, ← hz1]
  have hlen : (S.hs.map fun v => (#[v] : Array Value)).length = f.books.length := by simp [h.hl]
  obtain ⟨v', w', hr, hrow, hg, hat⟩ := h1.books.1.push_at (P := Try.prog) 58 ty Try.underlying58 Try.infoBools rfl (by omega) #[.slice (some ⟨w.heap.size, 0, none⟩) n n] rfl (by simp [Value.oneCell']) (by rw [hlen]; omega) (by omega) (Nat.zero_le _)
  obtain ⟨A, c, rfl, -, -⟩ := hrow.form
  obtain ⟨o1, ho1⟩ : ∃ o1, oNew o w.heap.size (10 + f.books.length) = o1 := ⟨_, rfl⟩
  rw [ho1] at h1 hop1
  have hsz : w1.heap.size + 1 ≤ w'.heap.size := by have := hg.size; simpa using this
  have hblk : ∀ b, b < w1.heap.size → some b ≠ S.b.ownBlock → w'.heap[b]? = w1.heap[b]? := fun b hb hne => by
    rw [hg.block b (by simp; omega) hne]; exact ((Below.refl w1.heap.size w1).alloc (Nat.le_refl _) _).block b hb
  have hm : Moves o1 (oNew o1 w1.heap.size 4) 4 w1 w' := ⟨by omega, fun b hb => ⟨oNew_lt hb, fun hne => hblk b hb (fun e => hne (h1.books.2 b e.symm))⟩⟩
  have hrO : RowO w' (oNew o1 w1.heap.size 4) 4 59 1 (.slice A ((S.hs.map fun v => (#[v] : Array Value)) ++ [#[Value.slice (some ⟨w.heap.size, 0, none⟩) n n]]).length c) ((S.hs.map fun v => (#[v] : Array Value)) ++ [#[Value.slice (some ⟨w.heap.size, 0, none⟩) n n]]) := by
    refine ⟨hrow, fun g hg' => ?_⟩
    rcases hat with e | e
    · rw [e] at hg'
      have hog := h1.books.2 g hg'
      rw [oNew_lt (h1.books.1.own_lt g hg')]; exact hog
    · rw [e] at hg'; cases hg'; exact oNew_ge (by omega)
  have hl2 : ((S.hs.map fun v => (#[v] : Array Value)) ++ [#[Value.slice (some ⟨w.heap.size, 0, none⟩) n n]]).length = f.books.length + 1 := by simp [h.hl]
  rw [hl2] at hr hrO
  obtain ⟨o2, ho2⟩ : ∃ o2, oNew o1 w1.heap.size 4 = o2 := ⟨_, rfl⟩
  rw [ho2] at hm hrO
  have hlo2 : ∀ b, lo b → o2 b = 0 := fun b hb => by rw [← ho2, oNew_lt (h1.lo b hb)]; exact h1.foreign b hb
  have hop2 : o2 p = 1 := by rw [(hm.2 p h1.lt).1]; exact h1.hp
  have hbl : w'.heap[p]? = some (.cells (hd ++ slotsL S).toArray pty (0, 0)) := by rw [(hm.2 p h1.lt).2 (by omega)]; exact h1.block
  have hm2 : Moves o2 o2 1 w' (w'.setCell ⟨p, hd.length + 2, none⟩ (.slice A (f.books.length + 1) c)) := Moves.setCell hop2 _
  have oH : o1 w.heap.size = 10 + f.books.length := by rw [← ho1]; exact oNew_ge (Nat.le_refl _)
  have hnew : RowO w1 o1 (10 + f.books.length) 4 1 (.slice (some ⟨w.heap.size, 0, none⟩) n n) ((List.replicate n false).map cBo) := by
    refine ⟨?_, fun g hg => ?_⟩
    · rw [zB_map]; exact Row.ofBlock (by rw [Nat.mul_one]; exact hH) (Nat.zero_le _) rfl (by omega) (by omega)
    · simp only [Value.ownBlock, Option.some.injEq] at hg; rw [← hg]; exact oH
  refine ⟨A, c, w', hr, ⟨o2, { S with b := .slice A (f.books.length + 1) c, hs := S.hs ++ [.slice (some ⟨w.heap.size, 0, none⟩) n n] }, ?_⟩, ?_, ?_, ?_⟩
  · refine ⟨hlo2, fun b hb => by have := h1.lo b hb; simp; omega, hop2, ?_, (h1.tasks.moves hm (by omega)).moves hm2 (by omega), (h1.vats.moves hm (by omega)).moves hm2 (by omega), ?_, by simp [h.hl], fun i v l hv hl => ?_, (h1.known.moves hm (by omega)).moves hm2 (by omega), (h1.saved.moves hm (by omega)).moves hm2 (by omega), (h1.wire.moves hm (by omega)).moves hm2 (by omega)⟩
    · rw [heap_setCell_same w' p _ _ pty _ hbl, ← slots_setB hd S]; simp [slotsL]
    · have := hrO.moves hm2 (by omega)
      simpa using this
    · rcases Nat.lt_or_ge i f.books.length with hi | hi
      · rw [List.getElem?_append_left (by rw [h.hl]; exact hi)] at hv
        rw [List.getElem?_append_left hi] at hl
        exact ((h1.book i v l hv hl).moves hm (by omega)).moves hm2 (by omega)
      · rw [List.getElem?_append_right (by rw [h.hl]; exact hi), h.hl] at hv
        rw [List.getElem?_append_right hi] at hl
        have hi0 : i - f.books.length = 0 := by
          rcases Nat.eq_zero_or_pos (i - f.books.length) with e | e
          · exact e
          · rw [List.getElem?_eq_none (by simp; omega)] at hl; cases hl
        rw [hi0] at hv hl
        simp at hv hl
        subst hv; subst hl
        obtain rfl : i = f.books.length := by omega
        exact (hnew.moves hm (by omega)).moves hm2 (by omega)
  · have hb0 : Apart lo w (w1.alloc (.cells #[.slice (some ⟨w.heap.size, 0, none⟩) n n] 59)) := (belAp hb1).alloc _
    exact hb0.grown hg fun k hk => h1.ge (by have := h1.books.2 k hk; omega)
  · intro k v hv
    rw [World.cell?_of_block (w := w1) (a := ⟨p, k, none⟩) ((hm.2 p h1.lt).2 (by omega))]
    exact h1.cell hv
  · intro k
    rw [World.frozen?_of_block (w := w1) (a := ⟨p, k, none⟩) ((hm.2 p h1.lt).2 (by omega))]
    exact h1.froz k
end
end Go.Proofs.Ytomcffionomidaa
