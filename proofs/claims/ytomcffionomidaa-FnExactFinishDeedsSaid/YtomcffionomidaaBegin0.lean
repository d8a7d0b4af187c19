/- What a shop is made of: rows made by 'make'; a shop in the beginning; one book more. -/
import Derived.Test.YtomcffionomidaaSpWire2
namespace Go.Proofs.Ytomcffionomidaa
open Go.RowKit

theorem madeCells_at (z : Array Value) (n j : Nat) (hj : j < n) : (madeCells z n)[j]? = some z[j % z.size]! := by
  simp [madeCells, hj]

theorem madeCells_flat (z : Array Value) (sz n : Nat) (hz : z.size = sz) (h0 : 0 < sz) : (madeCells z (n * sz)).toList = (List.replicate n z).flatMap Array.toList := by
  have hall : ∀ x ∈ List.replicate n z, x.size = sz := fun x hx => by rw [List.mem_replicate] at hx; rw [hx.2]; exact hz
  apply List.ext_getElem?
  intro j
  rcases Nat.lt_or_ge j (n * sz) with hj | hj
  · have hi : j / sz < n := by rw [Nat.div_lt_iff_lt_mul h0]; exact hj
    have hm : j % sz < sz := Nat.mod_lt _ h0
    have he : j / sz * sz + j % sz = j := by rw [Nat.mul_comm]; exact Nat.div_add_mod j sz
    have h1 := flat_at hall (j / sz) z (j % sz) z[j % sz]! (by simp [hi]) (by rw [Array.getElem?_eq_getElem (by omega)]; simp [hz, hm])
    rw [he] at h1
    rw [h1]
    have := madeCells_at z (n * sz) j hj
    rw [hz] at this
    simpa using this
  · rw [List.getElem?_eq_none (by simp [size_madeCells]; omega), List.getElem?_eq_none (by rw [flat_len hall]; simp; omega)]

theorem Row.ofBlock {w : World} {base : Nat} {e : TypeId} {sz g n : Nat} {z : Array Value} (hh : w.heap[g]? = some (.cells (madeCells z (n * sz)) e)) (hb : base ≤ g) (hz : z.size = sz) (h0 : 0 < sz) (hn : n ≤ 1048576) :
    Row w base e sz (.slice (some ⟨g, 0, none⟩) n n) (List.replicate n z) := by
  have hall : ∀ x ∈ List.replicate n z, x.size = sz := fun x hx => by rw [List.mem_replicate] at hx; rw [hx.2]; exact hz
  refine ⟨hall, by rw [flat_len hall], .inr ⟨g, n, _, by rw [List.length_replicate], hb, hh, by simp, by unfold maxLen; omega, size_madeCells _ _, ?_⟩⟩
  rw [madeCells_flat z sz n hz h0, List.take_of_length_le (by rw [flat_len hall]; exact Nat.le_refl _)]

theorem alloc3 (W : World) (a b c : Obj) : (((W.alloc a).alloc b).alloc c).heap[W.heap.size]? = some a ∧ (((W.alloc a).alloc b).alloc c).heap[W.heap.size + 1]? = some b ∧ (((W.alloc a).alloc b).alloc c).heap[W.heap.size + 2]? = some c := by
  simp only [World.alloc]
  refine ⟨?_, ?_, ?_⟩
  · rw [Array.getElem?_push_lt (by simp; omega), Array.getElem_push_lt (by simp), Array.getElem_push_eq]
  · rw [Array.getElem?_push_lt (by simp), Array.getElem_push, dif_neg (by simp)]
  · rw [Array.getElem?_push, if_pos (by simp)]

theorem below3 (W : World) (a b c : Obj) : Below W.heap.size W (((W.alloc a).alloc b).alloc c) := (((Below.refl _ _).alloc (Nat.le_refl _) _).alloc (by simp) _).alloc (by simp; omega) _

def floorN (nb n k : Nat) : Fl := ⟨List.replicate nb (List.replicate 8 0), List.replicate k (List.replicate n false), List.replicate n false, List.replicate n false, []⟩
theorem floorN_done (r nb n : Nat) : floorN nb n r = floor0 r nb n := rfl

def zV : Array Value := #[.int .i64 0, .int .i64 0, .int .i64 0, .int .i64 0, .int .i64 0, .int .i64 0, .int .i64 0, .int .i64 0]
def zB : Array Value := #[.bool false]
theorem zV_map (n : Nat) : (List.replicate n (List.replicate 8 (0 : Int))).map cV = List.replicate n zV := by rw [List.map_replicate]; rfl
theorem zB_map (n : Nat) : (List.replicate n false).map cBo = List.replicate n zB := by rw [List.map_replicate]; rfl

section
variable {w : World} {lo p : Nat} {pty : TypeId} {hd : List Value} {ts : List Tsk} {vt : Value}

/-- Three rows of a shop that has none yet. -/
theorem shop_begin {w3 : World} {g1 g2 g3 nb n : Nat} (hp : lo ≤ p) (hblk : w.heap[p]? = some (.cells (hd ++ [vt, .slice none 0 0, .slice none 0 0, .slice none 0 0, .slice none 0 0, .slice none 0 0]).toArray pty (0, 0)))
    (ht : Row w lo 74 3 vt (ts.map cT)) (htp : vt.ownBlock ≠ some p) (hb : Below w.heap.size w w3) (h1 : w3.heap[g1]? = some (.cells (madeCells zV (nb * 8)) 47)) (h2 : w3.heap[g2]? = some (.cells (madeCells zB n) 4)) (h3 : w3.heap[g3]? = some (.cells (madeCells zB n) 4))
    (b1 : w.heap.size ≤ g1) (b2 : w.heap.size ≤ g2) (b3 : w.heap.size ≤ g3) (d12 : g1 ≠ g2) (d13 : g1 ≠ g3) (d23 : g2 ≠ g3) (hnb : nb ≤ 1048576) (hn : n ≤ 1048576) :
    ShopAt (((((w3.setCell ⟨p, hd.length + 1, none⟩ (.slice (some ⟨g1, 0, none⟩) nb nb)).setCell ⟨p, hd.length + 2, none⟩ (.slice none 0 0)).setCell ⟨p, hd.length + 3, none⟩ (.slice (some ⟨g2, 0, none⟩) n n)).setCell ⟨p, hd.length + 4, none⟩ (.slice (some ⟨g3, 0, none⟩) n n)).setCell ⟨p, hd.length + 5, none⟩ (.slice none 0 0)) (under lo) p pty hd ts (floorN nb n 0) := by
  have hpw := lt_of_block hblk
  let o : Nat → Nat := fun b => if b < lo then 0 else if b = p then 1 else if b = g1 then 3 else if b = g2 then 5 else if b = g3 then 6 else if vt.ownBlock = some b then 2 else 0
  have op : o p = 1 := by simp only [o]; rw [if_neg (by omega)]; rfl
  have o1 : o g1 = 3 := by simp only [o]; rw [if_neg (by omega), if_neg (by omega)]; rfl
  have o2 : o g2 = 5 := by simp only [o]; rw [if_neg (by omega), if_neg (by omega), if_neg (by omega)]; rfl
  have o3 : o g3 = 6 := by simp only [o]; rw [if_neg (by omega), if_neg (by omega), if_neg (by omega), if_neg (by omega)]; rfl
  have ht3 : Row w3 lo 74 3 vt (ts.map cT) := ht.kept hb
  have hbl3 : w3.heap[p]? = some (.cells (hd ++ [vt, .slice none 0 0, .slice none 0 0, .slice none 0 0, .slice none 0 0, .slice none 0 0]).toArray pty (0, 0)) := by rw [hb.block p hpw]; exact hblk
  have st : ∀ (W : World) (k : Nat) (v : Value), Moves o o 1 W (W.setCell ⟨p, k, none⟩ v) := fun W k v => Moves.setCell op v
  have hmv : ∀ {id : Nat} {e : TypeId} {sz : Nat} {v : Value} {xs : List (Array Value)}, RowO w3 o id e sz v xs → id ≠ 1 → RowO (((((w3.setCell ⟨p, hd.length + 1, none⟩ (.slice (some ⟨g1, 0, none⟩) nb nb)).setCell ⟨p, hd.length + 2, none⟩ (.slice none 0 0)).setCell ⟨p, hd.length + 3, none⟩ (.slice (some ⟨g2, 0, none⟩) n n)).setCell ⟨p, hd.length + 4, none⟩ (.slice (some ⟨g3, 0, none⟩) n n)).setCell ⟨p, hd.length + 5, none⟩ (.slice none 0 0)) o id e sz v xs :=
    fun h hne => ((((h.moves (st _ _ _) hne).moves (st _ _ _) hne).moves (st _ _ _) hne).moves (st _ _ _) hne).moves (st _ _ _) hne
  have hrow : ∀ {id : Nat} {e : TypeId} {sz : Nat} {v : Value} {xs : List (Array Value)}, Row w3 lo e sz v xs → (∀ g, v.ownBlock = some g → o g = id) → RowO w3 o id e sz v xs := fun h ho => ⟨h.base (Nat.zero_le _), ho⟩
  refine ⟨o, ⟨vt, .slice (some ⟨g1, 0, none⟩) nb nb, .slice none 0 0, .slice (some ⟨g2, 0, none⟩) n n, .slice (some ⟨g3, 0, none⟩) n n, .slice none 0 0, []⟩, ?_⟩
  have hone : ∀ g h c k, (∀ g', (Value.slice (some ⟨g, 0, none⟩) h c).ownBlock = some g' → o g' = k) ↔ o g = k := fun g h c k => by simp [Value.ownBlock]
  refine ⟨fun b (hb' : b < lo) => by simp only [o]; rw [if_pos hb'], fun b (hb' : b < lo) => by simp; have := hb.size; omega, op, ?_, hmv (hrow ht3 fun g hg => ?_) (by omega), hmv (hrow ?_ ((hone _ _ _ _).2 o1)) (by omega), hmv (hrow (Row.nil _ _ _ _) (by simp [Value.ownBlock])) (by omega), rfl, fun i v l hv => by simp at hv,
    hmv (hrow ?_ ((hone _ _ _ _).2 o2)) (by omega), hmv (hrow ?_ ((hone _ _ _ _).2 o3)) (by omega), hmv (hrow (Row.nil _ _ _ _) (by simp [Value.ownBlock])) (by omega)⟩
  · have e1 := heap_setCell_same w3 p (hd.length + 1) _ pty (.slice (some ⟨g1, 0, none⟩) nb nb) hbl3
    have e2 := heap_setCell_same _ p (hd.length + 2) _ pty (.slice none 0 0) e1
    have e3 := heap_setCell_same _ p (hd.length + 3) _ pty (.slice (some ⟨g2, 0, none⟩) n n) e2
    have e4 := heap_setCell_same _ p (hd.length + 4) _ pty (.slice (some ⟨g3, 0, none⟩) n n) e3
    have e5 := heap_setCell_same _ p (hd.length + 5) _ pty (.slice none 0 0) e4
    rw [e5]
    simp [slotsL, List.set_append_right]
  · obtain ⟨hall, hlen, h2'⟩ := ht
    rcases h2' with ⟨e0, -⟩ | ⟨g', cap, cur, e0, hbg, hh, -⟩
    · rw [e0] at hg; cases hg
    · have hgg : g = g' := by rw [e0] at hg; simpa [Value.ownBlock] using hg.symm
      subst hgg
      have hlt := lt_of_block hh
      have hne : g ≠ p := fun e => htp (by rw [hg, e])
      simp only [o]
      rw [if_neg (by omega), if_neg hne, if_neg (by omega), if_neg (by omega), if_neg (by omega), if_pos hg]
  · rw [show (floorN nb n 0).vats.map cV = List.replicate nb zV from zV_map nb]; exact Row.ofBlock h1 (by omega) rfl (by omega) hnb
  · rw [show (floorN nb n 0).known.map cBo = List.replicate n zB from zB_map n]; exact Row.ofBlock (by rw [Nat.mul_one]; exact h2) (by omega) rfl (by omega) hn
  · rw [show (floorN nb n 0).saved.map cBo = List.replicate n zB from zB_map n]; exact Row.ofBlock (by rw [Nat.mul_one]; exact h3) (by omega) rfl (by omega) hn
end
end Go.Proofs.Ytomcffionomidaa
