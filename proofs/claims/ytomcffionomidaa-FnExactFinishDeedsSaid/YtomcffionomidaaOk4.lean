/- Valid works, by the reference. -/
import Derived.Test.YtomcffionomidaaOk3
namespace Go.Proofs.Ytomcffionomidaa
open Go.RowKit

theorem l07Name_is {s : ByteArray} {b : Bool} (h : okName s = b) (hs : s.size ≤ 9223372036854775807) (w : World) : Calls Try.prog 83 #[.string s] w (BoolSame b w) := h ▸ l07Name_any s hs w
theorem l07Drops_is {d : List Int} {b : Bool} (h : okDrops d = b) (h8 : d.length = 8) (w : World) : Calls Try.prog 85 #[.agg (cV d)] w (BoolBel b w) := h ▸ l07Drops_any d h8 w

theorem firstAt_place (bs : List Bat) (i : Nat) (s : ByteArray) : firstAt bs i s = decide (placeOf (bs.take i) s = -1) := by
  unfold placeOf
  cases h : (bs.take i).findIdx? fun b => b.name.toList == s.toList with
  | some k =>
    obtain ⟨hk, hk', _⟩ := List.findIdx?_eq_some_iff_getElem.1 h
    have : firstAt bs i s = false := by
      unfold firstAt; rw [List.all_eq_false]; exact ⟨_, List.getElem_mem hk, by simpa using hk'⟩
    rw [this]; simp
  | none =>
    rw [List.findIdx?_eq_none_iff] at h
    have : firstAt bs i s = true := by
      unfold firstAt; rw [List.all_eq_true]; exact fun x hx => by simpa using h x hx
    rw [this]; simp
theorem placeOf_ge (bs : List Bat) (s : ByteArray) : placeOf bs s = -1 ∨ 0 ≤ placeOf bs s := by
  unfold placeOf; split <;> omega

theorem Try.sizeVat : (Try.prog.info? 47).map (·.size) = some 8 := by kernel_rfl
theorem cV_size (d : List Int) : (cV d).size = d.length := by simp [cV]

theorem l07Find_take (A : Option Addr) (c : Nat) (bs : List Bat) (k : Nat) (hk : k ≤ bs.length) (s : ByteArray) (w : World) (hA : SlAt w 9 A (bs.map cB)) (hn : bs.length ≤ 140737488355328) :
    Calls Try.prog 84 #[.slice A k c, .string s] w fun e w' => e = .returned (.int .i64 (placeOf (bs.take k) s)) ∧ w = w' := by
  have h := l07Find_any A c (bs.take k) s w (by rw [List.map_take]; exact hA.take k) (by simp; omega)
  rwa [List.length_take, Nat.min_eq_left hk] at h

theorem l07Find_is {A : Option Addr} {c : Nat} {bs : List Bat} {k : Nat} {s : ByteArray} {n : Int} (h : placeOf (bs.take k) s = n) (hk : k ≤ bs.length) (w : World) (hA : SlAt w 9 A (bs.map cB)) (hn : bs.length ≤ 140737488355328) :
    Calls Try.prog 84 #[.slice A k c, .string s] w fun e w' => e = .returned (.int .i64 n) ∧ w = w' := h ▸ l07Find_take A c bs k hk s w hA hn

/-- The cells of one batch. -/
theorem SlAt.batch {w : World} {A : Option Addr} {bs : List Bat} (h : SlAt w 9 A (bs.map cB)) {k : Nat} (hk : k < bs.length) :
    ∃ g o, A = some ⟨g, o, none⟩ ∧ g < w.heap.size ∧ w.cell? ⟨g, o + k * 9, none⟩ = some (.string bs[k].name) ∧ w.rangeAt g (o + k * 9 + 1) (cV bs[k].d).toList ∧ ∀ j (hj : j < bs[k].d.length), w.cell? ⟨g, o + k * 9 + 1 + j, none⟩ = some (.int .i64 bs[k].d[j]) := by
  obtain ⟨g, o, e, hg, hc⟩ := h.cell (k := k) (by simpa using hk)
  simp only [List.getElem_map] at hc
  refine ⟨g, o, e, hg, by simpa using hc 0 _ (cB_zero _), fun j v hv => ?_, fun j hj => ?_⟩
  · have hj : j < bs[k].d.length := by simpa [cV] using (List.getElem?_eq_some_iff.1 hv).1
    rw [show (cV bs[k].d).toList[j]? = some (.int .i64 bs[k].d[j]) from by simpa using cV_at _ j hj] at hv
    injection hv with e
    subst e
    have := hc (j + 1) _ (cB_succ bs[k] j hj)
    rw [show o + k * 9 + 1 + j = o + k * 9 + (j + 1) by omega, this]
  · have := hc (j + 1) _ (cB_succ bs[k] j hj)
    rw [show o + k * 9 + 1 + j = o + k * 9 + (j + 1) by omega, this]

end Go.Proofs.Ytomcffionomidaa
