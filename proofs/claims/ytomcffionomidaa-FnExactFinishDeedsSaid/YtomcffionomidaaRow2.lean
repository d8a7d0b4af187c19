/- Appending a whole slice to a row of the call's own; slices.Clone. -/
import Derived.Test.YtomcffionomidaaShop
import Derived.Laws.OwnMore
import Derived.Deep.DeepAppendRoom
import Derived.Lib.SliceRun
import Derived.Lib.BufferMore
import Derived.Test.YtomcffionomidaaCome
namespace Go.Proofs.Ytomcffionomidaa
open Go.RowKit

/-- A slice that is appended: its cells. -/
def SrcAt (w : World) (v : Value) (ys : List (Array Value)) : Prop :=
  (v = .slice none 0 0 ∧ ys = []) ∨ ∃ a c, v = .slice (some a) ys.length c ∧ ∀ j u, (ys.flatMap Array.toList)[j]? = some u → w.cell? (a.add j) = some u

theorem SrcAt.kept {w w' : World} {v : Value} {ys : List (Array Value)} (h : SrcAt w v ys) (hb : Below w.heap.size w w') : SrcAt w' v ys := by
  rcases h with h | ⟨a, c, e, h⟩
  · exact .inl h
  · refine .inr ⟨a, c, e, fun j u hu => ?_⟩
    have h1 := h j u hu
    exact (hb.cell (World.block_lt_of_cell? _ _ h1)).trans h1

/-- 'append(v, s...)'. -/
theorem Row.pushMany {P : Program} {w : World} {base : Nat} {e : TypeId} {sz : Nat} {v u : Value} {xs ys : List (Array Value)} (h : Row w base e sz v xs) (t ty : TypeId) {z : Value} {bytes : Nat}
    (ht : P.underlying t = some (.slice e)) (hinfo : (P.info? e).map (fun i => (i.zero, i.size, i.bytes)) = some (some z, sz, bytes)) (hzs : z.cells.size = sz) (hsz : 0 < sz)
    (hs : SrcAt w u ys) (hy : ∀ y ∈ ys, y.size = sz ∧ y.all (·.oneCell') = true) (hn : xs.length + ys.length ≤ 4294967296) (hby : bytes ≤ 4096) (hbase : base ≤ w.heap.size) :
    ∃ v' w', (Builtin.append_ #[t, t] ty #[v, u]).run P w = .ok v' w' ∧ Row w' base e sz v' (xs ++ ys) ∧ w.grownBy w' v.ownBlock ∧ (v'.ownBlock = v.ownBlock ∨ v'.ownBlock = some w.heap.size) := by
  obtain ⟨i0, hi, hz0, hz1, hz2⟩ := info_parts hinfo
  rcases hs with ⟨rfl, rfl⟩ | ⟨a, c, rfl, hcell⟩
  · exact ⟨v, w, run_append_owned_none w base t ty e i0 sz ht hi v xs.length _ h.2, by simpa using h, ⟨rfl, rfl, rfl, Nat.le_refl _, fun _ _ _ => rfl⟩, .inl rfl⟩
  · have hbytes : (xs.length + ys.length) * bytes ≤ 140737488355328 := by
      calc (xs.length + ys.length) * bytes ≤ 4294967296 * 4096 := Nat.mul_le_mul hn hby
        _ ≤ 140737488355328 := by decide
    have hone : ∀ x ∈ ys.flatMap Array.toList, x.oneCell' = true := fun x hx => by
      obtain ⟨y, hy1, hy2⟩ := List.mem_flatMap.1 hx
      exact (Array.all_eq_true_iff_forall_mem.1 (hy y hy1).2) x (by simpa using hy2)
    obtain ⟨v', w', hr, ho, hg, -, hat⟩ := run_append_own_at (P := P) w base t ty e i0 z sz bytes ht hi hz0 hz1 hz2 hzs hsz v xs.length _ h.2 a ys.length c (ys.flatMap Array.toList)
      (flat_len (fun y hy' => (hy y hy').1)) hcell hone (by unfold maxLen; omega) hbytes hbase
    refine ⟨v', w', hr, ⟨fun y hy' => ?_, by rw [List.length_append, List.flatMap_append]; exact ho⟩, hg, hat⟩
    rcases List.mem_append.1 hy' with h1 | h1
    · exact h.1 y h1
    · exact (hy y h1).1

/-- A row as a source. -/
theorem Row.src {w : World} {base : Nat} {e : TypeId} {sz : Nat} {v : Value} {xs : List (Array Value)} (h : Row w base e sz v xs) : SrcAt w v xs := by
  obtain ⟨hall, hlen, h2⟩ := h
  rcases h2 with ⟨rfl, h0⟩ | ⟨g, cap, cur, rfl, hb, hh, hnc, hcm, hcs, htk⟩
  · exact .inl ⟨rfl, List.length_eq_zero_iff.1 h0⟩
  · refine .inr ⟨⟨g, 0, none⟩, cap, rfl, fun j u hu => ?_⟩
    rw [Addr.add_lit, Nat.zero_add, cell_of_row _ _ _ _ _ _ hh]
    rw [← htk, List.getElem?_take] at hu
    split at hu
    · simpa using hu
    · cases hu

theorem Try.infoBool : (Try.prog.info? 4).map (fun i => (i.zero, i.size, i.bytes)) = some (some (.bool false), 1, 1) := by kernel_rfl

/-- 'append([]T{}, s...)'. -/
theorem Row.copy {P : Program} {w : World} {e : TypeId} {sz : Nat} {u : Value} {ys : List (Array Value)} (t ty : TypeId) {z : Value} {bytes : Nat}
    (ht : P.underlying t = some (.slice e)) (hinfo : (P.info? e).map (fun i => (i.zero, i.size, i.bytes)) = some (some z, sz, bytes)) (hzs : z.cells.size = sz) (hsz : 0 < sz)
    (hs : SrcAt w u ys) (hy : ∀ y ∈ ys, y.size = sz ∧ y.all (·.oneCell') = true) (hn : ys.length ≤ 4294967296) (hby : bytes ≤ 4096) :
    ∃ A c w', (Builtin.append_ #[t, t] ty #[.slice (some ⟨w.heap.size, 0, none⟩) 0 0, u]).run P (w.alloc (.cells #[] e)) = .ok (.slice A ys.length c) w' ∧ Row w' w.heap.size e sz (.slice A ys.length c) ys ∧ Below w.heap.size w w' := by
  have hb : Below w.heap.size w (w.alloc (.cells #[] e)) := (Below.refl _ _).alloc (Nat.le_refl _) _
  obtain ⟨v', w', hr, hrow, hg, hat⟩ := (Row.empty w (Nat.le_refl _) e sz).pushMany (P := P) t ty ht hinfo hzs hsz (hs.kept hb) hy (by simpa using hn) hby (by simp)
  obtain ⟨A, c, rfl, -, -⟩ := hrow.form
  rw [List.nil_append] at hr hrow
  refine ⟨A, c, w', hr, hrow, hb.grown hg (by simp) fun k hk => ?_⟩
  simp only [Value.ownBlock, Option.some.injEq] at hk
  omega

theorem bools_ok (l : List Bool) : ∀ y ∈ l.map cBo, y.size = 1 ∧ y.all (·.oneCell') = true := fun y hy => by
  obtain ⟨b, -, rfl⟩ := List.mem_map.1 hy
  exact ⟨rfl, cBo_one b⟩

theorem notes_ok (l : List Nt) : ∀ y ∈ l.map cN, y.size = 2 ∧ y.all (·.oneCell') = true := fun y hy => by
  obtain ⟨b, -, rfl⟩ := List.mem_map.1 hy
  exact ⟨rfl, cN_one b⟩

@[local go_sem] theorem nil_nil (w : World) : (binOp .eql 59 (.slice none 0 0) (.slice none 0 0)).run Try.prog w = .ok (.bool true) w := Lib.run_eql_slice_nil_nil w _ _ Try.underlying59

def ClonePost (w : World) (l : List Bool) (e : Ending) (w' : World) : Prop :=
  ∃ A c, e = .returned (.slice A l.length c) ∧ Row w' w.heap.size 4 1 (.slice A l.length c) (l.map cBo) ∧ Below w.heap.size w w'

set_option maxRecDepth 100000 in
theorem clone_any {base : Nat} {v : Value} {l : List Bool} (w : World) (h : Row w base 4 1 v (l.map cBo)) (hl : l.length ≤ 48) :
    Calls Try.prog 99 #[v] w (ClonePost w l) := by
  have hsrc := h.src
  rcases hsrc with ⟨rfl, h0⟩ | ⟨a, c, rfl, hcell⟩
  · obtain rfl : l = [] := by simpa using h0
    go_enter Try.func99, Try.ntmps99
    go_wp2
    go_ret
    exact ⟨none, 0, rfl, Row.nil _ _ _ _, Below.refl _ _⟩
  · obtain ⟨A, c2, w', hap, hrow, hb⟩ := Row.copy (P := Try.prog) 59 59 Try.underlying59 Try.infoBool rfl (by omega) (.inr ⟨a, c, rfl, hcell⟩) (bools_ok l) (by simp; omega) (by omega)
    simp only [List.length_map] at hap hrow ⊢
    clear hcell h
    have hnil : ∀ W, (binOp .eql 59 (.slice (some a) l.length c) (.slice none 0 0)).run Try.prog W = .ok (.bool false) W := fun _ => rfl
    go_enter Try.func99, Try.ntmps99
    go_wp2_with ((with_reducible refine wpList_app_at (t := 59) ?_); refine ⟨_, _, hap, ?_⟩)
    go_ret
    exact ⟨A, c2, rfl, hrow, hb⟩

/-! ### slices.Delete of one note, in place -/

def DelPost (w : World) (v : Value) (xs : List Nt) (k : Nat) (e : Ending) (w' : World) : Prop :=
  ∃ A c, e = .returned (.slice A (xs.length - 1) c) ∧ Row w' 0 123 2 (.slice A (xs.length - 1) c) ((xs.eraseIdx k).map cN) ∧ (Value.slice A (xs.length - 1) c).ownBlock = v.ownBlock ∧ w.grownBy w' v.ownBlock

theorem zeroNote (w : World) : (zeroValue 123).run Try.prog w = .ok (.agg #[.bool false, .int .i64 0]) w := by kernel_rfl

set_option maxRecDepth 100000 in
set_option maxHeartbeats 1000000 in
theorem delete_any {v : Value} {xs : List Nt} {k : Nat} (w : World) (h : Row w 0 123 2 v (xs.map cN)) (hk : k < xs.length) (hn : xs.length ≤ 10) :
    Calls Try.prog 101 #[v, .int .i64 k, .int .i64 ((k : Int) + 1)] w (DelPost w v xs k) := by
  obtain ⟨hall, hlen, h2⟩ := h
  rcases h2 with ⟨rfl, h0⟩ | ⟨g, cap, cur, rfl, hb, hh, hnc, hcm, hcs, htk⟩
  · simp at h0; subst h0; simp at hk
  simp only [List.length_map] at hlen hnc htk ⊢
  have hm : cap ≤ 9223372036854775807 := hcm
  have hflen : ∀ l : List Nt, ((l.map cN).flatMap Array.toList).length = 2 * l.length := fun l => by
    rw [flat_len (sz := 2) (fun y hy => (notes_ok l y hy).1), List.length_map]; omega
  -- the head of the row, and what comes behind the note
  have hrow0 : w.ownsRow 0 123 2 (.slice (some ⟨g, 0, none⟩) k cap) k (((xs.take k).map cN).flatMap Array.toList) := by
    refine ⟨by rw [hflen]; simp; omega, .inr ⟨g, cap, cur, rfl, hb, hh, by omega, hcm, hcs, ?_⟩⟩
    have e1 : (xs.map cN).flatMap Array.toList = ((xs.take k).map cN).flatMap Array.toList ++ ((xs.drop k).map cN).flatMap Array.toList := by
      rw [← List.flatMap_append, ← List.map_append, List.take_append_drop]
    have e2 : cur.toList.take (k * 2) = (cur.toList.take (xs.length * 2)).take (k * 2) := by rw [List.take_take]; congr 1; omega
    rw [e2, htk, e1, List.take_left' (by rw [hflen]; simp; omega)]
  have hm1 : ((xs.drop (k + 1)).map cN).length = xs.length - (k + 1) := by simp
  obtain ⟨ad, had, hnews⟩ : ∃ ad : Addr, (if cap = k + 1 then some (⟨g, 0, none⟩ : Addr) else some ⟨g, (k + 1) * 2, none⟩) = some ad ∧ Hid (∀ j u, (((xs.drop (k + 1)).map cN).flatMap Array.toList)[j]? = some u → w.drew.cell? (ad.add j) = some u) := by
    by_cases hc : cap = k + 1
    · refine ⟨⟨g, 0, none⟩, by simp [hc], fun j u hu => ?_⟩
      have : xs.drop (k + 1) = [] := List.drop_eq_nil_of_le (by omega)
      rw [this] at hu; simp at hu
    · refine ⟨⟨g, (k + 1) * 2, none⟩, by simp [hc], fun j u hu => ?_⟩
      rw [Addr.add_lit]
      show w.cell? _ = _
      rw [cell_of_row _ _ _ _ _ _ hh]
      have e1 : (xs.map cN).flatMap Array.toList = ((xs.take (k + 1)).map cN).flatMap Array.toList ++ ((xs.drop (k + 1)).map cN).flatMap Array.toList := by
        rw [← List.flatMap_append, ← List.map_append, List.take_append_drop]
      have e3 : ((xs.map cN).flatMap Array.toList)[(k + 1) * 2 + j]? = some u := by
        rw [e1, List.getElem?_append_right (by rw [hflen]; simp; omega), hflen]
        rw [show (k + 1) * 2 + j - 2 * (xs.take (k + 1)).length = j by simp; omega]
        exact hu
      rw [← htk, List.getElem?_take] at e3
      split at e3
      · simpa using e3
      · cases e3
  obtain ⟨i0, hi0, hz0, hz1, hz2⟩ := info_parts Try.infoNote
  obtain ⟨w1, hap, hrow1, hg1⟩ := run_append_own_spare (P := Try.prog) w.drew 0 60 60 123 i0 2 Try.underlying60 hi0 hz1 g k cap _ hrow0.drew ad (xs.length - (k + 1)) (cap - (k + 1)) (((xs.drop (k + 1)).map cN).flatMap Array.toList)
    (by rw [hflen]; simp; omega) hnews.out (fun u hu => by
      obtain ⟨y, hy1, hy2⟩ := List.mem_flatMap.1 hu
      exact (Array.all_eq_true_iff_forall_mem.1 (notes_ok _ y hy1).2) u (by simpa using hy2)) (by omega)
  have hk1 : k + (xs.length - (k + 1)) = xs.length - 1 := by omega
  rw [hk1] at hap hrow1
  have hrow1' := hrow1
  obtain ⟨-, h3⟩ := hrow1'
  rcases h3 with ⟨h3, -⟩ | ⟨g', cap', cur1, h3, -, hh1, hnc1, -, hcs1, htk1⟩
  · cases h3
  simp only [Value.slice.injEq, Option.some.injEq, Addr.mk.injEq, and_true, true_and] at h3
  obtain ⟨rfl, rfl⟩ := h3
  have hone : xs.length - (xs.length - 1) = 1 := by omega
  have hcells : ∀ j, j < 2 → (w1.cell? ⟨g, (xs.length - 1) * 2 + 0 + j, none⟩).isSome = true ∧ w1.frozen? ⟨g, (xs.length - 1) * 2 + 0 + j, none⟩ = false := fun j hj => by
    refine ⟨?_, frozen_of_row _ _ _ _ _ hh1⟩
    rw [cell_of_row _ _ _ _ _ _ hh1, Array.getElem?_eq_getElem (by rw [hcs1]; omega)]; rfl
  have hcl : ∀ ty, (Builtin.clear_ #[60] ty #[.slice (some ⟨g, (xs.length - 1) * 2, none⟩) 1 (cap - (xs.length - 1))]).run Try.prog w1 = .ok (.tuple #[]) (w1.setCells g ((xs.length - 1) * 2) [.bool false, .int .i64 0]) := fun ty => by
    have hst := run_storeCells_cells (P := Try.prog) g ((xs.length - 1) * 2) [.bool false, .int .i64 0] 0 w1 (fun j hj => (hcells j hj).1) (fun j hj => (hcells j hj).2) (by simp [Value.oneCell'])
    rw [Nat.add_zero] at hst
    have hzc : (Builtin.zeroCells #[.bool false, .int .i64 0] 1).toList = [Value.bool false, .int .i64 0] := by first | kernel_rfl | (simp [Builtin.zeroCells]; done) | decide
    simp [Builtin.clear_, run_underlying Try.underlying60, Value.cells, hzc, hst]
  have hfin : Row (w1.setCells g ((xs.length - 1) * 2) [.bool false, .int .i64 0]) 0 123 2 (.slice (some ⟨g, 0, none⟩) (xs.length - 1) cap) ((xs.eraseIdx k).map cN) := by
    have e1 : (xs.eraseIdx k).map cN = (xs.take k).map cN ++ (xs.drop (k + 1)).map cN := by rw [List.eraseIdx_eq_take_drop_succ, List.map_append]
    have el : ((xs.eraseIdx k).map cN).length = xs.length - 1 := by rw [List.length_map, List.length_eraseIdx_of_lt hk]
    refine ⟨fun y hy => (notes_ok _ y hy).1, ?_⟩
    rw [el, e1, List.flatMap_append]
    have s1 := (World.ownsRow.stored hrow1 ((xs.length - 1) * 2) (.bool false)).1
    have s2 := (World.ownsRow.stored s1 ((xs.length - 1) * 2 + 1) (.int .i64 0)).1
    have hl := hrow1.1
    have key : ∀ (L : List Value) (a b : Value), L.length = (xs.length - 1) * 2 → (L.set ((xs.length - 1) * 2) a).set ((xs.length - 1) * 2 + 1) b = L := fun L a b hL => by
      rw [List.set_eq_of_length_le (by rw [List.length_set]; omega), List.set_eq_of_length_le (by omega)]
    rw [key _ _ _ hl] at s2
    exact s2
  have hfg : w.grownBy (w1.setCells g ((xs.length - 1) * 2) [.bool false, .int .i64 0]) (some g) := by
    have s1 := (World.ownsRow.stored hrow1 ((xs.length - 1) * 2) (.bool false))
    have s2 := (World.ownsRow.stored s1.1 ((xs.length - 1) * 2 + 1) (.int .i64 0)).2
    refine ⟨s2.os.trans (s1.2.os.trans hg1.os), s2.tape.trans (s1.2.tape.trans hg1.tape), s2.output.trans (s1.2.output.trans hg1.output), ?_, fun b hb hne => ?_⟩
    · exact Nat.le_trans hg1.size (Nat.le_trans s1.2.size s2.size)
    · have h1 := hg1.block b hb hne
      have z1 : b < w1.heap.size := Nat.lt_of_lt_of_le hb hg1.size
      have h2 := s1.2.block b z1 hne
      have h3 := s2.block b (Nat.lt_of_lt_of_le z1 s1.2.size) hne
      exact h3.trans (h2.trans h1)
  have hkc : k ≤ cap := by omega
  have hkc1 : k + 1 ≤ cap := by omega
  have hkx : (k : Int) + 1 ≤ xs.length := by omega
  have hkx0 : (0 : Int) ≤ (k : Int) + 1 := by omega
  clear htk1 hnews hrow0 hall hlen htk hcells hrow1 hh1
  go_enter Try.func101, Try.ntmps101
  go_wp2_with fail
  go_region_law (refine step_app rfl (.tmp 22) (.tmp 25) 60 rfl hap (by simp [Act.eval, Act.put]) (by simp [Act.eval, Act.put]) ?_)
  go_wp2_with (simp only [hcl])
  go_ret
  exact ⟨_, _, rfl, hfin, rfl, hfg⟩
end Go.Proofs.Ytomcffionomidaa
