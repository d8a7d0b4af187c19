/- The shop in the beginning: 'open' of the program. -/
import Derived.Test.YtomcffionomidaaBegin1
import Derived.Deep.DeepCutAuto
namespace Go.Proofs.Ytomcffionomidaa
open Go.RowKit
set_option linter.unusedSimpArgs false
set_option linter.unusedVariables false

def OpenPost (w : World) (pty : TypeId) (hd : List Value) (r nb : Nat) (ts : List Tsk) (e : Ending) (w' : World) : Prop :=
  ∃ p, e = .returned (.pointer (some ⟨p, 0, none⟩)) ∧ ShopAt w' (under w.heap.size) p pty hd ts (floor0 r nb ts.length) ∧ Below w.heap.size w w'

theorem Try.infoVat : (Try.prog.info? 47).map (fun i => (i.zero, i.size, i.bytes)) = some (some (.agg zV), 8, 64) := by kernel_rfl

theorem wp_store {P : Program} {dst : Option Tmp} {ty type : TypeId} {x y : Operand} {pos : String} {after : Array Edge} {a : Act} {w : World} {K : Act → World → Prop} {Q : Exit → Act → World → Prop}
    {w' : World} (h : (Instr.storeAt ty (a.eval x) (a.eval y)).run P w = .ok () w') (hK : K (a.put dst undef) w') : Oper.wp P ⟨dst, .store ty x y, type, pos, after, none⟩ a w K Q := by
  unfold Oper.wp execOp
  simp only [Sem.run_bind, h, Sem.run_pure, Result.andThen_ok]
  exact hK

theorem there_block {w : World} {p : Nat} {cs : Array Value} {ty : TypeId} (h : w.heap[p]? = some (.cells cs ty)) (o n : Nat) (hn : o + n ≤ cs.size) : w.there p o n := fun j hj => by
  constructor
  · rw [cell_of_row _ _ _ _ _ _ h, Array.getElem?_eq_getElem (by omega)]; rfl
  · rw [frozen_of_row _ _ _ _ _ h]

theorem make_bools (n : Nat) (hn : n ≤ 1048576) (W : World) : (Instr.makeSlice 59 (.int .i64 n) (.int .i64 n)).run Try.prog W = .ok (.slice (some ⟨W.heap.size, 0, none⟩) n n) (W.alloc (.cells (madeCells zB n) 4)) := by
  obtain ⟨i0, hi, hz0, hz1, hz2⟩ := info_parts Try.infoBool
  have := run_make (P := Try.prog) W 59 4 i0 _ Try.underlying59 hi hz0 .i64 .i64 n n (by omega) (Int.le_refl _) (by rw [hz2]; omega) (by omega)
  rw [hz1, show ((n : Int)).toNat * 1 = n by simp] at this
  exact this

theorem make_vats (n : Nat) (hn : n ≤ 1048576) (W : World) : (Instr.makeSlice 57 (.int .i64 n) (.int .i64 n)).run Try.prog W = .ok (.slice (some ⟨W.heap.size, 0, none⟩) n n) (W.alloc (.cells (madeCells zV (n * 8)) 47)) := by
  obtain ⟨i0, hi, hz0, hz1, hz2⟩ := info_parts Try.infoVat
  have := run_make (P := Try.prog) W 57 47 i0 _ Try.underlying57 hi hz0 .i64 .i64 n n (by omega) (Int.le_refl _) (by rw [hz2]; omega) (by omega)
  rw [hz1] at this
  exact this

theorem cell_setCells_other {g b j : Nat} (h : b ≠ g) : ∀ {vs : List Value} {o : Nat} {w : World}, (w.setCells g o vs).cell? ⟨b, j, none⟩ = w.cell? ⟨b, j, none⟩
  | [], _, _ => rfl
  | v :: r, o, w => by rw [World.setCells, cell_setCells_other h]; exact cell_other h

def OpRel (w : World) (p : Nat) (pty : TypeId) (hd : List Value) (r nb : Nat) (ts : List Tsk) (g : Nat) (i : Value) (wr : World) : Prop :=
  ∃ k : Nat, k ≤ r ∧ g = r - k ∧ i = .int .i64 k ∧ ShopAt wr (under w.heap.size) p pty hd ts (floorN nb ts.length k) ∧ Below w.heap.size w wr

set_option maxRecDepth 100000 in
set_option maxHeartbeats 4000000 in
theorem open_any (r : Nat) (A : Option Addr) (c : Nat) (bs : List Bat) (w : World) (hA : SlAt w 9 A (bs.map cB)) (hr1 : 1 ≤ r) (hr : r ≤ 4) (hn : bs.length ≤ 6) (h8 : ∀ b ∈ bs, b.d.length = 8) :
    Calls Try.prog 55 #[.agg #[.int .i64 r, .slice A bs.length c]] w (OpenPost w 106 [.int .i64 r, .slice A bs.length c] r bs.length (tasksOf bs)) := by
  have hbox : Below w.heap.size w (w.alloc (.cells #[.int .i64 r, .slice A bs.length c] 31)) := (Below.refl _ _).alloc (Nat.le_refl _) _
  have c0 : (w.alloc (.cells #[.int .i64 r, .slice A bs.length c] 31)).cell? ⟨w.heap.size, 0, none⟩ = some (.int .i64 r) := by rw [World.cell?_alloc_at _ _ _ _ rfl]; rfl
  have c1 : (w.alloc (.cells #[.int .i64 r, .slice A bs.length c] 31)).cell? ⟨w.heap.size, 1, none⟩ = some (.slice A bs.length c) := by rw [World.cell?_alloc_at _ _ _ _ rfl]; rfl
  have hA0 := hA.below hbox
  have hz : w.heap.size < (w.alloc (.cells #[.int .i64 r, .slice A bs.length c] 31)).heap.size := by simp
  generalize hw0 : w.alloc (.cells #[.int .i64 r, .slice A bs.length c] 31) = w0 at hbox c0 c1 hA0 hz
  have h48 : (tasksOf bs).length ≤ 48 := by have := tasksTo_len bs bs.length; unfold tasksOf; omega
  go_enter Try.func55, Try.ntmps55
  go_wp2_with fail
  clear hw0
  refine wp_region_held_drew (S := fun W => W.cell? ⟨w.heap.size, 0, none⟩ = some (.int .i64 r) ∧ W.cell? ⟨w.heap.size, 1, none⟩ = some (.slice A bs.length c)) (by kernel_rfl) (by exact ⟨c0, c1⟩) (fun hHeld => ?_)
  refine wpAnyH_take (i := 0) (oi := _) (v := ?_) rfl (by kernel_rfl) (by kernel_rfl) (by kernel_rfl) (fun _ _ _ h => h) (Or.inl ⟨by rfl, ?_⟩) (by assumption) ?_
  rotate_left
  focus
    intro w hSw
    (try dsimp only at hSw)
    go_simp
    (try with_reducible rfl)
  (try simp only [List.getElem_toArray, List.getElem_cons_zero, List.getElem_cons_succ, Act.put, List.setIfInBounds_toArray, List.set_cons_zero, List.set_cons_succ])
  refine wpAnyH_take (i := 1) (oi := _) (v := ?_) rfl (by kernel_rfl) (by kernel_rfl) (by kernel_rfl) (fun _ _ _ h => h) (Or.inl ⟨by rfl, ?_⟩) (by assumption) ?_
  rotate_left
  focus
    intro w hSw
    (try dsimp only at hSw)
    go_simp
    (try with_reducible rfl)
  (try simp only [List.getElem_toArray, List.getElem_cons_zero, List.getElem_cons_succ, Act.put, List.setIfInBounds_toArray, List.set_cons_zero, List.set_cons_succ])
  refine wpAnyH_ready (rs := [2]) (by kernel_rfl) (by simp) ?_
  refine AllReadyH.cons (o := _) rfl (fun K hK => ?_) AllReadyH.nil
  (try simp only [List.getElem_toArray, List.getElem_cons_zero, List.getElem_cons_succ])
  go_simp
  refine (tasks_any r A c bs _ (hA0.below ((Below.refl _ _).drew)) hn h8).mono ?_
  rintro e w1 ⟨v1, rfl, hR1, hb1⟩
  obtain ⟨At, ct, rfl, -, hOt⟩ := hR1.form
  have hb01 : Below w0.heap.size w0 w1 := ((Below.refl _ _).drew).trans hb1
  have hz1 : w0.heap.size ≤ w1.heap.size := hb01.size
  have d0 := (hb01.cell (p := ⟨w.heap.size, 0, none⟩) hz).trans c0
  have d1 := (hb01.cell (p := ⟨w.heap.size, 1, none⟩) hz).trans c1
  rw [List.length_map] at hR1 ⊢
  refine hK.out _ _ ?_ (fun hHeld => ?_)
  focus
    (try dsimp only)
    exact ⟨d0, d1⟩
  clear hK K
  (try simp only [List.getElem_toArray, List.getElem_cons_zero, List.getElem_cons_succ, Act.put, List.setIfInBounds_toArray, List.set_cons_zero, List.set_cons_succ])
  refine wpAnyH_take (i := 3) (oi := _) (v := ?_) rfl (by kernel_rfl) (by kernel_rfl) (by kernel_rfl) (fun _ _ _ h => h) (Or.inl ⟨by rfl, ?_⟩) (by assumption) ?_
  rotate_left
  focus
    intro w hSw
    (try dsimp only at hSw)
    go_simp
    (try with_reducible rfl)
  (try simp only [List.getElem_toArray, List.getElem_cons_zero, List.getElem_cons_succ, Act.put, List.setIfInBounds_toArray, List.set_cons_zero, List.set_cons_succ])
  refine wpAnyH_ready (rs := [4]) (by kernel_rfl) (by simp) ?_
  refine AllReadyH.cons (o := _) rfl (fun K hK => ?_) AllReadyH.nil
  (try simp only [List.getElem_toArray, List.getElem_cons_zero, List.getElem_cons_succ])
  go_simp
  refine hK.out _ _ ?_ (fun hHeld => ?_)
  focus
    (try dsimp only)
    exact ⟨cell_alloc _ d0, cell_alloc _ d1⟩
  clear hK K
  (try simp only [List.getElem_toArray, List.getElem_cons_zero, List.getElem_cons_succ, Act.put, List.setIfInBounds_toArray, List.set_cons_zero, List.set_cons_succ])
  refine wpAnyH_take (i := 5) (oi := _) (v := ?_) rfl (by kernel_rfl) (by kernel_rfl) (by kernel_rfl) (fun _ _ _ h => h) (Or.inl ⟨by rfl, ?_⟩) (by assumption) ?_
  rotate_left
  focus
    intro w hSw
    (try dsimp only at hSw)
    go_simp
    (try with_reducible rfl)
  (try simp only [List.getElem_toArray, List.getElem_cons_zero, List.getElem_cons_succ, Act.put, List.setIfInBounds_toArray, List.set_cons_zero, List.set_cons_succ])
  refine wpAnyH_done (by kernel_rfl) ?_ _
  clear hHeld
  have hblk : (w1.alloc (.cells #[.int .i64 r, .slice A bs.length c, .slice At (tasksOf bs).length ct, .slice none 0 0, .slice none 0 0, .slice none 0 0, .slice none 0 0, .slice none 0 0] 106)).heap[w1.heap.size]? = some (.cells #[.int .i64 r, .slice A bs.length c, .slice At (tasksOf bs).length ct, .slice none 0 0, .slice none 0 0, .slice none 0 0, .slice none 0 0, .slice none 0 0] 106) := heap_alloc_new w1 _
  have hb12 : Below w1.heap.size w1 (w1.alloc (.cells #[.int .i64 r, .slice A bs.length c, .slice At (tasksOf bs).length ct, .slice none 0 0, .slice none 0 0, .slice none 0 0, .slice none 0 0, .slice none 0 0] 106)) := (Below.refl _ _).alloc (Nat.le_refl _) _
  have hz12 : w1.heap.size < (w1.alloc (.cells #[.int .i64 r, .slice A bs.length c, .slice At (tasksOf bs).length ct, .slice none 0 0, .slice none 0 0, .slice none 0 0, .slice none 0 0, .slice none 0 0] 106)).heap.size := by simp
  generalize w1.alloc (.cells #[.int .i64 r, .slice A bs.length c, .slice At (tasksOf bs).length ct, .slice none 0 0, .slice none 0 0, .slice none 0 0, .slice none 0 0, .slice none 0 0] 106) = w2 at hblk hb12 hz12 ⊢
  have hz0 : w.heap.size < w1.heap.size := by omega
  have e0 := (hb12.cell (p := ⟨w.heap.size, 0, none⟩) hz0).trans d0
  have e1 := (hb12.cell (p := ⟨w.heap.size, 1, none⟩) hz0).trans d1
  have f1 : w2.cell? ⟨w1.heap.size, 2, none⟩ = some (.slice At (tasksOf bs).length ct) := by rw [cell_of_row _ _ _ _ _ _ hblk]; rfl
  have hR2 : Row w2 w.heap.size 74 3 (.slice At (tasksOf bs).length ct) ((tasksOf bs).map cT) := (hR1.kept hb12).base (by show w.heap.size ≤ w0.heap.size; omega)
  have htp : (Value.slice At (tasksOf bs).length ct).ownBlock ≠ some w1.heap.size := fun e => by have := hR1.own_lt _ e; omega
  have hB2 : Below w.heap.size w w2 := (hbox.trans (hb01.mono (by omega))).trans (hb12.mono (by omega))
  have hmk1 := make_vats bs.length (by omega)
  have hmk2 := make_bools (tasksOf bs).length (by omega)
  clear c0 c1 d0 d1 hb01 hb1 hR1 hOt hA hA0
  go_upto_region 3 with (fail)
  go_cut [3] (fun s3 wx => s3 = .pointer (some ⟨w1.heap.size, 0, none⟩) ∧ ShopAt wx (under w.heap.size) w1.heap.size 106 [.int .i64 r, .slice A bs.length c] (tasksOf bs) (floorN bs.length (tasksOf bs).length 0) ∧ Below w.heap.size w wx ∧ wx.cell? ⟨w.heap.size, 0, none⟩ = some (.int .i64 r))
  case first =>
    refine wp_region_held_drew (S := fun W => W.cell? ⟨w.heap.size, 1, none⟩ = some (.slice A bs.length c)) (by kernel_rfl) (by exact e1) (fun hHeld => ?_)
    refine wpAnyH_take (i := 0) (oi := _) (v := ?_) rfl (by kernel_rfl) (by kernel_rfl) (by kernel_rfl) (fun _ _ _ h => h) (Or.inl ⟨by rfl, ?_⟩) (by assumption) ?_
    rotate_left
    focus
      intro w hSw
      (try dsimp only at hSw)
      go_simp
      (try with_reducible rfl)
    (try simp only [List.getElem_toArray, List.getElem_cons_zero, List.getElem_cons_succ, Act.put, List.setIfInBounds_toArray, List.set_cons_zero, List.set_cons_succ])
    refine wpAnyH_take (i := 1) (oi := _) (v := ?_) rfl (by kernel_rfl) (by kernel_rfl) (by kernel_rfl) (fun _ _ _ h => h) (Or.inl ⟨by rfl, ?_⟩) (by assumption) ?_
    rotate_left
    focus
      intro w hSw
      (try dsimp only at hSw)
      go_simp
      (try with_reducible rfl)
    (try simp only [List.getElem_toArray, List.getElem_cons_zero, List.getElem_cons_succ, Act.put, List.setIfInBounds_toArray, List.set_cons_zero, List.set_cons_succ])
    refine wpAnyH_take (i := 2) (oi := _) (v := ?_) rfl (by kernel_rfl) (by kernel_rfl) (by kernel_rfl) (fun _ _ _ h => h) (Or.inl ⟨by rfl, ?_⟩) (by assumption) ?_
    rotate_left
    focus
      intro w hSw
      (try dsimp only at hSw)
      go_simp
      (try with_reducible rfl)
    (try simp only [List.getElem_toArray, List.getElem_cons_zero, List.getElem_cons_succ, Act.put, List.setIfInBounds_toArray, List.set_cons_zero, List.set_cons_succ])
    refine wpAnyH_take (i := 3) (oi := _) (v := ?_) rfl (by kernel_rfl) (by kernel_rfl) (by kernel_rfl) (fun _ _ _ h => h) (Or.inl ⟨by rfl, ?_⟩) (by assumption) ?_
    rotate_left
    focus
      intro w hSw
      (try dsimp only at hSw)
      go_simp
      (try with_reducible rfl)
    (try simp only [List.getElem_toArray, List.getElem_cons_zero, List.getElem_cons_succ, Act.put, List.setIfInBounds_toArray, List.set_cons_zero, List.set_cons_succ])
    refine wpAnyH_take (i := 5) (oi := _) (v := ?_) rfl (by kernel_rfl) (by kernel_rfl) (by kernel_rfl) (fun _ _ _ h => h) (Or.inl ⟨by rfl, ?_⟩) (by assumption) ?_
    rotate_left
    focus
      intro w hSw
      (try dsimp only at hSw)
      go_simp
      (try with_reducible rfl)
    (try simp only [List.getElem_toArray, List.getElem_cons_zero, List.getElem_cons_succ, Act.put, List.setIfInBounds_toArray, List.set_cons_zero, List.set_cons_succ])
    refine wpAnyH_take (i := 7) (oi := _) (v := ?_) rfl (by kernel_rfl) (by kernel_rfl) (by kernel_rfl) (fun _ _ _ h => h) (Or.inl ⟨by rfl, ?_⟩) (by assumption) ?_
    rotate_left
    focus
      intro w hSw
      (try dsimp only at hSw)
      go_simp
      (try with_reducible rfl)
    (try simp only [List.getElem_toArray, List.getElem_cons_zero, List.getElem_cons_succ, Act.put, List.setIfInBounds_toArray, List.set_cons_zero, List.set_cons_succ])
    refine wpAnyH_ready (rs := [4, 6, 8]) (by kernel_rfl) (by simp) ?_
    refine AllReadyH.cons (o := _) rfl (fun K hK => ?_) ?_
    focus
      go_simp
      refine hK.out _ _ ?_ (fun hHeld => ?_)
      focus
        (try dsimp only)
        exact cell_alloc _ hHeld
      clear hK K
      (try simp only [List.getElem_toArray, List.getElem_cons_zero, List.getElem_cons_succ, Act.put, List.setIfInBounds_toArray, List.set_cons_zero, List.set_cons_succ])
      refine wpAnyH_ready (rs := [6, 8]) (by kernel_rfl) (by simp) ?_
      refine AllReadyH.cons (o := _) rfl (fun K hK => ?_) ?_
      focus
        go_simp
        refine hK.out _ _ ?_ (fun hHeld => ?_)
        focus
          (try dsimp only)
          exact cell_alloc _ hHeld
        clear hK K
        (try simp only [List.getElem_toArray, List.getElem_cons_zero, List.getElem_cons_succ, Act.put, List.setIfInBounds_toArray, List.set_cons_zero, List.set_cons_succ])
        refine wpAnyH_ready (rs := [8]) (by kernel_rfl) (by simp) ?_
        refine AllReadyH.cons (o := _) rfl (fun K hK => ?_) ?_
        focus
          go_simp
          refine hK.out _ _ ?_ (fun hHeld => ?_)
          focus
            (try dsimp only)
            exact cell_alloc _ hHeld
          clear hK K
          (try simp only [List.getElem_toArray, List.getElem_cons_zero, List.getElem_cons_succ, Act.put, List.setIfInBounds_toArray, List.set_cons_zero, List.set_cons_succ])
          refine wpAnyH_take (i := 9) (oi := _) (v := ?_) rfl (by kernel_rfl) (by kernel_rfl) (by kernel_rfl) (fun _ _ _ h => h) (Or.inl ⟨by rfl, ?_⟩) (by assumption) ?_
          rotate_left
          focus
            intro w hSw
            (try dsimp only at hSw)
            go_simp
            (try with_reducible rfl)
          (try simp only [List.getElem_toArray, List.getElem_cons_zero, List.getElem_cons_succ, Act.put, List.setIfInBounds_toArray, List.set_cons_zero, List.set_cons_succ])
          refine wpAnyH_take (i := 10) (oi := _) (v := ?_) rfl (by kernel_rfl) (by kernel_rfl) (by kernel_rfl) (fun _ _ _ h => h) (Or.inl ⟨by rfl, ?_⟩) (by assumption) ?_
          rotate_left
          focus
            intro w hSw
            (try dsimp only at hSw)
            go_simp
            (try with_reducible rfl)
          (try simp only [List.getElem_toArray, List.getElem_cons_zero, List.getElem_cons_succ, Act.put, List.setIfInBounds_toArray, List.set_cons_zero, List.set_cons_succ])
          refine wpAnyH_take (i := 11) (oi := _) (v := ?_) rfl (by kernel_rfl) (by kernel_rfl) (by kernel_rfl) (fun _ _ _ h => h) (Or.inl ⟨by rfl, ?_⟩) (by assumption) ?_
          rotate_left
          focus
            intro w hSw
            (try dsimp only at hSw)
            go_simp
            (try with_reducible rfl)
          (try simp only [List.getElem_toArray, List.getElem_cons_zero, List.getElem_cons_succ, Act.put, List.setIfInBounds_toArray, List.set_cons_zero, List.set_cons_succ])
          refine wpAnyH_ready (rs := [12]) (by kernel_rfl) (by simp) ?_
          refine AllReadyH.cons (o := _) rfl (fun K hK => ?_) AllReadyH.nil
          (try simp only [List.getElem_toArray, List.getElem_cons_zero, List.getElem_cons_succ])
          rw [if_pos (by rfl)]
          obtain ⟨h1, h2, h3⟩ := alloc3 w2 (.cells (madeCells zV (bs.length * 8)) 47) (.cells (madeCells zB (tasksOf bs).length) 4) (.cells (madeCells zB (tasksOf bs).length) 4)
          have hB3 := (below3 w2 (.cells (madeCells zV (bs.length * 8)) 47) (.cells (madeCells zB (tasksOf bs).length) 4) (.cells (madeCells zB (tasksOf bs).length) 4)).drew
          refine wp_store (run_storeAt_mid _ w1.heap.size 3 62 _ (there_block ((hB3.block w1.heap.size hz12).trans hblk) 3 5 (by simp)) (by kernel_rfl) (by simp [Value.oneCell'])) ?_
          refine hK.out _ _ ?_ (fun hHeld => ?_)
          focus
            (try dsimp only)
            exact (cell_setCells_other (by omega)).trans (cell_alloc _ (cell_alloc _ (cell_alloc _ e1)))
          clear hK K
          (try simp only [List.getElem_toArray, List.getElem_cons_zero, List.getElem_cons_succ, Act.put, List.setIfInBounds_toArray, List.set_cons_zero, List.set_cons_succ])
          refine wpAnyH_done (by kernel_rfl) ?_ _
          go_wp2_with fail
          go_meet
          refine ⟨rfl, shop_begin (w := w2) (hd := [.int .i64 r, .slice A bs.length c]) (by omega) hblk hR2 htp hB3 h1 h2 h3 (by omega) (by omega) (by omega) (by omega) (by omega) (by omega) (by omega) (by omega), ?_, ?_⟩
          focus
            exact Below.setCells' (by omega) _ _ _ (hB2.trans (hB3.mono (by omega)))
          exact (cell_setCells_other (by omega)).trans (cell_alloc _ (cell_alloc _ (cell_alloc _ e0)))
        exact AllReadyH.nil
      refine AllReadyH.cons (o := _) rfl (fun K hK => ?_) ?_
      focus
        go_simp
        refine hK.out _ _ ?_ (fun hHeld => ?_)
        focus
          (try dsimp only)
          exact cell_alloc _ hHeld
        clear hK K
        (try simp only [List.getElem_toArray, List.getElem_cons_zero, List.getElem_cons_succ, Act.put, List.setIfInBounds_toArray, List.set_cons_zero, List.set_cons_succ])
        refine wpAnyH_ready (rs := [6]) (by kernel_rfl) (by simp) ?_
        refine AllReadyH.cons (o := _) rfl (fun K hK => ?_) ?_
        focus
          go_simp
          refine hK.out _ _ ?_ (fun hHeld => ?_)
          focus
            (try dsimp only)
            exact cell_alloc _ hHeld
          clear hK K
          (try simp only [List.getElem_toArray, List.getElem_cons_zero, List.getElem_cons_succ, Act.put, List.setIfInBounds_toArray, List.set_cons_zero, List.set_cons_succ])
          refine wpAnyH_take (i := 9) (oi := _) (v := ?_) rfl (by kernel_rfl) (by kernel_rfl) (by kernel_rfl) (fun _ _ _ h => h) (Or.inl ⟨by rfl, ?_⟩) (by assumption) ?_
          rotate_left
          focus
            intro w hSw
            (try dsimp only at hSw)
            go_simp
            (try with_reducible rfl)
          (try simp only [List.getElem_toArray, List.getElem_cons_zero, List.getElem_cons_succ, Act.put, List.setIfInBounds_toArray, List.set_cons_zero, List.set_cons_succ])
          refine wpAnyH_take (i := 10) (oi := _) (v := ?_) rfl (by kernel_rfl) (by kernel_rfl) (by kernel_rfl) (fun _ _ _ h => h) (Or.inl ⟨by rfl, ?_⟩) (by assumption) ?_
          rotate_left
          focus
            intro w hSw
            (try dsimp only at hSw)
            go_simp
            (try with_reducible rfl)
          (try simp only [List.getElem_toArray, List.getElem_cons_zero, List.getElem_cons_succ, Act.put, List.setIfInBounds_toArray, List.set_cons_zero, List.set_cons_succ])
          refine wpAnyH_take (i := 11) (oi := _) (v := ?_) rfl (by kernel_rfl) (by kernel_rfl) (by kernel_rfl) (fun _ _ _ h => h) (Or.inl ⟨by rfl, ?_⟩) (by assumption) ?_
          rotate_left
          focus
            intro w hSw
            (try dsimp only at hSw)
            go_simp
            (try with_reducible rfl)
          (try simp only [List.getElem_toArray, List.getElem_cons_zero, List.getElem_cons_succ, Act.put, List.setIfInBounds_toArray, List.set_cons_zero, List.set_cons_succ])
          refine wpAnyH_ready (rs := [12]) (by kernel_rfl) (by simp) ?_
          refine AllReadyH.cons (o := _) rfl (fun K hK => ?_) AllReadyH.nil
          (try simp only [List.getElem_toArray, List.getElem_cons_zero, List.getElem_cons_succ])
          rw [if_pos (by rfl)]
          obtain ⟨h1, h2, h3⟩ := alloc3 w2 (.cells (madeCells zV (bs.length * 8)) 47) (.cells (madeCells zB (tasksOf bs).length) 4) (.cells (madeCells zB (tasksOf bs).length) 4)
          have hB3 := (below3 w2 (.cells (madeCells zV (bs.length * 8)) 47) (.cells (madeCells zB (tasksOf bs).length) 4) (.cells (madeCells zB (tasksOf bs).length) 4)).drew
          refine wp_store (run_storeAt_mid _ w1.heap.size 3 62 _ (there_block ((hB3.block w1.heap.size hz12).trans hblk) 3 5 (by simp)) (by kernel_rfl) (by simp [Value.oneCell'])) ?_
          refine hK.out _ _ ?_ (fun hHeld => ?_)
          focus
            (try dsimp only)
            exact (cell_setCells_other (by omega)).trans (cell_alloc _ (cell_alloc _ (cell_alloc _ e1)))
          clear hK K
          (try simp only [List.getElem_toArray, List.getElem_cons_zero, List.getElem_cons_succ, Act.put, List.setIfInBounds_toArray, List.set_cons_zero, List.set_cons_succ])
          refine wpAnyH_done (by kernel_rfl) ?_ _
          go_wp2_with fail
          go_meet
          refine ⟨rfl, shop_begin (w := w2) (hd := [.int .i64 r, .slice A bs.length c]) (by omega) hblk hR2 htp hB3 h1 h3 h2 (by omega) (by omega) (by omega) (by omega) (by omega) (by omega) (by omega) (by omega), ?_, ?_⟩
          focus
            exact Below.setCells' (by omega) _ _ _ (hB2.trans (hB3.mono (by omega)))
          exact (cell_setCells_other (by omega)).trans (cell_alloc _ (cell_alloc _ (cell_alloc _ e0)))
        exact AllReadyH.nil
      exact AllReadyH.nil
    refine AllReadyH.cons (o := _) rfl (fun K hK => ?_) ?_
    focus
      go_simp
      refine hK.out _ _ ?_ (fun hHeld => ?_)
      focus
        (try dsimp only)
        exact cell_alloc _ hHeld
      clear hK K
      (try simp only [List.getElem_toArray, List.getElem_cons_zero, List.getElem_cons_succ, Act.put, List.setIfInBounds_toArray, List.set_cons_zero, List.set_cons_succ])
      refine wpAnyH_ready (rs := [4, 8]) (by kernel_rfl) (by simp) ?_
      refine AllReadyH.cons (o := _) rfl (fun K hK => ?_) ?_
      focus
        go_simp
        refine hK.out _ _ ?_ (fun hHeld => ?_)
        focus
          (try dsimp only)
          exact cell_alloc _ hHeld
        clear hK K
        (try simp only [List.getElem_toArray, List.getElem_cons_zero, List.getElem_cons_succ, Act.put, List.setIfInBounds_toArray, List.set_cons_zero, List.set_cons_succ])
        refine wpAnyH_ready (rs := [8]) (by kernel_rfl) (by simp) ?_
        refine AllReadyH.cons (o := _) rfl (fun K hK => ?_) ?_
        focus
          go_simp
          refine hK.out _ _ ?_ (fun hHeld => ?_)
          focus
            (try dsimp only)
            exact cell_alloc _ hHeld
          clear hK K
          (try simp only [List.getElem_toArray, List.getElem_cons_zero, List.getElem_cons_succ, Act.put, List.setIfInBounds_toArray, List.set_cons_zero, List.set_cons_succ])
          refine wpAnyH_take (i := 9) (oi := _) (v := ?_) rfl (by kernel_rfl) (by kernel_rfl) (by kernel_rfl) (fun _ _ _ h => h) (Or.inl ⟨by rfl, ?_⟩) (by assumption) ?_
          rotate_left
          focus
            intro w hSw
            (try dsimp only at hSw)
            go_simp
            (try with_reducible rfl)
          (try simp only [List.getElem_toArray, List.getElem_cons_zero, List.getElem_cons_succ, Act.put, List.setIfInBounds_toArray, List.set_cons_zero, List.set_cons_succ])
          refine wpAnyH_take (i := 10) (oi := _) (v := ?_) rfl (by kernel_rfl) (by kernel_rfl) (by kernel_rfl) (fun _ _ _ h => h) (Or.inl ⟨by rfl, ?_⟩) (by assumption) ?_
          rotate_left
          focus
            intro w hSw
            (try dsimp only at hSw)
            go_simp
            (try with_reducible rfl)
          (try simp only [List.getElem_toArray, List.getElem_cons_zero, List.getElem_cons_succ, Act.put, List.setIfInBounds_toArray, List.set_cons_zero, List.set_cons_succ])
          refine wpAnyH_take (i := 11) (oi := _) (v := ?_) rfl (by kernel_rfl) (by kernel_rfl) (by kernel_rfl) (fun _ _ _ h => h) (Or.inl ⟨by rfl, ?_⟩) (by assumption) ?_
          rotate_left
          focus
            intro w hSw
            (try dsimp only at hSw)
            go_simp
            (try with_reducible rfl)
          (try simp only [List.getElem_toArray, List.getElem_cons_zero, List.getElem_cons_succ, Act.put, List.setIfInBounds_toArray, List.set_cons_zero, List.set_cons_succ])
          refine wpAnyH_ready (rs := [12]) (by kernel_rfl) (by simp) ?_
          refine AllReadyH.cons (o := _) rfl (fun K hK => ?_) AllReadyH.nil
          (try simp only [List.getElem_toArray, List.getElem_cons_zero, List.getElem_cons_succ])
          rw [if_pos (by rfl)]
          obtain ⟨h1, h2, h3⟩ := alloc3 w2 (.cells (madeCells zB (tasksOf bs).length) 4) (.cells (madeCells zV (bs.length * 8)) 47) (.cells (madeCells zB (tasksOf bs).length) 4)
          have hB3 := (below3 w2 (.cells (madeCells zB (tasksOf bs).length) 4) (.cells (madeCells zV (bs.length * 8)) 47) (.cells (madeCells zB (tasksOf bs).length) 4)).drew
          refine wp_store (run_storeAt_mid _ w1.heap.size 3 62 _ (there_block ((hB3.block w1.heap.size hz12).trans hblk) 3 5 (by simp)) (by kernel_rfl) (by simp [Value.oneCell'])) ?_
          refine hK.out _ _ ?_ (fun hHeld => ?_)
          focus
            (try dsimp only)
            exact (cell_setCells_other (by omega)).trans (cell_alloc _ (cell_alloc _ (cell_alloc _ e1)))
          clear hK K
          (try simp only [List.getElem_toArray, List.getElem_cons_zero, List.getElem_cons_succ, Act.put, List.setIfInBounds_toArray, List.set_cons_zero, List.set_cons_succ])
          refine wpAnyH_done (by kernel_rfl) ?_ _
          go_wp2_with fail
          go_meet
          refine ⟨rfl, shop_begin (w := w2) (hd := [.int .i64 r, .slice A bs.length c]) (by omega) hblk hR2 htp hB3 h2 h1 h3 (by omega) (by omega) (by omega) (by omega) (by omega) (by omega) (by omega) (by omega), ?_, ?_⟩
          focus
            exact Below.setCells' (by omega) _ _ _ (hB2.trans (hB3.mono (by omega)))
          exact (cell_setCells_other (by omega)).trans (cell_alloc _ (cell_alloc _ (cell_alloc _ e0)))
        exact AllReadyH.nil
      refine AllReadyH.cons (o := _) rfl (fun K hK => ?_) ?_
      focus
        go_simp
        refine hK.out _ _ ?_ (fun hHeld => ?_)
        focus
          (try dsimp only)
          exact cell_alloc _ hHeld
        clear hK K
        (try simp only [List.getElem_toArray, List.getElem_cons_zero, List.getElem_cons_succ, Act.put, List.setIfInBounds_toArray, List.set_cons_zero, List.set_cons_succ])
        refine wpAnyH_ready (rs := [4]) (by kernel_rfl) (by simp) ?_
        refine AllReadyH.cons (o := _) rfl (fun K hK => ?_) ?_
        focus
          go_simp
          refine hK.out _ _ ?_ (fun hHeld => ?_)
          focus
            (try dsimp only)
            exact cell_alloc _ hHeld
          clear hK K
          (try simp only [List.getElem_toArray, List.getElem_cons_zero, List.getElem_cons_succ, Act.put, List.setIfInBounds_toArray, List.set_cons_zero, List.set_cons_succ])
          refine wpAnyH_take (i := 9) (oi := _) (v := ?_) rfl (by kernel_rfl) (by kernel_rfl) (by kernel_rfl) (fun _ _ _ h => h) (Or.inl ⟨by rfl, ?_⟩) (by assumption) ?_
          rotate_left
          focus
            intro w hSw
            (try dsimp only at hSw)
            go_simp
            (try with_reducible rfl)
          (try simp only [List.getElem_toArray, List.getElem_cons_zero, List.getElem_cons_succ, Act.put, List.setIfInBounds_toArray, List.set_cons_zero, List.set_cons_succ])
          refine wpAnyH_take (i := 10) (oi := _) (v := ?_) rfl (by kernel_rfl) (by kernel_rfl) (by kernel_rfl) (fun _ _ _ h => h) (Or.inl ⟨by rfl, ?_⟩) (by assumption) ?_
          rotate_left
          focus
            intro w hSw
            (try dsimp only at hSw)
            go_simp
            (try with_reducible rfl)
          (try simp only [List.getElem_toArray, List.getElem_cons_zero, List.getElem_cons_succ, Act.put, List.setIfInBounds_toArray, List.set_cons_zero, List.set_cons_succ])
          refine wpAnyH_take (i := 11) (oi := _) (v := ?_) rfl (by kernel_rfl) (by kernel_rfl) (by kernel_rfl) (fun _ _ _ h => h) (Or.inl ⟨by rfl, ?_⟩) (by assumption) ?_
          rotate_left
          focus
            intro w hSw
            (try dsimp only at hSw)
            go_simp
            (try with_reducible rfl)
          (try simp only [List.getElem_toArray, List.getElem_cons_zero, List.getElem_cons_succ, Act.put, List.setIfInBounds_toArray, List.set_cons_zero, List.set_cons_succ])
          refine wpAnyH_ready (rs := [12]) (by kernel_rfl) (by simp) ?_
          refine AllReadyH.cons (o := _) rfl (fun K hK => ?_) AllReadyH.nil
          (try simp only [List.getElem_toArray, List.getElem_cons_zero, List.getElem_cons_succ])
          rw [if_pos (by rfl)]
          obtain ⟨h1, h2, h3⟩ := alloc3 w2 (.cells (madeCells zB (tasksOf bs).length) 4) (.cells (madeCells zB (tasksOf bs).length) 4) (.cells (madeCells zV (bs.length * 8)) 47)
          have hB3 := (below3 w2 (.cells (madeCells zB (tasksOf bs).length) 4) (.cells (madeCells zB (tasksOf bs).length) 4) (.cells (madeCells zV (bs.length * 8)) 47)).drew
          refine wp_store (run_storeAt_mid _ w1.heap.size 3 62 _ (there_block ((hB3.block w1.heap.size hz12).trans hblk) 3 5 (by simp)) (by kernel_rfl) (by simp [Value.oneCell'])) ?_
          refine hK.out _ _ ?_ (fun hHeld => ?_)
          focus
            (try dsimp only)
            exact (cell_setCells_other (by omega)).trans (cell_alloc _ (cell_alloc _ (cell_alloc _ e1)))
          clear hK K
          (try simp only [List.getElem_toArray, List.getElem_cons_zero, List.getElem_cons_succ, Act.put, List.setIfInBounds_toArray, List.set_cons_zero, List.set_cons_succ])
          refine wpAnyH_done (by kernel_rfl) ?_ _
          go_wp2_with fail
          go_meet
          refine ⟨rfl, shop_begin (w := w2) (hd := [.int .i64 r, .slice A bs.length c]) (by omega) hblk hR2 htp hB3 h3 h1 h2 (by omega) (by omega) (by omega) (by omega) (by omega) (by omega) (by omega) (by omega), ?_, ?_⟩
          focus
            exact Below.setCells' (by omega) _ _ _ (hB2.trans (hB3.mono (by omega)))
          exact (cell_setCells_other (by omega)).trans (cell_alloc _ (cell_alloc _ (cell_alloc _ e0)))
        exact AllReadyH.nil
      exact AllReadyH.nil
    refine AllReadyH.cons (o := _) rfl (fun K hK => ?_) ?_
    focus
      go_simp
      refine hK.out _ _ ?_ (fun hHeld => ?_)
      focus
        (try dsimp only)
        exact cell_alloc _ hHeld
      clear hK K
      (try simp only [List.getElem_toArray, List.getElem_cons_zero, List.getElem_cons_succ, Act.put, List.setIfInBounds_toArray, List.set_cons_zero, List.set_cons_succ])
      refine wpAnyH_ready (rs := [4, 6]) (by kernel_rfl) (by simp) ?_
      refine AllReadyH.cons (o := _) rfl (fun K hK => ?_) ?_
      focus
        go_simp
        refine hK.out _ _ ?_ (fun hHeld => ?_)
        focus
          (try dsimp only)
          exact cell_alloc _ hHeld
        clear hK K
        (try simp only [List.getElem_toArray, List.getElem_cons_zero, List.getElem_cons_succ, Act.put, List.setIfInBounds_toArray, List.set_cons_zero, List.set_cons_succ])
        refine wpAnyH_ready (rs := [6]) (by kernel_rfl) (by simp) ?_
        refine AllReadyH.cons (o := _) rfl (fun K hK => ?_) ?_
        focus
          go_simp
          refine hK.out _ _ ?_ (fun hHeld => ?_)
          focus
            (try dsimp only)
            exact cell_alloc _ hHeld
          clear hK K
          (try simp only [List.getElem_toArray, List.getElem_cons_zero, List.getElem_cons_succ, Act.put, List.setIfInBounds_toArray, List.set_cons_zero, List.set_cons_succ])
          refine wpAnyH_take (i := 9) (oi := _) (v := ?_) rfl (by kernel_rfl) (by kernel_rfl) (by kernel_rfl) (fun _ _ _ h => h) (Or.inl ⟨by rfl, ?_⟩) (by assumption) ?_
          rotate_left
          focus
            intro w hSw
            (try dsimp only at hSw)
            go_simp
            (try with_reducible rfl)
          (try simp only [List.getElem_toArray, List.getElem_cons_zero, List.getElem_cons_succ, Act.put, List.setIfInBounds_toArray, List.set_cons_zero, List.set_cons_succ])
          refine wpAnyH_take (i := 10) (oi := _) (v := ?_) rfl (by kernel_rfl) (by kernel_rfl) (by kernel_rfl) (fun _ _ _ h => h) (Or.inl ⟨by rfl, ?_⟩) (by assumption) ?_
          rotate_left
          focus
            intro w hSw
            (try dsimp only at hSw)
            go_simp
            (try with_reducible rfl)
          (try simp only [List.getElem_toArray, List.getElem_cons_zero, List.getElem_cons_succ, Act.put, List.setIfInBounds_toArray, List.set_cons_zero, List.set_cons_succ])
          refine wpAnyH_take (i := 11) (oi := _) (v := ?_) rfl (by kernel_rfl) (by kernel_rfl) (by kernel_rfl) (fun _ _ _ h => h) (Or.inl ⟨by rfl, ?_⟩) (by assumption) ?_
          rotate_left
          focus
            intro w hSw
            (try dsimp only at hSw)
            go_simp
            (try with_reducible rfl)
          (try simp only [List.getElem_toArray, List.getElem_cons_zero, List.getElem_cons_succ, Act.put, List.setIfInBounds_toArray, List.set_cons_zero, List.set_cons_succ])
          refine wpAnyH_ready (rs := [12]) (by kernel_rfl) (by simp) ?_
          refine AllReadyH.cons (o := _) rfl (fun K hK => ?_) AllReadyH.nil
          (try simp only [List.getElem_toArray, List.getElem_cons_zero, List.getElem_cons_succ])
          rw [if_pos (by rfl)]
          obtain ⟨h1, h2, h3⟩ := alloc3 w2 (.cells (madeCells zB (tasksOf bs).length) 4) (.cells (madeCells zV (bs.length * 8)) 47) (.cells (madeCells zB (tasksOf bs).length) 4)
          have hB3 := (below3 w2 (.cells (madeCells zB (tasksOf bs).length) 4) (.cells (madeCells zV (bs.length * 8)) 47) (.cells (madeCells zB (tasksOf bs).length) 4)).drew
          refine wp_store (run_storeAt_mid _ w1.heap.size 3 62 _ (there_block ((hB3.block w1.heap.size hz12).trans hblk) 3 5 (by simp)) (by kernel_rfl) (by simp [Value.oneCell'])) ?_
          refine hK.out _ _ ?_ (fun hHeld => ?_)
          focus
            (try dsimp only)
            exact (cell_setCells_other (by omega)).trans (cell_alloc _ (cell_alloc _ (cell_alloc _ e1)))
          clear hK K
          (try simp only [List.getElem_toArray, List.getElem_cons_zero, List.getElem_cons_succ, Act.put, List.setIfInBounds_toArray, List.set_cons_zero, List.set_cons_succ])
          refine wpAnyH_done (by kernel_rfl) ?_ _
          go_wp2_with fail
          go_meet
          refine ⟨rfl, shop_begin (w := w2) (hd := [.int .i64 r, .slice A bs.length c]) (by omega) hblk hR2 htp hB3 h2 h3 h1 (by omega) (by omega) (by omega) (by omega) (by omega) (by omega) (by omega) (by omega), ?_, ?_⟩
          focus
            exact Below.setCells' (by omega) _ _ _ (hB2.trans (hB3.mono (by omega)))
          exact (cell_setCells_other (by omega)).trans (cell_alloc _ (cell_alloc _ (cell_alloc _ e0)))
        exact AllReadyH.nil
      refine AllReadyH.cons (o := _) rfl (fun K hK => ?_) ?_
      focus
        go_simp
        refine hK.out _ _ ?_ (fun hHeld => ?_)
        focus
          (try dsimp only)
          exact cell_alloc _ hHeld
        clear hK K
        (try simp only [List.getElem_toArray, List.getElem_cons_zero, List.getElem_cons_succ, Act.put, List.setIfInBounds_toArray, List.set_cons_zero, List.set_cons_succ])
        refine wpAnyH_ready (rs := [4]) (by kernel_rfl) (by simp) ?_
        refine AllReadyH.cons (o := _) rfl (fun K hK => ?_) ?_
        focus
          go_simp
          refine hK.out _ _ ?_ (fun hHeld => ?_)
          focus
            (try dsimp only)
            exact cell_alloc _ hHeld
          clear hK K
          (try simp only [List.getElem_toArray, List.getElem_cons_zero, List.getElem_cons_succ, Act.put, List.setIfInBounds_toArray, List.set_cons_zero, List.set_cons_succ])
          refine wpAnyH_take (i := 9) (oi := _) (v := ?_) rfl (by kernel_rfl) (by kernel_rfl) (by kernel_rfl) (fun _ _ _ h => h) (Or.inl ⟨by rfl, ?_⟩) (by assumption) ?_
          rotate_left
          focus
            intro w hSw
            (try dsimp only at hSw)
            go_simp
            (try with_reducible rfl)
          (try simp only [List.getElem_toArray, List.getElem_cons_zero, List.getElem_cons_succ, Act.put, List.setIfInBounds_toArray, List.set_cons_zero, List.set_cons_succ])
          refine wpAnyH_take (i := 10) (oi := _) (v := ?_) rfl (by kernel_rfl) (by kernel_rfl) (by kernel_rfl) (fun _ _ _ h => h) (Or.inl ⟨by rfl, ?_⟩) (by assumption) ?_
          rotate_left
          focus
            intro w hSw
            (try dsimp only at hSw)
            go_simp
            (try with_reducible rfl)
          (try simp only [List.getElem_toArray, List.getElem_cons_zero, List.getElem_cons_succ, Act.put, List.setIfInBounds_toArray, List.set_cons_zero, List.set_cons_succ])
          refine wpAnyH_take (i := 11) (oi := _) (v := ?_) rfl (by kernel_rfl) (by kernel_rfl) (by kernel_rfl) (fun _ _ _ h => h) (Or.inl ⟨by rfl, ?_⟩) (by assumption) ?_
          rotate_left
          focus
            intro w hSw
            (try dsimp only at hSw)
            go_simp
            (try with_reducible rfl)
          (try simp only [List.getElem_toArray, List.getElem_cons_zero, List.getElem_cons_succ, Act.put, List.setIfInBounds_toArray, List.set_cons_zero, List.set_cons_succ])
          refine wpAnyH_ready (rs := [12]) (by kernel_rfl) (by simp) ?_
          refine AllReadyH.cons (o := _) rfl (fun K hK => ?_) AllReadyH.nil
          (try simp only [List.getElem_toArray, List.getElem_cons_zero, List.getElem_cons_succ])
          rw [if_pos (by rfl)]
          obtain ⟨h1, h2, h3⟩ := alloc3 w2 (.cells (madeCells zB (tasksOf bs).length) 4) (.cells (madeCells zB (tasksOf bs).length) 4) (.cells (madeCells zV (bs.length * 8)) 47)
          have hB3 := (below3 w2 (.cells (madeCells zB (tasksOf bs).length) 4) (.cells (madeCells zB (tasksOf bs).length) 4) (.cells (madeCells zV (bs.length * 8)) 47)).drew
          refine wp_store (run_storeAt_mid _ w1.heap.size 3 62 _ (there_block ((hB3.block w1.heap.size hz12).trans hblk) 3 5 (by simp)) (by kernel_rfl) (by simp [Value.oneCell'])) ?_
          refine hK.out _ _ ?_ (fun hHeld => ?_)
          focus
            (try dsimp only)
            exact (cell_setCells_other (by omega)).trans (cell_alloc _ (cell_alloc _ (cell_alloc _ e1)))
          clear hK K
          (try simp only [List.getElem_toArray, List.getElem_cons_zero, List.getElem_cons_succ, Act.put, List.setIfInBounds_toArray, List.set_cons_zero, List.set_cons_succ])
          refine wpAnyH_done (by kernel_rfl) ?_ _
          go_wp2_with fail
          go_meet
          refine ⟨rfl, shop_begin (w := w2) (hd := [.int .i64 r, .slice A bs.length c]) (by omega) hblk hR2 htp hB3 h3 h2 h1 (by omega) (by omega) (by omega) (by omega) (by omega) (by omega) (by omega) (by omega), ?_, ?_⟩
          focus
            exact Below.setCells' (by omega) _ _ _ (hB2.trans (hB3.mono (by omega)))
          exact (cell_setCells_other (by omega)).trans (cell_alloc _ (cell_alloc _ (cell_alloc _ e0)))
        exact AllReadyH.nil
      exact AllReadyH.nil
    exact AllReadyH.nil
  case rest =>
    clear hmk1 f1 hblk
    obtain ⟨rfl, hS, hB, hc0⟩ := hcut
    clear e0 e1 hb12 hR2 htp
    go_wp2_with fail
    go_loopg [29] r (OpRel w w1.heap.size 106 [.int .i64 r, .slice A bs.length c] r bs.length (tasksOf bs))
    case atStart => exact ⟨0, by omega, by omega, by go_num, hS, hB⟩
    case round =>
      clear hS hB hc0
      obtain ⟨k, hk, rfl, rfl, hS, hB⟩ := hrel
      by_cases hlt : k < r
      · obtain ⟨o, S, hS⟩ := hS
        have hSd := hS.kept ((Below.refl _ wr).drew) 0
        have hpl := hS.lt
        have c4 : wr.cell? ⟨w1.heap.size, 4, none⟩ = some S.b := hS.cell rfl
        obtain ⟨Ab, cb, eb, -, -⟩ := hS.books.1.form
        have hbl : (S.hs.map fun v => (#[v] : Array Value)).length = k := by rw [List.length_map, hS.hl]; simp [floorN]
        rw [hbl] at eb
        obtain ⟨A5, c5, w5, hap, hSh, hb5, hc5, hf5⟩ := hSd.pushBook 58 (tasksOf bs).length h48 (by simp [floorN]; omega)
        rw [show (floorN bs.length (tasksOf bs).length k).books.length = k by simp [floorN]] at hap hSh
        have d4 := hc5 4 _ rfl
        have d4f := hf5 4
        rw [eb] at c4 hap d4
        have c4a := cell_alloc (.cells (madeCells zB (tasksOf bs).length) 4) c4
        have c4b := cell_alloc (.cells #[.slice (some ⟨wr.heap.size, 0, none⟩) (tasksOf bs).length (tasksOf bs).length] 59) c4a
        have hSh' : ShopAt (w5.setCell ⟨w1.heap.size, 4, none⟩ (.slice A5 (k + 1) c5)) (under w.heap.size) w1.heap.size 106 [.int .i64 r, .slice A bs.length c] (tasksOf bs) (floorN bs.length (tasksOf bs).length (k + 1)) := by
          have e : floorN bs.length (tasksOf bs).length (k + 1) = { floorN bs.length (tasksOf bs).length k with books := (floorN bs.length (tasksOf bs).length k).books ++ [List.replicate (tasksOf bs).length false] } := by
            simp [floorN, List.replicate_succ']
          rw [e]; exact hSh
        have hB5 : Below w.heap.size w (w5.setCell ⟨w1.heap.size, 4, none⟩ (.slice A5 (k + 1) c5)) := (hB.drew.trans (hb5.below (by show _ ≤ wr.heap.size; have := hB.size; omega))).setCell (p := ⟨w1.heap.size, 4, none⟩) (by show w.heap.size ≤ w1.heap.size; omega) _
        clear hSh hS hSd hc5 hf5 hb5
        go_wp2_with fail
        refine wp_region_held_drew (S := fun _ => True) (by kernel_rfl) trivial (fun hHeld => ?_)
        refine wpAnyH_take (i := 0) (oi := _) (v := ?_) rfl (by kernel_rfl) (by kernel_rfl) (by kernel_rfl) (fun _ _ _ h => h) (Or.inl ⟨by rfl, ?_⟩) (by assumption) ?_
        rotate_left
        focus
          intro w hSw
          (try dsimp only at hSw)
          go_simp
          (try with_reducible rfl)
        (try simp only [List.getElem_toArray, List.getElem_cons_zero, List.getElem_cons_succ, Act.put, List.setIfInBounds_toArray, List.set_cons_zero, List.set_cons_succ])
        refine wpAnyH_take (i := 1) (oi := _) (v := ?_) rfl (by kernel_rfl) (by kernel_rfl) (by kernel_rfl) (fun _ _ _ h => h) (Or.inl ⟨by rfl, ?_⟩) (by assumption) ?_
        rotate_left
        focus
          intro w hSw
          (try dsimp only at hSw)
          go_simp
          (try with_reducible rfl)
        (try simp only [List.getElem_toArray, List.getElem_cons_zero, List.getElem_cons_succ, Act.put, List.setIfInBounds_toArray, List.set_cons_zero, List.set_cons_succ])
        refine wpAnyH_take (i := 2) (oi := _) (v := ?_) rfl (by kernel_rfl) (by kernel_rfl) (by kernel_rfl) (fun _ _ _ h => h) (Or.inl ⟨by rfl, ?_⟩) (by assumption) ?_
        rotate_left
        focus
          intro w hSw
          (try dsimp only at hSw)
          go_simp
          (try with_reducible rfl)
        (try simp only [List.getElem_toArray, List.getElem_cons_zero, List.getElem_cons_succ, Act.put, List.setIfInBounds_toArray, List.set_cons_zero, List.set_cons_succ])
        refine wpAnyH_take (i := 3) (oi := _) (v := ?_) rfl (by kernel_rfl) (by kernel_rfl) (by kernel_rfl) (fun _ _ _ h => h) (Or.inl ⟨by rfl, ?_⟩) (by assumption) ?_
        rotate_left
        focus
          intro w hSw
          (try dsimp only at hSw)
          go_simp
          (try with_reducible rfl)
        (try simp only [List.getElem_toArray, List.getElem_cons_zero, List.getElem_cons_succ, Act.put, List.setIfInBounds_toArray, List.set_cons_zero, List.set_cons_succ])
        refine wpAnyH_take (i := 4) (oi := _) (v := ?_) rfl (by kernel_rfl) (by kernel_rfl) (by kernel_rfl) (fun _ _ _ h => h) (Or.inl ⟨by rfl, ?_⟩) (by assumption) ?_
        rotate_left
        focus
          intro w hSw
          (try dsimp only at hSw)
          go_simp
          (try with_reducible rfl)
        (try simp only [List.getElem_toArray, List.getElem_cons_zero, List.getElem_cons_succ, Act.put, List.setIfInBounds_toArray, List.set_cons_zero, List.set_cons_succ])
        refine wpAnyH_take (i := 6) (oi := _) (v := ?_) rfl (by kernel_rfl) (by kernel_rfl) (by kernel_rfl) (fun _ _ _ h => h) (Or.inl ⟨by rfl, ?_⟩) (by assumption) ?_
        rotate_left
        focus
          intro w hSw
          (try dsimp only at hSw)
          go_simp
          (try with_reducible rfl)
        (try simp only [List.getElem_toArray, List.getElem_cons_zero, List.getElem_cons_succ, Act.put, List.setIfInBounds_toArray, List.set_cons_zero, List.set_cons_succ])
        refine wpAnyH_ready (rs := [5, 7]) (by kernel_rfl) (by simp) ?_
        refine AllReadyH.cons (o := _) rfl (fun K hK => ?_) ?_
        focus
          go_simp
          refine hK.out _ _ ?_ (fun hHeld => ?_)
          focus
            (try dsimp only)
            (try trivial)
          clear hK K
          (try simp only [List.getElem_toArray, List.getElem_cons_zero, List.getElem_cons_succ, Act.put, List.setIfInBounds_toArray, List.set_cons_zero, List.set_cons_succ])
          refine wpAnyH_ready (rs := [7]) (by kernel_rfl) (by simp) ?_
          refine AllReadyH.cons (o := _) rfl (fun K hK => ?_) AllReadyH.nil
          (try simp only [List.getElem_toArray, List.getElem_cons_zero, List.getElem_cons_succ])
          go_simp
          refine hK.out _ _ ?_ (fun hHeld => ?_)
          focus
            (try dsimp only)
            (try trivial)
          clear hK K
          (try simp only [List.getElem_toArray, List.getElem_cons_zero, List.getElem_cons_succ, Act.put, List.setIfInBounds_toArray, List.set_cons_zero, List.set_cons_succ])
          refine wpAnyH_ready (rs := [8]) (by kernel_rfl) (by simp) ?_
          refine AllReadyH.cons (o := _) rfl (fun K hK => ?_) AllReadyH.nil
          (try simp only [List.getElem_toArray, List.getElem_cons_zero, List.getElem_cons_succ])
          go_simp
          refine hK.out _ _ ?_ (fun hHeld => ?_)
          focus
            (try dsimp only)
            (try trivial)
          clear hK K
          (try simp only [List.getElem_toArray, List.getElem_cons_zero, List.getElem_cons_succ, Act.put, List.setIfInBounds_toArray, List.set_cons_zero, List.set_cons_succ])
          refine wpAnyH_ready (rs := [9]) (by kernel_rfl) (by simp) ?_
          refine AllReadyH.cons (o := _) rfl (fun K hK => ?_) AllReadyH.nil
          (try simp only [List.getElem_toArray, List.getElem_cons_zero, List.getElem_cons_succ])
          rw [if_pos (by rfl)]
          refine wp_app (.tmp 36) (.tmp 39) 58 hap (by simp [Act.eval]) (by simp [Act.eval]) ?_
          refine hK.out _ _ ?_ (fun hHeld => ?_)
          focus
            (try dsimp only)
            (try trivial)
          clear hK K
          (try simp only [List.getElem_toArray, List.getElem_cons_zero, List.getElem_cons_succ, Act.put, List.setIfInBounds_toArray, List.set_cons_zero, List.set_cons_succ])
          refine wpAnyH_take (i := 10) (oi := _) (v := ?_) rfl (by kernel_rfl) (by kernel_rfl) (by kernel_rfl) (fun _ _ _ h => h) (Or.inl ⟨by rfl, ?_⟩) (by assumption) ?_
          rotate_left
          focus
            intro w hSw
            (try dsimp only at hSw)
            go_simp
            (try with_reducible rfl)
          (try simp only [List.getElem_toArray, List.getElem_cons_zero, List.getElem_cons_succ, Act.put, List.setIfInBounds_toArray, List.set_cons_zero, List.set_cons_succ])
          refine wpAnyH_take (i := 11) (oi := _) (v := ?_) rfl (by kernel_rfl) (by kernel_rfl) (by kernel_rfl) (fun _ _ _ h => h) (Or.inl ⟨by rfl, ?_⟩) (by assumption) ?_
          rotate_left
          focus
            intro w hSw
            (try dsimp only at hSw)
            go_simp
            (try with_reducible rfl)
          (try simp only [List.getElem_toArray, List.getElem_cons_zero, List.getElem_cons_succ, Act.put, List.setIfInBounds_toArray, List.set_cons_zero, List.set_cons_succ])
          refine wpAnyH_take (i := 12) (oi := _) (v := ?_) rfl (by kernel_rfl) (by kernel_rfl) (by kernel_rfl) (fun _ _ _ h => h) (Or.inl ⟨by rfl, ?_⟩) (by assumption) ?_
          rotate_left
          focus
            intro w hSw
            (try dsimp only at hSw)
            go_simp
            (try with_reducible rfl)
          (try simp only [List.getElem_toArray, List.getElem_cons_zero, List.getElem_cons_succ, Act.put, List.setIfInBounds_toArray, List.set_cons_zero, List.set_cons_succ])
          refine wpAnyH_ready (rs := [13]) (by kernel_rfl) (by simp) ?_
          refine AllReadyH.cons (o := _) rfl (fun K hK => ?_) AllReadyH.nil
          (try simp only [List.getElem_toArray, List.getElem_cons_zero, List.getElem_cons_succ])
          go_simp
          refine hK.out _ _ ?_ (fun hHeld => ?_)
          focus
            (try dsimp only)
            (try trivial)
          clear hK K
          (try simp only [List.getElem_toArray, List.getElem_cons_zero, List.getElem_cons_succ, Act.put, List.setIfInBounds_toArray, List.set_cons_zero, List.set_cons_succ])
          refine wpAnyH_done (by kernel_rfl) ?_ _
          go_wp2_with fail
          go_roundg (r - (k + 1))
          case measure => omega
          case rel => exact ⟨k + 1, by omega, rfl, by go_num, hSh', hB5⟩
        refine AllReadyH.cons (o := _) rfl (fun K hK => ?_) ?_
        focus
          go_simp
          refine hK.out _ _ ?_ (fun hHeld => ?_)
          focus
            (try dsimp only)
            (try trivial)
          clear hK K
          (try simp only [List.getElem_toArray, List.getElem_cons_zero, List.getElem_cons_succ, Act.put, List.setIfInBounds_toArray, List.set_cons_zero, List.set_cons_succ])
          refine wpAnyH_ready (rs := [5, 8]) (by kernel_rfl) (by simp) ?_
          refine AllReadyH.cons (o := _) rfl (fun K hK => ?_) ?_
          focus
            go_simp
            refine hK.out _ _ ?_ (fun hHeld => ?_)
            focus
              (try dsimp only)
              (try trivial)
            clear hK K
            (try simp only [List.getElem_toArray, List.getElem_cons_zero, List.getElem_cons_succ, Act.put, List.setIfInBounds_toArray, List.set_cons_zero, List.set_cons_succ])
            refine wpAnyH_ready (rs := [8]) (by kernel_rfl) (by simp) ?_
            refine AllReadyH.cons (o := _) rfl (fun K hK => ?_) AllReadyH.nil
            (try simp only [List.getElem_toArray, List.getElem_cons_zero, List.getElem_cons_succ])
            go_simp
            refine hK.out _ _ ?_ (fun hHeld => ?_)
            focus
              (try dsimp only)
              (try trivial)
            clear hK K
            (try simp only [List.getElem_toArray, List.getElem_cons_zero, List.getElem_cons_succ, Act.put, List.setIfInBounds_toArray, List.set_cons_zero, List.set_cons_succ])
            refine wpAnyH_ready (rs := [9]) (by kernel_rfl) (by simp) ?_
            refine AllReadyH.cons (o := _) rfl (fun K hK => ?_) AllReadyH.nil
            (try simp only [List.getElem_toArray, List.getElem_cons_zero, List.getElem_cons_succ])
            rw [if_pos (by rfl)]
            refine wp_app (.tmp 36) (.tmp 39) 58 hap (by simp [Act.eval]) (by simp [Act.eval]) ?_
            refine hK.out _ _ ?_ (fun hHeld => ?_)
            focus
              (try dsimp only)
              (try trivial)
            clear hK K
            (try simp only [List.getElem_toArray, List.getElem_cons_zero, List.getElem_cons_succ, Act.put, List.setIfInBounds_toArray, List.set_cons_zero, List.set_cons_succ])
            refine wpAnyH_take (i := 10) (oi := _) (v := ?_) rfl (by kernel_rfl) (by kernel_rfl) (by kernel_rfl) (fun _ _ _ h => h) (Or.inl ⟨by rfl, ?_⟩) (by assumption) ?_
            rotate_left
            focus
              intro w hSw
              (try dsimp only at hSw)
              go_simp
              (try with_reducible rfl)
            (try simp only [List.getElem_toArray, List.getElem_cons_zero, List.getElem_cons_succ, Act.put, List.setIfInBounds_toArray, List.set_cons_zero, List.set_cons_succ])
            refine wpAnyH_take (i := 11) (oi := _) (v := ?_) rfl (by kernel_rfl) (by kernel_rfl) (by kernel_rfl) (fun _ _ _ h => h) (Or.inl ⟨by rfl, ?_⟩) (by assumption) ?_
            rotate_left
            focus
              intro w hSw
              (try dsimp only at hSw)
              go_simp
              (try with_reducible rfl)
            (try simp only [List.getElem_toArray, List.getElem_cons_zero, List.getElem_cons_succ, Act.put, List.setIfInBounds_toArray, List.set_cons_zero, List.set_cons_succ])
            refine wpAnyH_take (i := 12) (oi := _) (v := ?_) rfl (by kernel_rfl) (by kernel_rfl) (by kernel_rfl) (fun _ _ _ h => h) (Or.inl ⟨by rfl, ?_⟩) (by assumption) ?_
            rotate_left
            focus
              intro w hSw
              (try dsimp only at hSw)
              go_simp
              (try with_reducible rfl)
            (try simp only [List.getElem_toArray, List.getElem_cons_zero, List.getElem_cons_succ, Act.put, List.setIfInBounds_toArray, List.set_cons_zero, List.set_cons_succ])
            refine wpAnyH_ready (rs := [13]) (by kernel_rfl) (by simp) ?_
            refine AllReadyH.cons (o := _) rfl (fun K hK => ?_) AllReadyH.nil
            (try simp only [List.getElem_toArray, List.getElem_cons_zero, List.getElem_cons_succ])
            go_simp
            refine hK.out _ _ ?_ (fun hHeld => ?_)
            focus
              (try dsimp only)
              (try trivial)
            clear hK K
            (try simp only [List.getElem_toArray, List.getElem_cons_zero, List.getElem_cons_succ, Act.put, List.setIfInBounds_toArray, List.set_cons_zero, List.set_cons_succ])
            refine wpAnyH_done (by kernel_rfl) ?_ _
            go_wp2_with fail
            go_roundg (r - (k + 1))
            case measure => omega
            case rel => exact ⟨k + 1, by omega, rfl, by go_num, hSh', hB5⟩
          refine AllReadyH.cons (o := _) rfl (fun K hK => ?_) ?_
          focus
            go_simp
            refine hK.out _ _ ?_ (fun hHeld => ?_)
            focus
              (try dsimp only)
              (try trivial)
            clear hK K
            (try simp only [List.getElem_toArray, List.getElem_cons_zero, List.getElem_cons_succ, Act.put, List.setIfInBounds_toArray, List.set_cons_zero, List.set_cons_succ])
            refine wpAnyH_ready (rs := [5]) (by kernel_rfl) (by simp) ?_
            refine AllReadyH.cons (o := _) rfl (fun K hK => ?_) AllReadyH.nil
            (try simp only [List.getElem_toArray, List.getElem_cons_zero, List.getElem_cons_succ])
            go_simp
            refine hK.out _ _ ?_ (fun hHeld => ?_)
            focus
              (try dsimp only)
              (try trivial)
            clear hK K
            (try simp only [List.getElem_toArray, List.getElem_cons_zero, List.getElem_cons_succ, Act.put, List.setIfInBounds_toArray, List.set_cons_zero, List.set_cons_succ])
            refine wpAnyH_ready (rs := [9]) (by kernel_rfl) (by simp) ?_
            refine AllReadyH.cons (o := _) rfl (fun K hK => ?_) AllReadyH.nil
            (try simp only [List.getElem_toArray, List.getElem_cons_zero, List.getElem_cons_succ])
            rw [if_pos (by rfl)]
            refine wp_app (.tmp 36) (.tmp 39) 58 hap (by simp [Act.eval]) (by simp [Act.eval]) ?_
            refine hK.out _ _ ?_ (fun hHeld => ?_)
            focus
              (try dsimp only)
              (try trivial)
            clear hK K
            (try simp only [List.getElem_toArray, List.getElem_cons_zero, List.getElem_cons_succ, Act.put, List.setIfInBounds_toArray, List.set_cons_zero, List.set_cons_succ])
            refine wpAnyH_take (i := 10) (oi := _) (v := ?_) rfl (by kernel_rfl) (by kernel_rfl) (by kernel_rfl) (fun _ _ _ h => h) (Or.inl ⟨by rfl, ?_⟩) (by assumption) ?_
            rotate_left
            focus
              intro w hSw
              (try dsimp only at hSw)
              go_simp
              (try with_reducible rfl)
            (try simp only [List.getElem_toArray, List.getElem_cons_zero, List.getElem_cons_succ, Act.put, List.setIfInBounds_toArray, List.set_cons_zero, List.set_cons_succ])
            refine wpAnyH_take (i := 11) (oi := _) (v := ?_) rfl (by kernel_rfl) (by kernel_rfl) (by kernel_rfl) (fun _ _ _ h => h) (Or.inl ⟨by rfl, ?_⟩) (by assumption) ?_
            rotate_left
            focus
              intro w hSw
              (try dsimp only at hSw)
              go_simp
              (try with_reducible rfl)
            (try simp only [List.getElem_toArray, List.getElem_cons_zero, List.getElem_cons_succ, Act.put, List.setIfInBounds_toArray, List.set_cons_zero, List.set_cons_succ])
            refine wpAnyH_take (i := 12) (oi := _) (v := ?_) rfl (by kernel_rfl) (by kernel_rfl) (by kernel_rfl) (fun _ _ _ h => h) (Or.inl ⟨by rfl, ?_⟩) (by assumption) ?_
            rotate_left
            focus
              intro w hSw
              (try dsimp only at hSw)
              go_simp
              (try with_reducible rfl)
            (try simp only [List.getElem_toArray, List.getElem_cons_zero, List.getElem_cons_succ, Act.put, List.setIfInBounds_toArray, List.set_cons_zero, List.set_cons_succ])
            refine wpAnyH_ready (rs := [13]) (by kernel_rfl) (by simp) ?_
            refine AllReadyH.cons (o := _) rfl (fun K hK => ?_) AllReadyH.nil
            (try simp only [List.getElem_toArray, List.getElem_cons_zero, List.getElem_cons_succ])
            go_simp
            refine hK.out _ _ ?_ (fun hHeld => ?_)
            focus
              (try dsimp only)
              (try trivial)
            clear hK K
            (try simp only [List.getElem_toArray, List.getElem_cons_zero, List.getElem_cons_succ, Act.put, List.setIfInBounds_toArray, List.set_cons_zero, List.set_cons_succ])
            refine wpAnyH_done (by kernel_rfl) ?_ _
            go_wp2_with fail
            go_roundg (r - (k + 1))
            case measure => omega
            case rel => exact ⟨k + 1, by omega, rfl, by go_num, hSh', hB5⟩
          exact AllReadyH.nil
        exact AllReadyH.nil
      · obtain rfl : k = r := by omega
        go_wp2
        go_ret
        exact ⟨_, rfl, by rw [← floorN_done]; exact hS, hB⟩
end Go.Proofs.Ytomcffionomidaa
