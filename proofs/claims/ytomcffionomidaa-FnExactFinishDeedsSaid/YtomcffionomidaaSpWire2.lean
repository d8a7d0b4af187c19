/- A deed with a note: the reference's 'wire' where a note is taken away. -/
import Derived.Test.YtomcffionomidaaSpWire
import Derived.Test.YtomcffionomidaaTasks3
namespace Go.Proofs.Ytomcffionomidaa
open Go.RowKit
set_option linter.unusedSimpArgs false
set_option linter.unusedVariables false

section
variable (lo : Nat → Prop) (p wp r nb : Nat) (ts : List Tsk) (f : Fl) (w : World) (hS : ShopAt w lo p 101 [.pointer (some ⟨wp, 0, none⟩)] ts f) (hok : FlOk r nb ts f)
include hS hok



set_option maxRecDepth 100000 in
set_option maxHeartbeats 4000000 in
theorem spWire_drop (aN : Nat) (h1 : aN < f.wire.length) : Calls Try.prog 117 #[.pointer (some ⟨p, 0, none⟩), .agg #[.int .i64 4, .int .i64 aN]] w (DoPost w lo p 101 [.pointer (some ⟨wp, 0, none⟩)] ts ({ f with wire := f.wire.eraseIdx aN }, 0)) := by
  have hbox : Below w.heap.size w (w.alloc (.cells #[.int .i64 4, .int .i64 aN] 91)) := (Below.refl _ _).alloc (Nat.le_refl _) _
  obtain ⟨o, S, hS0⟩ := hS
  have hS1 := hS0.kept hbox 0
  have b0 : (w.alloc (.cells #[.int .i64 4, .int .i64 aN] 91)).cell? ⟨w.heap.size, 0, none⟩ = some (.int .i64 4) := by rw [World.cell?_alloc_at _ _ _ _ rfl]; rfl
  have b1 : (w.alloc (.cells #[.int .i64 4, .int .i64 aN] 91)).cell? ⟨w.heap.size, 1, none⟩ = some (.int .i64 aN) := by rw [World.cell?_alloc_at _ _ _ _ rfl]; rfl
  have hz : w.heap.size < (w.alloc (.cells #[.int .i64 4, .int .i64 aN] 91)).heap.size := by simp
  generalize hw0 : w.alloc (.cells #[.int .i64 4, .int .i64 aN] 91) = w0 at b0 b1 hbox hS1 hz
  have hp := hS1.lt
  have h48 := hok.n48
  have h10 := hok.w10
  have hBl : Apart lo w w0 := belAp hbox
  have c6 : w0.cell? ⟨p, 6, none⟩ = some S.w := hS1.cell rfl
  obtain ⟨gw, cw2, hw, hgo, hg, hnc, hcell, hfz⟩ := hS1.wire.at (by simp; omega)
  have hgx : gw < w.heap.size := by
    rcases Nat.lt_or_ge gw w.heap.size with h | h
    · exact h
    · rw [oNew_ge h] at hgo; omega
  have u0 : w0.cell? ⟨gw, aN * 2, none⟩ = some (.bool (f.wire[aN]).back) := by
    have := hcell aN (by simpa using h1) 0 (.bool (f.wire[aN]).back) (by simp [cN])
    simpa using this
  have u1 : w0.cell? ⟨gw, aN * 2 + 1, none⟩ = some (.int .i64 (f.wire[aN]).t) := by
    have := hcell aN (by simpa using h1) 1 (.int .i64 (f.wire[aN]).t) (by simp [cN])
    simpa using this
  simp only [List.length_map] at hw hnc
  rw [hw] at c6
  have hnt := hok.wire _ (List.getElem_mem h1)
  have hget : f.wire[aN]? = some f.wire[aN] := List.getElem?_eq_getElem h1
  obtain ⟨n, hn⟩ : ∃ n, f.wire[aN] = n := ⟨_, rfl⟩
  rw [hn] at u0 u1 hnt hget
  obtain ⟨nb0, nt⟩ := n
  replace hnt : nt < ts.length := hnt
  replace u0 : w0.cell? ⟨gw, aN * 2, none⟩ = some (.bool nb0) := u0
  replace u1 : w0.cell? ⟨gw, aN * 2 + 1, none⟩ = some (.int .i64 nt) := u1
  clear hcell hfz
  go_enter Try.func117, Try.ntmps117
  go_wp2_with fail
  clear hw0
  go_quiet (fail)
  go_wp2_with fail
  refine wp_named (B := w0.heap.size) (w := w0) (by (repeat (first | (with_reducible exact Below.refl _ _) | (with_reducible assumption) | ((with_reducible refine Below.setCell ?_ ?_ _); rotate_left; focus (first | (with_reducible exact Nat.le_refl _) | omega | (simp; done) | (simp; omega) | (simp at *; omega))) | ((with_reducible refine Below.alloc ?_ ?_ _); rotate_left; focus (first | (with_reducible exact Nat.le_refl _) | omega | (simp; done) | (simp; omega) | (simp at *; omega))) | (with_reducible refine Below.drew ?_) | (with_reducible refine below_drewN ?_ _)))) ?_
  intro W2 hW2
  have e1 := (hW2.cell (p := ⟨w.heap.size, 1, none⟩) hz).trans b1
  have e0 := (hW2.cell (p := ⟨w.heap.size, 0, none⟩) hz).trans b0
  have e6 := (hW2.cell (p := ⟨p, 6, none⟩) hp).trans c6
  have v0 := (hW2.cell (p := ⟨gw, aN * 2, none⟩) hg).trans u0
  have v1 := (hW2.cell (p := ⟨gw, aN * 2 + 1, none⟩) hg).trans u1
  have hp2 : p < W2.heap.size := by have := hW2.size; omega
  have hg2 : gw < W2.heap.size := by have := hW2.size; omega
  have hz2 : w.heap.size < W2.heap.size := by have := hW2.size; omega
  go_region
  have q0 : ((W2.alloc (.cells #[.bool nb0, .int .i64 nt] 123)).drew).cell? ⟨W2.heap.size, 0, none⟩ = some (.bool nb0) := by show (W2.alloc _).cell? _ = _; rw [World.cell?_alloc_at _ _ _ _ rfl]; rfl
  have q1 : ((W2.alloc (.cells #[.bool nb0, .int .i64 nt] 123)).drew).cell? ⟨W2.heap.size, 1, none⟩ = some (.int .i64 nt) := by show (W2.alloc _).cell? _ = _; rw [World.cell?_alloc_at _ _ _ _ rfl]; rfl
  have hb3 : Below W2.heap.size W2 ((W2.alloc (.cells #[.bool nb0, .int .i64 nt] 123)).drew) := ((Below.refl _ _).alloc (Nat.le_refl _) _).drew
  have hz3 : W2.heap.size < ((W2.alloc (.cells #[.bool nb0, .int .i64 nt] 123)).drew).heap.size := by show _ < (W2.alloc _).heap.size; simp
  generalize hw3 : (W2.alloc (.cells #[.bool nb0, .int .i64 nt] 123)).drew = w3 at q0 q1 hb3 hz3 ⊢
  clear hw3 v0 v1
  have g0 := (hb3.cell (p := ⟨w.heap.size, 0, none⟩) hz2).trans e0
  have g1 := (hb3.cell (p := ⟨w.heap.size, 1, none⟩) hz2).trans e1
  have g6 := (hb3.cell (p := ⟨p, 6, none⟩) hp2).trans e6
  clear e0 e1 e6
  have hB3 : Below w0.heap.size w0 w3 := hW2.trans (hb3.mono hW2.size)
  have hB3l : Apart lo w w3 := hBl.trans ((belAp hB3))
  have hS3 := hS1.kept hB3 0
  have hw3 : S.w = .slice (some ⟨gw, 0, none⟩) f.wire.length cw2 := hw
  have hrow3 : Row w3.drew 0 123 2 (.slice (some ⟨gw, 0, none⟩) f.wire.length cw2) (f.wire.map cN) := by rw [← hw]; exact (hS3.kept (Below.refl _ w3).drew 0).wire.1
  obtain ⟨ad, had, hsrc⟩ := hrow3.tail (aN + 1) h1
  obtain ⟨A1, c1, w4, hap1, hrow4, hb4⟩ := Row.copy (P := Try.prog) 60 60 Try.underlying60 Try.infoNote rfl (by omega) hsrc (fun y hy => notes_ok _ y (List.mem_of_mem_drop hy)) (by simp; omega) (by omega)
  have hdl : (List.drop (aN + 1) (List.map cN f.wire)).length = f.wire.length - (aN + 1) := by simp
  rw [hdl] at hap1 hrow4
  clear hsrc
  have hb34 : Below w3.heap.size w3 w4 := ((Below.refl _ w3).drew).trans hb4
  have hsz4 : w3.heap.size ≤ w4.heap.size := hb4.size
  have hp3 := hS3.lt
  have hzx : w.heap.size < w3.heap.size := by omega
  have j1 := (hb34.cell (p := ⟨w.heap.size, 1, none⟩) hzx).trans g1
  have j6 := (hb34.cell (p := ⟨p, 6, none⟩) hp3).trans g6
  have hwr : IntKind.i64.wrap ((aN : Int) + 1) = (aN : Int) + 1 := IntWalk.i64_in _ (by omega)
  have hk1 : (aN : Int) + 1 ≤ f.wire.length := by omega
  have hk0 : (0 : Int) ≤ (aN : Int) + 1 := by omega
  have hk2 : (aN : Int) + 1 ≤ cw2 := by omega
  have hk3 : (f.wire.length : Int) ≤ cw2 := by omega
  have hk4 : (aN : Int) ≤ f.wire.length := by omega
  have hk5 : aN ≤ cw2 := by omega
  go_wp2_with fail
  have hB30 := hB3
  clear hB3 hW2
  refine wp_region_held_drew (S := fun W => W.cell? ⟨w.heap.size, 1, none⟩ = some (.int .i64 aN) ∧ W.cell? ⟨p, 6, none⟩ = some (.slice (some ⟨gw, 0, none⟩) f.wire.length cw2)) (by kernel_rfl) (by exact ⟨g1, g6⟩) (fun hHeld => ?_)
  refine wpAnyH_take (i := 1) (oi := _) (v := ?_) rfl (by kernel_rfl) (by kernel_rfl) (by kernel_rfl) (fun _ _ _ h => h) (Or.inl ⟨by rfl, ?_⟩) (by assumption) ?_
  rotate_left
  focus
    intro w hSw
    (try dsimp only at hSw)
    go_simp
    (try with_reducible rfl)
  (try simp only [List.getElem_toArray, List.getElem_cons_zero, List.getElem_cons_succ, Act.put, List.setIfInBounds_toArray, List.set_cons_zero, List.set_cons_succ])
  refine wpAnyH_take (i := 2) (oi := _) (v := ?_) rfl (by kernel_rfl) (by kernel_rfl) (by kernel_rfl) (fun _ _ _ h => h) (Or.inl ⟨by rfl, ?_⟩) (by assumption) ?_
  rotate_left
  focus
    intro w hSw
    (try dsimp only at hSw)
    go_simp
    (try with_reducible rfl)
  (try simp only [List.getElem_toArray, List.getElem_cons_zero, List.getElem_cons_succ, Act.put, List.setIfInBounds_toArray, List.set_cons_zero, List.set_cons_succ])
  refine wpAnyH_take (i := 3) (oi := _) (v := ?_) rfl (by kernel_rfl) (by kernel_rfl) (by kernel_rfl) (fun _ _ _ h => h) (Or.inl ⟨by rfl, ?_⟩) (by assumption) ?_
  rotate_left
  focus
    intro w hSw
    (try dsimp only at hSw)
    go_simp
    (try with_reducible rfl)
  (try simp only [List.getElem_toArray, List.getElem_cons_zero, List.getElem_cons_succ, Act.put, List.setIfInBounds_toArray, List.set_cons_zero, List.set_cons_succ])
  refine wpAnyH_take (i := 4) (oi := _) (v := ?_) rfl (by kernel_rfl) (by kernel_rfl) (by kernel_rfl) (fun _ _ _ h => h) (Or.inl ⟨by rfl, ?_⟩) (by assumption) ?_
  rotate_left
  focus
    intro w hSw
    (try dsimp only at hSw)
    go_simp
    (try with_reducible rfl)
  (try simp only [List.getElem_toArray, List.getElem_cons_zero, List.getElem_cons_succ, Act.put, List.setIfInBounds_toArray, List.set_cons_zero, List.set_cons_succ])
  refine wpAnyH_take (i := 5) (oi := _) (v := ?_) rfl (by kernel_rfl) (by kernel_rfl) (by kernel_rfl) (fun _ _ _ h => h) (Or.inl ⟨by rfl, ?_⟩) (by assumption) ?_
  rotate_left
  focus
    intro w hSw
    (try dsimp only at hSw)
    go_simp
    (try with_reducible rfl)
  (try simp only [List.getElem_toArray, List.getElem_cons_zero, List.getElem_cons_succ, Act.put, List.setIfInBounds_toArray, List.set_cons_zero, List.set_cons_succ])
  refine wpAnyH_take (i := 6) (oi := _) (v := ?_) rfl (by kernel_rfl) (by kernel_rfl) (by kernel_rfl) (fun _ _ _ h => h) (Or.inl ⟨by rfl, ?_⟩) (by assumption) ?_
  rotate_left
  focus
    intro w hSw
    (try dsimp only at hSw)
    go_simp
    (try with_reducible rfl)
  (try simp only [List.getElem_toArray, List.getElem_cons_zero, List.getElem_cons_succ, Act.put, List.setIfInBounds_toArray, List.set_cons_zero, List.set_cons_succ])
  refine wpAnyH_take (i := 7) (oi := _) (v := ?_) rfl (by kernel_rfl) (by kernel_rfl) (by kernel_rfl) (fun _ _ _ h => h) (Or.inl ⟨by rfl, ?_⟩) (by assumption) ?_
  rotate_left
  focus
    intro w hSw
    (try dsimp only at hSw)
    go_simp
    (try with_reducible rfl)
  (try simp only [List.getElem_toArray, List.getElem_cons_zero, List.getElem_cons_succ, Act.put, List.setIfInBounds_toArray, List.set_cons_zero, List.set_cons_succ])
  refine wpAnyH_take (i := 8) (oi := _) (v := ?_) rfl (by kernel_rfl) (by kernel_rfl) (by kernel_rfl) (fun _ _ _ h => h) (Or.inl ⟨by rfl, ?_⟩) (by assumption) ?_
  rotate_left
  focus
    intro w hSw
    (try dsimp only at hSw)
    go_simp
    (try with_reducible rfl)
  (try simp only [List.getElem_toArray, List.getElem_cons_zero, List.getElem_cons_succ, Act.put, List.setIfInBounds_toArray, List.set_cons_zero, List.set_cons_succ])
  refine wpAnyH_take (i := 9) (oi := _) (v := ?_) rfl (by kernel_rfl) (by kernel_rfl) (by kernel_rfl) (fun _ _ _ h => h) (Or.inl ⟨by rfl, ?_⟩) (by assumption) ?_
  rotate_left
  focus
    intro w hSw
    (try dsimp only at hSw)
    go_simp
    (try with_reducible rfl)
  (try simp only [List.getElem_toArray, List.getElem_cons_zero, List.getElem_cons_succ, Act.put, List.setIfInBounds_toArray, List.set_cons_zero, List.set_cons_succ])
  refine wpAnyH_ready (rs := [0]) (by kernel_rfl) (by simp) ?_
  refine AllReadyH.cons (o := _) rfl (fun K hK => ?_) AllReadyH.nil
  (try simp only [List.getElem_toArray, List.getElem_cons_zero, List.getElem_cons_succ])
  go_simp
  refine hK.out _ _ ?_ (fun hHeld => ?_)
  focus
    (try dsimp only)
    exact ⟨cell_alloc _ hHeld.1, cell_alloc _ hHeld.2⟩
  clear hK K
  (try simp only [List.getElem_toArray, List.getElem_cons_zero, List.getElem_cons_succ, Act.put, List.setIfInBounds_toArray, List.set_cons_zero, List.set_cons_succ])
  refine wpAnyH_ready (rs := [10]) (by kernel_rfl) (by simp) ?_
  refine AllReadyH.cons (o := _) rfl (fun K hK => ?_) AllReadyH.nil
  (try simp only [List.getElem_toArray, List.getElem_cons_zero, List.getElem_cons_succ])
  rw [if_pos (by rfl)]
  refine wp_app (.tmp 45) (.tmp 54) 60 hap1 (by simp [Act.eval]) (by simp [Act.eval]) ?_
  refine hK.out _ _ ?_ (fun hHeld => ?_)
  focus
    (try dsimp only)
    exact ⟨j1, j6⟩
  clear hK K
  (try simp only [List.getElem_toArray, List.getElem_cons_zero, List.getElem_cons_succ, Act.put, List.setIfInBounds_toArray, List.set_cons_zero, List.set_cons_succ])
  refine wpAnyH_take (i := 11) (oi := _) (v := ?_) rfl (by kernel_rfl) (by kernel_rfl) (by kernel_rfl) (fun _ _ _ h => h) (Or.inl ⟨by rfl, ?_⟩) (by assumption) ?_
  rotate_left
  focus
    intro w hSw
    (try dsimp only at hSw)
    go_simp
    (try with_reducible rfl)
  (try simp only [List.getElem_toArray, List.getElem_cons_zero, List.getElem_cons_succ, Act.put, List.setIfInBounds_toArray, List.set_cons_zero, List.set_cons_succ])
  refine wpAnyH_done (by kernel_rfl) ?_ _
  clear hHeld
  go_wp2_with fail
  have hhead : SrcAt w4.drew (.slice (some ⟨gw, 0, none⟩) aN cw2) ((f.wire.map cN).take aN) := by
    have : Row w4.drew 0 123 2 (.slice (some ⟨gw, 0, none⟩) f.wire.length cw2) (f.wire.map cN) := by rw [← hw]; exact (hS3.kept hb34.drew 0).wire.1
    exact this.head aN (by omega)
  obtain ⟨A2, c2, w5, hap2, hrow5, hb5⟩ := Row.copy (P := Try.prog) 60 60 Try.underlying60 Try.infoNote rfl (by omega) hhead (fun y hy => notes_ok _ y (List.mem_of_mem_take hy)) (by simp; omega) (by omega)
  have htl : (List.take aN (List.map cN f.wire)).length = aN := by simp; omega
  rw [htl] at hap2 hrow5
  have hb45 : Below w4.heap.size w4 w5 := ((Below.refl _ w4).drew).trans hb5
  have hsrc5 : SrcAt w5 (.slice A1 (f.wire.length - (aN + 1)) c1) ((f.wire.map cN).drop (aN + 1)) := (hrow4.src).kept hb45
  obtain ⟨v6, w6, hap3, hrow6, hg6, hat6⟩ := hrow5.pushMany (P := Try.prog) 60 60 Try.underlying60 Try.infoNote rfl (by omega) hsrc5 (fun y hy => notes_ok _ y (List.mem_of_mem_drop hy)) (by simp; omega) (by omega) hb5.size
  have hlen6 : List.take aN (List.map cN f.wire) ++ List.drop (aN + 1) (List.map cN f.wire) = (f.wire.eraseIdx aN).map cN := by
    rw [List.eraseIdx_eq_take_drop_succ, List.map_append, List.map_take, List.map_drop]
  rw [hlen6] at hrow6
  obtain ⟨A6, c8, e6, -, -⟩ := hrow6.form
  obtain ⟨n8, hn8⟩ : ∃ n, (List.map cN (f.wire.eraseIdx aN)).length = n := ⟨_, rfl⟩
  rw [hn8] at e6
  subst e6
  have hb46 : Below w4.heap.size w4 w6 := hb45.grown hg6 hb45.size fun k hk => (hrow5.2.lt k hk).1
  have hb36 : Below w3.heap.size w3 w6 := hb34.trans (hb46.mono hsz4)
  have hsz5 := hb45.size
  have hsz6 := hb46.size
  have m1 := (hb45.cell (p := ⟨w.heap.size, 1, none⟩) (by show w.heap.size < w4.heap.size; omega)).trans j1
  have n1 := (hb46.cell (p := ⟨w.heap.size, 1, none⟩) (by show w.heap.size < w4.heap.size; omega)).trans j1
  have n6 := (hb46.cell (p := ⟨p, 6, none⟩) (by show p < w4.heap.size; omega)).trans j6
  have n6f := (hb36.frozen (p := ⟨p, 6, none⟩) hp3).trans (hS3.froz 6)
  have j6a := cell_alloc (.cells #[] 123) j6
  have hbx : w.heap.size ≠ p := by have := hS0.lt; omega
  refine wp_region_held_drew (S := fun W => W.cell? ⟨w.heap.size, 1, none⟩ = some (.int .i64 aN)) (by kernel_rfl) (by exact j1) (fun hHeld => ?_)
  refine wpAnyH_take (i := 0) (oi := _) (v := ?_) rfl (by kernel_rfl) (by kernel_rfl) (by kernel_rfl) (fun _ _ _ h => h) (Or.inl ⟨by rfl, ?_⟩) (by assumption) ?_
  rotate_left
  focus
    intro w hSw
    (try dsimp only at hSw)
    go_simp
    (try with_reducible rfl)
  (try simp only [List.getElem_toArray, List.getElem_cons_zero, List.getElem_cons_succ, Act.put, List.setIfInBounds_toArray, List.set_cons_zero, List.set_cons_succ])
  refine wpAnyH_take (i := 2) (oi := _) (v := ?_) rfl (by kernel_rfl) (by kernel_rfl) (by kernel_rfl) (fun _ _ _ h => h) (Or.inl ⟨by rfl, ?_⟩) (by assumption) ?_
  rotate_left
  focus
    intro w hSw
    (try dsimp only at hSw)
    go_simp
    (try with_reducible rfl)
  (try simp only [List.getElem_toArray, List.getElem_cons_zero, List.getElem_cons_succ, Act.put, List.setIfInBounds_toArray, List.set_cons_zero, List.set_cons_succ])
  refine wpAnyH_take (i := 3) (oi := _) (v := ?_) rfl (by kernel_rfl) (by kernel_rfl) (by kernel_rfl) (fun _ _ _ h => h) (Or.inl ⟨by rfl, ?_⟩) (by assumption) ?_
  rotate_left
  focus
    intro w hSw
    (try dsimp only at hSw)
    go_simp
    (try with_reducible rfl)
  (try simp only [List.getElem_toArray, List.getElem_cons_zero, List.getElem_cons_succ, Act.put, List.setIfInBounds_toArray, List.set_cons_zero, List.set_cons_succ])
  refine wpAnyH_take (i := 4) (oi := _) (v := ?_) rfl (by kernel_rfl) (by kernel_rfl) (by kernel_rfl) (fun _ _ _ h => h) (Or.inl ⟨by rfl, ?_⟩) (by assumption) ?_
  rotate_left
  focus
    intro w hSw
    (try dsimp only at hSw)
    go_simp
    (try with_reducible rfl)
  (try simp only [List.getElem_toArray, List.getElem_cons_zero, List.getElem_cons_succ, Act.put, List.setIfInBounds_toArray, List.set_cons_zero, List.set_cons_succ])
  refine wpAnyH_take (i := 5) (oi := _) (v := ?_) rfl (by kernel_rfl) (by kernel_rfl) (by kernel_rfl) (fun _ _ _ h => h) (Or.inl ⟨by rfl, ?_⟩) (by assumption) ?_
  rotate_left
  focus
    intro w hSw
    (try dsimp only at hSw)
    go_simp
    (try with_reducible rfl)
  (try simp only [List.getElem_toArray, List.getElem_cons_zero, List.getElem_cons_succ, Act.put, List.setIfInBounds_toArray, List.set_cons_zero, List.set_cons_succ])
  refine wpAnyH_take (i := 7) (oi := _) (v := ?_) rfl (by kernel_rfl) (by kernel_rfl) (by kernel_rfl) (fun _ _ _ h => h) (Or.inl ⟨by rfl, ?_⟩) (by assumption) ?_
  rotate_left
  focus
    intro w hSw
    (try dsimp only at hSw)
    go_simp
    (try with_reducible rfl)
  (try simp only [List.getElem_toArray, List.getElem_cons_zero, List.getElem_cons_succ, Act.put, List.setIfInBounds_toArray, List.set_cons_zero, List.set_cons_succ])
  refine wpAnyH_take (i := 8) (oi := _) (v := ?_) rfl (by kernel_rfl) (by kernel_rfl) (by kernel_rfl) (fun _ _ _ h => h) (Or.inl ⟨by rfl, ?_⟩) (by assumption) ?_
  rotate_left
  focus
    intro w hSw
    (try dsimp only at hSw)
    go_simp
    (try with_reducible rfl)
  (try simp only [List.getElem_toArray, List.getElem_cons_zero, List.getElem_cons_succ, Act.put, List.setIfInBounds_toArray, List.set_cons_zero, List.set_cons_succ])
  refine wpAnyH_take (i := 11) (oi := _) (v := ?_) rfl (by kernel_rfl) (by kernel_rfl) (by kernel_rfl) (fun _ _ _ h => h) (Or.inl ⟨by rfl, ?_⟩) (by assumption) ?_
  rotate_left
  focus
    intro w hSw
    (try dsimp only at hSw)
    go_simp
    (try with_reducible rfl)
  (try simp only [List.getElem_toArray, List.getElem_cons_zero, List.getElem_cons_succ, Act.put, List.setIfInBounds_toArray, List.set_cons_zero, List.set_cons_succ])
  refine wpAnyH_ready (rs := [1, 6]) (by kernel_rfl) (by simp) ?_
  refine AllReadyH.cons (o := _) rfl (fun K hK => ?_) (AllReadyH.cons (o := _) rfl (fun K hK => ?_) AllReadyH.nil)
  focus
    go_simp
    refine hK.out _ _ ?_ (fun hHeld => ?_)
    focus
      (try dsimp only)
      exact cell_alloc _ hHeld
    clear hK K
    (try simp only [List.getElem_toArray, List.getElem_cons_zero, List.getElem_cons_succ, Act.put, List.setIfInBounds_toArray, List.set_cons_zero, List.set_cons_succ])
    refine wpAnyH_ready (rs := [6]) (by kernel_rfl) (by simp) ?_
    refine AllReadyH.cons (o := _) rfl (fun K hK => ?_) AllReadyH.nil
    (try simp only [List.getElem_toArray, List.getElem_cons_zero, List.getElem_cons_succ])
    go_simp
    refine hK.out _ _ ?_ (fun hHeld => ?_)
    focus
      (try dsimp only)
      exact hHeld
    clear hK K
    (try simp only [List.getElem_toArray, List.getElem_cons_zero, List.getElem_cons_succ, Act.put, List.setIfInBounds_toArray, List.set_cons_zero, List.set_cons_succ])
    refine wpAnyH_take (i := 9) (oi := _) (v := ?_) rfl (by kernel_rfl) (by kernel_rfl) (by kernel_rfl) (fun _ _ _ h => h) (Or.inl ⟨by rfl, ?_⟩) (by assumption) ?_
    rotate_left
    focus
      intro w hSw
      (try dsimp only at hSw)
      go_simp
      (try with_reducible rfl)
    (try simp only [List.getElem_toArray, List.getElem_cons_zero, List.getElem_cons_succ, Act.put, List.setIfInBounds_toArray, List.set_cons_zero, List.set_cons_succ])
    refine wpAnyH_ready (rs := [10]) (by kernel_rfl) (by simp) ?_
    refine AllReadyH.cons (o := _) rfl (fun K hK => ?_) AllReadyH.nil
    (try simp only [List.getElem_toArray, List.getElem_cons_zero, List.getElem_cons_succ])
    rw [if_pos (by rfl)]
    refine wp_app (.tmp 57) (.tmp 65) 60 hap2 (by simp [Act.eval]) (by simp [Act.eval]) ?_
    refine hK.out _ _ ?_ (fun hHeld => ?_)
    focus
      (try dsimp only)
      exact m1
    clear hK K
    (try simp only [List.getElem_toArray, List.getElem_cons_zero, List.getElem_cons_succ, Act.put, List.setIfInBounds_toArray, List.set_cons_zero, List.set_cons_succ])
    refine wpAnyH_ready (rs := [12]) (by kernel_rfl) (by simp) ?_
    refine AllReadyH.cons (o := _) rfl (fun K hK => ?_) AllReadyH.nil
    (try simp only [List.getElem_toArray, List.getElem_cons_zero, List.getElem_cons_succ])
    rw [if_pos (by rfl)]
    refine wp_app (.tmp 66) (.tmp 67) 60 hap3 (by simp [Act.eval]) (by simp [Act.eval]) ?_
    refine hK.out _ _ ?_ (fun hHeld => ?_)
    focus
      (try dsimp only)
      exact n1
    clear hK K
    (try simp only [List.getElem_toArray, List.getElem_cons_zero, List.getElem_cons_succ, Act.put, List.setIfInBounds_toArray, List.set_cons_zero, List.set_cons_succ])
    refine wpAnyH_take (i := 13) (oi := _) (v := ?_) rfl (by kernel_rfl) (by kernel_rfl) (by kernel_rfl) (fun _ _ _ h => h) (Or.inl ⟨by rfl, ?_⟩) (by assumption) ?_
    rotate_left
    focus
      intro w hSw
      (try dsimp only at hSw)
      go_simp
      (try with_reducible rfl)
    (try simp only [List.getElem_toArray, List.getElem_cons_zero, List.getElem_cons_succ, Act.put, List.setIfInBounds_toArray, List.set_cons_zero, List.set_cons_succ])
    refine wpAnyH_take (i := 14) (oi := _) (v := ?_) rfl (by kernel_rfl) (by kernel_rfl) (by kernel_rfl) (fun _ _ _ h => h) (Or.inl ⟨by rfl, ?_⟩) (by assumption) ?_
    rotate_left
    focus
      intro w hSw
      (try dsimp only at hSw)
      go_simp
      (try with_reducible rfl)
    (try simp only [List.getElem_toArray, List.getElem_cons_zero, List.getElem_cons_succ, Act.put, List.setIfInBounds_toArray, List.set_cons_zero, List.set_cons_succ])
    refine wpAnyH_take (i := 15) (oi := _) (v := ?_) rfl (by kernel_rfl) (by kernel_rfl) (by kernel_rfl) (fun _ _ _ h => h) (Or.inl ⟨by rfl, ?_⟩) (by assumption) ?_
    rotate_left
    focus
      intro w hSw
      (try dsimp only at hSw)
      go_simp
      (try with_reducible rfl)
    (try simp only [List.getElem_toArray, List.getElem_cons_zero, List.getElem_cons_succ, Act.put, List.setIfInBounds_toArray, List.set_cons_zero, List.set_cons_succ])
    refine wpAnyH_ready (rs := [16]) (by kernel_rfl) (by simp) ?_
    refine AllReadyH.cons (o := _) rfl (fun K hK => ?_) AllReadyH.nil
    (try simp only [List.getElem_toArray, List.getElem_cons_zero, List.getElem_cons_succ])
    go_simp
    refine hK.out _ _ ?_ (fun hHeld => ?_)
    focus
      (try dsimp only)
      exact (cell_other hbx).trans n1
    clear hK K
    (try simp only [List.getElem_toArray, List.getElem_cons_zero, List.getElem_cons_succ, Act.put, List.setIfInBounds_toArray, List.set_cons_zero, List.set_cons_succ])
    refine wpAnyH_done (by kernel_rfl) ?_ _
    clear hHeld
    have hqx : W2.heap.size ≠ p := by omega
    have s0 : (w6.setCell ⟨p, 6, none⟩ (.slice A6 n8 c8)).cell? ⟨w.heap.size, 0, none⟩ = _ := (cell_other hbx).trans ((hb36.cell (p := ⟨w.heap.size, 0, none⟩) hzx).trans g0)
    have s1 : (w6.setCell ⟨p, 6, none⟩ (.slice A6 n8 c8)).cell? ⟨W2.heap.size, 0, none⟩ = _ := (cell_other hqx).trans ((hb36.cell (p := ⟨W2.heap.size, 0, none⟩) hz3).trans q0)
    have s2 : (w6.setCell ⟨p, 6, none⟩ (.slice A6 n8 c8)).cell? ⟨W2.heap.size, 1, none⟩ = _ := (cell_other hqx).trans ((hb36.cell (p := ⟨W2.heap.size, 1, none⟩) hz3).trans q1)
    have hB5 : Apart lo w (w6.setCell ⟨p, 6, none⟩ (.slice A6 n8 c8)) := (hB3l.trans ((belAp hb36))).setCell (p := ⟨p, 6, none⟩) hS0.pge _
    have hSh : ShopAt (w6.setCell ⟨p, 6, none⟩ (.slice A6 n8 c8)) lo p 101 [.pointer (some ⟨wp, 0, none⟩)] ts { f with wire := f.wire.eraseIdx aN } := hS3.putWire hb36 (hrow6.base hsz4)
    have hszS : w.heap.size ≤ (w6.setCell ⟨p, 6, none⟩ (.slice A6 n8 c8)).heap.size := by simp; omega
    have hwpS : ∀ v, w.cell? ⟨wp, 0, none⟩ = some v → wp ≠ p → (w6.setCell ⟨p, 6, none⟩ (.slice A6 n8 c8)).cell? ⟨wp, 0, none⟩ = some v := fun v h hne => (cell_other hne).trans (((hbox.trans (hB30.mono hbox.size)).trans (hb36.mono (by omega)) |>.cell (p := ⟨wp, 0, none⟩) (World.block_lt_of_cell? w _ h)).trans h)
    generalize w6.setCell ⟨p, 6, none⟩ (.slice A6 n8 c8) = w7 at s0 s1 s2 hSh hB5 hszS hwpS ⊢
    clear n6 n6f n1 m1 j1 j6 j6a q0 q1 g0 g1 g6
    go_wp2_with fail
    go_ret
    exact ⟨rfl, hSh, hB5⟩
  focus
    go_simp
    refine hK.out _ _ ?_ (fun hHeld => ?_)
    focus
      (try dsimp only)
      exact hHeld
    clear hK K
    (try simp only [List.getElem_toArray, List.getElem_cons_zero, List.getElem_cons_succ, Act.put, List.setIfInBounds_toArray, List.set_cons_zero, List.set_cons_succ])
    refine wpAnyH_take (i := 9) (oi := _) (v := ?_) rfl (by kernel_rfl) (by kernel_rfl) (by kernel_rfl) (fun _ _ _ h => h) (Or.inl ⟨by rfl, ?_⟩) (by assumption) ?_
    rotate_left
    focus
      intro w hSw
      (try dsimp only at hSw)
      go_simp
      (try with_reducible rfl)
    (try simp only [List.getElem_toArray, List.getElem_cons_zero, List.getElem_cons_succ, Act.put, List.setIfInBounds_toArray, List.set_cons_zero, List.set_cons_succ])
    refine wpAnyH_ready (rs := [1]) (by kernel_rfl) (by simp) ?_
    refine AllReadyH.cons (o := _) rfl (fun K hK => ?_) AllReadyH.nil
    (try simp only [List.getElem_toArray, List.getElem_cons_zero, List.getElem_cons_succ])
    go_simp
    refine hK.out _ _ ?_ (fun hHeld => ?_)
    focus
      (try dsimp only)
      exact cell_alloc _ hHeld
    clear hK K
    (try simp only [List.getElem_toArray, List.getElem_cons_zero, List.getElem_cons_succ, Act.put, List.setIfInBounds_toArray, List.set_cons_zero, List.set_cons_succ])
    refine wpAnyH_ready (rs := [10]) (by kernel_rfl) (by simp) ?_
    refine AllReadyH.cons (o := _) rfl (fun K hK => ?_) AllReadyH.nil
    (try simp only [List.getElem_toArray, List.getElem_cons_zero, List.getElem_cons_succ])
    rw [if_pos (by rfl)]
    refine wp_app (.tmp 57) (.tmp 65) 60 hap2 (by simp [Act.eval]) (by simp [Act.eval]) ?_
    refine hK.out _ _ ?_ (fun hHeld => ?_)
    focus
      (try dsimp only)
      exact m1
    clear hK K
    (try simp only [List.getElem_toArray, List.getElem_cons_zero, List.getElem_cons_succ, Act.put, List.setIfInBounds_toArray, List.set_cons_zero, List.set_cons_succ])
    refine wpAnyH_ready (rs := [12]) (by kernel_rfl) (by simp) ?_
    refine AllReadyH.cons (o := _) rfl (fun K hK => ?_) AllReadyH.nil
    (try simp only [List.getElem_toArray, List.getElem_cons_zero, List.getElem_cons_succ])
    rw [if_pos (by rfl)]
    refine wp_app (.tmp 66) (.tmp 67) 60 hap3 (by simp [Act.eval]) (by simp [Act.eval]) ?_
    refine hK.out _ _ ?_ (fun hHeld => ?_)
    focus
      (try dsimp only)
      exact n1
    clear hK K
    (try simp only [List.getElem_toArray, List.getElem_cons_zero, List.getElem_cons_succ, Act.put, List.setIfInBounds_toArray, List.set_cons_zero, List.set_cons_succ])
    refine wpAnyH_take (i := 13) (oi := _) (v := ?_) rfl (by kernel_rfl) (by kernel_rfl) (by kernel_rfl) (fun _ _ _ h => h) (Or.inl ⟨by rfl, ?_⟩) (by assumption) ?_
    rotate_left
    focus
      intro w hSw
      (try dsimp only at hSw)
      go_simp
      (try with_reducible rfl)
    (try simp only [List.getElem_toArray, List.getElem_cons_zero, List.getElem_cons_succ, Act.put, List.setIfInBounds_toArray, List.set_cons_zero, List.set_cons_succ])
    refine wpAnyH_take (i := 14) (oi := _) (v := ?_) rfl (by kernel_rfl) (by kernel_rfl) (by kernel_rfl) (fun _ _ _ h => h) (Or.inl ⟨by rfl, ?_⟩) (by assumption) ?_
    rotate_left
    focus
      intro w hSw
      (try dsimp only at hSw)
      go_simp
      (try with_reducible rfl)
    (try simp only [List.getElem_toArray, List.getElem_cons_zero, List.getElem_cons_succ, Act.put, List.setIfInBounds_toArray, List.set_cons_zero, List.set_cons_succ])
    refine wpAnyH_take (i := 15) (oi := _) (v := ?_) rfl (by kernel_rfl) (by kernel_rfl) (by kernel_rfl) (fun _ _ _ h => h) (Or.inl ⟨by rfl, ?_⟩) (by assumption) ?_
    rotate_left
    focus
      intro w hSw
      (try dsimp only at hSw)
      go_simp
      (try with_reducible rfl)
    (try simp only [List.getElem_toArray, List.getElem_cons_zero, List.getElem_cons_succ, Act.put, List.setIfInBounds_toArray, List.set_cons_zero, List.set_cons_succ])
    refine wpAnyH_ready (rs := [16]) (by kernel_rfl) (by simp) ?_
    refine AllReadyH.cons (o := _) rfl (fun K hK => ?_) AllReadyH.nil
    (try simp only [List.getElem_toArray, List.getElem_cons_zero, List.getElem_cons_succ])
    go_simp
    refine hK.out _ _ ?_ (fun hHeld => ?_)
    focus
      (try dsimp only)
      exact (cell_other hbx).trans n1
    clear hK K
    (try simp only [List.getElem_toArray, List.getElem_cons_zero, List.getElem_cons_succ, Act.put, List.setIfInBounds_toArray, List.set_cons_zero, List.set_cons_succ])
    refine wpAnyH_done (by kernel_rfl) ?_ _
    clear hHeld
    have hqx : W2.heap.size ≠ p := by omega
    have s0 : (w6.setCell ⟨p, 6, none⟩ (.slice A6 n8 c8)).cell? ⟨w.heap.size, 0, none⟩ = _ := (cell_other hbx).trans ((hb36.cell (p := ⟨w.heap.size, 0, none⟩) hzx).trans g0)
    have s1 : (w6.setCell ⟨p, 6, none⟩ (.slice A6 n8 c8)).cell? ⟨W2.heap.size, 0, none⟩ = _ := (cell_other hqx).trans ((hb36.cell (p := ⟨W2.heap.size, 0, none⟩) hz3).trans q0)
    have s2 : (w6.setCell ⟨p, 6, none⟩ (.slice A6 n8 c8)).cell? ⟨W2.heap.size, 1, none⟩ = _ := (cell_other hqx).trans ((hb36.cell (p := ⟨W2.heap.size, 1, none⟩) hz3).trans q1)
    have hB5 : Apart lo w (w6.setCell ⟨p, 6, none⟩ (.slice A6 n8 c8)) := (hB3l.trans ((belAp hb36))).setCell (p := ⟨p, 6, none⟩) hS0.pge _
    have hSh : ShopAt (w6.setCell ⟨p, 6, none⟩ (.slice A6 n8 c8)) lo p 101 [.pointer (some ⟨wp, 0, none⟩)] ts { f with wire := f.wire.eraseIdx aN } := hS3.putWire hb36 (hrow6.base hsz4)
    have hszS : w.heap.size ≤ (w6.setCell ⟨p, 6, none⟩ (.slice A6 n8 c8)).heap.size := by simp; omega
    have hwpS : ∀ v, w.cell? ⟨wp, 0, none⟩ = some v → wp ≠ p → (w6.setCell ⟨p, 6, none⟩ (.slice A6 n8 c8)).cell? ⟨wp, 0, none⟩ = some v := fun v h hne => (cell_other hne).trans (((hbox.trans (hB30.mono hbox.size)).trans (hb36.mono (by omega)) |>.cell (p := ⟨wp, 0, none⟩) (World.block_lt_of_cell? w _ h)).trans h)
    generalize w6.setCell ⟨p, 6, none⟩ (.slice A6 n8 c8) = w7 at s0 s1 s2 hSh hB5 hszS hwpS ⊢
    clear n6 n6f n1 m1 j1 j6 j6a q0 q1 g0 g1 g6
    go_wp2_with fail
    go_ret
    exact ⟨rfl, hSh, hB5⟩

set_option maxRecDepth 100000 in
set_option maxHeartbeats 4000000 in
theorem spWire_deliver (aN : Nat) (h1 : aN < f.wire.length) (hwp : wp < w.heap.size) (hwne : wp ≠ p) (hr : w.cell? ⟨wp, 0, none⟩ = some (.int .i64 r)) : Calls Try.prog 117 #[.pointer (some ⟨p, 0, none⟩), .agg #[.int .i64 2, .int .i64 aN]] w (DoPost w lo p 101 [.pointer (some ⟨wp, 0, none⟩)] ts (pour r ts { f with wire := f.wire.eraseIdx aN } f.wire[aN], 0)) := by
  have hbox : Below w.heap.size w (w.alloc (.cells #[.int .i64 2, .int .i64 aN] 91)) := (Below.refl _ _).alloc (Nat.le_refl _) _
  obtain ⟨o, S, hS0⟩ := hS
  have hS1 := hS0.kept hbox 0
  have b0 : (w.alloc (.cells #[.int .i64 2, .int .i64 aN] 91)).cell? ⟨w.heap.size, 0, none⟩ = some (.int .i64 2) := by rw [World.cell?_alloc_at _ _ _ _ rfl]; rfl
  have b1 : (w.alloc (.cells #[.int .i64 2, .int .i64 aN] 91)).cell? ⟨w.heap.size, 1, none⟩ = some (.int .i64 aN) := by rw [World.cell?_alloc_at _ _ _ _ rfl]; rfl
  have hz : w.heap.size < (w.alloc (.cells #[.int .i64 2, .int .i64 aN] 91)).heap.size := by simp
  generalize hw0 : w.alloc (.cells #[.int .i64 2, .int .i64 aN] 91) = w0 at b0 b1 hbox hS1 hz
  have hp := hS1.lt
  have h48 := hok.n48
  have h10 := hok.w10
  have hBl : Apart lo w w0 := belAp hbox
  have c6 : w0.cell? ⟨p, 6, none⟩ = some S.w := hS1.cell rfl
  obtain ⟨gw, cw2, hw, hgo, hg, hnc, hcell, hfz⟩ := hS1.wire.at (by simp; omega)
  have hgx : gw < w.heap.size := by
    rcases Nat.lt_or_ge gw w.heap.size with h | h
    · exact h
    · rw [oNew_ge h] at hgo; omega
  have u0 : w0.cell? ⟨gw, aN * 2, none⟩ = some (.bool (f.wire[aN]).back) := by
    have := hcell aN (by simpa using h1) 0 (.bool (f.wire[aN]).back) (by simp [cN])
    simpa using this
  have u1 : w0.cell? ⟨gw, aN * 2 + 1, none⟩ = some (.int .i64 (f.wire[aN]).t) := by
    have := hcell aN (by simpa using h1) 1 (.int .i64 (f.wire[aN]).t) (by simp [cN])
    simpa using this
  simp only [List.length_map] at hw hnc
  rw [hw] at c6
  have hnt := hok.wire _ (List.getElem_mem h1)
  have hget : f.wire[aN]? = some f.wire[aN] := List.getElem?_eq_getElem h1
  obtain ⟨n, hn⟩ : ∃ n, f.wire[aN] = n := ⟨_, rfl⟩
  rw [hn] at u0 u1 hnt hget
  obtain ⟨nb0, nt⟩ := n
  replace hnt : nt < ts.length := hnt
  replace u0 : w0.cell? ⟨gw, aN * 2, none⟩ = some (.bool nb0) := u0
  replace u1 : w0.cell? ⟨gw, aN * 2 + 1, none⟩ = some (.int .i64 nt) := u1
  clear hcell hfz
  rw [hn]
  go_enter Try.func117, Try.ntmps117
  go_wp2_with fail
  clear hw0
  go_quiet (fail)
  go_wp2_with fail
  refine wp_named (B := w0.heap.size) (w := w0) (by (repeat (first | (with_reducible exact Below.refl _ _) | (with_reducible assumption) | ((with_reducible refine Below.setCell ?_ ?_ _); rotate_left; focus (first | (with_reducible exact Nat.le_refl _) | omega | (simp; done) | (simp; omega) | (simp at *; omega))) | ((with_reducible refine Below.alloc ?_ ?_ _); rotate_left; focus (first | (with_reducible exact Nat.le_refl _) | omega | (simp; done) | (simp; omega) | (simp at *; omega))) | (with_reducible refine Below.drew ?_) | (with_reducible refine below_drewN ?_ _)))) ?_
  intro W2 hW2
  have e1 := (hW2.cell (p := ⟨w.heap.size, 1, none⟩) hz).trans b1
  have e0 := (hW2.cell (p := ⟨w.heap.size, 0, none⟩) hz).trans b0
  have e6 := (hW2.cell (p := ⟨p, 6, none⟩) hp).trans c6
  have v0 := (hW2.cell (p := ⟨gw, aN * 2, none⟩) hg).trans u0
  have v1 := (hW2.cell (p := ⟨gw, aN * 2 + 1, none⟩) hg).trans u1
  have hp2 : p < W2.heap.size := by have := hW2.size; omega
  have hg2 : gw < W2.heap.size := by have := hW2.size; omega
  have hz2 : w.heap.size < W2.heap.size := by have := hW2.size; omega
  go_region
  have q0 : ((W2.alloc (.cells #[.bool nb0, .int .i64 nt] 123)).drew).cell? ⟨W2.heap.size, 0, none⟩ = some (.bool nb0) := by show (W2.alloc _).cell? _ = _; rw [World.cell?_alloc_at _ _ _ _ rfl]; rfl
  have q1 : ((W2.alloc (.cells #[.bool nb0, .int .i64 nt] 123)).drew).cell? ⟨W2.heap.size, 1, none⟩ = some (.int .i64 nt) := by show (W2.alloc _).cell? _ = _; rw [World.cell?_alloc_at _ _ _ _ rfl]; rfl
  have hb3 : Below W2.heap.size W2 ((W2.alloc (.cells #[.bool nb0, .int .i64 nt] 123)).drew) := ((Below.refl _ _).alloc (Nat.le_refl _) _).drew
  have hz3 : W2.heap.size < ((W2.alloc (.cells #[.bool nb0, .int .i64 nt] 123)).drew).heap.size := by show _ < (W2.alloc _).heap.size; simp
  generalize hw3 : (W2.alloc (.cells #[.bool nb0, .int .i64 nt] 123)).drew = w3 at q0 q1 hb3 hz3 ⊢
  clear hw3 v0 v1
  have g0 := (hb3.cell (p := ⟨w.heap.size, 0, none⟩) hz2).trans e0
  have g1 := (hb3.cell (p := ⟨w.heap.size, 1, none⟩) hz2).trans e1
  have g6 := (hb3.cell (p := ⟨p, 6, none⟩) hp2).trans e6
  clear e0 e1 e6
  have hB3 : Below w0.heap.size w0 w3 := hW2.trans (hb3.mono hW2.size)
  have hB3l : Apart lo w w3 := hBl.trans ((belAp hB3))
  have hS3 := hS1.kept hB3 0
  have hw3 : S.w = .slice (some ⟨gw, 0, none⟩) f.wire.length cw2 := hw
  have hrow3 : Row w3.drew 0 123 2 (.slice (some ⟨gw, 0, none⟩) f.wire.length cw2) (f.wire.map cN) := by rw [← hw]; exact (hS3.kept (Below.refl _ w3).drew 0).wire.1
  obtain ⟨ad, had, hsrc⟩ := hrow3.tail (aN + 1) h1
  obtain ⟨A1, c1, w4, hap1, hrow4, hb4⟩ := Row.copy (P := Try.prog) 60 60 Try.underlying60 Try.infoNote rfl (by omega) hsrc (fun y hy => notes_ok _ y (List.mem_of_mem_drop hy)) (by simp; omega) (by omega)
  have hdl : (List.drop (aN + 1) (List.map cN f.wire)).length = f.wire.length - (aN + 1) := by simp
  rw [hdl] at hap1 hrow4
  clear hsrc
  have hb34 : Below w3.heap.size w3 w4 := ((Below.refl _ w3).drew).trans hb4
  have hsz4 : w3.heap.size ≤ w4.heap.size := hb4.size
  have hp3 := hS3.lt
  have hzx : w.heap.size < w3.heap.size := by omega
  have j1 := (hb34.cell (p := ⟨w.heap.size, 1, none⟩) hzx).trans g1
  have j6 := (hb34.cell (p := ⟨p, 6, none⟩) hp3).trans g6
  have hwr : IntKind.i64.wrap ((aN : Int) + 1) = (aN : Int) + 1 := IntWalk.i64_in _ (by omega)
  have hk1 : (aN : Int) + 1 ≤ f.wire.length := by omega
  have hk0 : (0 : Int) ≤ (aN : Int) + 1 := by omega
  have hk2 : (aN : Int) + 1 ≤ cw2 := by omega
  have hk3 : (f.wire.length : Int) ≤ cw2 := by omega
  have hk4 : (aN : Int) ≤ f.wire.length := by omega
  have hk5 : aN ≤ cw2 := by omega
  go_wp2_with fail
  have hB30 := hB3
  clear hB3 hW2
  refine wp_region_held_drew (S := fun W => W.cell? ⟨w.heap.size, 1, none⟩ = some (.int .i64 aN) ∧ W.cell? ⟨p, 6, none⟩ = some (.slice (some ⟨gw, 0, none⟩) f.wire.length cw2)) (by kernel_rfl) (by exact ⟨g1, g6⟩) (fun hHeld => ?_)
  refine wpAnyH_take (i := 1) (oi := _) (v := ?_) rfl (by kernel_rfl) (by kernel_rfl) (by kernel_rfl) (fun _ _ _ h => h) (Or.inl ⟨by rfl, ?_⟩) (by assumption) ?_
  rotate_left
  focus
    intro w hSw
    (try dsimp only at hSw)
    go_simp
    (try with_reducible rfl)
  (try simp only [List.getElem_toArray, List.getElem_cons_zero, List.getElem_cons_succ, Act.put, List.setIfInBounds_toArray, List.set_cons_zero, List.set_cons_succ])
  refine wpAnyH_take (i := 2) (oi := _) (v := ?_) rfl (by kernel_rfl) (by kernel_rfl) (by kernel_rfl) (fun _ _ _ h => h) (Or.inl ⟨by rfl, ?_⟩) (by assumption) ?_
  rotate_left
  focus
    intro w hSw
    (try dsimp only at hSw)
    go_simp
    (try with_reducible rfl)
  (try simp only [List.getElem_toArray, List.getElem_cons_zero, List.getElem_cons_succ, Act.put, List.setIfInBounds_toArray, List.set_cons_zero, List.set_cons_succ])
  refine wpAnyH_take (i := 3) (oi := _) (v := ?_) rfl (by kernel_rfl) (by kernel_rfl) (by kernel_rfl) (fun _ _ _ h => h) (Or.inl ⟨by rfl, ?_⟩) (by assumption) ?_
  rotate_left
  focus
    intro w hSw
    (try dsimp only at hSw)
    go_simp
    (try with_reducible rfl)
  (try simp only [List.getElem_toArray, List.getElem_cons_zero, List.getElem_cons_succ, Act.put, List.setIfInBounds_toArray, List.set_cons_zero, List.set_cons_succ])
  refine wpAnyH_take (i := 4) (oi := _) (v := ?_) rfl (by kernel_rfl) (by kernel_rfl) (by kernel_rfl) (fun _ _ _ h => h) (Or.inl ⟨by rfl, ?_⟩) (by assumption) ?_
  rotate_left
  focus
    intro w hSw
    (try dsimp only at hSw)
    go_simp
    (try with_reducible rfl)
  (try simp only [List.getElem_toArray, List.getElem_cons_zero, List.getElem_cons_succ, Act.put, List.setIfInBounds_toArray, List.set_cons_zero, List.set_cons_succ])
  refine wpAnyH_take (i := 5) (oi := _) (v := ?_) rfl (by kernel_rfl) (by kernel_rfl) (by kernel_rfl) (fun _ _ _ h => h) (Or.inl ⟨by rfl, ?_⟩) (by assumption) ?_
  rotate_left
  focus
    intro w hSw
    (try dsimp only at hSw)
    go_simp
    (try with_reducible rfl)
  (try simp only [List.getElem_toArray, List.getElem_cons_zero, List.getElem_cons_succ, Act.put, List.setIfInBounds_toArray, List.set_cons_zero, List.set_cons_succ])
  refine wpAnyH_take (i := 6) (oi := _) (v := ?_) rfl (by kernel_rfl) (by kernel_rfl) (by kernel_rfl) (fun _ _ _ h => h) (Or.inl ⟨by rfl, ?_⟩) (by assumption) ?_
  rotate_left
  focus
    intro w hSw
    (try dsimp only at hSw)
    go_simp
    (try with_reducible rfl)
  (try simp only [List.getElem_toArray, List.getElem_cons_zero, List.getElem_cons_succ, Act.put, List.setIfInBounds_toArray, List.set_cons_zero, List.set_cons_succ])
  refine wpAnyH_take (i := 7) (oi := _) (v := ?_) rfl (by kernel_rfl) (by kernel_rfl) (by kernel_rfl) (fun _ _ _ h => h) (Or.inl ⟨by rfl, ?_⟩) (by assumption) ?_
  rotate_left
  focus
    intro w hSw
    (try dsimp only at hSw)
    go_simp
    (try with_reducible rfl)
  (try simp only [List.getElem_toArray, List.getElem_cons_zero, List.getElem_cons_succ, Act.put, List.setIfInBounds_toArray, List.set_cons_zero, List.set_cons_succ])
  refine wpAnyH_take (i := 8) (oi := _) (v := ?_) rfl (by kernel_rfl) (by kernel_rfl) (by kernel_rfl) (fun _ _ _ h => h) (Or.inl ⟨by rfl, ?_⟩) (by assumption) ?_
  rotate_left
  focus
    intro w hSw
    (try dsimp only at hSw)
    go_simp
    (try with_reducible rfl)
  (try simp only [List.getElem_toArray, List.getElem_cons_zero, List.getElem_cons_succ, Act.put, List.setIfInBounds_toArray, List.set_cons_zero, List.set_cons_succ])
  refine wpAnyH_take (i := 9) (oi := _) (v := ?_) rfl (by kernel_rfl) (by kernel_rfl) (by kernel_rfl) (fun _ _ _ h => h) (Or.inl ⟨by rfl, ?_⟩) (by assumption) ?_
  rotate_left
  focus
    intro w hSw
    (try dsimp only at hSw)
    go_simp
    (try with_reducible rfl)
  (try simp only [List.getElem_toArray, List.getElem_cons_zero, List.getElem_cons_succ, Act.put, List.setIfInBounds_toArray, List.set_cons_zero, List.set_cons_succ])
  refine wpAnyH_ready (rs := [0]) (by kernel_rfl) (by simp) ?_
  refine AllReadyH.cons (o := _) rfl (fun K hK => ?_) AllReadyH.nil
  (try simp only [List.getElem_toArray, List.getElem_cons_zero, List.getElem_cons_succ])
  go_simp
  refine hK.out _ _ ?_ (fun hHeld => ?_)
  focus
    (try dsimp only)
    exact ⟨cell_alloc _ hHeld.1, cell_alloc _ hHeld.2⟩
  clear hK K
  (try simp only [List.getElem_toArray, List.getElem_cons_zero, List.getElem_cons_succ, Act.put, List.setIfInBounds_toArray, List.set_cons_zero, List.set_cons_succ])
  refine wpAnyH_ready (rs := [10]) (by kernel_rfl) (by simp) ?_
  refine AllReadyH.cons (o := _) rfl (fun K hK => ?_) AllReadyH.nil
  (try simp only [List.getElem_toArray, List.getElem_cons_zero, List.getElem_cons_succ])
  rw [if_pos (by rfl)]
  refine wp_app (.tmp 45) (.tmp 54) 60 hap1 (by simp [Act.eval]) (by simp [Act.eval]) ?_
  refine hK.out _ _ ?_ (fun hHeld => ?_)
  focus
    (try dsimp only)
    exact ⟨j1, j6⟩
  clear hK K
  (try simp only [List.getElem_toArray, List.getElem_cons_zero, List.getElem_cons_succ, Act.put, List.setIfInBounds_toArray, List.set_cons_zero, List.set_cons_succ])
  refine wpAnyH_take (i := 11) (oi := _) (v := ?_) rfl (by kernel_rfl) (by kernel_rfl) (by kernel_rfl) (fun _ _ _ h => h) (Or.inl ⟨by rfl, ?_⟩) (by assumption) ?_
  rotate_left
  focus
    intro w hSw
    (try dsimp only at hSw)
    go_simp
    (try with_reducible rfl)
  (try simp only [List.getElem_toArray, List.getElem_cons_zero, List.getElem_cons_succ, Act.put, List.setIfInBounds_toArray, List.set_cons_zero, List.set_cons_succ])
  refine wpAnyH_done (by kernel_rfl) ?_ _
  clear hHeld
  go_wp2_with fail
  have hhead : SrcAt w4.drew (.slice (some ⟨gw, 0, none⟩) aN cw2) ((f.wire.map cN).take aN) := by
    have : Row w4.drew 0 123 2 (.slice (some ⟨gw, 0, none⟩) f.wire.length cw2) (f.wire.map cN) := by rw [← hw]; exact (hS3.kept hb34.drew 0).wire.1
    exact this.head aN (by omega)
  obtain ⟨A2, c2, w5, hap2, hrow5, hb5⟩ := Row.copy (P := Try.prog) 60 60 Try.underlying60 Try.infoNote rfl (by omega) hhead (fun y hy => notes_ok _ y (List.mem_of_mem_take hy)) (by simp; omega) (by omega)
  have htl : (List.take aN (List.map cN f.wire)).length = aN := by simp; omega
  rw [htl] at hap2 hrow5
  have hb45 : Below w4.heap.size w4 w5 := ((Below.refl _ w4).drew).trans hb5
  have hsrc5 : SrcAt w5 (.slice A1 (f.wire.length - (aN + 1)) c1) ((f.wire.map cN).drop (aN + 1)) := (hrow4.src).kept hb45
  obtain ⟨v6, w6, hap3, hrow6, hg6, hat6⟩ := hrow5.pushMany (P := Try.prog) 60 60 Try.underlying60 Try.infoNote rfl (by omega) hsrc5 (fun y hy => notes_ok _ y (List.mem_of_mem_drop hy)) (by simp; omega) (by omega) hb5.size
  have hlen6 : List.take aN (List.map cN f.wire) ++ List.drop (aN + 1) (List.map cN f.wire) = (f.wire.eraseIdx aN).map cN := by
    rw [List.eraseIdx_eq_take_drop_succ, List.map_append, List.map_take, List.map_drop]
  rw [hlen6] at hrow6
  obtain ⟨A6, c8, e6, -, -⟩ := hrow6.form
  obtain ⟨n8, hn8⟩ : ∃ n, (List.map cN (f.wire.eraseIdx aN)).length = n := ⟨_, rfl⟩
  rw [hn8] at e6
  subst e6
  have hb46 : Below w4.heap.size w4 w6 := hb45.grown hg6 hb45.size fun k hk => (hrow5.2.lt k hk).1
  have hb36 : Below w3.heap.size w3 w6 := hb34.trans (hb46.mono hsz4)
  have hsz5 := hb45.size
  have hsz6 := hb46.size
  have m1 := (hb45.cell (p := ⟨w.heap.size, 1, none⟩) (by show w.heap.size < w4.heap.size; omega)).trans j1
  have n1 := (hb46.cell (p := ⟨w.heap.size, 1, none⟩) (by show w.heap.size < w4.heap.size; omega)).trans j1
  have n6 := (hb46.cell (p := ⟨p, 6, none⟩) (by show p < w4.heap.size; omega)).trans j6
  have n6f := (hb36.frozen (p := ⟨p, 6, none⟩) hp3).trans (hS3.froz 6)
  have j6a := cell_alloc (.cells #[] 123) j6
  have hbx : w.heap.size ≠ p := by have := hS0.lt; omega
  refine wp_region_held_drew (S := fun W => W.cell? ⟨w.heap.size, 1, none⟩ = some (.int .i64 aN)) (by kernel_rfl) (by exact j1) (fun hHeld => ?_)
  refine wpAnyH_take (i := 0) (oi := _) (v := ?_) rfl (by kernel_rfl) (by kernel_rfl) (by kernel_rfl) (fun _ _ _ h => h) (Or.inl ⟨by rfl, ?_⟩) (by assumption) ?_
  rotate_left
  focus
    intro w hSw
    (try dsimp only at hSw)
    go_simp
    (try with_reducible rfl)
  (try simp only [List.getElem_toArray, List.getElem_cons_zero, List.getElem_cons_succ, Act.put, List.setIfInBounds_toArray, List.set_cons_zero, List.set_cons_succ])
  refine wpAnyH_take (i := 2) (oi := _) (v := ?_) rfl (by kernel_rfl) (by kernel_rfl) (by kernel_rfl) (fun _ _ _ h => h) (Or.inl ⟨by rfl, ?_⟩) (by assumption) ?_
  rotate_left
  focus
    intro w hSw
    (try dsimp only at hSw)
    go_simp
    (try with_reducible rfl)
  (try simp only [List.getElem_toArray, List.getElem_cons_zero, List.getElem_cons_succ, Act.put, List.setIfInBounds_toArray, List.set_cons_zero, List.set_cons_succ])
  refine wpAnyH_take (i := 3) (oi := _) (v := ?_) rfl (by kernel_rfl) (by kernel_rfl) (by kernel_rfl) (fun _ _ _ h => h) (Or.inl ⟨by rfl, ?_⟩) (by assumption) ?_
  rotate_left
  focus
    intro w hSw
    (try dsimp only at hSw)
    go_simp
    (try with_reducible rfl)
  (try simp only [List.getElem_toArray, List.getElem_cons_zero, List.getElem_cons_succ, Act.put, List.setIfInBounds_toArray, List.set_cons_zero, List.set_cons_succ])
  refine wpAnyH_take (i := 4) (oi := _) (v := ?_) rfl (by kernel_rfl) (by kernel_rfl) (by kernel_rfl) (fun _ _ _ h => h) (Or.inl ⟨by rfl, ?_⟩) (by assumption) ?_
  rotate_left
  focus
    intro w hSw
    (try dsimp only at hSw)
    go_simp
    (try with_reducible rfl)
  (try simp only [List.getElem_toArray, List.getElem_cons_zero, List.getElem_cons_succ, Act.put, List.setIfInBounds_toArray, List.set_cons_zero, List.set_cons_succ])
  refine wpAnyH_take (i := 5) (oi := _) (v := ?_) rfl (by kernel_rfl) (by kernel_rfl) (by kernel_rfl) (fun _ _ _ h => h) (Or.inl ⟨by rfl, ?_⟩) (by assumption) ?_
  rotate_left
  focus
    intro w hSw
    (try dsimp only at hSw)
    go_simp
    (try with_reducible rfl)
  (try simp only [List.getElem_toArray, List.getElem_cons_zero, List.getElem_cons_succ, Act.put, List.setIfInBounds_toArray, List.set_cons_zero, List.set_cons_succ])
  refine wpAnyH_take (i := 7) (oi := _) (v := ?_) rfl (by kernel_rfl) (by kernel_rfl) (by kernel_rfl) (fun _ _ _ h => h) (Or.inl ⟨by rfl, ?_⟩) (by assumption) ?_
  rotate_left
  focus
    intro w hSw
    (try dsimp only at hSw)
    go_simp
    (try with_reducible rfl)
  (try simp only [List.getElem_toArray, List.getElem_cons_zero, List.getElem_cons_succ, Act.put, List.setIfInBounds_toArray, List.set_cons_zero, List.set_cons_succ])
  refine wpAnyH_take (i := 8) (oi := _) (v := ?_) rfl (by kernel_rfl) (by kernel_rfl) (by kernel_rfl) (fun _ _ _ h => h) (Or.inl ⟨by rfl, ?_⟩) (by assumption) ?_
  rotate_left
  focus
    intro w hSw
    (try dsimp only at hSw)
    go_simp
    (try with_reducible rfl)
  (try simp only [List.getElem_toArray, List.getElem_cons_zero, List.getElem_cons_succ, Act.put, List.setIfInBounds_toArray, List.set_cons_zero, List.set_cons_succ])
  refine wpAnyH_take (i := 11) (oi := _) (v := ?_) rfl (by kernel_rfl) (by kernel_rfl) (by kernel_rfl) (fun _ _ _ h => h) (Or.inl ⟨by rfl, ?_⟩) (by assumption) ?_
  rotate_left
  focus
    intro w hSw
    (try dsimp only at hSw)
    go_simp
    (try with_reducible rfl)
  (try simp only [List.getElem_toArray, List.getElem_cons_zero, List.getElem_cons_succ, Act.put, List.setIfInBounds_toArray, List.set_cons_zero, List.set_cons_succ])
  refine wpAnyH_ready (rs := [1, 6]) (by kernel_rfl) (by simp) ?_
  refine AllReadyH.cons (o := _) rfl (fun K hK => ?_) (AllReadyH.cons (o := _) rfl (fun K hK => ?_) AllReadyH.nil)
  focus
    go_simp
    refine hK.out _ _ ?_ (fun hHeld => ?_)
    focus
      (try dsimp only)
      exact cell_alloc _ hHeld
    clear hK K
    (try simp only [List.getElem_toArray, List.getElem_cons_zero, List.getElem_cons_succ, Act.put, List.setIfInBounds_toArray, List.set_cons_zero, List.set_cons_succ])
    refine wpAnyH_ready (rs := [6]) (by kernel_rfl) (by simp) ?_
    refine AllReadyH.cons (o := _) rfl (fun K hK => ?_) AllReadyH.nil
    (try simp only [List.getElem_toArray, List.getElem_cons_zero, List.getElem_cons_succ])
    go_simp
    refine hK.out _ _ ?_ (fun hHeld => ?_)
    focus
      (try dsimp only)
      exact hHeld
    clear hK K
    (try simp only [List.getElem_toArray, List.getElem_cons_zero, List.getElem_cons_succ, Act.put, List.setIfInBounds_toArray, List.set_cons_zero, List.set_cons_succ])
    refine wpAnyH_take (i := 9) (oi := _) (v := ?_) rfl (by kernel_rfl) (by kernel_rfl) (by kernel_rfl) (fun _ _ _ h => h) (Or.inl ⟨by rfl, ?_⟩) (by assumption) ?_
    rotate_left
    focus
      intro w hSw
      (try dsimp only at hSw)
      go_simp
      (try with_reducible rfl)
    (try simp only [List.getElem_toArray, List.getElem_cons_zero, List.getElem_cons_succ, Act.put, List.setIfInBounds_toArray, List.set_cons_zero, List.set_cons_succ])
    refine wpAnyH_ready (rs := [10]) (by kernel_rfl) (by simp) ?_
    refine AllReadyH.cons (o := _) rfl (fun K hK => ?_) AllReadyH.nil
    (try simp only [List.getElem_toArray, List.getElem_cons_zero, List.getElem_cons_succ])
    rw [if_pos (by rfl)]
    refine wp_app (.tmp 57) (.tmp 65) 60 hap2 (by simp [Act.eval]) (by simp [Act.eval]) ?_
    refine hK.out _ _ ?_ (fun hHeld => ?_)
    focus
      (try dsimp only)
      exact m1
    clear hK K
    (try simp only [List.getElem_toArray, List.getElem_cons_zero, List.getElem_cons_succ, Act.put, List.setIfInBounds_toArray, List.set_cons_zero, List.set_cons_succ])
    refine wpAnyH_ready (rs := [12]) (by kernel_rfl) (by simp) ?_
    refine AllReadyH.cons (o := _) rfl (fun K hK => ?_) AllReadyH.nil
    (try simp only [List.getElem_toArray, List.getElem_cons_zero, List.getElem_cons_succ])
    rw [if_pos (by rfl)]
    refine wp_app (.tmp 66) (.tmp 67) 60 hap3 (by simp [Act.eval]) (by simp [Act.eval]) ?_
    refine hK.out _ _ ?_ (fun hHeld => ?_)
    focus
      (try dsimp only)
      exact n1
    clear hK K
    (try simp only [List.getElem_toArray, List.getElem_cons_zero, List.getElem_cons_succ, Act.put, List.setIfInBounds_toArray, List.set_cons_zero, List.set_cons_succ])
    refine wpAnyH_take (i := 13) (oi := _) (v := ?_) rfl (by kernel_rfl) (by kernel_rfl) (by kernel_rfl) (fun _ _ _ h => h) (Or.inl ⟨by rfl, ?_⟩) (by assumption) ?_
    rotate_left
    focus
      intro w hSw
      (try dsimp only at hSw)
      go_simp
      (try with_reducible rfl)
    (try simp only [List.getElem_toArray, List.getElem_cons_zero, List.getElem_cons_succ, Act.put, List.setIfInBounds_toArray, List.set_cons_zero, List.set_cons_succ])
    refine wpAnyH_take (i := 14) (oi := _) (v := ?_) rfl (by kernel_rfl) (by kernel_rfl) (by kernel_rfl) (fun _ _ _ h => h) (Or.inl ⟨by rfl, ?_⟩) (by assumption) ?_
    rotate_left
    focus
      intro w hSw
      (try dsimp only at hSw)
      go_simp
      (try with_reducible rfl)
    (try simp only [List.getElem_toArray, List.getElem_cons_zero, List.getElem_cons_succ, Act.put, List.setIfInBounds_toArray, List.set_cons_zero, List.set_cons_succ])
    refine wpAnyH_take (i := 15) (oi := _) (v := ?_) rfl (by kernel_rfl) (by kernel_rfl) (by kernel_rfl) (fun _ _ _ h => h) (Or.inl ⟨by rfl, ?_⟩) (by assumption) ?_
    rotate_left
    focus
      intro w hSw
      (try dsimp only at hSw)
      go_simp
      (try with_reducible rfl)
    (try simp only [List.getElem_toArray, List.getElem_cons_zero, List.getElem_cons_succ, Act.put, List.setIfInBounds_toArray, List.set_cons_zero, List.set_cons_succ])
    refine wpAnyH_ready (rs := [16]) (by kernel_rfl) (by simp) ?_
    refine AllReadyH.cons (o := _) rfl (fun K hK => ?_) AllReadyH.nil
    (try simp only [List.getElem_toArray, List.getElem_cons_zero, List.getElem_cons_succ])
    go_simp
    refine hK.out _ _ ?_ (fun hHeld => ?_)
    focus
      (try dsimp only)
      exact (cell_other hbx).trans n1
    clear hK K
    (try simp only [List.getElem_toArray, List.getElem_cons_zero, List.getElem_cons_succ, Act.put, List.setIfInBounds_toArray, List.set_cons_zero, List.set_cons_succ])
    refine wpAnyH_done (by kernel_rfl) ?_ _
    clear hHeld
    have hqx : W2.heap.size ≠ p := by omega
    have s0 : (w6.setCell ⟨p, 6, none⟩ (.slice A6 n8 c8)).cell? ⟨w.heap.size, 0, none⟩ = _ := (cell_other hbx).trans ((hb36.cell (p := ⟨w.heap.size, 0, none⟩) hzx).trans g0)
    have s1 : (w6.setCell ⟨p, 6, none⟩ (.slice A6 n8 c8)).cell? ⟨W2.heap.size, 0, none⟩ = _ := (cell_other hqx).trans ((hb36.cell (p := ⟨W2.heap.size, 0, none⟩) hz3).trans q0)
    have s2 : (w6.setCell ⟨p, 6, none⟩ (.slice A6 n8 c8)).cell? ⟨W2.heap.size, 1, none⟩ = _ := (cell_other hqx).trans ((hb36.cell (p := ⟨W2.heap.size, 1, none⟩) hz3).trans q1)
    have hB5 : Apart lo w (w6.setCell ⟨p, 6, none⟩ (.slice A6 n8 c8)) := (hB3l.trans ((belAp hb36))).setCell (p := ⟨p, 6, none⟩) hS0.pge _
    have hSh : ShopAt (w6.setCell ⟨p, 6, none⟩ (.slice A6 n8 c8)) lo p 101 [.pointer (some ⟨wp, 0, none⟩)] ts { f with wire := f.wire.eraseIdx aN } := hS3.putWire hb36 (hrow6.base hsz4)
    have hszS : w.heap.size ≤ (w6.setCell ⟨p, 6, none⟩ (.slice A6 n8 c8)).heap.size := by simp; omega
    have hwpS : ∀ v, w.cell? ⟨wp, 0, none⟩ = some v → wp ≠ p → (w6.setCell ⟨p, 6, none⟩ (.slice A6 n8 c8)).cell? ⟨wp, 0, none⟩ = some v := fun v h hne => (cell_other hne).trans (((hbox.trans (hB30.mono hbox.size)).trans (hb36.mono (by omega)) |>.cell (p := ⟨wp, 0, none⟩) (World.block_lt_of_cell? w _ h)).trans h)
    generalize w6.setCell ⟨p, 6, none⟩ (.slice A6 n8 c8) = w7 at s0 s1 s2 hSh hB5 hszS hwpS ⊢
    clear n6 n6f n1 m1 j1 j6 j6a q0 q1 g0 g1 g6
    go_wp2_with fail
    refine (come_any lo p wp r nb ts _ ⟨nb0, nt⟩ w7 hSh (hok.erase h1) hnt (by omega) (hwpS _ hr hwne)).mono ?_
    rintro e w8 ⟨rfl, hS8, hB8⟩
    go_wp2_with fail
    go_ret
    exact ⟨rfl, hS8, hB5.trans hB8⟩
  focus
    go_simp
    refine hK.out _ _ ?_ (fun hHeld => ?_)
    focus
      (try dsimp only)
      exact hHeld
    clear hK K
    (try simp only [List.getElem_toArray, List.getElem_cons_zero, List.getElem_cons_succ, Act.put, List.setIfInBounds_toArray, List.set_cons_zero, List.set_cons_succ])
    refine wpAnyH_take (i := 9) (oi := _) (v := ?_) rfl (by kernel_rfl) (by kernel_rfl) (by kernel_rfl) (fun _ _ _ h => h) (Or.inl ⟨by rfl, ?_⟩) (by assumption) ?_
    rotate_left
    focus
      intro w hSw
      (try dsimp only at hSw)
      go_simp
      (try with_reducible rfl)
    (try simp only [List.getElem_toArray, List.getElem_cons_zero, List.getElem_cons_succ, Act.put, List.setIfInBounds_toArray, List.set_cons_zero, List.set_cons_succ])
    refine wpAnyH_ready (rs := [1]) (by kernel_rfl) (by simp) ?_
    refine AllReadyH.cons (o := _) rfl (fun K hK => ?_) AllReadyH.nil
    (try simp only [List.getElem_toArray, List.getElem_cons_zero, List.getElem_cons_succ])
    go_simp
    refine hK.out _ _ ?_ (fun hHeld => ?_)
    focus
      (try dsimp only)
      exact cell_alloc _ hHeld
    clear hK K
    (try simp only [List.getElem_toArray, List.getElem_cons_zero, List.getElem_cons_succ, Act.put, List.setIfInBounds_toArray, List.set_cons_zero, List.set_cons_succ])
    refine wpAnyH_ready (rs := [10]) (by kernel_rfl) (by simp) ?_
    refine AllReadyH.cons (o := _) rfl (fun K hK => ?_) AllReadyH.nil
    (try simp only [List.getElem_toArray, List.getElem_cons_zero, List.getElem_cons_succ])
    rw [if_pos (by rfl)]
    refine wp_app (.tmp 57) (.tmp 65) 60 hap2 (by simp [Act.eval]) (by simp [Act.eval]) ?_
    refine hK.out _ _ ?_ (fun hHeld => ?_)
    focus
      (try dsimp only)
      exact m1
    clear hK K
    (try simp only [List.getElem_toArray, List.getElem_cons_zero, List.getElem_cons_succ, Act.put, List.setIfInBounds_toArray, List.set_cons_zero, List.set_cons_succ])
    refine wpAnyH_ready (rs := [12]) (by kernel_rfl) (by simp) ?_
    refine AllReadyH.cons (o := _) rfl (fun K hK => ?_) AllReadyH.nil
    (try simp only [List.getElem_toArray, List.getElem_cons_zero, List.getElem_cons_succ])
    rw [if_pos (by rfl)]
    refine wp_app (.tmp 66) (.tmp 67) 60 hap3 (by simp [Act.eval]) (by simp [Act.eval]) ?_
    refine hK.out _ _ ?_ (fun hHeld => ?_)
    focus
      (try dsimp only)
      exact n1
    clear hK K
    (try simp only [List.getElem_toArray, List.getElem_cons_zero, List.getElem_cons_succ, Act.put, List.setIfInBounds_toArray, List.set_cons_zero, List.set_cons_succ])
    refine wpAnyH_take (i := 13) (oi := _) (v := ?_) rfl (by kernel_rfl) (by kernel_rfl) (by kernel_rfl) (fun _ _ _ h => h) (Or.inl ⟨by rfl, ?_⟩) (by assumption) ?_
    rotate_left
    focus
      intro w hSw
      (try dsimp only at hSw)
      go_simp
      (try with_reducible rfl)
    (try simp only [List.getElem_toArray, List.getElem_cons_zero, List.getElem_cons_succ, Act.put, List.setIfInBounds_toArray, List.set_cons_zero, List.set_cons_succ])
    refine wpAnyH_take (i := 14) (oi := _) (v := ?_) rfl (by kernel_rfl) (by kernel_rfl) (by kernel_rfl) (fun _ _ _ h => h) (Or.inl ⟨by rfl, ?_⟩) (by assumption) ?_
    rotate_left
    focus
      intro w hSw
      (try dsimp only at hSw)
      go_simp
      (try with_reducible rfl)
    (try simp only [List.getElem_toArray, List.getElem_cons_zero, List.getElem_cons_succ, Act.put, List.setIfInBounds_toArray, List.set_cons_zero, List.set_cons_succ])
    refine wpAnyH_take (i := 15) (oi := _) (v := ?_) rfl (by kernel_rfl) (by kernel_rfl) (by kernel_rfl) (fun _ _ _ h => h) (Or.inl ⟨by rfl, ?_⟩) (by assumption) ?_
    rotate_left
    focus
      intro w hSw
      (try dsimp only at hSw)
      go_simp
      (try with_reducible rfl)
    (try simp only [List.getElem_toArray, List.getElem_cons_zero, List.getElem_cons_succ, Act.put, List.setIfInBounds_toArray, List.set_cons_zero, List.set_cons_succ])
    refine wpAnyH_ready (rs := [16]) (by kernel_rfl) (by simp) ?_
    refine AllReadyH.cons (o := _) rfl (fun K hK => ?_) AllReadyH.nil
    (try simp only [List.getElem_toArray, List.getElem_cons_zero, List.getElem_cons_succ])
    go_simp
    refine hK.out _ _ ?_ (fun hHeld => ?_)
    focus
      (try dsimp only)
      exact (cell_other hbx).trans n1
    clear hK K
    (try simp only [List.getElem_toArray, List.getElem_cons_zero, List.getElem_cons_succ, Act.put, List.setIfInBounds_toArray, List.set_cons_zero, List.set_cons_succ])
    refine wpAnyH_done (by kernel_rfl) ?_ _
    clear hHeld
    have hqx : W2.heap.size ≠ p := by omega
    have s0 : (w6.setCell ⟨p, 6, none⟩ (.slice A6 n8 c8)).cell? ⟨w.heap.size, 0, none⟩ = _ := (cell_other hbx).trans ((hb36.cell (p := ⟨w.heap.size, 0, none⟩) hzx).trans g0)
    have s1 : (w6.setCell ⟨p, 6, none⟩ (.slice A6 n8 c8)).cell? ⟨W2.heap.size, 0, none⟩ = _ := (cell_other hqx).trans ((hb36.cell (p := ⟨W2.heap.size, 0, none⟩) hz3).trans q0)
    have s2 : (w6.setCell ⟨p, 6, none⟩ (.slice A6 n8 c8)).cell? ⟨W2.heap.size, 1, none⟩ = _ := (cell_other hqx).trans ((hb36.cell (p := ⟨W2.heap.size, 1, none⟩) hz3).trans q1)
    have hB5 : Apart lo w (w6.setCell ⟨p, 6, none⟩ (.slice A6 n8 c8)) := (hB3l.trans ((belAp hb36))).setCell (p := ⟨p, 6, none⟩) hS0.pge _
    have hSh : ShopAt (w6.setCell ⟨p, 6, none⟩ (.slice A6 n8 c8)) lo p 101 [.pointer (some ⟨wp, 0, none⟩)] ts { f with wire := f.wire.eraseIdx aN } := hS3.putWire hb36 (hrow6.base hsz4)
    have hszS : w.heap.size ≤ (w6.setCell ⟨p, 6, none⟩ (.slice A6 n8 c8)).heap.size := by simp; omega
    have hwpS : ∀ v, w.cell? ⟨wp, 0, none⟩ = some v → wp ≠ p → (w6.setCell ⟨p, 6, none⟩ (.slice A6 n8 c8)).cell? ⟨wp, 0, none⟩ = some v := fun v h hne => (cell_other hne).trans (((hbox.trans (hB30.mono hbox.size)).trans (hb36.mono (by omega)) |>.cell (p := ⟨wp, 0, none⟩) (World.block_lt_of_cell? w _ h)).trans h)
    generalize w6.setCell ⟨p, 6, none⟩ (.slice A6 n8 c8) = w7 at s0 s1 s2 hSh hB5 hszS hwpS ⊢
    clear n6 n6f n1 m1 j1 j6 j6a q0 q1 g0 g1 g6
    go_wp2_with fail
    refine (come_any lo p wp r nb ts _ ⟨nb0, nt⟩ w7 hSh (hok.erase h1) hnt (by omega) (hwpS _ hr hwne)).mono ?_
    rintro e w8 ⟨rfl, hS8, hB8⟩
    go_wp2_with fail
    go_ret
    exact ⟨rfl, hS8, hB5.trans hB8⟩
end
end Go.Proofs.Ytomcffionomidaa
