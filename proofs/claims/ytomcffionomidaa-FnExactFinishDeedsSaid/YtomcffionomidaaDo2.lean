/- A deed with a note: the program's 'do'. -/
import Derived.Test.YtomcffionomidaaDo
import Derived.Deep.RegionLaw
import Derived.Deep.RegionHeld3
set_option linter.unusedSimpArgs false
namespace Go.Proofs.Ytomcffionomidaa
open Go.RowKit

theorem FlOk.erase {r nb : Nat} {ts : List Tsk} {f : Fl} (h : FlOk r nb ts f) {a : Nat} (hlt : a < f.wire.length) : FlOk r nb ts { f with wire := f.wire.eraseIdx a } :=
  { h with wire := fun n hn => h.wire n (List.mem_of_mem_eraseIdx hn), w10 := by have := h.w10; have := List.length_eraseIdx_of_lt hlt; simp only [this]; omega }

section
variable (lo : Nat → Prop) (p r nb : Nat) (AB : Option Addr) (nB cB0 : Nat) (ts : List Tsk) (f : Fl) (w : World) (hS : ShopAt w lo p 106 [.int .i64 r, .slice AB nB cB0] ts f) (hok : FlOk r nb ts f)
include hS hok

set_option maxRecDepth 100000 in
set_option maxHeartbeats 2000000 in
theorem do_far (aN : Nat) (k : Int) (hk : k = 2 ∨ k = 3 ∨ k = 4) (h1 : f.wire.length ≤ aN) : Calls Try.prog 56 #[.pointer (some ⟨p, 0, none⟩), .agg #[.int .i64 k, .int .i64 aN]] w (DoPost w lo p 106 [.int .i64 r, .slice AB nB cB0] ts (step r ts f ⟨k, aN⟩)) := by
  have hbox : Below w.heap.size w (w.alloc (.cells #[.int .i64 k, .int .i64 aN] 91)) := (Below.refl _ _).alloc (Nat.le_refl _) _
  obtain ⟨o, S, hS0⟩ := hS
  have hS1 := hS0.kept hbox 0
  have b0 : (w.alloc (.cells #[.int .i64 k, .int .i64 aN] 91)).cell? ⟨w.heap.size, 0, none⟩ = some (.int .i64 k) := by rw [World.cell?_alloc_at _ _ _ _ rfl]; rfl
  have b1 : (w.alloc (.cells #[.int .i64 k, .int .i64 aN] 91)).cell? ⟨w.heap.size, 1, none⟩ = some (.int .i64 aN) := by rw [World.cell?_alloc_at _ _ _ _ rfl]; rfl
  have hz : w.heap.size < (w.alloc (.cells #[.int .i64 k, .int .i64 aN] 91)).heap.size := by simp
  generalize hw0 : w.alloc (.cells #[.int .i64 k, .int .i64 aN] 91) = w0 at b0 b1 hbox hS1 hz
  have hp := hS1.lt
  have c7 : w0.cell? ⟨p, 7, none⟩ = some S.w := hS1.cell rfl
  have h10 := hok.w10
  obtain ⟨Aw, cw, ew, -, -⟩ := hS1.wire.1.form
  simp only [List.length_map] at ew
  rw [ew] at c7
  have hBl : Apart lo w w0 := belAp hbox
  have l1 := later_one (P := Try.prog) 2 Try.underlying2 rfl b1
  have l2 := later_one (P := Try.prog) 60 Try.underlying60 rfl c7
  have hst : step r ts f ⟨k, aN⟩ = (f, 2) := by
    have hne : f.wire[aN]? = none := List.getElem?_eq_none h1
    have h2 : k ≠ 1 := by omega
    have h3 : k ≠ 5 := by omega
    have h4 : k ≠ 6 := by omega
    simp only [step, if_neg h2, if_neg h3, if_neg h4, wireDo, Int.toNat_natCast, hne]
  rw [hst]
  have h2 : (k == 1) = false := by simp; omega
  have h3 : (k == 5) = false := by simp; omega
  have h4 : (k == 6) = false := by simp; omega
  go_enter Try.func56, Try.ntmps56
  go_wp2_with fail
  clear hw0
  refine wp_region_below (by kernel_rfl) (by kernel_rfl) ?_
  repeat (first | go_big_quiet_skip | (go_big_quiet_want; first | (refine quiet_load_run 2 _ rfl _ l1 ?_; go_simp; go_big_quiet_on) | (refine quiet_load_run 60 _ rfl _ l2 ?_; go_simp; go_big_quiet_on) | (go_big_quiet_op; first | go_big_quiet_on | (apply Exists.intro; refine ⟨fun W hW => ?_, ?_⟩; (focus (go_at_call 100; refine (lengthNote_any _ _ _ _).mono ?_; rintro e w1 ⟨rfl, rfl⟩; exact ⟨rfl, hW⟩)); go_big_quiet_on) | (apply Exists.intro; refine ⟨fun _ _ => ?_, ?_⟩; (focus (with_reducible rfl)); go_big_quiet_on))))
  refine wpQuiet_nil ?_
  intro W2 hW2
  go_wp2_with fail
  go_ret
  exact ⟨rfl, ⟨_, S, hS1.kept (by (repeat (first | (with_reducible exact Below.refl _ _) | (with_reducible assumption) | ((with_reducible refine Below.setCell ?_ ?_ _); rotate_left; focus (first | (with_reducible exact Nat.le_refl _) | omega | (simp; done) | (simp; omega) | (simp at *; omega))) | ((with_reducible refine Below.alloc ?_ ?_ _); rotate_left; focus (first | (with_reducible exact Nat.le_refl _) | omega | (simp; done) | (simp; omega) | (simp at *; omega))) | (with_reducible refine Below.drew ?_) | (with_reducible refine below_drewN ?_ _) | ((with_reducible refine Below.trans ?_ (Below.mono hW2 ?_)); rotate_left; focus (first | (with_reducible exact Nat.le_refl _) | omega | (simp; done) | (simp; omega) | (simp at *; omega)))))) 0⟩, hBl.trans ((belAp (show Below w0.heap.size w0 _ by (repeat (first | (with_reducible exact Below.refl _ _) | (with_reducible assumption) | ((with_reducible refine Below.setCell ?_ ?_ _); rotate_left; focus (first | (with_reducible exact Nat.le_refl _) | omega | (simp; done) | (simp; omega) | (simp at *; omega))) | ((with_reducible refine Below.alloc ?_ ?_ _); rotate_left; focus (first | (with_reducible exact Nat.le_refl _) | omega | (simp; done) | (simp; omega) | (simp at *; omega))) | (with_reducible refine Below.drew ?_) | (with_reducible refine below_drewN ?_ _) | ((with_reducible refine Below.trans ?_ (Below.mono hW2 ?_)); rotate_left; focus (first | (with_reducible exact Nat.le_refl _) | omega | (simp; done) | (simp; omega) | (simp at *; omega))))))))⟩


set_option maxRecDepth 100000 in
set_option maxHeartbeats 4000000 in
theorem do_drop (aN : Nat) (h1 : aN < f.wire.length) : Calls Try.prog 56 #[.pointer (some ⟨p, 0, none⟩), .agg #[.int .i64 4, .int .i64 aN]] w (DoPost w lo p 106 [.int .i64 r, .slice AB nB cB0] ts (step r ts f ⟨4, aN⟩)) := by
  have hbox : Below w.heap.size w (w.alloc (.cells #[.int .i64 4, .int .i64 aN] 91)) := (Below.refl _ _).alloc (Nat.le_refl _) _
  obtain ⟨o, S, hS0⟩ := hS
  have hS1 := hS0.kept hbox 0
  have b0 : (w.alloc (.cells #[.int .i64 4, .int .i64 aN] 91)).cell? ⟨w.heap.size, 0, none⟩ = some (.int .i64 4) := by rw [World.cell?_alloc_at _ _ _ _ rfl]; rfl
  have b1 : (w.alloc (.cells #[.int .i64 4, .int .i64 aN] 91)).cell? ⟨w.heap.size, 1, none⟩ = some (.int .i64 aN) := by rw [World.cell?_alloc_at _ _ _ _ rfl]; rfl
  have hz : w.heap.size < (w.alloc (.cells #[.int .i64 4, .int .i64 aN] 91)).heap.size := by simp
  generalize hw0 : w.alloc (.cells #[.int .i64 4, .int .i64 aN] 91) = w0 at b0 b1 hbox hS1 hz
  have hp := hS1.lt
  have c7 : w0.cell? ⟨p, 7, none⟩ = some S.w := hS1.cell rfl
  have h10 := hok.w10
  obtain ⟨Aw, cw, ew, -, -⟩ := hS1.wire.1.form
  simp only [List.length_map] at ew
  rw [ew] at c7
  have hBl : Apart lo w w0 := belAp hbox
  have l1 := later_one (P := Try.prog) 2 Try.underlying2 rfl b1
  have l2 := later_one (P := Try.prog) 60 Try.underlying60 rfl c7
  obtain ⟨gw, cw2, hw, hgo, hg, hnc, hcell, hfz⟩ := hS1.wire.at (by simp; omega)
  have hgx : gw < w.heap.size := by
    rcases Nat.lt_or_ge gw w.heap.size with h | h
    · exact h
    · rw [oNew_ge h] at hgo; omega
  have u0 : w0.cell? ⟨gw, aN * 2, none⟩ = some (.bool (f.wire[aN]).back) := by
    have := hcell aN (by simpa using h1) 0 (.bool (f.wire[aN]).back) (by simp [cN])
    simpa using this
  have u1 : w0.cell? ⟨gw, aN * 2 + 1, none⟩ = some (.int .i64 (f.wire[aN]).t) := by
    have := hcell aN (by simpa using h1) 1 (.int .i64 (f.wire[aN]).t) (by simp [cN])
    simpa using this
  simp only [List.length_map] at hw
  rw [hw] at ew
  obtain ⟨rfl, rfl⟩ : some ⟨gw, 0, none⟩ = Aw ∧ cw2 = cw := by simpa using ew
  have hnt := hok.wire _ (List.getElem_mem h1)
  have hget : f.wire[aN]? = some f.wire[aN] := List.getElem?_eq_getElem h1
  obtain ⟨n, hn⟩ : ∃ n, f.wire[aN] = n := ⟨_, rfl⟩
  rw [hn] at u0 u1 hnt hget
  obtain ⟨nb0, nt⟩ := n
  replace hnt : nt < ts.length := hnt
  replace u0 : w0.cell? ⟨gw, aN * 2, none⟩ = some (.bool nb0) := u0
  replace u1 : w0.cell? ⟨gw, aN * 2 + 1, none⟩ = some (.int .i64 nt) := u1
  clear hcell hfz
  have hst : step r ts f ⟨4, aN⟩ = ({ f with wire := f.wire.eraseIdx aN }, 0) := by
    simp [step, wireDo, hget]
  rw [hst]
  go_enter Try.func56, Try.ntmps56
  go_wp2_with fail
  clear hw0
  refine wp_region_below (by kernel_rfl) (by kernel_rfl) ?_
  repeat (first | go_big_quiet_skip | (go_big_quiet_want; first | (refine quiet_load_run 2 _ rfl _ l1 ?_; go_simp; go_big_quiet_on) | (refine quiet_load_run 60 _ rfl _ l2 ?_; go_simp; go_big_quiet_on) | (go_big_quiet_op; first | go_big_quiet_on | (apply Exists.intro; refine ⟨fun W hW => ?_, ?_⟩; (focus (go_at_call 100; refine (lengthNote_any _ _ _ _).mono ?_; rintro e w1 ⟨rfl, rfl⟩; exact ⟨rfl, hW⟩)); go_big_quiet_on) | (apply Exists.intro; refine ⟨fun _ _ => ?_, ?_⟩; (focus (with_reducible rfl)); go_big_quiet_on))))
  refine wpQuiet_nil ?_
  intro W2 hW2
  go_wp2_with fail
  have e1 := (hW2.cell (p := ⟨w.heap.size, 1, none⟩) hz).trans b1
  have e0 := (hW2.cell (p := ⟨w.heap.size, 0, none⟩) hz).trans b0
  have e7 := (hW2.cell (p := ⟨p, 7, none⟩) hp).trans c7
  have v0 := (hW2.cell (p := ⟨gw, aN * 2, none⟩) hg).trans u0
  have v1 := (hW2.cell (p := ⟨gw, aN * 2 + 1, none⟩) hg).trans u1
  have hp2 : p < W2.heap.size := by have := hW2.size; omega
  have hg2 : gw < W2.heap.size := by have := hW2.size; omega
  have hz2 : w.heap.size < W2.heap.size := by have := hW2.size; omega
  go_region
  have q0 : ((W2.alloc (.cells #[.bool nb0, .int .i64 nt] 123)).drew).cell? ⟨W2.heap.size, 0, none⟩ = some (.bool nb0) := by show (W2.alloc _).cell? _ = _; rw [World.cell?_alloc_at _ _ _ _ rfl]; rfl
  have q1 : ((W2.alloc (.cells #[.bool nb0, .int .i64 nt] 123)).drew).cell? ⟨W2.heap.size, 1, none⟩ = some (.int .i64 nt) := by show (W2.alloc _).cell? _ = _; rw [World.cell?_alloc_at _ _ _ _ rfl]; rfl
  have hb3 : Below W2.heap.size W2 ((W2.alloc (.cells #[.bool nb0, .int .i64 nt] 123)).drew) := ((Below.refl _ _).alloc (Nat.le_refl _) _).drew
  have hz3 : W2.heap.size < ((W2.alloc (.cells #[.bool nb0, .int .i64 nt] 123)).drew).heap.size := by show _ < (W2.alloc _).heap.size; simp
  generalize hw3 : (W2.alloc (.cells #[.bool nb0, .int .i64 nt] 123)).drew = w3 at q0 q1 hb3 hz3 ⊢
  clear hw3 v0 v1
  have g0 := (hb3.cell (p := ⟨w.heap.size, 0, none⟩) hz2).trans e0
  have g1 := (hb3.cell (p := ⟨w.heap.size, 1, none⟩) hz2).trans e1
  have g7 := (hb3.cell (p := ⟨p, 7, none⟩) hp2).trans e7
  clear e0 e1 e7
  have hB3 : Below w0.heap.size w0 w3 := hW2.trans (hb3.mono hW2.size)
  have hB3l : Apart lo w w3 := hBl.trans ((belAp hB3))
  have hS3 := hS1.kept hB3.drew 0
  have hrow3 : Row w3.drew 0 123 2 (.slice (some ⟨gw, 0, none⟩) f.wire.length cw2) (f.wire.map cN) := by rw [← hw]; exact hS3.wire.1
  go_wp2_with fail
  have hwr : IntKind.i64.wrap ((aN : Int) + 1) = (aN : Int) + 1 := IntWalk.i64_in _ (by omega)
  have hbx : w.heap.size ≠ p := by have := hS0.lt; omega
  refine wp_region_held_drew (S := fun W => W.cell? ⟨w.heap.size, 1, none⟩ = some (.int .i64 aN)) (by kernel_rfl) (by show w3.cell? _ = _; exact g1) (fun hHeld => ?_)
  have hzx : w.heap.size < w3.heap.size := by omega
  clear hB3 hb3 hW2
  refine wpAnyH_take (i := 0) (oi := _) (v := ?_) rfl (by kernel_rfl) (by kernel_rfl) (by kernel_rfl) (fun _ _ _ h => h) (Or.inl ⟨by rfl, ?_⟩) (by assumption) ?_
  rotate_left
  focus
    intro w hSw
    (try dsimp only at hSw)
    go_simp
    (try with_reducible rfl)
  (try simp only [List.getElem_toArray, List.getElem_cons_zero, List.getElem_cons_succ, Act.put, List.setIfInBounds_toArray, List.set_cons_zero, List.set_cons_succ])
  refine wpAnyH_take (i := 1) (oi := _) (v := ?_) rfl (by kernel_rfl) (by kernel_rfl) (by kernel_rfl) (fun _ _ _ h => h) (Or.inl ⟨by rfl, ?_⟩) (by assumption) ?_
  rotate_left
  focus
    intro w hSw
    (try dsimp only at hSw)
    go_simp
    (try with_reducible rfl)
  (try simp only [List.getElem_toArray, List.getElem_cons_zero, List.getElem_cons_succ, Act.put, List.setIfInBounds_toArray, List.set_cons_zero, List.set_cons_succ])
  refine wpAnyH_take (i := 2) (oi := _) (v := ?_) rfl (by kernel_rfl) (by kernel_rfl) (by kernel_rfl) (fun _ _ _ h => h) (Or.inl ⟨by rfl, ?_⟩) (by assumption) ?_
  rotate_left
  focus
    intro w hSw
    (try dsimp only at hSw)
    go_simp
    (try with_reducible rfl)
  (try simp only [List.getElem_toArray, List.getElem_cons_zero, List.getElem_cons_succ, Act.put, List.setIfInBounds_toArray, List.set_cons_zero, List.set_cons_succ])
  refine wpAnyH_take (i := 3) (oi := _) (v := ?_) rfl (by kernel_rfl) (by kernel_rfl) (by kernel_rfl) (fun _ _ _ h => h) (Or.inl ⟨by rfl, ?_⟩) (by assumption) ?_
  rotate_left
  focus
    intro w hSw
    (try dsimp only at hSw)
    go_simp
    (try with_reducible rfl)
  (try simp only [List.getElem_toArray, List.getElem_cons_zero, List.getElem_cons_succ, Act.put, List.setIfInBounds_toArray, List.set_cons_zero, List.set_cons_succ])
  refine wpAnyH_take (i := 5) (oi := _) (v := ?_) rfl (by kernel_rfl) (by kernel_rfl) (by kernel_rfl) (fun _ _ _ h => h) (Or.inl ⟨by rfl, ?_⟩) (by assumption) ?_
  rotate_left
  focus
    intro w hSw
    (try dsimp only at hSw)
    go_simp
    (try with_reducible rfl)
  (try simp only [List.getElem_toArray, List.getElem_cons_zero, List.getElem_cons_succ, Act.put, List.setIfInBounds_toArray, List.set_cons_zero, List.set_cons_succ])
  refine wpAnyH_take (i := 6) (oi := _) (v := ?_) rfl (by kernel_rfl) (by kernel_rfl) (by kernel_rfl) (fun _ _ _ h => h) (Or.inl ⟨by rfl, ?_⟩) (by assumption) ?_
  rotate_left
  focus
    intro w hSw
    (try dsimp only at hSw)
    go_simp
    (try with_reducible rfl)
  (try simp only [List.getElem_toArray, List.getElem_cons_zero, List.getElem_cons_succ, Act.put, List.setIfInBounds_toArray, List.set_cons_zero, List.set_cons_succ])
  refine wpAnyH_take (i := 7) (oi := _) (v := ?_) rfl (by kernel_rfl) (by kernel_rfl) (by kernel_rfl) (fun _ _ _ h => h) (Or.inl ⟨by rfl, ?_⟩) (by assumption) ?_
  rotate_left
  focus
    intro w hSw
    (try dsimp only at hSw)
    go_simp
    (try with_reducible rfl)
  (try simp only [List.getElem_toArray, List.getElem_cons_zero, List.getElem_cons_succ, Act.put, List.setIfInBounds_toArray, List.set_cons_zero, List.set_cons_succ])
  refine wpAnyH_take (i := 8) (oi := _) (v := ?_) rfl (by kernel_rfl) (by kernel_rfl) (by kernel_rfl) (fun _ _ _ h => h) (Or.inl ⟨by rfl, ?_⟩) (by assumption) ?_
  rotate_left
  focus
    intro w hSw
    (try dsimp only at hSw)
    go_simp
    (try with_reducible rfl)
  (try simp only [List.getElem_toArray, List.getElem_cons_zero, List.getElem_cons_succ, Act.put, List.setIfInBounds_toArray, List.set_cons_zero, List.set_cons_succ])
  refine wpAnyH_take (i := 9) (oi := _) (v := ?_) rfl (by kernel_rfl) (by kernel_rfl) (by kernel_rfl) (fun _ _ _ h => h) (Or.inl ⟨by rfl, ?_⟩) (by assumption) ?_
  rotate_left
  focus
    intro w hSw
    (try dsimp only at hSw)
    go_simp
    (try with_reducible rfl)
  (try simp only [List.getElem_toArray, List.getElem_cons_zero, List.getElem_cons_succ, Act.put, List.setIfInBounds_toArray, List.set_cons_zero, List.set_cons_succ])
  refine wpAnyH_ready (rs := [4]) (by kernel_rfl) (by simp) ?_
  refine AllReadyH.cons (o := _) rfl (fun K hK => ?_) AllReadyH.nil
  (try simp only [List.getElem_toArray, List.getElem_cons_zero, List.getElem_cons_succ])
  go_simp
  refine hK.out _ _ ?_ (fun hHeld => ?_)
  focus
    (try dsimp only)
    exact hHeld
  clear hK K
  (try simp only [List.getElem_toArray, List.getElem_cons_zero, List.getElem_cons_succ, Act.put, List.setIfInBounds_toArray, List.set_cons_zero, List.set_cons_succ])
  refine wpAnyH_ready (rs := [10]) (by kernel_rfl) (by simp) ?_
  refine AllReadyH.cons (o := _) rfl (fun K hK => ?_) AllReadyH.nil
  (try simp only [List.getElem_toArray, List.getElem_cons_zero, List.getElem_cons_succ])
  go_simp
  refine (delete_any _ hrow3 h1 h10).mono ?_
  rintro e w4 ⟨A4, c4, rfl, hrow4, hown4, hg4⟩
  obtain ⟨hSh, hB4, hc4, hf4⟩ := hS3.delWire (by rw [hw]; exact hg4) hrow4 (by rw [hw]; exact hown4)
  have d7 := hc4 7 _ rfl
  have d7f := hf4 7
  rw [hw] at d7
  have hkp : ∀ b k, b ≠ gw → b < w3.heap.size → w4.cell? ⟨b, k, none⟩ = w3.cell? ⟨b, k, none⟩ := fun b k hne hlt => World.cell?_of_block (w := w3.drew) (a := ⟨b, k, none⟩) (hg4.block b hlt (by intro e; simp [Value.ownBlock] at e; omega))
  have gx4 : w4.cell? ⟨w.heap.size, 1, none⟩ = some (.int .i64 aN) := (hkp w.heap.size 1 (by omega) hzx).trans g1
  have gx0 := (hkp w.heap.size 0 (by omega) hzx).trans g0
  have r0 := (hkp W2.heap.size 0 (by omega) hz3).trans q0
  have r1 := (hkp W2.heap.size 1 (by omega) hz3).trans q1
  clear hkp
  go_simp
  refine hK.out _ _ ?_ (fun hHeld => ?_)
  focus
    (try dsimp only)
    exact gx4
  clear hK K
  (try simp only [List.getElem_toArray, List.getElem_cons_zero, List.getElem_cons_succ, Act.put, List.setIfInBounds_toArray, List.set_cons_zero, List.set_cons_succ])
  refine wpAnyH_take (i := 11) (oi := _) (v := ?_) rfl (by kernel_rfl) (by kernel_rfl) (by kernel_rfl) (fun _ _ _ h => h) (Or.inl ⟨by rfl, ?_⟩) (by assumption) ?_
  rotate_left
  focus
    intro w hSw
    (try dsimp only at hSw)
    go_simp
    (try with_reducible rfl)
  (try simp only [List.getElem_toArray, List.getElem_cons_zero, List.getElem_cons_succ, Act.put, List.setIfInBounds_toArray, List.set_cons_zero, List.set_cons_succ])
  refine wpAnyH_take (i := 12) (oi := _) (v := ?_) rfl (by kernel_rfl) (by kernel_rfl) (by kernel_rfl) (fun _ _ _ h => h) (Or.inl ⟨by rfl, ?_⟩) (by assumption) ?_
  rotate_left
  focus
    intro w hSw
    (try dsimp only at hSw)
    go_simp
    (try with_reducible rfl)
  (try simp only [List.getElem_toArray, List.getElem_cons_zero, List.getElem_cons_succ, Act.put, List.setIfInBounds_toArray, List.set_cons_zero, List.set_cons_succ])
  refine wpAnyH_ready (rs := [13]) (by kernel_rfl) (by simp) ?_
  refine AllReadyH.cons (o := _) rfl (fun K hK => ?_) AllReadyH.nil
  (try simp only [List.getElem_toArray, List.getElem_cons_zero, List.getElem_cons_succ])
  go_simp
  refine hK.out _ _ ?_ (fun hHeld => ?_)
  focus
    (try dsimp only)
    exact (cell_other hbx).trans gx4
  clear hK K
  (try simp only [List.getElem_toArray, List.getElem_cons_zero, List.getElem_cons_succ, Act.put, List.setIfInBounds_toArray, List.set_cons_zero, List.set_cons_succ])
  refine wpAnyH_done (by kernel_rfl) ?_ _
  have hqx : W2.heap.size ≠ p := by omega
  have s0 : (w4.setCell ⟨p, 7, none⟩ (.slice A4 (f.wire.length - 1) c4)).cell? ⟨w.heap.size, 0, none⟩ = _ := (cell_other hbx).trans gx0
  have s1 : (w4.setCell ⟨p, 7, none⟩ (.slice A4 (f.wire.length - 1) c4)).cell? ⟨W2.heap.size, 0, none⟩ = _ := (cell_other hqx).trans r0
  have s2 : (w4.setCell ⟨p, 7, none⟩ (.slice A4 (f.wire.length - 1) c4)).cell? ⟨W2.heap.size, 1, none⟩ = _ := (cell_other hqx).trans r1
  have hB5 : Apart lo w (w4.setCell ⟨p, 7, none⟩ (.slice A4 (f.wire.length - 1) c4)) := (hB3l.drew.trans hB4).setCell (p := ⟨p, 7, none⟩) hS0.pge _
  replace hSh : ShopAt (w4.setCell ⟨p, 7, none⟩ (.slice A4 (f.wire.length - 1) c4)) lo p 106 [.int .i64 r, .slice AB nB cB0] ts { f with wire := f.wire.eraseIdx aN } := hSh
  generalize w4.setCell ⟨p, 7, none⟩ (.slice A4 (f.wire.length - 1) c4) = w5 at s0 s1 s2 hSh hB5 ⊢
  clear gx0 gx4 r0 r1 d7 d7f q0 q1 g0 g1 g7 hHeld
  go_wp2_with fail
  go_ret
  exact ⟨rfl, hSh, hB5⟩

set_option maxRecDepth 100000 in
set_option maxHeartbeats 4000000 in
theorem do_deliver (aN : Nat) (h1 : aN < f.wire.length) : Calls Try.prog 56 #[.pointer (some ⟨p, 0, none⟩), .agg #[.int .i64 2, .int .i64 aN]] w (DoPost w lo p 106 [.int .i64 r, .slice AB nB cB0] ts (step r ts f ⟨2, aN⟩)) := by
  have hbox : Below w.heap.size w (w.alloc (.cells #[.int .i64 2, .int .i64 aN] 91)) := (Below.refl _ _).alloc (Nat.le_refl _) _
  obtain ⟨o, S, hS0⟩ := hS
  have hS1 := hS0.kept hbox 0
  have b0 : (w.alloc (.cells #[.int .i64 2, .int .i64 aN] 91)).cell? ⟨w.heap.size, 0, none⟩ = some (.int .i64 2) := by rw [World.cell?_alloc_at _ _ _ _ rfl]; rfl
  have b1 : (w.alloc (.cells #[.int .i64 2, .int .i64 aN] 91)).cell? ⟨w.heap.size, 1, none⟩ = some (.int .i64 aN) := by rw [World.cell?_alloc_at _ _ _ _ rfl]; rfl
  have hz : w.heap.size < (w.alloc (.cells #[.int .i64 2, .int .i64 aN] 91)).heap.size := by simp
  generalize hw0 : w.alloc (.cells #[.int .i64 2, .int .i64 aN] 91) = w0 at b0 b1 hbox hS1 hz
  have hp := hS1.lt
  have c7 : w0.cell? ⟨p, 7, none⟩ = some S.w := hS1.cell rfl
  have h10 := hok.w10
  obtain ⟨Aw, cw, ew, -, -⟩ := hS1.wire.1.form
  simp only [List.length_map] at ew
  rw [ew] at c7
  have hBl : Apart lo w w0 := belAp hbox
  have l1 := later_one (P := Try.prog) 2 Try.underlying2 rfl b1
  have l2 := later_one (P := Try.prog) 60 Try.underlying60 rfl c7
  obtain ⟨gw, cw2, hw, hgo, hg, hnc, hcell, hfz⟩ := hS1.wire.at (by simp; omega)
  have hgx : gw < w.heap.size := by
    rcases Nat.lt_or_ge gw w.heap.size with h | h
    · exact h
    · rw [oNew_ge h] at hgo; omega
  have u0 : w0.cell? ⟨gw, aN * 2, none⟩ = some (.bool (f.wire[aN]).back) := by
    have := hcell aN (by simpa using h1) 0 (.bool (f.wire[aN]).back) (by simp [cN])
    simpa using this
  have u1 : w0.cell? ⟨gw, aN * 2 + 1, none⟩ = some (.int .i64 (f.wire[aN]).t) := by
    have := hcell aN (by simpa using h1) 1 (.int .i64 (f.wire[aN]).t) (by simp [cN])
    simpa using this
  simp only [List.length_map] at hw
  rw [hw] at ew
  obtain ⟨rfl, rfl⟩ : some ⟨gw, 0, none⟩ = Aw ∧ cw2 = cw := by simpa using ew
  have hnt := hok.wire _ (List.getElem_mem h1)
  have hget : f.wire[aN]? = some f.wire[aN] := List.getElem?_eq_getElem h1
  obtain ⟨n, hn⟩ : ∃ n, f.wire[aN] = n := ⟨_, rfl⟩
  rw [hn] at u0 u1 hnt hget
  obtain ⟨nb0, nt⟩ := n
  replace hnt : nt < ts.length := hnt
  replace u0 : w0.cell? ⟨gw, aN * 2, none⟩ = some (.bool nb0) := u0
  replace u1 : w0.cell? ⟨gw, aN * 2 + 1, none⟩ = some (.int .i64 nt) := u1
  clear hcell hfz
  have hst : step r ts f ⟨2, aN⟩ = (pour r ts { f with wire := f.wire.eraseIdx aN } ⟨nb0, nt⟩, 0) := by
    simp [step, wireDo, hget]
  rw [hst]
  go_enter Try.func56, Try.ntmps56
  go_wp2_with fail
  clear hw0
  refine wp_region_below (by kernel_rfl) (by kernel_rfl) ?_
  repeat (first | go_big_quiet_skip | (go_big_quiet_want; first | (refine quiet_load_run 2 _ rfl _ l1 ?_; go_simp; go_big_quiet_on) | (refine quiet_load_run 60 _ rfl _ l2 ?_; go_simp; go_big_quiet_on) | (go_big_quiet_op; first | go_big_quiet_on | (apply Exists.intro; refine ⟨fun W hW => ?_, ?_⟩; (focus (go_at_call 100; refine (lengthNote_any _ _ _ _).mono ?_; rintro e w1 ⟨rfl, rfl⟩; exact ⟨rfl, hW⟩)); go_big_quiet_on) | (apply Exists.intro; refine ⟨fun _ _ => ?_, ?_⟩; (focus (with_reducible rfl)); go_big_quiet_on))))
  refine wpQuiet_nil ?_
  intro W2 hW2
  go_wp2_with fail
  have e1 := (hW2.cell (p := ⟨w.heap.size, 1, none⟩) hz).trans b1
  have e0 := (hW2.cell (p := ⟨w.heap.size, 0, none⟩) hz).trans b0
  have e7 := (hW2.cell (p := ⟨p, 7, none⟩) hp).trans c7
  have v0 := (hW2.cell (p := ⟨gw, aN * 2, none⟩) hg).trans u0
  have v1 := (hW2.cell (p := ⟨gw, aN * 2 + 1, none⟩) hg).trans u1
  have hp2 : p < W2.heap.size := by have := hW2.size; omega
  have hg2 : gw < W2.heap.size := by have := hW2.size; omega
  have hz2 : w.heap.size < W2.heap.size := by have := hW2.size; omega
  go_region
  have q0 : ((W2.alloc (.cells #[.bool nb0, .int .i64 nt] 123)).drew).cell? ⟨W2.heap.size, 0, none⟩ = some (.bool nb0) := by show (W2.alloc _).cell? _ = _; rw [World.cell?_alloc_at _ _ _ _ rfl]; rfl
  have q1 : ((W2.alloc (.cells #[.bool nb0, .int .i64 nt] 123)).drew).cell? ⟨W2.heap.size, 1, none⟩ = some (.int .i64 nt) := by show (W2.alloc _).cell? _ = _; rw [World.cell?_alloc_at _ _ _ _ rfl]; rfl
  have hb3 : Below W2.heap.size W2 ((W2.alloc (.cells #[.bool nb0, .int .i64 nt] 123)).drew) := ((Below.refl _ _).alloc (Nat.le_refl _) _).drew
  have hz3 : W2.heap.size < ((W2.alloc (.cells #[.bool nb0, .int .i64 nt] 123)).drew).heap.size := by show _ < (W2.alloc _).heap.size; simp
  generalize hw3 : (W2.alloc (.cells #[.bool nb0, .int .i64 nt] 123)).drew = w3 at q0 q1 hb3 hz3 ⊢
  clear hw3 v0 v1
  have g0 := (hb3.cell (p := ⟨w.heap.size, 0, none⟩) hz2).trans e0
  have g1 := (hb3.cell (p := ⟨w.heap.size, 1, none⟩) hz2).trans e1
  have g7 := (hb3.cell (p := ⟨p, 7, none⟩) hp2).trans e7
  clear e0 e1 e7
  have hB3 : Below w0.heap.size w0 w3 := hW2.trans (hb3.mono hW2.size)
  have hB3l : Apart lo w w3 := hBl.trans ((belAp hB3))
  have hS3 := hS1.kept hB3.drew 0
  have hrow3 : Row w3.drew 0 123 2 (.slice (some ⟨gw, 0, none⟩) f.wire.length cw2) (f.wire.map cN) := by rw [← hw]; exact hS3.wire.1
  go_wp2_with fail
  have hwr : IntKind.i64.wrap ((aN : Int) + 1) = (aN : Int) + 1 := IntWalk.i64_in _ (by omega)
  have hbx : w.heap.size ≠ p := by have := hS0.lt; omega
  refine wp_region_held_drew (S := fun W => W.cell? ⟨w.heap.size, 1, none⟩ = some (.int .i64 aN)) (by kernel_rfl) (by show w3.cell? _ = _; exact g1) (fun hHeld => ?_)
  have hzx : w.heap.size < w3.heap.size := by omega
  clear hB3 hb3 hW2
  refine wpAnyH_take (i := 0) (oi := _) (v := ?_) rfl (by kernel_rfl) (by kernel_rfl) (by kernel_rfl) (fun _ _ _ h => h) (Or.inl ⟨by rfl, ?_⟩) (by assumption) ?_
  rotate_left
  focus
    intro w hSw
    (try dsimp only at hSw)
    go_simp
    (try with_reducible rfl)
  (try simp only [List.getElem_toArray, List.getElem_cons_zero, List.getElem_cons_succ, Act.put, List.setIfInBounds_toArray, List.set_cons_zero, List.set_cons_succ])
  refine wpAnyH_take (i := 1) (oi := _) (v := ?_) rfl (by kernel_rfl) (by kernel_rfl) (by kernel_rfl) (fun _ _ _ h => h) (Or.inl ⟨by rfl, ?_⟩) (by assumption) ?_
  rotate_left
  focus
    intro w hSw
    (try dsimp only at hSw)
    go_simp
    (try with_reducible rfl)
  (try simp only [List.getElem_toArray, List.getElem_cons_zero, List.getElem_cons_succ, Act.put, List.setIfInBounds_toArray, List.set_cons_zero, List.set_cons_succ])
  refine wpAnyH_take (i := 2) (oi := _) (v := ?_) rfl (by kernel_rfl) (by kernel_rfl) (by kernel_rfl) (fun _ _ _ h => h) (Or.inl ⟨by rfl, ?_⟩) (by assumption) ?_
  rotate_left
  focus
    intro w hSw
    (try dsimp only at hSw)
    go_simp
    (try with_reducible rfl)
  (try simp only [List.getElem_toArray, List.getElem_cons_zero, List.getElem_cons_succ, Act.put, List.setIfInBounds_toArray, List.set_cons_zero, List.set_cons_succ])
  refine wpAnyH_take (i := 3) (oi := _) (v := ?_) rfl (by kernel_rfl) (by kernel_rfl) (by kernel_rfl) (fun _ _ _ h => h) (Or.inl ⟨by rfl, ?_⟩) (by assumption) ?_
  rotate_left
  focus
    intro w hSw
    (try dsimp only at hSw)
    go_simp
    (try with_reducible rfl)
  (try simp only [List.getElem_toArray, List.getElem_cons_zero, List.getElem_cons_succ, Act.put, List.setIfInBounds_toArray, List.set_cons_zero, List.set_cons_succ])
  refine wpAnyH_take (i := 5) (oi := _) (v := ?_) rfl (by kernel_rfl) (by kernel_rfl) (by kernel_rfl) (fun _ _ _ h => h) (Or.inl ⟨by rfl, ?_⟩) (by assumption) ?_
  rotate_left
  focus
    intro w hSw
    (try dsimp only at hSw)
    go_simp
    (try with_reducible rfl)
  (try simp only [List.getElem_toArray, List.getElem_cons_zero, List.getElem_cons_succ, Act.put, List.setIfInBounds_toArray, List.set_cons_zero, List.set_cons_succ])
  refine wpAnyH_take (i := 6) (oi := _) (v := ?_) rfl (by kernel_rfl) (by kernel_rfl) (by kernel_rfl) (fun _ _ _ h => h) (Or.inl ⟨by rfl, ?_⟩) (by assumption) ?_
  rotate_left
  focus
    intro w hSw
    (try dsimp only at hSw)
    go_simp
    (try with_reducible rfl)
  (try simp only [List.getElem_toArray, List.getElem_cons_zero, List.getElem_cons_succ, Act.put, List.setIfInBounds_toArray, List.set_cons_zero, List.set_cons_succ])
  refine wpAnyH_take (i := 7) (oi := _) (v := ?_) rfl (by kernel_rfl) (by kernel_rfl) (by kernel_rfl) (fun _ _ _ h => h) (Or.inl ⟨by rfl, ?_⟩) (by assumption) ?_
  rotate_left
  focus
    intro w hSw
    (try dsimp only at hSw)
    go_simp
    (try with_reducible rfl)
  (try simp only [List.getElem_toArray, List.getElem_cons_zero, List.getElem_cons_succ, Act.put, List.setIfInBounds_toArray, List.set_cons_zero, List.set_cons_succ])
  refine wpAnyH_take (i := 8) (oi := _) (v := ?_) rfl (by kernel_rfl) (by kernel_rfl) (by kernel_rfl) (fun _ _ _ h => h) (Or.inl ⟨by rfl, ?_⟩) (by assumption) ?_
  rotate_left
  focus
    intro w hSw
    (try dsimp only at hSw)
    go_simp
    (try with_reducible rfl)
  (try simp only [List.getElem_toArray, List.getElem_cons_zero, List.getElem_cons_succ, Act.put, List.setIfInBounds_toArray, List.set_cons_zero, List.set_cons_succ])
  refine wpAnyH_take (i := 9) (oi := _) (v := ?_) rfl (by kernel_rfl) (by kernel_rfl) (by kernel_rfl) (fun _ _ _ h => h) (Or.inl ⟨by rfl, ?_⟩) (by assumption) ?_
  rotate_left
  focus
    intro w hSw
    (try dsimp only at hSw)
    go_simp
    (try with_reducible rfl)
  (try simp only [List.getElem_toArray, List.getElem_cons_zero, List.getElem_cons_succ, Act.put, List.setIfInBounds_toArray, List.set_cons_zero, List.set_cons_succ])
  refine wpAnyH_ready (rs := [4]) (by kernel_rfl) (by simp) ?_
  refine AllReadyH.cons (o := _) rfl (fun K hK => ?_) AllReadyH.nil
  (try simp only [List.getElem_toArray, List.getElem_cons_zero, List.getElem_cons_succ])
  go_simp
  refine hK.out _ _ ?_ (fun hHeld => ?_)
  focus
    (try dsimp only)
    exact hHeld
  clear hK K
  (try simp only [List.getElem_toArray, List.getElem_cons_zero, List.getElem_cons_succ, Act.put, List.setIfInBounds_toArray, List.set_cons_zero, List.set_cons_succ])
  refine wpAnyH_ready (rs := [10]) (by kernel_rfl) (by simp) ?_
  refine AllReadyH.cons (o := _) rfl (fun K hK => ?_) AllReadyH.nil
  (try simp only [List.getElem_toArray, List.getElem_cons_zero, List.getElem_cons_succ])
  go_simp
  refine (delete_any _ hrow3 h1 h10).mono ?_
  rintro e w4 ⟨A4, c4, rfl, hrow4, hown4, hg4⟩
  obtain ⟨hSh, hB4, hc4, hf4⟩ := hS3.delWire (by rw [hw]; exact hg4) hrow4 (by rw [hw]; exact hown4)
  have d7 := hc4 7 _ rfl
  have d7f := hf4 7
  rw [hw] at d7
  have hkp : ∀ b k, b ≠ gw → b < w3.heap.size → w4.cell? ⟨b, k, none⟩ = w3.cell? ⟨b, k, none⟩ := fun b k hne hlt => World.cell?_of_block (w := w3.drew) (a := ⟨b, k, none⟩) (hg4.block b hlt (by intro e; simp [Value.ownBlock] at e; omega))
  have gx4 : w4.cell? ⟨w.heap.size, 1, none⟩ = some (.int .i64 aN) := (hkp w.heap.size 1 (by omega) hzx).trans g1
  have gx0 := (hkp w.heap.size 0 (by omega) hzx).trans g0
  have r0 := (hkp W2.heap.size 0 (by omega) hz3).trans q0
  have r1 := (hkp W2.heap.size 1 (by omega) hz3).trans q1
  clear hkp
  go_simp
  refine hK.out _ _ ?_ (fun hHeld => ?_)
  focus
    (try dsimp only)
    exact gx4
  clear hK K
  (try simp only [List.getElem_toArray, List.getElem_cons_zero, List.getElem_cons_succ, Act.put, List.setIfInBounds_toArray, List.set_cons_zero, List.set_cons_succ])
  refine wpAnyH_take (i := 11) (oi := _) (v := ?_) rfl (by kernel_rfl) (by kernel_rfl) (by kernel_rfl) (fun _ _ _ h => h) (Or.inl ⟨by rfl, ?_⟩) (by assumption) ?_
  rotate_left
  focus
    intro w hSw
    (try dsimp only at hSw)
    go_simp
    (try with_reducible rfl)
  (try simp only [List.getElem_toArray, List.getElem_cons_zero, List.getElem_cons_succ, Act.put, List.setIfInBounds_toArray, List.set_cons_zero, List.set_cons_succ])
  refine wpAnyH_take (i := 12) (oi := _) (v := ?_) rfl (by kernel_rfl) (by kernel_rfl) (by kernel_rfl) (fun _ _ _ h => h) (Or.inl ⟨by rfl, ?_⟩) (by assumption) ?_
  rotate_left
  focus
    intro w hSw
    (try dsimp only at hSw)
    go_simp
    (try with_reducible rfl)
  (try simp only [List.getElem_toArray, List.getElem_cons_zero, List.getElem_cons_succ, Act.put, List.setIfInBounds_toArray, List.set_cons_zero, List.set_cons_succ])
  refine wpAnyH_ready (rs := [13]) (by kernel_rfl) (by simp) ?_
  refine AllReadyH.cons (o := _) rfl (fun K hK => ?_) AllReadyH.nil
  (try simp only [List.getElem_toArray, List.getElem_cons_zero, List.getElem_cons_succ])
  go_simp
  refine hK.out _ _ ?_ (fun hHeld => ?_)
  focus
    (try dsimp only)
    exact (cell_other hbx).trans gx4
  clear hK K
  (try simp only [List.getElem_toArray, List.getElem_cons_zero, List.getElem_cons_succ, Act.put, List.setIfInBounds_toArray, List.set_cons_zero, List.set_cons_succ])
  refine wpAnyH_done (by kernel_rfl) ?_ _
  have hqx : W2.heap.size ≠ p := by omega
  have s0 : (w4.setCell ⟨p, 7, none⟩ (.slice A4 (f.wire.length - 1) c4)).cell? ⟨w.heap.size, 0, none⟩ = _ := (cell_other hbx).trans gx0
  have s1 : (w4.setCell ⟨p, 7, none⟩ (.slice A4 (f.wire.length - 1) c4)).cell? ⟨W2.heap.size, 0, none⟩ = _ := (cell_other hqx).trans r0
  have s2 : (w4.setCell ⟨p, 7, none⟩ (.slice A4 (f.wire.length - 1) c4)).cell? ⟨W2.heap.size, 1, none⟩ = _ := (cell_other hqx).trans r1
  have hB5 : Apart lo w (w4.setCell ⟨p, 7, none⟩ (.slice A4 (f.wire.length - 1) c4)) := (hB3l.drew.trans hB4).setCell (p := ⟨p, 7, none⟩) hS0.pge _
  replace hSh : ShopAt (w4.setCell ⟨p, 7, none⟩ (.slice A4 (f.wire.length - 1) c4)) lo p 106 [.int .i64 r, .slice AB nB cB0] ts { f with wire := f.wire.eraseIdx aN } := hSh
  generalize w4.setCell ⟨p, 7, none⟩ (.slice A4 (f.wire.length - 1) c4) = w5 at s0 s1 s2 hSh hB5 ⊢
  clear gx0 gx4 r0 r1 d7 d7f q0 q1 g0 g1 g7 hHeld
  go_wp2_with fail
  refine (comeIn_any lo p r nb AB nB cB0 ts _ ⟨nb0, nt⟩ w5 hSh (hok.erase h1) hnt).mono ?_
  rintro e w6 ⟨rfl, hS6, hB6⟩
  go_wp2_with fail
  go_ret
  exact ⟨rfl, hS6, hB5.trans hB6⟩

set_option maxRecDepth 100000 in
set_option maxHeartbeats 4000000 in
theorem do_copyFull (aN : Nat) (h1 : aN < f.wire.length) (hb : (f.wire[aN]).back = false) (hl : f.wire.length = 10) : Calls Try.prog 56 #[.pointer (some ⟨p, 0, none⟩), .agg #[.int .i64 3, .int .i64 aN]] w (DoPost w lo p 106 [.int .i64 r, .slice AB nB cB0] ts (step r ts f ⟨3, aN⟩)) := by
  have hbox : Below w.heap.size w (w.alloc (.cells #[.int .i64 3, .int .i64 aN] 91)) := (Below.refl _ _).alloc (Nat.le_refl _) _
  obtain ⟨o, S, hS0⟩ := hS
  have hS1 := hS0.kept hbox 0
  have b0 : (w.alloc (.cells #[.int .i64 3, .int .i64 aN] 91)).cell? ⟨w.heap.size, 0, none⟩ = some (.int .i64 3) := by rw [World.cell?_alloc_at _ _ _ _ rfl]; rfl
  have b1 : (w.alloc (.cells #[.int .i64 3, .int .i64 aN] 91)).cell? ⟨w.heap.size, 1, none⟩ = some (.int .i64 aN) := by rw [World.cell?_alloc_at _ _ _ _ rfl]; rfl
  have hz : w.heap.size < (w.alloc (.cells #[.int .i64 3, .int .i64 aN] 91)).heap.size := by simp
  generalize hw0 : w.alloc (.cells #[.int .i64 3, .int .i64 aN] 91) = w0 at b0 b1 hbox hS1 hz
  have hp := hS1.lt
  have c7 : w0.cell? ⟨p, 7, none⟩ = some S.w := hS1.cell rfl
  have h10 := hok.w10
  obtain ⟨Aw, cw, ew, -, -⟩ := hS1.wire.1.form
  simp only [List.length_map] at ew
  rw [ew] at c7
  have hBl : Apart lo w w0 := belAp hbox
  have l1 := later_one (P := Try.prog) 2 Try.underlying2 rfl b1
  have l2 := later_one (P := Try.prog) 60 Try.underlying60 rfl c7
  obtain ⟨gw, cw2, hw, hgo, hg, hnc, hcell, hfz⟩ := hS1.wire.at (by simp; omega)
  have hgx : gw < w.heap.size := by
    rcases Nat.lt_or_ge gw w.heap.size with h | h
    · exact h
    · rw [oNew_ge h] at hgo; omega
  have u0 : w0.cell? ⟨gw, aN * 2, none⟩ = some (.bool (f.wire[aN]).back) := by
    have := hcell aN (by simpa using h1) 0 (.bool (f.wire[aN]).back) (by simp [cN])
    simpa using this
  have u1 : w0.cell? ⟨gw, aN * 2 + 1, none⟩ = some (.int .i64 (f.wire[aN]).t) := by
    have := hcell aN (by simpa using h1) 1 (.int .i64 (f.wire[aN]).t) (by simp [cN])
    simpa using this
  simp only [List.length_map] at hw
  rw [hw] at ew
  obtain ⟨rfl, rfl⟩ : some ⟨gw, 0, none⟩ = Aw ∧ cw2 = cw := by simpa using ew
  have hnt := hok.wire _ (List.getElem_mem h1)
  have hget : f.wire[aN]? = some f.wire[aN] := List.getElem?_eq_getElem h1
  obtain ⟨n, hn⟩ : ∃ n, f.wire[aN] = n := ⟨_, rfl⟩
  rw [hn] at u0 u1 hnt hget
  obtain ⟨nb0, nt⟩ := n
  replace hnt : nt < ts.length := hnt
  replace u0 : w0.cell? ⟨gw, aN * 2, none⟩ = some (.bool nb0) := u0
  replace u1 : w0.cell? ⟨gw, aN * 2 + 1, none⟩ = some (.int .i64 nt) := u1
  clear hcell hfz
  rw [hn] at hb
  obtain rfl : nb0 = false := hb
  have hst : step r ts f ⟨3, aN⟩ = (f, 3) := by
    simp [step, wireDo, hget, hl]
  rw [hst]
  go_enter Try.func56, Try.ntmps56
  go_wp2_with fail
  clear hw0
  refine wp_region_below (by kernel_rfl) (by kernel_rfl) ?_
  repeat (first | go_big_quiet_skip | (go_big_quiet_want; first | (refine quiet_load_run 2 _ rfl _ l1 ?_; go_simp; go_big_quiet_on) | (refine quiet_load_run 60 _ rfl _ l2 ?_; go_simp; go_big_quiet_on) | (go_big_quiet_op; first | go_big_quiet_on | (apply Exists.intro; refine ⟨fun W hW => ?_, ?_⟩; (focus (go_at_call 100; refine (lengthNote_any _ _ _ _).mono ?_; rintro e w1 ⟨rfl, rfl⟩; exact ⟨rfl, hW⟩)); go_big_quiet_on) | (apply Exists.intro; refine ⟨fun _ _ => ?_, ?_⟩; (focus (with_reducible rfl)); go_big_quiet_on))))
  refine wpQuiet_nil ?_
  intro W2 hW2
  go_wp2_with fail
  have e1 := (hW2.cell (p := ⟨w.heap.size, 1, none⟩) hz).trans b1
  have e0 := (hW2.cell (p := ⟨w.heap.size, 0, none⟩) hz).trans b0
  have e7 := (hW2.cell (p := ⟨p, 7, none⟩) hp).trans c7
  have v0 := (hW2.cell (p := ⟨gw, aN * 2, none⟩) hg).trans u0
  have v1 := (hW2.cell (p := ⟨gw, aN * 2 + 1, none⟩) hg).trans u1
  have hp2 : p < W2.heap.size := by have := hW2.size; omega
  have hg2 : gw < W2.heap.size := by have := hW2.size; omega
  have hz2 : w.heap.size < W2.heap.size := by have := hW2.size; omega
  go_region
  have q0 : ((W2.alloc (.cells #[.bool false, .int .i64 nt] 123)).drew).cell? ⟨W2.heap.size, 0, none⟩ = some (.bool false) := by show (W2.alloc _).cell? _ = _; rw [World.cell?_alloc_at _ _ _ _ rfl]; rfl
  have q1 : ((W2.alloc (.cells #[.bool false, .int .i64 nt] 123)).drew).cell? ⟨W2.heap.size, 1, none⟩ = some (.int .i64 nt) := by show (W2.alloc _).cell? _ = _; rw [World.cell?_alloc_at _ _ _ _ rfl]; rfl
  have hb3 : Below W2.heap.size W2 ((W2.alloc (.cells #[.bool false, .int .i64 nt] 123)).drew) := ((Below.refl _ _).alloc (Nat.le_refl _) _).drew
  have hz3 : W2.heap.size < ((W2.alloc (.cells #[.bool false, .int .i64 nt] 123)).drew).heap.size := by show _ < (W2.alloc _).heap.size; simp
  generalize hw3 : (W2.alloc (.cells #[.bool false, .int .i64 nt] 123)).drew = w3 at q0 q1 hb3 hz3 ⊢
  clear hw3 v0 v1
  have g0 := (hb3.cell (p := ⟨w.heap.size, 0, none⟩) hz2).trans e0
  have g1 := (hb3.cell (p := ⟨w.heap.size, 1, none⟩) hz2).trans e1
  have g7 := (hb3.cell (p := ⟨p, 7, none⟩) hp2).trans e7
  clear e0 e1 e7
  have hB3 : Below w0.heap.size w0 w3 := hW2.trans (hb3.mono hW2.size)
  have hB3l : Apart lo w w3 := hBl.trans ((belAp hB3))
  rw [hl] at g7
  go_wp2_with fail
  go_ret
  exact ⟨rfl, ⟨_, S, hS1.kept hB3 0⟩, hB3l⟩

set_option maxRecDepth 100000 in
set_option maxHeartbeats 4000000 in
theorem do_copy (aN : Nat) (h1 : aN < f.wire.length) (hc : (f.wire[aN]).back = true ∨ f.wire.length < 10) : Calls Try.prog 56 #[.pointer (some ⟨p, 0, none⟩), .agg #[.int .i64 3, .int .i64 aN]] w (DoPost w lo p 106 [.int .i64 r, .slice AB nB cB0] ts (step r ts f ⟨3, aN⟩)) := by
  have hbox : Below w.heap.size w (w.alloc (.cells #[.int .i64 3, .int .i64 aN] 91)) := (Below.refl _ _).alloc (Nat.le_refl _) _
  obtain ⟨o, S, hS0⟩ := hS
  have hS1 := hS0.kept hbox 0
  have b0 : (w.alloc (.cells #[.int .i64 3, .int .i64 aN] 91)).cell? ⟨w.heap.size, 0, none⟩ = some (.int .i64 3) := by rw [World.cell?_alloc_at _ _ _ _ rfl]; rfl
  have b1 : (w.alloc (.cells #[.int .i64 3, .int .i64 aN] 91)).cell? ⟨w.heap.size, 1, none⟩ = some (.int .i64 aN) := by rw [World.cell?_alloc_at _ _ _ _ rfl]; rfl
  have hz : w.heap.size < (w.alloc (.cells #[.int .i64 3, .int .i64 aN] 91)).heap.size := by simp
  generalize hw0 : w.alloc (.cells #[.int .i64 3, .int .i64 aN] 91) = w0 at b0 b1 hbox hS1 hz
  have hp := hS1.lt
  have c7 : w0.cell? ⟨p, 7, none⟩ = some S.w := hS1.cell rfl
  have h10 := hok.w10
  obtain ⟨Aw, cw, ew, -, -⟩ := hS1.wire.1.form
  simp only [List.length_map] at ew
  rw [ew] at c7
  have hBl : Apart lo w w0 := belAp hbox
  have l1 := later_one (P := Try.prog) 2 Try.underlying2 rfl b1
  have l2 := later_one (P := Try.prog) 60 Try.underlying60 rfl c7
  obtain ⟨gw, cw2, hw, hgo, hg, hnc, hcell, hfz⟩ := hS1.wire.at (by simp; omega)
  have hgx : gw < w.heap.size := by
    rcases Nat.lt_or_ge gw w.heap.size with h | h
    · exact h
    · rw [oNew_ge h] at hgo; omega
  have u0 : w0.cell? ⟨gw, aN * 2, none⟩ = some (.bool (f.wire[aN]).back) := by
    have := hcell aN (by simpa using h1) 0 (.bool (f.wire[aN]).back) (by simp [cN])
    simpa using this
  have u1 : w0.cell? ⟨gw, aN * 2 + 1, none⟩ = some (.int .i64 (f.wire[aN]).t) := by
    have := hcell aN (by simpa using h1) 1 (.int .i64 (f.wire[aN]).t) (by simp [cN])
    simpa using this
  simp only [List.length_map] at hw
  rw [hw] at ew
  obtain ⟨rfl, rfl⟩ : some ⟨gw, 0, none⟩ = Aw ∧ cw2 = cw := by simpa using ew
  have hnt := hok.wire _ (List.getElem_mem h1)
  have hget : f.wire[aN]? = some f.wire[aN] := List.getElem?_eq_getElem h1
  obtain ⟨n, hn⟩ : ∃ n, f.wire[aN] = n := ⟨_, rfl⟩
  rw [hn] at u0 u1 hnt hget
  obtain ⟨nb0, nt⟩ := n
  replace hnt : nt < ts.length := hnt
  replace u0 : w0.cell? ⟨gw, aN * 2, none⟩ = some (.bool nb0) := u0
  replace u1 : w0.cell? ⟨gw, aN * 2 + 1, none⟩ = some (.int .i64 nt) := u1
  clear hcell hfz
  rw [hn] at hc
  replace hc : nb0 = true ∨ f.wire.length < 10 := hc
  have hst : step r ts f ⟨3, aN⟩ = (pour r ts f ⟨nb0, nt⟩, 0) := by
    have : ¬ (nb0 = false ∧ 10 ≤ f.wire.length) := by rintro ⟨rfl, h⟩; rcases hc with h2 | h2 <;> first | cases h2 | omega
    simp [step, wireDo, hget, this]
  rw [hst]
  have hq : nb0 = true ∨ (nb0 = false ∧ ((f.wire.length : Int) == 10) = false) := by
    rcases hc with h2 | h2
    · exact .inl h2
    · cases nb0
      · exact .inr ⟨rfl, by simp; omega⟩
      · exact .inl rfl
  rcases hq with rfl | ⟨rfl, hl⟩
  · go_enter Try.func56, Try.ntmps56
    go_wp2_with fail
    clear hw0
    refine wp_region_below (by kernel_rfl) (by kernel_rfl) ?_
    repeat (first | go_big_quiet_skip | (go_big_quiet_want; first | (refine quiet_load_run 2 _ rfl _ l1 ?_; go_simp; go_big_quiet_on) | (refine quiet_load_run 60 _ rfl _ l2 ?_; go_simp; go_big_quiet_on) | (go_big_quiet_op; first | go_big_quiet_on | (apply Exists.intro; refine ⟨fun W hW => ?_, ?_⟩; (focus (go_at_call 100; refine (lengthNote_any _ _ _ _).mono ?_; rintro e w1 ⟨rfl, rfl⟩; exact ⟨rfl, hW⟩)); go_big_quiet_on) | (apply Exists.intro; refine ⟨fun _ _ => ?_, ?_⟩; (focus (with_reducible rfl)); go_big_quiet_on))))
    refine wpQuiet_nil ?_
    intro W2 hW2
    go_wp2_with fail
    have e1 := (hW2.cell (p := ⟨w.heap.size, 1, none⟩) hz).trans b1
    have e0 := (hW2.cell (p := ⟨w.heap.size, 0, none⟩) hz).trans b0
    have e7 := (hW2.cell (p := ⟨p, 7, none⟩) hp).trans c7
    have v0 := (hW2.cell (p := ⟨gw, aN * 2, none⟩) hg).trans u0
    have v1 := (hW2.cell (p := ⟨gw, aN * 2 + 1, none⟩) hg).trans u1
    have hp2 : p < W2.heap.size := by have := hW2.size; omega
    have hg2 : gw < W2.heap.size := by have := hW2.size; omega
    have hz2 : w.heap.size < W2.heap.size := by have := hW2.size; omega
    go_region
    have q0 : ((W2.alloc (.cells #[.bool true, .int .i64 nt] 123)).drew).cell? ⟨W2.heap.size, 0, none⟩ = some (.bool true) := by show (W2.alloc _).cell? _ = _; rw [World.cell?_alloc_at _ _ _ _ rfl]; rfl
    have q1 : ((W2.alloc (.cells #[.bool true, .int .i64 nt] 123)).drew).cell? ⟨W2.heap.size, 1, none⟩ = some (.int .i64 nt) := by show (W2.alloc _).cell? _ = _; rw [World.cell?_alloc_at _ _ _ _ rfl]; rfl
    have hb3 : Below W2.heap.size W2 ((W2.alloc (.cells #[.bool true, .int .i64 nt] 123)).drew) := ((Below.refl _ _).alloc (Nat.le_refl _) _).drew
    have hz3 : W2.heap.size < ((W2.alloc (.cells #[.bool true, .int .i64 nt] 123)).drew).heap.size := by show _ < (W2.alloc _).heap.size; simp
    generalize hw3 : (W2.alloc (.cells #[.bool true, .int .i64 nt] 123)).drew = w3 at q0 q1 hb3 hz3 ⊢
    clear hw3 v0 v1
    have g0 := (hb3.cell (p := ⟨w.heap.size, 0, none⟩) hz2).trans e0
    have g1 := (hb3.cell (p := ⟨w.heap.size, 1, none⟩) hz2).trans e1
    have g7 := (hb3.cell (p := ⟨p, 7, none⟩) hp2).trans e7
    clear e0 e1 e7
    have hB3 : Below w0.heap.size w0 w3 := hW2.trans (hb3.mono hW2.size)
    have hB3l : Apart lo w w3 := hBl.trans ((belAp hB3))
    have hS3 := hS1.kept hB3 0
    go_wp2_with fail
    refine (comeIn_any lo p r nb AB nB cB0 ts _ ⟨true, nt⟩ w3 ⟨_, S, hS3⟩ hok hnt).mono ?_
    rintro e w6 ⟨rfl, hS6, hB6⟩
    go_wp2_with fail
    go_ret
    exact ⟨rfl, hS6, hB3l.trans hB6⟩
  · go_enter Try.func56, Try.ntmps56
    go_wp2_with fail
    clear hw0
    refine wp_region_below (by kernel_rfl) (by kernel_rfl) ?_
    repeat (first | go_big_quiet_skip | (go_big_quiet_want; first | (refine quiet_load_run 2 _ rfl _ l1 ?_; go_simp; go_big_quiet_on) | (refine quiet_load_run 60 _ rfl _ l2 ?_; go_simp; go_big_quiet_on) | (go_big_quiet_op; first | go_big_quiet_on | (apply Exists.intro; refine ⟨fun W hW => ?_, ?_⟩; (focus (go_at_call 100; refine (lengthNote_any _ _ _ _).mono ?_; rintro e w1 ⟨rfl, rfl⟩; exact ⟨rfl, hW⟩)); go_big_quiet_on) | (apply Exists.intro; refine ⟨fun _ _ => ?_, ?_⟩; (focus (with_reducible rfl)); go_big_quiet_on))))
    refine wpQuiet_nil ?_
    intro W2 hW2
    go_wp2_with fail
    have e1 := (hW2.cell (p := ⟨w.heap.size, 1, none⟩) hz).trans b1
    have e0 := (hW2.cell (p := ⟨w.heap.size, 0, none⟩) hz).trans b0
    have e7 := (hW2.cell (p := ⟨p, 7, none⟩) hp).trans c7
    have v0 := (hW2.cell (p := ⟨gw, aN * 2, none⟩) hg).trans u0
    have v1 := (hW2.cell (p := ⟨gw, aN * 2 + 1, none⟩) hg).trans u1
    have hp2 : p < W2.heap.size := by have := hW2.size; omega
    have hg2 : gw < W2.heap.size := by have := hW2.size; omega
    have hz2 : w.heap.size < W2.heap.size := by have := hW2.size; omega
    go_region
    have q0 : ((W2.alloc (.cells #[.bool false, .int .i64 nt] 123)).drew).cell? ⟨W2.heap.size, 0, none⟩ = some (.bool false) := by show (W2.alloc _).cell? _ = _; rw [World.cell?_alloc_at _ _ _ _ rfl]; rfl
    have q1 : ((W2.alloc (.cells #[.bool false, .int .i64 nt] 123)).drew).cell? ⟨W2.heap.size, 1, none⟩ = some (.int .i64 nt) := by show (W2.alloc _).cell? _ = _; rw [World.cell?_alloc_at _ _ _ _ rfl]; rfl
    have hb3 : Below W2.heap.size W2 ((W2.alloc (.cells #[.bool false, .int .i64 nt] 123)).drew) := ((Below.refl _ _).alloc (Nat.le_refl _) _).drew
    have hz3 : W2.heap.size < ((W2.alloc (.cells #[.bool false, .int .i64 nt] 123)).drew).heap.size := by show _ < (W2.alloc _).heap.size; simp
    generalize hw3 : (W2.alloc (.cells #[.bool false, .int .i64 nt] 123)).drew = w3 at q0 q1 hb3 hz3 ⊢
    clear hw3 v0 v1
    have g0 := (hb3.cell (p := ⟨w.heap.size, 0, none⟩) hz2).trans e0
    have g1 := (hb3.cell (p := ⟨w.heap.size, 1, none⟩) hz2).trans e1
    have g7 := (hb3.cell (p := ⟨p, 7, none⟩) hp2).trans e7
    clear e0 e1 e7
    have hB3 : Below w0.heap.size w0 w3 := hW2.trans (hb3.mono hW2.size)
    have hB3l : Apart lo w w3 := hBl.trans ((belAp hB3))
    have hS3 := hS1.kept hB3 0
    go_wp2_with fail
    refine (comeIn_any lo p r nb AB nB cB0 ts _ ⟨false, nt⟩ w3 ⟨_, S, hS3⟩ hok hnt).mono ?_
    rintro e w6 ⟨rfl, hS6, hB6⟩
    go_wp2_with fail
    go_ret
    exact ⟨rfl, hS6, hB3l.trans hB6⟩
end

/-- Whatever valid deed it is. -/
theorem do_any (lo : Nat → Prop) (p r nb : Nat) (AB : Option Addr) (nB cB0 : Nat) (ts : List Tsk) (f : Fl) (w : World) (hS : ShopAt w lo p 106 [.int .i64 r, .slice AB nB cB0] ts f) (hok : FlOk r nb ts f) (d : Dd) (hd : okDeed d = true) :
    Calls Try.prog 56 #[.pointer (some ⟨p, 0, none⟩), .agg (cD d)] w (DoPost w lo p 106 [.int .i64 r, .slice AB nB cB0] ts (step r ts f d)) := by
  obtain ⟨k, a⟩ := d
  simp only [okDeed, Bool.and_eq_true, Bool.or_eq_true, decide_eq_true_eq] at hd
  obtain ⟨⟨⟨k1, k6⟩, a0, a9⟩, hka⟩ := hd
  obtain ⟨aN, rfl⟩ := Int.eq_ofNat_of_zero_le a0
  obtain rfl | rfl | rfl | rfl | rfl | rfl : k = 1 ∨ k = 2 ∨ k = 3 ∨ k = 4 ∨ k = 5 ∨ k = 6 := by omega
  · exact do_ask lo p r nb AB nB cB0 ts f w hS hok aN
  · rcases Nat.lt_or_ge aN f.wire.length with h1 | h1
    · exact do_deliver lo p r nb AB nB cB0 ts f w hS hok aN h1
    · exact do_far lo p r nb AB nB cB0 ts f w hS hok aN 2 (by omega) h1
  · rcases Nat.lt_or_ge aN f.wire.length with h1 | h1
    · by_cases hb : (f.wire[aN]).back = false ∧ f.wire.length = 10
      · exact do_copyFull lo p r nb AB nB cB0 ts f w hS hok aN h1 hb.1 hb.2
      · refine do_copy lo p r nb AB nB cB0 ts f w hS hok aN h1 ?_
        have := hok.w10
        cases h : (f.wire[aN]).back
        · simp only [h, true_and] at hb; omega
        · exact .inl rfl
    · exact do_far lo p r nb AB nB cB0 ts f w hS hok aN 3 (by omega) h1
  · rcases Nat.lt_or_ge aN f.wire.length with h1 | h1
    · exact do_drop lo p r nb AB nB cB0 ts f w hS hok aN h1
    · exact do_far lo p r nb AB nB cB0 ts f w hS hok aN 4 (by omega) h1
  · exact do_save lo p r nb AB nB cB0 ts f _ w hS hok
  · exact do_crash lo p r nb AB nB cB0 ts f _ w hS hok
end Go.Proofs.Ytomcffionomidaa
