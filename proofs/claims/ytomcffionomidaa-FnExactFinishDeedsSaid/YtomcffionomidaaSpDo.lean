/- A deed: the reference's 'do' and 'wire'. -/
import Derived.Test.YtomcffionomidaaDo2
namespace Go.Proofs.Ytomcffionomidaa
open Go.RowKit
set_option linter.unusedSimpArgs false
set_option linter.unusedVariables false

theorem cell_alloc {w : World} {a : Addr} {v : Value} (o : Obj) (h : w.cell? a = some v) : (w.alloc o).cell? a = some v := by
  rw [World.cell?_alloc_lt _ _ _ (World.block_lt_of_cell? w a h)]; exact h

section
variable (lo : Nat → Prop) (p wp r nb : Nat) (ts : List Tsk) (f : Fl) (w : World) (hS : ShopAt w lo p 101 [.pointer (some ⟨wp, 0, none⟩)] ts f) (hok : FlOk r nb ts f)
include hS hok


set_option maxRecDepth 100000 in
set_option maxHeartbeats 2000000 in
theorem spDo_save (aN : Int) : Calls Try.prog 94 #[.pointer (some ⟨p, 0, none⟩), .agg #[.int .i64 5, .int .i64 aN]] w (DoPost w lo p 101 [.pointer (some ⟨wp, 0, none⟩)] ts (step r ts f ⟨5, aN⟩)) := by
  have hbox : Below w.heap.size w (w.alloc (.cells #[.int .i64 5, .int .i64 aN] 91)) := (Below.refl _ _).alloc (Nat.le_refl _) _
  obtain ⟨o, S, hS0⟩ := hS
  have hS1 := hS0.kept hbox 0
  have b0 : (w.alloc (.cells #[.int .i64 5, .int .i64 aN] 91)).cell? ⟨w.heap.size, 0, none⟩ = some (.int .i64 5) := by rw [World.cell?_alloc_at _ _ _ _ rfl]; rfl
  have b1 : (w.alloc (.cells #[.int .i64 5, .int .i64 aN] 91)).cell? ⟨w.heap.size, 1, none⟩ = some (.int .i64 aN) := by rw [World.cell?_alloc_at _ _ _ _ rfl]; rfl
  have hz : w.heap.size < (w.alloc (.cells #[.int .i64 5, .int .i64 aN] 91)).heap.size := by simp
  generalize hw0 : w.alloc (.cells #[.int .i64 5, .int .i64 aN] 91) = w0 at b0 b1 hbox hS1 hz
  have hp := hS1.lt
  have h48 := hok.n48
  have h10 := hok.w10
  have hBl : Apart lo w w0 := belAp hbox
  have hlen : f.known.length ≤ 48 := by rw [hok.known]; exact h48
  have c4 : w0.cell? ⟨p, 4, none⟩ = some S.k := hS1.cell rfl
  have c5 : w0.cell? ⟨p, 5, none⟩ = some S.s := hS1.cell rfl
  have k5 := hS1.froz 5
  obtain ⟨A, c, w1, hap, hrow, hb1⟩ := Row.copy (P := Try.prog) (w := w0) 59 59 Try.underlying59 Try.infoBool rfl (by omega) hS1.known.1.src (bools_ok _) (by simp; omega) (by omega)
  simp only [List.length_map] at hap hrow
  have d4 := cell_alloc (.cells #[] 4) c4
  have d5 := (hb1.cell (p := ⟨p, 5, none⟩) hp).trans c5
  have d5f := (hb1.frozen (p := ⟨p, 5, none⟩) hp).trans k5
  have hst : step r ts f ⟨5, aN⟩ = ({ f with saved := f.known }, 0) := by simp [step]
  rw [hst]
  obtain ⟨Ak, ck, ek, -, -⟩ := hS1.known.1.form
  simp only [List.length_map] at ek
  rw [ek] at hap c4 d4
  obtain ⟨As, cs, es, -, -⟩ := hS1.saved.1.form
  simp only [List.length_map] at es
  rw [es] at d5
  go_enter Try.func94, Try.ntmps94
  go_wp2_with ((with_reducible refine wpList_app_at (t := 59) ?_); refine ⟨_, _, hap, ?_⟩)
  go_ret
  exact ⟨rfl, hS1.putSaved hb1 hrow, ((belAp (hbox.trans (hb1.mono (by have := hbox.size; omega))))).setCell (p := ⟨p, 5, none⟩) hS0.pge _⟩

set_option maxRecDepth 100000 in
set_option maxHeartbeats 2000000 in
theorem spDo_crash (aN : Int) : Calls Try.prog 94 #[.pointer (some ⟨p, 0, none⟩), .agg #[.int .i64 6, .int .i64 aN]] w (DoPost w lo p 101 [.pointer (some ⟨wp, 0, none⟩)] ts (step r ts f ⟨6, aN⟩)) := by
  have hbox : Below w.heap.size w (w.alloc (.cells #[.int .i64 6, .int .i64 aN] 91)) := (Below.refl _ _).alloc (Nat.le_refl _) _
  obtain ⟨o, S, hS0⟩ := hS
  have hS1 := hS0.kept hbox 0
  have b0 : (w.alloc (.cells #[.int .i64 6, .int .i64 aN] 91)).cell? ⟨w.heap.size, 0, none⟩ = some (.int .i64 6) := by rw [World.cell?_alloc_at _ _ _ _ rfl]; rfl
  have b1 : (w.alloc (.cells #[.int .i64 6, .int .i64 aN] 91)).cell? ⟨w.heap.size, 1, none⟩ = some (.int .i64 aN) := by rw [World.cell?_alloc_at _ _ _ _ rfl]; rfl
  have hz : w.heap.size < (w.alloc (.cells #[.int .i64 6, .int .i64 aN] 91)).heap.size := by simp
  generalize hw0 : w.alloc (.cells #[.int .i64 6, .int .i64 aN] 91) = w0 at b0 b1 hbox hS1 hz
  have hp := hS1.lt
  have h48 := hok.n48
  have h10 := hok.w10
  have hBl : Apart lo w w0 := belAp hbox
  have hlen : f.saved.length ≤ 48 := by rw [hok.saved]; exact h48
  have c4 : w0.cell? ⟨p, 4, none⟩ = some S.k := hS1.cell rfl
  have c5 : w0.cell? ⟨p, 5, none⟩ = some S.s := hS1.cell rfl
  have k4 := hS1.froz 4
  obtain ⟨A, c, w1, hap, hrow, hb1⟩ := Row.copy (P := Try.prog) (w := w0) 59 59 Try.underlying59 Try.infoBool rfl (by omega) hS1.saved.1.src (bools_ok _) (by simp; omega) (by omega)
  simp only [List.length_map] at hap hrow
  have e5 := cell_alloc (.cells #[] 4) c5
  have d4 := (hb1.cell (p := ⟨p, 4, none⟩) hp).trans c4
  have d4f := (hb1.frozen (p := ⟨p, 4, none⟩) hp).trans k4
  have hst : step r ts f ⟨6, aN⟩ = ({ f with known := f.saved }, 0) := by simp [step]
  rw [hst]
  obtain ⟨Ak, ck, ek, -, -⟩ := hS1.known.1.form
  simp only [List.length_map] at ek
  rw [ek] at d4
  obtain ⟨As, cs, es, -, -⟩ := hS1.saved.1.form
  simp only [List.length_map] at es
  rw [es] at hap c5 e5
  go_enter Try.func94, Try.ntmps94
  go_wp2_with ((with_reducible refine wpList_app_at (t := 59) ?_); refine ⟨_, _, hap, ?_⟩)
  go_ret
  exact ⟨rfl, hS1.putKnown hb1 hrow, ((belAp (hbox.trans (hb1.mono (by have := hbox.size; omega))))).setCell (p := ⟨p, 4, none⟩) hS0.pge _⟩

set_option maxRecDepth 100000 in
set_option maxHeartbeats 4000000 in
theorem spDo_ask (aN : Nat) : Calls Try.prog 94 #[.pointer (some ⟨p, 0, none⟩), .agg #[.int .i64 1, .int .i64 aN]] w (DoPost w lo p 101 [.pointer (some ⟨wp, 0, none⟩)] ts (step r ts f ⟨1, aN⟩)) := by
  have hbox : Below w.heap.size w (w.alloc (.cells #[.int .i64 1, .int .i64 aN] 91)) := (Below.refl _ _).alloc (Nat.le_refl _) _
  obtain ⟨o, S, hS0⟩ := hS
  have hS1 := hS0.kept hbox 0
  have b0 : (w.alloc (.cells #[.int .i64 1, .int .i64 aN] 91)).cell? ⟨w.heap.size, 0, none⟩ = some (.int .i64 1) := by rw [World.cell?_alloc_at _ _ _ _ rfl]; rfl
  have b1 : (w.alloc (.cells #[.int .i64 1, .int .i64 aN] 91)).cell? ⟨w.heap.size, 1, none⟩ = some (.int .i64 aN) := by rw [World.cell?_alloc_at _ _ _ _ rfl]; rfl
  have hz : w.heap.size < (w.alloc (.cells #[.int .i64 1, .int .i64 aN] 91)).heap.size := by simp
  generalize hw0 : w.alloc (.cells #[.int .i64 1, .int .i64 aN] 91) = w0 at b0 b1 hbox hS1 hz
  have hp := hS1.lt
  have h48 := hok.n48
  have h10 := hok.w10
  have hBl : Apart lo w w0 := belAp hbox
  have c1 : w0.cell? ⟨p, 1, none⟩ = some S.t := hS1.cell rfl
  have c4 : w0.cell? ⟨p, 4, none⟩ = some S.k := hS1.cell rfl
  have c6 : w0.cell? ⟨p, 6, none⟩ = some S.w := hS1.cell rfl
  have hlen : f.known.length ≤ 48 := by rw [hok.known]; exact hok.n48
  obtain ⟨At, ct, et, -, -⟩ := hS1.tasks.1.form
  simp only [List.length_map] at et
  rw [et] at c1
  obtain ⟨Aw, cw, ew, -, -⟩ := hS1.wire.1.form
  simp only [List.length_map] at ew
  rw [ew] at c6
  by_cases h1 : (ts.length : Int) ≤ aN
  · have hst : step r ts f ⟨1, aN⟩ = (f, 2) := by simp [step]; omega
    rw [hst]
    go_enter Try.func94, Try.ntmps94
    go_wp2_with fail
    clear hw0
    go_quiet (fail)
    go_wp2_with fail
    go_ret
    exact ⟨rfl, ⟨_, S, hS1.kept (by (repeat (first | (with_reducible exact Below.refl _ _) | (with_reducible assumption) | ((with_reducible refine Below.setCell ?_ ?_ _); rotate_left; focus (first | (with_reducible exact Nat.le_refl _) | omega | (simp; done) | (simp; omega) | (simp at *; omega))) | ((with_reducible refine Below.alloc ?_ ?_ _); rotate_left; focus (first | (with_reducible exact Nat.le_refl _) | omega | (simp; done) | (simp; omega) | (simp at *; omega))) | (with_reducible refine Below.drew ?_) | (with_reducible refine below_drewN ?_ _)))) 0⟩, hBl.trans ((belAp (show Below w0.heap.size w0 _ by (repeat (first | (with_reducible exact Below.refl _ _) | (with_reducible assumption) | ((with_reducible refine Below.setCell ?_ ?_ _); rotate_left; focus (first | (with_reducible exact Nat.le_refl _) | omega | (simp; done) | (simp; omega) | (simp at *; omega))) | ((with_reducible refine Below.alloc ?_ ?_ _); rotate_left; focus (first | (with_reducible exact Nat.le_refl _) | omega | (simp; done) | (simp; omega) | (simp at *; omega))) | (with_reducible refine Below.drew ?_) | (with_reducible refine below_drewN ?_ _))))))⟩
  · have hkl : aN < f.known.length := by rw [hok.known]; omega
    obtain ⟨g, ck, hk, hgo, hg, hnc, hcell, hfz⟩ := hS1.known.at (by simp; omega)
    simp only [List.length_map] at hk hcell
    rw [hk] at c4
    obtain ⟨kb, hkb⟩ : ∃ b, f.known.getD aN false = b := ⟨_, rfl⟩
    have hkb' : f.known[aN] = kb := by rw [← hkb, List.getD_eq_getElem?_getD, List.getElem?_eq_getElem hkl]; rfl
    have k0 : w0.cell? ⟨g, aN, none⟩ = some (.bool kb) := by
      have := hcell aN hkl 0 (.bool kb) (by simp [cBo, hkb'])
      simpa using this
    clear hcell hfz
    cases kb with
    | true =>
      have hst : step r ts f ⟨1, aN⟩ = (f, 4) := by simp only [step, ↓reduceIte, if_neg h1, Int.toNat_natCast, hkb]
      rw [hst]
      go_enter Try.func94, Try.ntmps94
      go_wp2_with fail
      clear hw0
      go_quiet (fail)
      go_wp2_with fail
      go_quiet (fail)
      go_wp2_with fail
      go_ret
      exact ⟨rfl, ⟨_, S, hS1.kept (by (repeat (first | (with_reducible exact Below.refl _ _) | (with_reducible assumption) | ((with_reducible refine Below.setCell ?_ ?_ _); rotate_left; focus (first | (with_reducible exact Nat.le_refl _) | omega | (simp; done) | (simp; omega) | (simp at *; omega))) | ((with_reducible refine Below.alloc ?_ ?_ _); rotate_left; focus (first | (with_reducible exact Nat.le_refl _) | omega | (simp; done) | (simp; omega) | (simp at *; omega))) | (with_reducible refine Below.drew ?_) | (with_reducible refine below_drewN ?_ _)))) 0⟩, hBl.trans ((belAp (show Below w0.heap.size w0 _ by (repeat (first | (with_reducible exact Below.refl _ _) | (with_reducible assumption) | ((with_reducible refine Below.setCell ?_ ?_ _); rotate_left; focus (first | (with_reducible exact Nat.le_refl _) | omega | (simp; done) | (simp; omega) | (simp at *; omega))) | ((with_reducible refine Below.alloc ?_ ?_ _); rotate_left; focus (first | (with_reducible exact Nat.le_refl _) | omega | (simp; done) | (simp; omega) | (simp at *; omega))) | (with_reducible refine Below.drew ?_) | (with_reducible refine below_drewN ?_ _))))))⟩
    | false =>
      by_cases h2 : 10 ≤ f.wire.length
      · have hst : step r ts f ⟨1, aN⟩ = (f, 3) := by simp only [step, ↓reduceIte, if_neg h1, Int.toNat_natCast, hkb, if_pos h2]; rfl
        rw [hst]
        go_enter Try.func94, Try.ntmps94
        go_wp2_with fail
        clear hw0
        go_quiet (fail)
        go_wp2_with fail
        go_quiet (fail)
        go_wp2_with fail
        go_ret
        exact ⟨rfl, ⟨_, S, hS1.kept (by (repeat (first | (with_reducible exact Below.refl _ _) | (with_reducible assumption) | ((with_reducible refine Below.setCell ?_ ?_ _); rotate_left; focus (first | (with_reducible exact Nat.le_refl _) | omega | (simp; done) | (simp; omega) | (simp at *; omega))) | ((with_reducible refine Below.alloc ?_ ?_ _); rotate_left; focus (first | (with_reducible exact Nat.le_refl _) | omega | (simp; done) | (simp; omega) | (simp at *; omega))) | (with_reducible refine Below.drew ?_) | (with_reducible refine below_drewN ?_ _)))) 0⟩, hBl.trans ((belAp (show Below w0.heap.size w0 _ by (repeat (first | (with_reducible exact Below.refl _ _) | (with_reducible assumption) | ((with_reducible refine Below.setCell ?_ ?_ _); rotate_left; focus (first | (with_reducible exact Nat.le_refl _) | omega | (simp; done) | (simp; omega) | (simp at *; omega))) | ((with_reducible refine Below.alloc ?_ ?_ _); rotate_left; focus (first | (with_reducible exact Nat.le_refl _) | omega | (simp; done) | (simp; omega) | (simp at *; omega))) | (with_reducible refine Below.drew ?_) | (with_reducible refine below_drewN ?_ _))))))⟩
      · have hst : step r ts f ⟨1, aN⟩ = ({ f with wire := f.wire ++ [⟨false, aN⟩] }, 0) := by simp only [step, ↓reduceIte, if_neg h1, Int.toNat_natCast, hkb, if_neg h2]; rfl
        rw [hst]
        have b1o := b1
        have c6o := c6
        have h3 : decide ((10 : Int) ≤ f.wire.length) = false := by simp; omega
        go_enter Try.func94, Try.ntmps94
        go_wp2_with fail
        clear hw0
        go_quiet (fail)
        go_wp2_with fail
        go_quiet (fail)
        go_wp2_with fail
        refine wp_named (B := w0.heap.size) (w := w0) (by (repeat (first | (with_reducible exact Below.refl _ _) | (with_reducible assumption) | ((with_reducible refine Below.setCell ?_ ?_ _); rotate_left; focus (first | (with_reducible exact Nat.le_refl _) | omega | (simp; done) | (simp; omega) | (simp at *; omega))) | ((with_reducible refine Below.alloc ?_ ?_ _); rotate_left; focus (first | (with_reducible exact Nat.le_refl _) | omega | (simp; done) | (simp; omega) | (simp at *; omega))) | (with_reducible refine Below.drew ?_) | (with_reducible refine below_drewN ?_ _)))) ?_
        intro w1 hb1
        have e1 := (hb1.cell (p := ⟨w.heap.size, 1, none⟩) hz).trans b1o
        have e6 := (hb1.cell (p := ⟨p, 6, none⟩) hp).trans c6o
        have z1 : w.heap.size < w1.heap.size := Nat.lt_of_lt_of_le hz hb1.size
        clear c6o b1o
        have hS2 := hS1.kept hb1 0
        have k6 := (((Below.refl w1.heap.size w1).alloc (Nat.le_refl _) (.cells #[.bool false, .int .i64 aN] 123)).cell (p := ⟨p, 6, none⟩) hS2.lt).trans e6
        have hS5 := hS2.kept ((Below.refl w1.heap.size w1).drew) 0
        obtain ⟨A, c, w5, hap, hSh, hb5, hc5, hf5⟩ := hS5.push 60 ⟨false, aN⟩ h10
        have d6 : w5.cell? ⟨p, 6, none⟩ = some S.w := hc5 6 _ rfl
        have d6f := hf5 6
        rw [ew] at hap d6
        simp only [cN] at hap
        go_region_law (refine step_app rfl (.tmp 64) (.tmp 68) 60 rfl hap (by simp [Act.eval]) (by simp [Act.eval]) ?_)
        all_goals go_wp2
        all_goals go_ret
        all_goals (refine ⟨rfl, ?_, ?_⟩)
        all_goals first | exact hSh | exact (((hBl.trans ((belAp hb1))).drew).trans hb5).setCell (p := ⟨p, 6, none⟩) hS0.pge _
end
end Go.Proofs.Ytomcffionomidaa
