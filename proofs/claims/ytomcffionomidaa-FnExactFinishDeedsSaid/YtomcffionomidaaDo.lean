/- A deed: the program's 'do'. -/
import Derived.Test.YtomcffionomidaaShop2
import Derived.Deep.RegionHeld3
namespace Go.Proofs.Ytomcffionomidaa
open Go.RowKit

def DoPost (w : World) (lo : Nat → Prop) (p : Nat) (pty : TypeId) (hd : List Value) (ts : List Tsk) (s : Fl × Int) (e : Ending) (w' : World) : Prop :=
  e = .returned (.int .i64 s.2) ∧ ShopAt w' lo p pty hd ts s.1 ∧ Apart lo w w'

section
variable (lo : Nat → Prop) (p r nb : Nat) (AB : Option Addr) (nB cB0 : Nat) (ts : List Tsk) (f : Fl) (a : Int) (w : World) (hS : ShopAt w lo p 106 [.int .i64 r, .slice AB nB cB0] ts f) (hok : FlOk r nb ts f)
include hS hok

set_option maxRecDepth 100000 in
set_option maxHeartbeats 1000000 in
theorem do_save : Calls Try.prog 56 #[.pointer (some ⟨p, 0, none⟩), .agg #[.int .i64 5, .int .i64 a]] w (DoPost w lo p 106 [.int .i64 r, .slice AB nB cB0] ts (step r ts f ⟨5, a⟩)) := by
  have hbox : Below w.heap.size w (w.alloc (.cells #[.int .i64 5, .int .i64 a] 91)) := (Below.refl _ _).alloc (Nat.le_refl _) _
  obtain ⟨o, S, hS0⟩ := hS
  have hS1 := hS0.kept hbox 0
  have b0 : (w.alloc (.cells #[.int .i64 5, .int .i64 a] 91)).cell? ⟨w.heap.size, 0, none⟩ = some (.int .i64 5) := by rw [World.cell?_alloc_at _ _ _ _ rfl]; rfl
  have b1 : (w.alloc (.cells #[.int .i64 5, .int .i64 a] 91)).cell? ⟨w.heap.size, 1, none⟩ = some (.int .i64 a) := by rw [World.cell?_alloc_at _ _ _ _ rfl]; rfl
  generalize hw0 : w.alloc (.cells #[.int .i64 5, .int .i64 a] 91) = w0 at b0 b1 hbox hS1
  have hp := hS1.lt
  have c5 : w0.cell? ⟨p, 5, none⟩ = some S.k := hS1.cell rfl
  have c6 : w0.cell? ⟨p, 6, none⟩ = some S.s := hS1.cell rfl
  have k6 := hS1.froz 6
  have hlen : f.known.length ≤ 48 := by rw [hok.known]; exact hok.n48
  obtain ⟨Ak, ck, ek, -, -⟩ := hS1.known.1.form
  simp only [List.length_map] at ek
  rw [ek] at c5
  go_enter Try.func56, Try.ntmps56
  go_wp2_with fail
  clear hw0
  refine (clone_any w0 (by rw [← ek]; exact hS1.known.1) hlen).mono ?_
  rintro e w1 ⟨A, c, rfl, hrow, hb1⟩
  have d6 := (hb1.cell (p := ⟨p, 6, none⟩) hp).trans c6
  have d6f := (hb1.frozen (p := ⟨p, 6, none⟩) hp).trans k6
  go_wp2_with fail
  go_ret
  have hst : step r ts f ⟨5, a⟩ = ({ f with saved := f.known }, 0) := by simp [step]
  rw [hst]
  exact ⟨rfl, hS1.putSaved hb1 hrow, ((belAp (hbox.trans (hb1.mono (by have := hbox.size; omega))))).setCell (p := ⟨p, 6, none⟩) hS0.pge _⟩
set_option maxRecDepth 100000 in
set_option maxHeartbeats 1000000 in
theorem do_crash : Calls Try.prog 56 #[.pointer (some ⟨p, 0, none⟩), .agg #[.int .i64 6, .int .i64 a]] w (DoPost w lo p 106 [.int .i64 r, .slice AB nB cB0] ts (step r ts f ⟨6, a⟩)) := by
  have hbox : Below w.heap.size w (w.alloc (.cells #[.int .i64 6, .int .i64 a] 91)) := (Below.refl _ _).alloc (Nat.le_refl _) _
  obtain ⟨o, S, hS0⟩ := hS
  have hS1 := hS0.kept hbox 0
  have b0 : (w.alloc (.cells #[.int .i64 6, .int .i64 a] 91)).cell? ⟨w.heap.size, 0, none⟩ = some (.int .i64 6) := by rw [World.cell?_alloc_at _ _ _ _ rfl]; rfl
  have b1 : (w.alloc (.cells #[.int .i64 6, .int .i64 a] 91)).cell? ⟨w.heap.size, 1, none⟩ = some (.int .i64 a) := by rw [World.cell?_alloc_at _ _ _ _ rfl]; rfl
  generalize hw0 : w.alloc (.cells #[.int .i64 6, .int .i64 a] 91) = w0 at b0 b1 hbox hS1
  have hp := hS1.lt
  have c5 : w0.cell? ⟨p, 6, none⟩ = some S.s := hS1.cell rfl
  have c6 : w0.cell? ⟨p, 5, none⟩ = some S.k := hS1.cell rfl
  have k6 := hS1.froz 5
  have hlen : f.saved.length ≤ 48 := by rw [hok.saved]; exact hok.n48
  obtain ⟨Ak, ck, ek, -, -⟩ := hS1.saved.1.form
  simp only [List.length_map] at ek
  rw [ek] at c5
  go_enter Try.func56, Try.ntmps56
  go_wp2_with fail
  clear hw0
  refine (clone_any w0 (by rw [← ek]; exact hS1.saved.1) hlen).mono ?_
  rintro e w1 ⟨A, c, rfl, hrow, hb1⟩
  have d6 := (hb1.cell (p := ⟨p, 5, none⟩) hp).trans c6
  have d6f := (hb1.frozen (p := ⟨p, 5, none⟩) hp).trans k6
  go_wp2_with fail
  go_ret
  have hst : step r ts f ⟨6, a⟩ = ({ f with known := f.saved }, 0) := by simp [step]
  rw [hst]
  exact ⟨rfl, hS1.putKnown hb1 hrow, ((belAp (hbox.trans (hb1.mono (by have := hbox.size; omega))))).setCell (p := ⟨p, 5, none⟩) hS0.pge _⟩
set_option maxRecDepth 100000 in
set_option maxHeartbeats 2000000 in
theorem do_ask (aN : Nat) : Calls Try.prog 56 #[.pointer (some ⟨p, 0, none⟩), .agg #[.int .i64 1, .int .i64 aN]] w (DoPost w lo p 106 [.int .i64 r, .slice AB nB cB0] ts (step r ts f ⟨1, aN⟩)) := by
  have hbox : Below w.heap.size w (w.alloc (.cells #[.int .i64 1, .int .i64 aN] 91)) := (Below.refl _ _).alloc (Nat.le_refl _) _
  obtain ⟨o, S, hS0⟩ := hS
  have hS1 := hS0.kept hbox 0
  have b0 : (w.alloc (.cells #[.int .i64 1, .int .i64 aN] 91)).cell? ⟨w.heap.size, 0, none⟩ = some (.int .i64 1) := by rw [World.cell?_alloc_at _ _ _ _ rfl]; rfl
  have b1 : (w.alloc (.cells #[.int .i64 1, .int .i64 aN] 91)).cell? ⟨w.heap.size, 1, none⟩ = some (.int .i64 aN) := by rw [World.cell?_alloc_at _ _ _ _ rfl]; rfl
  have hz : w.heap.size < (w.alloc (.cells #[.int .i64 1, .int .i64 aN] 91)).heap.size := by simp
  generalize hw0 : w.alloc (.cells #[.int .i64 1, .int .i64 aN] 91) = w0 at b0 b1 hbox hS1 hz
  have hp := hS1.lt
  have c2 : w0.cell? ⟨p, 2, none⟩ = some S.t := hS1.cell rfl
  have c5 : w0.cell? ⟨p, 5, none⟩ = some S.k := hS1.cell rfl
  have c7 : w0.cell? ⟨p, 7, none⟩ = some S.w := hS1.cell rfl
  have hlen : f.known.length ≤ 48 := by rw [hok.known]; exact hok.n48
  have h48 := hok.n48
  have h10 := hok.w10
  obtain ⟨At, ct, et, -, -⟩ := hS1.tasks.1.form
  simp only [List.length_map] at et
  rw [et] at c2
  obtain ⟨Aw, cw, ew, -, -⟩ := hS1.wire.1.form
  simp only [List.length_map] at ew
  rw [ew] at c7
  have hBl : Apart lo w w0 := belAp hbox
  have l1 := later_one (P := Try.prog) 2 Try.underlying2 rfl b1
  have l2 := later_one (P := Try.prog) 26 Try.underlying26 rfl c2
  by_cases h1 : (ts.length : Int) ≤ aN
  · have hst : step r ts f ⟨1, aN⟩ = (f, 2) := by simp [step]; omega
    rw [hst]
    go_enter Try.func56, Try.ntmps56
    go_wp2_with fail
    clear hw0
    refine wp_region_below (by kernel_rfl) (by kernel_rfl) ?_
    repeat (first | go_big_quiet_skip | (go_big_quiet_want; first | (refine quiet_load_run 2 _ rfl _ l1 ?_; go_simp; go_big_quiet_on) | (refine quiet_load_run 26 _ rfl _ l2 ?_; go_simp; go_big_quiet_on) | (go_big_quiet_op; first | go_big_quiet_on | (apply Exists.intro; refine ⟨fun W hW => ?_, ?_⟩; (focus (go_at_call 98; refine (lengthTask_any _ _ _ _).mono ?_; rintro e w1 ⟨rfl, rfl⟩; exact ⟨rfl, hW⟩)); go_big_quiet_on) | (apply Exists.intro; refine ⟨fun _ _ => ?_, ?_⟩; (focus (with_reducible rfl)); go_big_quiet_on))))
    refine wpQuiet_nil ?_
    intro W2 hW2

    go_wp2_with fail
    go_ret
    exact ⟨rfl, ⟨_, S, hS1.kept (by (repeat (first | (with_reducible exact Below.refl _ _) | (with_reducible assumption) | ((with_reducible refine Below.setCell ?_ ?_ _); rotate_left; focus (first | (with_reducible exact Nat.le_refl _) | omega | (simp; done) | (simp; omega) | (simp at *; omega))) | ((with_reducible refine Below.alloc ?_ ?_ _); rotate_left; focus (first | (with_reducible exact Nat.le_refl _) | omega | (simp; done) | (simp; omega) | (simp at *; omega))) | (with_reducible refine Below.drew ?_) | (with_reducible refine below_drewN ?_ _) | ((with_reducible refine Below.trans ?_ (Below.mono hW2 ?_)); rotate_left; focus (first | (with_reducible exact Nat.le_refl _) | omega | (simp; done) | (simp; omega) | (simp at *; omega)))))) 0⟩, hBl.trans ((belAp (show Below w0.heap.size w0 _ by (repeat (first | (with_reducible exact Below.refl _ _) | (with_reducible assumption) | ((with_reducible refine Below.setCell ?_ ?_ _); rotate_left; focus (first | (with_reducible exact Nat.le_refl _) | omega | (simp; done) | (simp; omega) | (simp at *; omega))) | ((with_reducible refine Below.alloc ?_ ?_ _); rotate_left; focus (first | (with_reducible exact Nat.le_refl _) | omega | (simp; done) | (simp; omega) | (simp at *; omega))) | (with_reducible refine Below.drew ?_) | (with_reducible refine below_drewN ?_ _) | ((with_reducible refine Below.trans ?_ (Below.mono hW2 ?_)); rotate_left; focus (first | (with_reducible exact Nat.le_refl _) | omega | (simp; done) | (simp; omega) | (simp at *; omega))))))))⟩
  · have hkl : aN < f.known.length := by rw [hok.known]; omega
    obtain ⟨g, ck, hk, hgo, hg, hnc, hcell, hfz⟩ := hS1.known.at (by simp; omega)
    simp only [List.length_map] at hk hcell
    rw [hk] at c5
    obtain ⟨kb, hkb⟩ : ∃ b, f.known.getD aN false = b := ⟨_, rfl⟩
    have hkb' : f.known[aN] = kb := by rw [← hkb, List.getD_eq_getElem?_getD, List.getElem?_eq_getElem hkl]; rfl
    have k0 : w0.cell? ⟨g, aN, none⟩ = some (.bool kb) := by
      have := hcell aN hkl 0 (.bool kb) (by simp [cBo, hkb'])
      simpa using this
    clear hcell hfz
    cases kb with
    | true =>
      have hst : step r ts f ⟨1, aN⟩ = (f, 4) := by simp only [step, ↓reduceIte, if_neg h1, Int.toNat_natCast, hkb]
      rw [hst]
      go_enter Try.func56, Try.ntmps56
      go_wp2_with fail
      clear hw0
      refine wp_region_below (by kernel_rfl) (by kernel_rfl) ?_
      repeat (first | go_big_quiet_skip | (go_big_quiet_want; first | (refine quiet_load_run 2 _ rfl _ l1 ?_; go_simp; go_big_quiet_on) | (refine quiet_load_run 26 _ rfl _ l2 ?_; go_simp; go_big_quiet_on) | (go_big_quiet_op; first | go_big_quiet_on | (apply Exists.intro; refine ⟨fun W hW => ?_, ?_⟩; (focus (go_at_call 98; refine (lengthTask_any _ _ _ _).mono ?_; rintro e w1 ⟨rfl, rfl⟩; exact ⟨rfl, hW⟩)); go_big_quiet_on) | (apply Exists.intro; refine ⟨fun _ _ => ?_, ?_⟩; (focus (with_reducible rfl)); go_big_quiet_on))))
      refine wpQuiet_nil ?_
      intro W2 hW2
      have b1 := (hW2.cell (p := ⟨w.heap.size, 1, none⟩) hz).trans b1
      have c5 := (hW2.cell (p := ⟨p, 5, none⟩) hp).trans c5
      have k0 := (hW2.cell (p := ⟨g, aN, none⟩) hg).trans k0
      have c7 := (hW2.cell (p := ⟨p, 7, none⟩) hp).trans c7
      go_wp2_with fail
      go_quiet (fail)
      go_wp2_with fail
      go_ret
      exact ⟨rfl, ⟨_, S, hS1.kept (by (repeat (first | (with_reducible exact Below.refl _ _) | (with_reducible assumption) | ((with_reducible refine Below.setCell ?_ ?_ _); rotate_left; focus (first | (with_reducible exact Nat.le_refl _) | omega | (simp; done) | (simp; omega) | (simp at *; omega))) | ((with_reducible refine Below.alloc ?_ ?_ _); rotate_left; focus (first | (with_reducible exact Nat.le_refl _) | omega | (simp; done) | (simp; omega) | (simp at *; omega))) | (with_reducible refine Below.drew ?_) | (with_reducible refine below_drewN ?_ _) | ((with_reducible refine Below.trans ?_ (Below.mono hW2 ?_)); rotate_left; focus (first | (with_reducible exact Nat.le_refl _) | omega | (simp; done) | (simp; omega) | (simp at *; omega)))))) 0⟩, hBl.trans ((belAp (show Below w0.heap.size w0 _ by (repeat (first | (with_reducible exact Below.refl _ _) | (with_reducible assumption) | ((with_reducible refine Below.setCell ?_ ?_ _); rotate_left; focus (first | (with_reducible exact Nat.le_refl _) | omega | (simp; done) | (simp; omega) | (simp at *; omega))) | ((with_reducible refine Below.alloc ?_ ?_ _); rotate_left; focus (first | (with_reducible exact Nat.le_refl _) | omega | (simp; done) | (simp; omega) | (simp at *; omega))) | (with_reducible refine Below.drew ?_) | (with_reducible refine below_drewN ?_ _) | ((with_reducible refine Below.trans ?_ (Below.mono hW2 ?_)); rotate_left; focus (first | (with_reducible exact Nat.le_refl _) | omega | (simp; done) | (simp; omega) | (simp at *; omega))))))))⟩
    | false =>
      by_cases h2 : f.wire.length = 10
      · have hst : step r ts f ⟨1, aN⟩ = (f, 3) := by simp only [step, ↓reduceIte, if_neg h1, Int.toNat_natCast, hkb, h2]; rfl
        rw [hst]
        rw [h2] at c7
        go_enter Try.func56, Try.ntmps56
        go_wp2_with fail
        clear hw0
        refine wp_region_below (by kernel_rfl) (by kernel_rfl) ?_
        repeat (first | go_big_quiet_skip | (go_big_quiet_want; first | (refine quiet_load_run 2 _ rfl _ l1 ?_; go_simp; go_big_quiet_on) | (refine quiet_load_run 26 _ rfl _ l2 ?_; go_simp; go_big_quiet_on) | (go_big_quiet_op; first | go_big_quiet_on | (apply Exists.intro; refine ⟨fun W hW => ?_, ?_⟩; (focus (go_at_call 98; refine (lengthTask_any _ _ _ _).mono ?_; rintro e w1 ⟨rfl, rfl⟩; exact ⟨rfl, hW⟩)); go_big_quiet_on) | (apply Exists.intro; refine ⟨fun _ _ => ?_, ?_⟩; (focus (with_reducible rfl)); go_big_quiet_on))))
        refine wpQuiet_nil ?_
        intro W2 hW2
        have b1 := (hW2.cell (p := ⟨w.heap.size, 1, none⟩) hz).trans b1
        have c5 := (hW2.cell (p := ⟨p, 5, none⟩) hp).trans c5
        have k0 := (hW2.cell (p := ⟨g, aN, none⟩) hg).trans k0
        have c7 := (hW2.cell (p := ⟨p, 7, none⟩) hp).trans c7
        go_wp2_with fail
        go_quiet (fail)
        go_wp2_with fail
        go_ret
        exact ⟨rfl, ⟨_, S, hS1.kept (by (repeat (first | (with_reducible exact Below.refl _ _) | (with_reducible assumption) | ((with_reducible refine Below.setCell ?_ ?_ _); rotate_left; focus (first | (with_reducible exact Nat.le_refl _) | omega | (simp; done) | (simp; omega) | (simp at *; omega))) | ((with_reducible refine Below.alloc ?_ ?_ _); rotate_left; focus (first | (with_reducible exact Nat.le_refl _) | omega | (simp; done) | (simp; omega) | (simp at *; omega))) | (with_reducible refine Below.drew ?_) | (with_reducible refine below_drewN ?_ _) | ((with_reducible refine Below.trans ?_ (Below.mono hW2 ?_)); rotate_left; focus (first | (with_reducible exact Nat.le_refl _) | omega | (simp; done) | (simp; omega) | (simp at *; omega)))))) 0⟩, hBl.trans ((belAp (show Below w0.heap.size w0 _ by (repeat (first | (with_reducible exact Below.refl _ _) | (with_reducible assumption) | ((with_reducible refine Below.setCell ?_ ?_ _); rotate_left; focus (first | (with_reducible exact Nat.le_refl _) | omega | (simp; done) | (simp; omega) | (simp at *; omega))) | ((with_reducible refine Below.alloc ?_ ?_ _); rotate_left; focus (first | (with_reducible exact Nat.le_refl _) | omega | (simp; done) | (simp; omega) | (simp at *; omega))) | (with_reducible refine Below.drew ?_) | (with_reducible refine below_drewN ?_ _) | ((with_reducible refine Below.trans ?_ (Below.mono hW2 ?_)); rotate_left; focus (first | (with_reducible exact Nat.le_refl _) | omega | (simp; done) | (simp; omega) | (simp at *; omega))))))))⟩
      · have hst : step r ts f ⟨1, aN⟩ = ({ f with wire := f.wire ++ [⟨false, aN⟩] }, 0) := by simp only [step, ↓reduceIte, if_neg h1, Int.toNat_natCast, hkb, if_neg (show ¬ 10 ≤ f.wire.length by omega)]; rfl
        rw [hst]
        have b1o := b1
        have c7o := c7
        have h3 : ((f.wire.length : Int) == 10) = false := by simp; omega
        go_enter Try.func56, Try.ntmps56
        go_wp2_with fail
        clear hw0
        refine wp_region_below (by kernel_rfl) (by kernel_rfl) ?_
        repeat (first | go_big_quiet_skip | (go_big_quiet_want; first | (refine quiet_load_run 2 _ rfl _ l1 ?_; go_simp; go_big_quiet_on) | (refine quiet_load_run 26 _ rfl _ l2 ?_; go_simp; go_big_quiet_on) | (go_big_quiet_op; first | go_big_quiet_on | (apply Exists.intro; refine ⟨fun W hW => ?_, ?_⟩; (focus (go_at_call 98; refine (lengthTask_any _ _ _ _).mono ?_; rintro e w1 ⟨rfl, rfl⟩; exact ⟨rfl, hW⟩)); go_big_quiet_on) | (apply Exists.intro; refine ⟨fun _ _ => ?_, ?_⟩; (focus (with_reducible rfl)); go_big_quiet_on))))
        refine wpQuiet_nil ?_
        intro W2 hW2
        have b1 := (hW2.cell (p := ⟨w.heap.size, 1, none⟩) hz).trans b1
        have c5 := (hW2.cell (p := ⟨p, 5, none⟩) hp).trans c5
        have k0 := (hW2.cell (p := ⟨g, aN, none⟩) hg).trans k0
        have c7 := (hW2.cell (p := ⟨p, 7, none⟩) hp).trans c7
        go_wp2_with fail
        go_quiet (fail)
        go_wp2_with fail
        refine wp_named (B := w0.heap.size) (w := w0) (by (repeat (first | (with_reducible exact Below.refl _ _) | (with_reducible assumption) | ((with_reducible refine Below.setCell ?_ ?_ _); rotate_left; focus (first | (with_reducible exact Nat.le_refl _) | omega | (simp; done) | (simp; omega) | (simp at *; omega))) | ((with_reducible refine Below.alloc ?_ ?_ _); rotate_left; focus (first | (with_reducible exact Nat.le_refl _) | omega | (simp; done) | (simp; omega) | (simp at *; omega))) | (with_reducible refine Below.drew ?_) | (with_reducible refine below_drewN ?_ _) | ((with_reducible refine Below.trans ?_ (Below.mono hW2 ?_)); rotate_left; focus (first | (with_reducible exact Nat.le_refl _) | omega | (simp; done) | (simp; omega) | (simp at *; omega)))))) ?_
        intro w1 hb1
        have e1 := (hb1.cell (p := ⟨w.heap.size, 1, none⟩) hz).trans b1o
        have e7 := (hb1.cell (p := ⟨p, 7, none⟩) hp).trans c7o
        have z1 : w.heap.size < w1.heap.size := Nat.lt_of_lt_of_le hz hb1.size
        clear c7o b1o
        have hS2 := hS1.kept hb1 0
        have k7 := (((Below.refl w1.heap.size w1).alloc (Nat.le_refl _) (.cells #[.bool false, .int .i64 aN] 123)).cell (p := ⟨p, 7, none⟩) hS2.lt).trans e7
        have hS5 := hS2.kept ((Below.refl w1.heap.size w1).drew) 0
        obtain ⟨A, c, w5, hap, hSh, hb5, hc5, hf5⟩ := hS5.push 60 ⟨false, aN⟩ h10
        have d6 : w5.cell? ⟨p, 7, none⟩ = some S.w := hc5 7 _ rfl
        have d6f := hf5 7
        rw [ew] at hap d6
        simp only [cN] at hap
        go_region_law (refine step_app rfl (.tmp 43) (.tmp 47) 60 rfl hap (by simp [Act.eval]) (by simp [Act.eval]) ?_)
        all_goals go_wp2
        all_goals go_ret
        all_goals (refine ⟨rfl, ?_, ?_⟩)
        all_goals first | exact hSh | exact (((hBl.trans ((belAp hb1))).drew).trans hb5).setCell (p := ⟨p, 7, none⟩) hS0.pge _

end
end Go.Proofs.Ytomcffionomidaa
