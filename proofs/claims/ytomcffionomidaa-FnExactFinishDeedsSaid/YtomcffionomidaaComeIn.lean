/- A note comes in: the program's 'comeIn'. -/
import Derived.Test.YtomcffionomidaaCome
namespace Go.Proofs.Ytomcffionomidaa
open Go.RowKit

theorem wp_such {P : Program} {c : Code} {a : Act} {Q : Exit → Act → World → Prop} (R : World → Prop) {W : World} (hR : R W) (h : ∀ w1, R w1 → c.wp P Q a w1) : c.wp P Q a W := h W hR

set_option maxRecDepth 100000 in
set_option maxHeartbeats 2000000 in
theorem comeIn_back (lo : Nat → Prop) (p r nb : Nat) (AB : Option Addr) (nB cB0 : Nat) (ts : List Tsk) (f : Fl) (t : Nat) (w : World) (hS : ShopAt w lo p 106 [.int .i64 r, .slice AB nB cB0] ts f) (hok : FlOk r nb ts f) (ht : t < ts.length) :
    Calls Try.prog 102 #[.pointer (some ⟨p, 0, none⟩), .agg #[.bool true, .int .i64 t]] w (ComePost w lo p 106 [.int .i64 r, .slice AB nB cB0] ts (pour r ts f ⟨true, t⟩)) := by
  have hbox : Below w.heap.size w (w.alloc (.cells #[.bool true, .int .i64 t] 123)) := (Below.refl _ _).alloc (Nat.le_refl _) _
  obtain ⟨o, S, hS0⟩ := hS
  obtain ⟨gt, ct, gv, cv, gb, cb, gr, cr, bN, jN, n, htk, hbN, hjN, et, hgt, hct, ev, hgv, ov, kv, hfv, eb, hgb, ob, kb, ehs, hgr, orr, kr, hfr, hroom, hbl, hvl⟩ := hS0.facts hok ht
  obtain ⟨x, hx⟩ : ∃ x, (f.vats.getD bN []).getD jN 0 = x := ⟨_, rfl⟩
  have hp := hS0.lt
  have hop := hS0.hp
  have c0 : w.cell? ⟨p, 0, none⟩ = some (.int .i64 r) := hS0.cell rfl
  have c1 : w.cell? ⟨p, 2, none⟩ = some S.t := hS0.cell rfl
  have c2 : w.cell? ⟨p, 3, none⟩ = some S.v := hS0.cell rfl
  have c3 : w.cell? ⟨p, 4, none⟩ = some S.b := hS0.cell rfl
  have c5 : w.cell? ⟨p, 5, none⟩ = some S.k := hS0.cell rfl
  have c6 : w.cell? ⟨p, 7, none⟩ = some S.w := hS0.cell rfl
  have t0 : w.cell? ⟨gt, t * 3, none⟩ = some (.int .i64 bN) := hct 0 _ rfl
  have t1 : w.cell? ⟨gt, t * 3 + 1, none⟩ = some (.int .i64 jN) := hct 1 _ rfl
  have t2 : w.cell? ⟨gt, t * 3 + 2, none⟩ = some (.int .i64 n) := hct 2 _ rfl
  obtain ⟨Aw, cw, ew, -, -⟩ := hS0.wire.1.form
  simp only [List.length_map] at ew
  rw [eb] at c3
  rw [et] at c1
  rw [ev] at c2
  rw [ew] at c6
  have n1 : gb ≠ gv := fun e => by rw [e] at ob; omega
  have n2 : gr ≠ gv := fun e => by rw [e] at orr; omega
  have n3 : p ≠ gv := fun e => by rw [e] at hop; omega
  have n4 : p ≠ gr := fun e => by rw [e] at hop; omega
  have hmod := tmod_room t r
  have hr1 := hok.r1
  have b0 : (w.alloc (.cells #[.bool true, .int .i64 t] 123)).cell? ⟨w.heap.size, 0, none⟩ = some (.bool true) := by rw [World.cell?_alloc_at _ _ _ _ rfl]; rfl
  have b1 : (w.alloc (.cells #[.bool true, .int .i64 t] 123)).cell? ⟨w.heap.size, 1, none⟩ = some (.int .i64 t) := by rw [World.cell?_alloc_at _ _ _ _ rfl]; rfl
  have hz : w.heap.size < (w.alloc (.cells #[.bool true, .int .i64 t] 123)).heap.size := by simp
  generalize hw0 : w.alloc (.cells #[.bool true, .int .i64 t] 123) = w0 at b0 b1 hbox hz
  have hp1 : p < w0.heap.size := by omega
  have hgt1 : gt < w0.heap.size := by omega
  have f1 := (hbox.cell (p := ⟨p, 2, none⟩) hp).trans c1
  have f2 := (hbox.cell (p := ⟨gt, t * 3, none⟩) hgt).trans t0
  have f3 := (hbox.cell (p := ⟨gt, t * 3 + 1, none⟩) hgt).trans t1
  have f4 := (hbox.cell (p := ⟨gt, t * 3 + 2, none⟩) hgt).trans t2
  go_enter Try.func102, Try.ntmps102
  go_wp2_with fail
  clear hw0
  go_region
  go_wp2_with fail
  clear f1 f2 f3 f4
  have q0 : ((w0.alloc (.cells #[.int .i64 bN, .int .i64 jN, .int .i64 n] 74)).drew).cell? ⟨w0.heap.size, 0, none⟩ = some (.int .i64 bN) := by show (w0.alloc _).cell? _ = _; rw [World.cell?_alloc_at _ _ _ _ rfl]; rfl
  have q1 : ((w0.alloc (.cells #[.int .i64 bN, .int .i64 jN, .int .i64 n] 74)).drew).cell? ⟨w0.heap.size, 1, none⟩ = some (.int .i64 jN) := by show (w0.alloc _).cell? _ = _; rw [World.cell?_alloc_at _ _ _ _ rfl]; rfl
  have q2 : ((w0.alloc (.cells #[.int .i64 bN, .int .i64 jN, .int .i64 n] 74)).drew).cell? ⟨w0.heap.size, 2, none⟩ = some (.int .i64 n) := by show (w0.alloc _).cell? _ = _; rw [World.cell?_alloc_at _ _ _ _ rfl]; rfl
  have hb1 : Below w0.heap.size w0 ((w0.alloc (.cells #[.int .i64 bN, .int .i64 jN, .int .i64 n] 74)).drew) := ((Below.refl _ _).alloc (Nat.le_refl _) _).drew
  have hy : w0.heap.size < ((w0.alloc (.cells #[.int .i64 bN, .int .i64 jN, .int .i64 n] 74)).drew).heap.size := by show _ < (w0.alloc _).heap.size; simp
  generalize hw1 : (w0.alloc (.cells #[.int .i64 bN, .int .i64 jN, .int .i64 n] 74)).drew = w1 at q0 q1 q2 hb1 hy ⊢
  clear hw1
  have hB1 : Below w.heap.size w w1 := hbox.trans (hb1.mono (by omega))
  replace b1 := (hb1.cell (p := ⟨w.heap.size, 1, none⟩) hz).trans b1
  replace b0 := (hb1.cell (p := ⟨w.heap.size, 0, none⟩) hz).trans b0
  have hkl : t < f.known.length := by rw [hok.known]; exact ht
  have hS1 := hS0.kept hB1 0
  obtain ⟨g, c, hk, hgo, hg, hnc, hcell, hfz⟩ := hS1.known.at (by simp; omega)
  have f5 := (hB1.cell (p := ⟨p, 5, none⟩) hp).trans c5
  rw [hk] at f5
  have k0 : w1.cell? ⟨g, t, none⟩ = some (.bool f.known[t]) := by
    have := hcell t (by simpa using hkl) 0 (.bool f.known[t]) (by simp [cBo])
    simpa using this
  have kf := hfz t
  simp only [List.length_map] at f5 hk
  go_still_tail 7, (by kernel_rfl)
  go_wp2
  go_end0
  have hD := hS1.kept ((Below.refl w1.heap.size w1).drew) 0
  exact ⟨rfl, ⟨_, S, hD.setKnown hk hkl⟩, (((belAp hB1)).drew).setCell (p := ⟨g, t, none⟩) (hS1.ge (g := g) (by rw [hgo]; omega)) _⟩

set_option maxRecDepth 100000 in
set_option maxHeartbeats 2000000 in
theorem comeIn_seen (lo : Nat → Prop) (p r nb : Nat) (AB : Option Addr) (nB cB0 : Nat) (ts : List Tsk) (f : Fl) (t : Nat) (w : World) (hS : ShopAt w lo p 106 [.int .i64 r, .slice AB nB cB0] ts f) (hok : FlOk r nb ts f) (ht : t < ts.length) (hbk : bookAt f (roomOf r t) t = true) :
    Calls Try.prog 102 #[.pointer (some ⟨p, 0, none⟩), .agg #[.bool false, .int .i64 t]] w (ComePost w lo p 106 [.int .i64 r, .slice AB nB cB0] ts (pour r ts f ⟨false, t⟩)) := by
  have hbox : Below w.heap.size w (w.alloc (.cells #[.bool false, .int .i64 t] 123)) := (Below.refl _ _).alloc (Nat.le_refl _) _
  obtain ⟨o, S, hS0⟩ := hS
  obtain ⟨gt, ct, gv, cv, gb, cb, gr, cr, bN, jN, n, htk, hbN, hjN, et, hgt, hct, ev, hgv, ov, kv, hfv, eb, hgb, ob, kb, ehs, hgr, orr, kr, hfr, hroom, hbl, hvl⟩ := hS0.facts hok ht
  obtain ⟨x, hx⟩ : ∃ x, (f.vats.getD bN []).getD jN 0 = x := ⟨_, rfl⟩
  have hp := hS0.lt
  have hop := hS0.hp
  have c0 : w.cell? ⟨p, 0, none⟩ = some (.int .i64 r) := hS0.cell rfl
  have c1 : w.cell? ⟨p, 2, none⟩ = some S.t := hS0.cell rfl
  have c2 : w.cell? ⟨p, 3, none⟩ = some S.v := hS0.cell rfl
  have c3 : w.cell? ⟨p, 4, none⟩ = some S.b := hS0.cell rfl
  have c5 : w.cell? ⟨p, 5, none⟩ = some S.k := hS0.cell rfl
  have c6 : w.cell? ⟨p, 7, none⟩ = some S.w := hS0.cell rfl
  have t0 : w.cell? ⟨gt, t * 3, none⟩ = some (.int .i64 bN) := hct 0 _ rfl
  have t1 : w.cell? ⟨gt, t * 3 + 1, none⟩ = some (.int .i64 jN) := hct 1 _ rfl
  have t2 : w.cell? ⟨gt, t * 3 + 2, none⟩ = some (.int .i64 n) := hct 2 _ rfl
  obtain ⟨Aw, cw, ew, -, -⟩ := hS0.wire.1.form
  simp only [List.length_map] at ew
  rw [eb] at c3
  rw [et] at c1
  rw [ev] at c2
  rw [ew] at c6
  have n1 : gb ≠ gv := fun e => by rw [e] at ob; omega
  have n2 : gr ≠ gv := fun e => by rw [e] at orr; omega
  have n3 : p ≠ gv := fun e => by rw [e] at hop; omega
  have n4 : p ≠ gr := fun e => by rw [e] at hop; omega
  have hmod := tmod_room t r
  have hr1 := hok.r1
  have b0 : (w.alloc (.cells #[.bool false, .int .i64 t] 123)).cell? ⟨w.heap.size, 0, none⟩ = some (.bool false) := by rw [World.cell?_alloc_at _ _ _ _ rfl]; rfl
  have b1 : (w.alloc (.cells #[.bool false, .int .i64 t] 123)).cell? ⟨w.heap.size, 1, none⟩ = some (.int .i64 t) := by rw [World.cell?_alloc_at _ _ _ _ rfl]; rfl
  have hz : w.heap.size < (w.alloc (.cells #[.bool false, .int .i64 t] 123)).heap.size := by simp
  generalize hw0 : w.alloc (.cells #[.bool false, .int .i64 t] 123) = w0 at b0 b1 hbox hz
  have hp1 : p < w0.heap.size := by omega
  have hgt1 : gt < w0.heap.size := by omega
  have f1 := (hbox.cell (p := ⟨p, 2, none⟩) hp).trans c1
  have f2 := (hbox.cell (p := ⟨gt, t * 3, none⟩) hgt).trans t0
  have f3 := (hbox.cell (p := ⟨gt, t * 3 + 1, none⟩) hgt).trans t1
  have f4 := (hbox.cell (p := ⟨gt, t * 3 + 2, none⟩) hgt).trans t2
  go_enter Try.func102, Try.ntmps102
  go_wp2_with fail
  clear hw0
  go_region
  go_wp2_with fail
  clear f1 f2 f3 f4
  have q0 : ((w0.alloc (.cells #[.int .i64 bN, .int .i64 jN, .int .i64 n] 74)).drew).cell? ⟨w0.heap.size, 0, none⟩ = some (.int .i64 bN) := by show (w0.alloc _).cell? _ = _; rw [World.cell?_alloc_at _ _ _ _ rfl]; rfl
  have q1 : ((w0.alloc (.cells #[.int .i64 bN, .int .i64 jN, .int .i64 n] 74)).drew).cell? ⟨w0.heap.size, 1, none⟩ = some (.int .i64 jN) := by show (w0.alloc _).cell? _ = _; rw [World.cell?_alloc_at _ _ _ _ rfl]; rfl
  have q2 : ((w0.alloc (.cells #[.int .i64 bN, .int .i64 jN, .int .i64 n] 74)).drew).cell? ⟨w0.heap.size, 2, none⟩ = some (.int .i64 n) := by show (w0.alloc _).cell? _ = _; rw [World.cell?_alloc_at _ _ _ _ rfl]; rfl
  have hb1 : Below w0.heap.size w0 ((w0.alloc (.cells #[.int .i64 bN, .int .i64 jN, .int .i64 n] 74)).drew) := ((Below.refl _ _).alloc (Nat.le_refl _) _).drew
  have hy : w0.heap.size < ((w0.alloc (.cells #[.int .i64 bN, .int .i64 jN, .int .i64 n] 74)).drew).heap.size := by show _ < (w0.alloc _).heap.size; simp
  generalize hw1 : (w0.alloc (.cells #[.int .i64 bN, .int .i64 jN, .int .i64 n] 74)).drew = w1 at q0 q1 q2 hb1 hy ⊢
  clear hw1
  have hB1 : Below w.heap.size w w1 := hbox.trans (hb1.mono (by omega))
  replace b1 := (hb1.cell (p := ⟨w.heap.size, 1, none⟩) hz).trans b1
  replace b0 := (hb1.cell (p := ⟨w.heap.size, 0, none⟩) hz).trans b0
  have hpour : pour r ts f ⟨false, t⟩ = { f with wire := f.wire ++ [⟨true, t⟩] } := by simp [pour, hbk]
  rw [hbk] at kr
  have f0 := (hB1.cell (p := ⟨p, 0, none⟩) hp).trans c0
  have f3 := (hB1.cell (p := ⟨p, 4, none⟩) hp).trans c3
  have f4 := (hB1.cell (p := ⟨gb, roomOf r t, none⟩) hgb).trans kb
  have f5 := (hB1.cell (p := ⟨gr, t, none⟩) hgr).trans kr
  go_quiet (fail)
  go_wp2_with fail
  refine wp_named (B := w1.heap.size) (w := w1) (by (repeat (first | (with_reducible exact Below.refl _ _) | (with_reducible assumption) | ((with_reducible refine Below.setCell ?_ ?_ _); rotate_left; focus (first | (with_reducible exact Nat.le_refl _) | omega | (simp; done) | (simp; omega) | (simp at *; omega))) | ((with_reducible refine Below.alloc ?_ ?_ _); rotate_left; focus (first | (with_reducible exact Nat.le_refl _) | omega | (simp; done) | (simp; omega) | (simp at *; omega))) | (with_reducible refine Below.drew ?_) | (with_reducible refine below_drewN ?_ _)))) ?_
  intro w2 hb2
  clear f0 f3 f4 f5
  have hB2 : Below w.heap.size w w2 := hB1.trans (hb2.mono hB1.size)
  have hzz : w.heap.size < w1.heap.size := by omega
  replace b1 := (hb2.cell (p := ⟨w.heap.size, 1, none⟩) hzz).trans b1
  have hS2 := hS0.kept hB2 0
  have k6 := (hB2.cell (p := ⟨p, 7, none⟩) hp).trans c6
  have k7 := (((Below.refl w2.heap.size w2).alloc (Nat.le_refl _) (.cells #[.bool true, .int .i64 t] 123)).cell (p := ⟨p, 7, none⟩) hS2.lt).trans k6
  have hS5 := hS2.kept ((Below.refl w2.heap.size w2).drew) 0
  obtain ⟨A, c, w5, hap, hSh, hb5, hc5, hf5⟩ := hS5.push 60 ⟨true, t⟩ (by have := hok.w10; omega)
  have d6 : w5.cell? ⟨p, 7, none⟩ = some S.w := hc5 7 _ rfl
  have d6f := hf5 7
  rw [ew] at hap d6
  simp only [cN] at hap
  go_region_law (refine step_app rfl (.tmp 71) (.tmp 75) 60 rfl hap (by simp [Act.eval]) (by simp [Act.eval]) ?_)
  all_goals go_end0
  all_goals (refine ⟨rfl, ?_, ?_⟩)
  all_goals first | (rw [hpour]; exact hSh) | exact ((((belAp hB2)).drew).trans hb5).setCell (p := ⟨p, 7, none⟩) hS0.pge _

set_option maxRecDepth 100000 in
set_option maxHeartbeats 2000000 in
theorem comeIn_new (lo : Nat → Prop) (p r nb : Nat) (AB : Option Addr) (nB cB0 : Nat) (ts : List Tsk) (f : Fl) (t : Nat) (w : World) (hS : ShopAt w lo p 106 [.int .i64 r, .slice AB nB cB0] ts f) (hok : FlOk r nb ts f) (ht : t < ts.length) (hbk : bookAt f (roomOf r t) t = false) :
    Calls Try.prog 102 #[.pointer (some ⟨p, 0, none⟩), .agg #[.bool false, .int .i64 t]] w (ComePost w lo p 106 [.int .i64 r, .slice AB nB cB0] ts (pour r ts f ⟨false, t⟩)) := by
  have hbox : Below w.heap.size w (w.alloc (.cells #[.bool false, .int .i64 t] 123)) := (Below.refl _ _).alloc (Nat.le_refl _) _
  obtain ⟨o, S, hS0⟩ := hS
  obtain ⟨gt, ct, gv, cv, gb, cb, gr, cr, bN, jN, n, htk, hbN, hjN, et, hgt, hct, ev, hgv, ov, kv, hfv, eb, hgb, ob, kb, ehs, hgr, orr, kr, hfr, hroom, hbl, hvl⟩ := hS0.facts hok ht
  obtain ⟨x, hx⟩ : ∃ x, (f.vats.getD bN []).getD jN 0 = x := ⟨_, rfl⟩
  have hp := hS0.lt
  have hop := hS0.hp
  have c0 : w.cell? ⟨p, 0, none⟩ = some (.int .i64 r) := hS0.cell rfl
  have c1 : w.cell? ⟨p, 2, none⟩ = some S.t := hS0.cell rfl
  have c2 : w.cell? ⟨p, 3, none⟩ = some S.v := hS0.cell rfl
  have c3 : w.cell? ⟨p, 4, none⟩ = some S.b := hS0.cell rfl
  have c5 : w.cell? ⟨p, 5, none⟩ = some S.k := hS0.cell rfl
  have c6 : w.cell? ⟨p, 7, none⟩ = some S.w := hS0.cell rfl
  have t0 : w.cell? ⟨gt, t * 3, none⟩ = some (.int .i64 bN) := hct 0 _ rfl
  have t1 : w.cell? ⟨gt, t * 3 + 1, none⟩ = some (.int .i64 jN) := hct 1 _ rfl
  have t2 : w.cell? ⟨gt, t * 3 + 2, none⟩ = some (.int .i64 n) := hct 2 _ rfl
  obtain ⟨Aw, cw, ew, -, -⟩ := hS0.wire.1.form
  simp only [List.length_map] at ew
  rw [eb] at c3
  rw [et] at c1
  rw [ev] at c2
  rw [ew] at c6
  have n1 : gb ≠ gv := fun e => by rw [e] at ob; omega
  have n2 : gr ≠ gv := fun e => by rw [e] at orr; omega
  have n3 : p ≠ gv := fun e => by rw [e] at hop; omega
  have n4 : p ≠ gr := fun e => by rw [e] at hop; omega
  have hmod := tmod_room t r
  have hr1 := hok.r1
  have b0 : (w.alloc (.cells #[.bool false, .int .i64 t] 123)).cell? ⟨w.heap.size, 0, none⟩ = some (.bool false) := by rw [World.cell?_alloc_at _ _ _ _ rfl]; rfl
  have b1 : (w.alloc (.cells #[.bool false, .int .i64 t] 123)).cell? ⟨w.heap.size, 1, none⟩ = some (.int .i64 t) := by rw [World.cell?_alloc_at _ _ _ _ rfl]; rfl
  have hz : w.heap.size < (w.alloc (.cells #[.bool false, .int .i64 t] 123)).heap.size := by simp
  generalize hw0 : w.alloc (.cells #[.bool false, .int .i64 t] 123) = w0 at b0 b1 hbox hz
  have hp1 : p < w0.heap.size := by omega
  have hgt1 : gt < w0.heap.size := by omega
  have f1 := (hbox.cell (p := ⟨p, 2, none⟩) hp).trans c1
  have f2 := (hbox.cell (p := ⟨gt, t * 3, none⟩) hgt).trans t0
  have f3 := (hbox.cell (p := ⟨gt, t * 3 + 1, none⟩) hgt).trans t1
  have f4 := (hbox.cell (p := ⟨gt, t * 3 + 2, none⟩) hgt).trans t2
  go_enter Try.func102, Try.ntmps102
  go_wp2_with fail
  clear hw0
  go_region
  go_wp2_with fail
  clear f1 f2 f3 f4
  have q0 : ((w0.alloc (.cells #[.int .i64 bN, .int .i64 jN, .int .i64 n] 74)).drew).cell? ⟨w0.heap.size, 0, none⟩ = some (.int .i64 bN) := by show (w0.alloc _).cell? _ = _; rw [World.cell?_alloc_at _ _ _ _ rfl]; rfl
  have q1 : ((w0.alloc (.cells #[.int .i64 bN, .int .i64 jN, .int .i64 n] 74)).drew).cell? ⟨w0.heap.size, 1, none⟩ = some (.int .i64 jN) := by show (w0.alloc _).cell? _ = _; rw [World.cell?_alloc_at _ _ _ _ rfl]; rfl
  have q2 : ((w0.alloc (.cells #[.int .i64 bN, .int .i64 jN, .int .i64 n] 74)).drew).cell? ⟨w0.heap.size, 2, none⟩ = some (.int .i64 n) := by show (w0.alloc _).cell? _ = _; rw [World.cell?_alloc_at _ _ _ _ rfl]; rfl
  have hb1 : Below w0.heap.size w0 ((w0.alloc (.cells #[.int .i64 bN, .int .i64 jN, .int .i64 n] 74)).drew) := ((Below.refl _ _).alloc (Nat.le_refl _) _).drew
  have hy : w0.heap.size < ((w0.alloc (.cells #[.int .i64 bN, .int .i64 jN, .int .i64 n] 74)).drew).heap.size := by show _ < (w0.alloc _).heap.size; simp
  generalize hw1 : (w0.alloc (.cells #[.int .i64 bN, .int .i64 jN, .int .i64 n] 74)).drew = w1 at q0 q1 q2 hb1 hy ⊢
  clear hw1
  have hB1 : Below w.heap.size w w1 := hbox.trans (hb1.mono (by omega))
  replace b1 := (hb1.cell (p := ⟨w.heap.size, 1, none⟩) hz).trans b1
  replace b0 := (hb1.cell (p := ⟨w.heap.size, 0, none⟩) hz).trans b0
  have hpour := pour_new ht hbk htk
  rw [hx] at kv hpour
  rw [hbk] at kr
  have f0 := (hB1.cell (p := ⟨p, 0, none⟩) hp).trans c0
  have f3 := (hB1.cell (p := ⟨p, 4, none⟩) hp).trans c3
  have f4 := (hB1.cell (p := ⟨gb, roomOf r t, none⟩) hgb).trans kb
  have f5 := (hB1.cell (p := ⟨gr, t, none⟩) hgr).trans kr
  have f6 := (hB1.frozen (p := ⟨gr, t, none⟩) hgr).trans (hfr t)
  go_quiet (fail)
  go_wp2_with fail
  have hbN1 : Below w1.heap.size w1 (w1.drewN nq) := below_drewN (Below.refl _ _) _
  have hBN : Below w.heap.size w (w1.drewN nq) := hB1.trans (hbN1.mono hB1.size)
  have hSN := hS0.kept hBN 0
  refine wp_such (fun W => (∃ o', Shop W o' lo p 106 [.int .i64 r, .slice AB nB cB0] ts { f with books := bookSet f (roomOf r t) t } S) ∧ W.cell? ⟨w.heap.size, 1, none⟩ = some (.int .i64 t) ∧
    W.cell? ⟨w0.heap.size, 0, none⟩ = some (.int .i64 bN) ∧ W.cell? ⟨w0.heap.size, 1, none⟩ = some (.int .i64 jN) ∧ W.cell? ⟨w0.heap.size, 2, none⟩ = some (.int .i64 n) ∧
    W.cell? ⟨p, 3, none⟩ = some (.slice (some ⟨gv, 0, none⟩) nb cv) ∧ W.cell? ⟨gv, bN * 8 + jN, none⟩ = some (.int .i64 x) ∧ W.frozen? ⟨gv, bN * 8 + jN, none⟩ = false ∧ W.cell? ⟨p, 7, none⟩ = some (.slice Aw f.wire.length cw) ∧ Apart lo w W ∧ w.heap.size < W.heap.size)
    ⟨⟨_, hSN.setBook (room := roomOf r t) (t := t) (by rw [hok.books]; exact hroom) ehs (by rw [hbl]; exact ht)⟩, (cell_other (by omega)).trans b1, (cell_other (by omega)).trans q0, (cell_other (by omega)).trans q1, (cell_other (by omega)).trans q2,
      (cell_other n4).trans ((hBN.cell (p := ⟨p, 3, none⟩) hp).trans c2), (cell_other (Ne.symm n2)).trans ((hBN.cell (p := ⟨gv, bN * 8 + jN, none⟩) hgv).trans kv), (frozen_other (Ne.symm n2)).trans ((hBN.frozen (p := ⟨gv, bN * 8 + jN, none⟩) hgv).trans (hfv _)),
      (cell_other n4).trans ((hBN.cell (p := ⟨p, 7, none⟩) hp).trans c6), ((belAp hBN)).setCell (p := ⟨gr, t, none⟩) (hS0.ge (g := gr) (by rw [orr]; omega)) _, by simp; have := hbN1.size; omega⟩ ?_
  rintro w2 ⟨⟨o2, hS2⟩, e1, e2, e3, e4, e5, e6, e7, e8, hB2, z2⟩
  clear f0 f3 f4 f5 f6 b0 b1 q0 q1 q2
  have hj2 : ¬ 8 ≤ jN := by omega
  have hj1 : (jN : Int) < 8 := by omega
  have hov : o2 gv = 3 := by
    have := hS2.vats.2 gv (by rw [ev]; rfl)
    exact this
  go_still_tail 16, (by kernel_rfl)
  go_wp2_with fail
  have hS3 := (hS2.setVat (b := bN) (j := jN) ev (by rw [hok.vats]; exact hbN) hjN (wrap64 (x + n))).kept ((Below.refl _ _).drew) 0
  have g1 : ((w2.setCell ⟨gv, bN * 8 + jN, none⟩ (.int .i64 (wrap64 (x + n)))).drew).cell? ⟨w.heap.size, 1, none⟩ = some (.int .i64 t) := (cell_other (by omega)).trans e1
  have g6 : ((w2.setCell ⟨gv, bN * 8 + jN, none⟩ (.int .i64 (wrap64 (x + n)))).drew).cell? ⟨p, 7, none⟩ = some (.slice Aw f.wire.length cw) := (cell_other n3).trans e8
  have hB3 : Apart lo w ((w2.setCell ⟨gv, bN * 8 + jN, none⟩ (.int .i64 (wrap64 (x + n)))).drew) := (hB2.setCell (p := ⟨gv, bN * 8 + jN, none⟩) (hS0.ge (g := gv) (by rw [ov]; omega)) _).drew
  have z3 : w.heap.size < ((w2.setCell ⟨gv, bN * 8 + jN, none⟩ (.int .i64 (wrap64 (x + n)))).drew).heap.size := by show _ < (w2.setCell _ _).heap.size; simpa using z2
  generalize hw3 : (w2.setCell ⟨gv, bN * 8 + jN, none⟩ (.int .i64 (wrap64 (x + n)))).drew = w4 at hS3 g1 g6 hB3 z3 ⊢
  clear hw3 hS2 e1 e2 e3 e4 e5 e6 e7 e8
  have k7 := (((Below.refl w4.heap.size w4).alloc (Nat.le_refl _) (.cells #[.bool true, .int .i64 t] 123)).cell (p := ⟨p, 7, none⟩) hS3.lt).trans g6
  have hS5 := hS3.kept ((Below.refl w4.heap.size w4).drew) 0
  obtain ⟨A, c, w5, hap, hSh, hb5, hc5, hf5⟩ := hS5.push 60 ⟨true, t⟩ (by have := hok.w10; simpa using this)
  have d6 : w5.cell? ⟨p, 7, none⟩ = some S.w := hc5 7 _ rfl
  have d6f := hf5 7
  rw [ew] at hap d6
  simp only [cN] at hap
  go_region_law (refine step_app rfl (.tmp 71) (.tmp 75) 60 rfl hap (by simp [Act.eval]) (by simp [Act.eval]) ?_)
  all_goals go_end0
  all_goals (refine ⟨rfl, ?_, ?_⟩)
  all_goals first | (rw [hpour]; exact hSh) | exact ((hB3.drew).trans hb5).setCell (p := ⟨p, 7, none⟩) hS0.pge _

end Go.Proofs.Ytomcffionomidaa
