/- A note comes in: the reference's 'come'. -/
import Derived.Test.YtomcffionomidaaShop
import Derived.StillTailTactics
import Derived.Deep.RegionLaw
import Derived.Test.YtomcffionomidaaOk4
namespace Go.Proofs.Ytomcffionomidaa
open Go.RowKit

theorem ShopAt.kept {w w' : World} {lo : Nat → Prop} {p : Nat} {pty : TypeId} {hd : List Value} {ts : List Tsk} {f : Fl} (h : ShopAt w lo p pty hd ts f) (hb : Below w.heap.size w w') : ShopAt w' lo p pty hd ts f := by
  obtain ⟨o, S, h⟩ := h
  exact ⟨_, S, h.kept hb 0⟩

/-- What the walk of a note asks of the world. -/
def ComePost (w : World) (lo : Nat → Prop) (p : Nat) (pty : TypeId) (hd : List Value) (ts : List Tsk) (f : Fl) (e : Ending) (w' : World) : Prop :=
  e = .returned (.tuple #[]) ∧ ShopAt w' lo p pty hd ts f ∧ Apart lo w w'

set_option maxRecDepth 100000 in
theorem come_back (lo : Nat → Prop) (p wp r nb : Nat) (ts : List Tsk) (f : Fl) (t : Nat) (w : World) (hS : ShopAt w lo p 101 [.pointer (some ⟨wp, 0, none⟩)] ts f) (hok : FlOk r nb ts f) (ht : t < ts.length) :
    Calls Try.prog 128 #[.pointer (some ⟨p, 0, none⟩), .agg #[.bool true, .int .i64 t]] w (ComePost w lo p 101 [.pointer (some ⟨wp, 0, none⟩)] ts (pour r ts f ⟨true, t⟩)) := by
  have hbox : Below w.heap.size w (w.alloc (.cells #[.bool true, .int .i64 t] 123)) := (Below.refl _ _).alloc (Nat.le_refl _) _
  obtain ⟨o, S, hS0⟩ := hS
  have hS := hS0.kept hbox 0
  have b0 : (w.alloc (.cells #[.bool true, .int .i64 t] 123)).cell? ⟨w.heap.size, 0, none⟩ = some (.bool true) := by rw [World.cell?_alloc_at _ _ _ _ rfl]; rfl
  have b1 : (w.alloc (.cells #[.bool true, .int .i64 t] 123)).cell? ⟨w.heap.size, 1, none⟩ = some (.int .i64 t) := by rw [World.cell?_alloc_at _ _ _ _ rfl]; rfl
  have hlo := hS.lo
  generalize hw0 : w.alloc (.cells #[.bool true, .int .i64 t] 123) = w0 at *
  have hkl : t < f.known.length := by rw [hok.known]; exact ht
  obtain ⟨g, c, hk, hgo, hg, hnc, hcell, hfz⟩ := hS.known.at (by simp; omega)
  have c4 : w0.cell? ⟨p, 4, none⟩ = some S.k := hS.cell rfl
  rw [hk] at c4
  have k0 : w0.cell? ⟨g, t, none⟩ = some (.bool f.known[t]) := by
    have := hcell t (by simpa using hkl) 0 (.bool f.known[t]) (by simp [cBo])
    simpa using this
  have kf := hfz t
  simp only [List.length_map] at c4 hk
  go_enter Try.func128, Try.ntmps128
  go_wp2_with fail
  go_still_tail 8, (by kernel_rfl)
  go_wp2
  go_end0
  have hD := hS.kept ((Below.refl w0.heap.size w0).drew) 0
  refine ⟨rfl, ⟨_, S, hD.setKnown hk hkl⟩, ?_⟩
  exact (((belAp hbox)).drew).setCell (p := ⟨g, t, none⟩) (hS.ge (g := g) (by rw [hgo]; omega)) _

theorem tmod_room (t r : Nat) : ((t : Int).tmod (r : Int)) = ((roomOf r t : Nat) : Int) := by
  rw [Int.tmod_eq_emod_of_nonneg (by omega), roomOf]; rfl

/-- What a walk asks of a task's cells. -/
theorem Shop.facts {w : World} {o : Nat → Nat} {lo : Nat → Prop} {p r nb t : Nat} {pty : TypeId} {hd : List Value} {ts : List Tsk} {f : Fl} {S : Slots} (h : Shop w o lo p pty hd ts f S) (hok : FlOk r nb ts f) (ht : t < ts.length) :
    ∃ gt ct gv cv gb cb gr cr : Nat, ∃ bN jN : Nat, ∃ n : Int, ts[t] = ⟨bN, jN, n⟩ ∧ bN < nb ∧ jN < 8 ∧
      S.t = .slice (some ⟨gt, 0, none⟩) ts.length ct ∧ gt < w.heap.size ∧ w.rangeAt gt (t * 3) [.int .i64 bN, .int .i64 jN, .int .i64 n] ∧
      S.v = .slice (some ⟨gv, 0, none⟩) nb cv ∧ gv < w.heap.size ∧ o gv = 3 ∧ w.cell? ⟨gv, bN * 8 + jN, none⟩ = some (.int .i64 ((f.vats.getD bN []).getD jN 0)) ∧ (∀ k, w.frozen? ⟨gv, k, none⟩ = false) ∧
      S.b = .slice (some ⟨gb, 0, none⟩) r cb ∧ gb < w.heap.size ∧ o gb = 4 ∧ w.cell? ⟨gb, roomOf r t, none⟩ = some (.slice (some ⟨gr, 0, none⟩) ts.length cr) ∧ S.hs[roomOf r t]? = some (.slice (some ⟨gr, 0, none⟩) ts.length cr) ∧
      gr < w.heap.size ∧ o gr = 10 + roomOf r t ∧ w.cell? ⟨gr, t, none⟩ = some (.bool (bookAt f (roomOf r t) t)) ∧ (∀ k, w.frozen? ⟨gr, k, none⟩ = false) ∧ roomOf r t < r ∧ (f.books.getD (roomOf r t) []).length = ts.length ∧ (f.vats.getD bN []).length = 8 := by
  obtain ⟨t1, t2, t3, t4⟩ := hok.tk _ (List.getElem_mem ht)
  obtain ⟨bN, hb⟩ := Int.eq_ofNat_of_zero_le t1
  obtain ⟨jN, hj⟩ := Int.eq_ofNat_of_zero_le t3
  have hbl : bN < f.vats.length := by rw [hok.vats]; omega
  have hvl : (f.vats[bN]).length = 8 := hok.vat _ (List.getElem_mem hbl)
  have hvg : f.vats.getD bN [] = f.vats[bN] := by rw [List.getD_eq_getElem?_getD, List.getElem?_eq_getElem hbl]; rfl
  have hroom : roomOf r t < f.books.length := by rw [hok.books]; exact Nat.mod_lt _ (by have := hok.r1; omega)
  have hbg : f.books.getD (roomOf r t) [] = f.books[roomOf r t] := by rw [List.getD_eq_getElem?_getD, List.getElem?_eq_getElem hroom]; rfl
  have hbookl : (f.books[roomOf r t]).length = ts.length := hok.book _ (List.getElem_mem hroom)
  obtain ⟨gt, ct, et, -, hgt, -, hct, -⟩ := h.tasks.at (by simp; omega)
  obtain ⟨gv, cv, ev, ov, hgv, -, hcv, hfv⟩ := h.vats.at (by simp; omega)
  obtain ⟨gb, cb, eb, ob, hgb, -, hcb, -⟩ := h.books.at (by simp; rw [h.hl]; omega)
  have hsl : roomOf r t < S.hs.length := by rw [h.hl]; exact hroom
  have hbk := h.book (roomOf r t) _ _ (List.getElem?_eq_getElem hsl) (List.getElem?_eq_getElem hroom)
  obtain ⟨gr, cr, er, orr, hgr, -, hcr, hfr⟩ := hbk.at (by simp; omega)
  simp only [List.length_map] at et ev eb er hct hcv hcb hcr
  rw [hok.vats] at ev
  rw [h.hl, hok.books] at eb
  rw [hbookl] at er
  refine ⟨gt, ct, gv, cv, gb, cb, gr, cr, bN, jN, (ts[t]).n, by rw [← hb, ← hj], by omega, by omega, et, hgt, ?_, ev, hgv, ov, ?_, hfv, eb, hgb, ob, ?_, ?_, hgr, orr, ?_, hfr, by rw [hok.books] at hroom; exact hroom, by rw [hbg]; exact hbookl, by rw [hvg]; exact hvl⟩
  · intro j v hv
    refine hct t ht j v ?_
    have : cT ts[t] = #[.int .i64 bN, .int .i64 jN, .int .i64 (ts[t]).n] := by simp [cT, hb, hj]
    simpa [this] using hv
  · refine hcv bN hbl jN _ ?_
    have hjl : jN < (f.vats[bN]).length := by omega
    rw [List.getElem_map, cV_at _ _ hjl, hvg, List.getD_eq_getElem?_getD, List.getElem?_eq_getElem hjl]; rfl
  · have := hcb (roomOf r t) hsl 0 S.hs[roomOf r t] (by simp)
    rw [Nat.mul_one, Nat.add_zero] at this
    rw [this, er]
  · rw [List.getElem?_eq_getElem hsl, er]
  · have hl : t < (f.books[roomOf r t]).length := by omega
    have := hcr t hl 0 (.bool (f.books[roomOf r t])[t]) (by simp [cBo])
    rw [Nat.mul_one, Nat.add_zero] at this
    rw [this, bookAt, hbg, List.getD_eq_getElem?_getD, List.getElem?_eq_getElem hl]; rfl

theorem wpList_named {P : Program} {ops : Array Oper} {rest : List Oper} {a : Act} {Q : Exit → Act → World → Prop} {B : Nat} {w W : World} (hb : Below B w W) (h : ∀ w1, Below B w w1 → wpList P ops Q rest a w1) : wpList P ops Q rest a W.drew := h _ hb.drew

theorem wp_named {P : Program} {c : Code} {a : Act} {Q : Exit → Act → World → Prop} {B : Nat} {w W : World} (hb : Below B w W) (h : ∀ w1, Below B w w1 → c.wp P Q a w1) : c.wp P Q a W := h W hb

/-- An append whose run is known, as a step of a region that draws. -/
theorem step_app {P : Program} {o : Oper} {a : Act} {w : World} {K : Act → World → Prop} {Q : Exit → Act → World → Prop} {E : Prop} {pend : Array Oper}
    (hg : o.guard = none) (s x : Operand) (t : TypeId) (hop : o.op = Op.call { callee := Callee.builtin Builtin.append, args := #[s, x], argTypes := #[t, t] }) {v u v' : Value} {w' : World}
    (hrun : (Builtin.append_ #[t, t] o.type #[v, u]).run P w = .ok v' w') (hs : a.eval s = v) (hx : a.eval x = u) (hK : K (a.put o.dst v') w') :
    if Region.wanted o (yielded pend a.tmps) = true then Oper.wp P o a w K Q else E := by
  have hw : Region.wanted o (yielded pend a.tmps) = true := by simp [Region.wanted, hg]
  rw [if_pos hw]
  unfold Oper.wp execOp
  simp only [hop, resolve, invoke, builtin, Sem.run_bind, Sem.run_pure, Result.andThen_ok, List.map_toArray, List.map_cons, List.map_nil, hs, hx, hrun]
  exact hK

set_option maxRecDepth 100000 in
set_option maxHeartbeats 2000000 in
theorem come_seen (lo : Nat → Prop) (p wp r nb : Nat) (ts : List Tsk) (f : Fl) (t : Nat) (w : World) (hS : ShopAt w lo p 101 [.pointer (some ⟨wp, 0, none⟩)] ts f) (hok : FlOk r nb ts f) (ht : t < ts.length)
    (hwp : wp < w.heap.size) (hr : w.cell? ⟨wp, 0, none⟩ = some (.int .i64 r)) (hbk : bookAt f (roomOf r t) t = true) :
    Calls Try.prog 128 #[.pointer (some ⟨p, 0, none⟩), .agg #[.bool false, .int .i64 t]] w (ComePost w lo p 101 [.pointer (some ⟨wp, 0, none⟩)] ts (pour r ts f ⟨false, t⟩)) := by
  have hbox : Below w.heap.size w (w.alloc (.cells #[.bool false, .int .i64 t] 123)) := (Below.refl _ _).alloc (Nat.le_refl _) _
  obtain ⟨o, S, hS0⟩ := hS
  have hS := hS0.kept hbox 0
  have b0 : (w.alloc (.cells #[.bool false, .int .i64 t] 123)).cell? ⟨w.heap.size, 0, none⟩ = some (.bool false) := by rw [World.cell?_alloc_at _ _ _ _ rfl]; rfl
  have b1 : (w.alloc (.cells #[.bool false, .int .i64 t] 123)).cell? ⟨w.heap.size, 1, none⟩ = some (.int .i64 t) := by rw [World.cell?_alloc_at _ _ _ _ rfl]; rfl
  have hz : w.heap.size < (w.alloc (.cells #[.bool false, .int .i64 t] 123)).heap.size := by simp
  have hr0 := (hbox.cell (p := ⟨wp, 0, none⟩) hwp).trans hr
  generalize hw0 : w.alloc (.cells #[.bool false, .int .i64 t] 123) = w0 at hS b0 b1 hr0 hbox hz
  obtain ⟨gt, ct, gv, cv, gb, cb, gr, cr, bN, jN, n, htk, hbN, hjN, et, hgt, hct, ev, hgv, ov, kv, hfv, eb, hgb, ob, kb, ehs, hgr, orr, kr, hfr, hroom, hbl, hvl⟩ := hS.facts hok ht
  have hpour : pour r ts f ⟨false, t⟩ = { f with wire := f.wire ++ [⟨true, t⟩] } := by simp [pour, hbk]
  have c0 : w0.cell? ⟨p, 0, none⟩ = some (.pointer (some ⟨wp, 0, none⟩)) := hS.cell rfl
  have c3 : w0.cell? ⟨p, 3, none⟩ = some S.b := hS.cell rfl
  have c6 : w0.cell? ⟨p, 6, none⟩ = some S.w := hS.cell rfl
  have hmod := tmod_room t r
  have hr1 := hok.r1
  rw [eb] at c3
  rw [hbk] at kr
  obtain ⟨Aw, cw, ew, -, -⟩ := hS.wire.1.form
  simp only [List.length_map] at ew
  rw [ew] at c6
  go_enter Try.func128, Try.ntmps128
  go_wp2_with fail
  go_quiet (fail)
  go_wp2_with fail
  go_quiet (fail)
  go_wp2_with fail
  refine wp_named (B := w0.heap.size) (w := w0) (by (repeat (first | (with_reducible exact Below.refl _ _) | (with_reducible assumption) | ((with_reducible refine Below.setCell ?_ ?_ _); rotate_left; focus (first | (with_reducible exact Nat.le_refl _) | omega | (simp; done) | (simp; omega) | (simp at *; omega))) | ((with_reducible refine Below.alloc ?_ ?_ _); rotate_left; focus (first | (with_reducible exact Nat.le_refl _) | omega | (simp; done) | (simp; omega) | (simp at *; omega))) | (with_reducible refine Below.drew ?_) | (with_reducible refine below_drewN ?_ _)))) ?_
  intro w1 hb1
  have hS1 := hS.kept hb1 0
  have e6 : w1.cell? ⟨p, 6, none⟩ = some S.w := hS1.cell rfl
  rw [ew] at e6
  have e1 := (hb1.cell (p := ⟨w.heap.size, 1, none⟩) hz).trans b1
  have f6 := (((Below.refl w1.heap.size w1).alloc (Nat.le_refl _) (.cells #[.bool true, .int .i64 t] 123)).cell (p := ⟨p, 6, none⟩) hS1.lt).trans e6
  have hS2 := hS1.kept ((Below.refl w1.heap.size w1).drew) 0
  obtain ⟨A, c, w3, hap, hSh, hb3, hc3, hf3⟩ := hS2.push 60 ⟨true, t⟩ (by have := hok.w10; omega)
  have d6 : w3.cell? ⟨p, 6, none⟩ = some S.w := hc3 6 _ rfl
  have d6f := hf3 6
  rw [ew] at hap d6
  simp only [cN] at hap
  go_region_law (refine step_app rfl (.tmp 80) (.tmp 84) 60 rfl hap (by simp [Act.eval]) (by simp [Act.eval]) ?_)
  all_goals go_end0
  all_goals (refine ⟨rfl, ?_, ?_⟩)
  all_goals first | (rw [hpour]; exact hSh) | exact (((((belAp hbox)).trans ((belAp hb1))).drew).trans hb3).setCell (p := ⟨p, 6, none⟩) hS0.pge _

theorem pour_new {r : Nat} {ts : List Tsk} {f : Fl} {t : Nat} (ht : t < ts.length) (hbk : bookAt f (roomOf r t) t = false) {bN jN : Nat} {n : Int} (htk : ts[t] = ⟨bN, jN, n⟩) :
    pour r ts f ⟨false, t⟩ = { f with
      vats := f.vats.set bN ((f.vats.getD bN []).set jN (wrap64 ((f.vats.getD bN []).getD jN 0 + n)))
      books := bookSet f (roomOf r t) t
      wire := f.wire ++ [⟨true, t⟩] } := by
  have htd : ts.getD t ⟨0, 0, 0⟩ = ⟨bN, jN, n⟩ := by rw [List.getD_eq_getElem?_getD, List.getElem?_eq_getElem ht]; exact htk
  simp only [pour, hbk, addTo, htd, Int.toNat_natCast]

theorem cell_other {w : World} {g k b j : Nat} {v : Value} (h : b ≠ g) : (w.setCell ⟨g, k, none⟩ v).cell? ⟨b, j, none⟩ = w.cell? ⟨b, j, none⟩ := World.cell?_of_block (w := w) (a := ⟨b, j, none⟩) (heap_setCell_other w _ b v h)
theorem frozen_other {w : World} {g k b j : Nat} {v : Value} (h : b ≠ g) : (w.setCell ⟨g, k, none⟩ v).frozen? ⟨b, j, none⟩ = w.frozen? ⟨b, j, none⟩ := World.frozen?_of_block (w := w) (a := ⟨b, j, none⟩) (heap_setCell_other w _ b v h)

set_option maxRecDepth 100000 in
set_option maxHeartbeats 2000000 in
theorem come_new (lo : Nat → Prop) (p wp r nb : Nat) (ts : List Tsk) (f : Fl) (t : Nat) (w : World) (hS : ShopAt w lo p 101 [.pointer (some ⟨wp, 0, none⟩)] ts f) (hok : FlOk r nb ts f) (ht : t < ts.length)
    (hwp : wp < w.heap.size) (hr : w.cell? ⟨wp, 0, none⟩ = some (.int .i64 r)) (hbk : bookAt f (roomOf r t) t = false) :
    Calls Try.prog 128 #[.pointer (some ⟨p, 0, none⟩), .agg #[.bool false, .int .i64 t]] w (ComePost w lo p 101 [.pointer (some ⟨wp, 0, none⟩)] ts (pour r ts f ⟨false, t⟩)) := by
  have hbox : Below w.heap.size w (w.alloc (.cells #[.bool false, .int .i64 t] 123)) := (Below.refl _ _).alloc (Nat.le_refl _) _
  obtain ⟨o, S, hS0⟩ := hS
  obtain ⟨gt, ct, gv, cv, gb, cb, gr, cr, bN, jN, n, htk, hbN, hjN, et, hgt, hct, ev, hgv, ov, kv, hfv, eb, hgb, ob, kb, ehs, hgr, orr, kr, hfr, hroom, hbl, hvl⟩ := hS0.facts hok ht
  have hpour := pour_new ht hbk htk
  obtain ⟨x, hx⟩ : ∃ x, (f.vats.getD bN []).getD jN 0 = x := ⟨_, rfl⟩
  rw [hx] at kv hpour
  have hp := hS0.lt
  have hop := hS0.hp
  have c0 : w.cell? ⟨p, 0, none⟩ = some (.pointer (some ⟨wp, 0, none⟩)) := hS0.cell rfl
  have c1 : w.cell? ⟨p, 1, none⟩ = some S.t := hS0.cell rfl
  have c2 : w.cell? ⟨p, 2, none⟩ = some S.v := hS0.cell rfl
  have c3 : w.cell? ⟨p, 3, none⟩ = some S.b := hS0.cell rfl
  have c6 : w.cell? ⟨p, 6, none⟩ = some S.w := hS0.cell rfl
  have t0 : w.cell? ⟨gt, t * 3, none⟩ = some (.int .i64 bN) := hct 0 _ rfl
  have t1 : w.cell? ⟨gt, t * 3 + 1, none⟩ = some (.int .i64 jN) := hct 1 _ rfl
  have t2 : w.cell? ⟨gt, t * 3 + 2, none⟩ = some (.int .i64 n) := hct 2 _ rfl
  obtain ⟨Aw, cw, ew, -, -⟩ := hS0.wire.1.form
  simp only [List.length_map] at ew
  rw [eb] at c3
  rw [et] at c1
  rw [ev] at c2
  rw [ew] at c6
  rw [hbk] at kr
  have n1 : gb ≠ gv := fun e => by rw [e] at ob; omega
  have n2 : gr ≠ gv := fun e => by rw [e] at orr; omega
  have n3 : p ≠ gv := fun e => by rw [e] at hop; omega
  have n4 : p ≠ gr := fun e => by rw [e] at hop; omega
  have hmod := tmod_room t r
  have hr1 := hok.r1
  have b0 : (w.alloc (.cells #[.bool false, .int .i64 t] 123)).cell? ⟨w.heap.size, 0, none⟩ = some (.bool false) := by rw [World.cell?_alloc_at _ _ _ _ rfl]; rfl
  have b1 : (w.alloc (.cells #[.bool false, .int .i64 t] 123)).cell? ⟨w.heap.size, 1, none⟩ = some (.int .i64 t) := by rw [World.cell?_alloc_at _ _ _ _ rfl]; rfl
  have hz : w.heap.size < (w.alloc (.cells #[.bool false, .int .i64 t] 123)).heap.size := by simp
  -- the world with the box
  have hK : Hid (∀ W, Below w.heap.size w W → W.cell? ⟨p, 0, none⟩ = some (.pointer (some ⟨wp, 0, none⟩)) ∧ W.cell? ⟨wp, 0, none⟩ = some (.int .i64 r) ∧ W.cell? ⟨p, 3, none⟩ = some (.slice (some ⟨gb, 0, none⟩) r cb) ∧ W.cell? ⟨gb, roomOf r t, none⟩ = some (.slice (some ⟨gr, 0, none⟩) ts.length cr) ∧ W.cell? ⟨gr, t, none⟩ = some (.bool false)) := fun W h =>
    ⟨(h.cell (p := ⟨p, 0, none⟩) hp).trans c0, (h.cell (p := ⟨wp, 0, none⟩) hwp).trans hr, (h.cell (p := ⟨p, 3, none⟩) hp).trans c3, (h.cell (p := ⟨gb, roomOf r t, none⟩) hgb).trans kb, (h.cell (p := ⟨gr, t, none⟩) hgr).trans kr⟩
  generalize hw0 : w.alloc (.cells #[.bool false, .int .i64 t] 123) = w0 at b0 b1 hbox hz
  obtain ⟨d0, d1, d2, d3, d4⟩ := hK.out w0 hbox
  go_enter Try.func128, Try.ntmps128
  go_wp2_with fail
  clear hw0
  go_quiet (fail)
  go_wp2_with fail
  go_quiet (fail)
  go_wp2_with fail
  refine wp_named (B := w0.heap.size) (w := w0) (by (repeat (first | (with_reducible exact Below.refl _ _) | (with_reducible assumption) | ((with_reducible refine Below.setCell ?_ ?_ _); rotate_left; focus (first | (with_reducible exact Nat.le_refl _) | omega | (simp; done) | (simp; omega) | (simp at *; omega))) | ((with_reducible refine Below.alloc ?_ ?_ _); rotate_left; focus (first | (with_reducible exact Nat.le_refl _) | omega | (simp; done) | (simp; omega) | (simp at *; omega))) | (with_reducible refine Below.drew ?_) | (with_reducible refine below_drewN ?_ _)))) ?_
  intro w1 hb1
  clear d0 d1 d2 d3 d4 b0
  have e1 := (hb1.cell (p := ⟨w.heap.size, 1, none⟩) hz).trans b1
  have hB1 : Below w.heap.size w w1 := hbox.trans (hb1.mono (by omega))
  have hz1 : w.heap.size < w1.heap.size := Nat.lt_of_lt_of_le hz hb1.size
  have hp1 : p < w1.heap.size := by omega
  have hgt1 : gt < w1.heap.size := by omega
  have f1 := (hB1.cell (p := ⟨p, 1, none⟩) hp).trans c1
  have f2 := (hB1.cell (p := ⟨gt, t * 3, none⟩) hgt).trans t0
  have f3 := (hB1.cell (p := ⟨gt, t * 3 + 1, none⟩) hgt).trans t1
  have f4 := (hB1.cell (p := ⟨gt, t * 3 + 2, none⟩) hgt).trans t2
  clear b1
  go_region
  go_wp2_with fail
  clear f1 f2 f3 f4
  have q0 : ((w1.alloc (.cells #[.int .i64 bN, .int .i64 jN, .int .i64 n] 74)).drew).cell? ⟨w1.heap.size, 0, none⟩ = some (.int .i64 bN) := by show (w1.alloc _).cell? _ = _; rw [World.cell?_alloc_at _ _ _ _ rfl]; rfl
  have q1 : ((w1.alloc (.cells #[.int .i64 bN, .int .i64 jN, .int .i64 n] 74)).drew).cell? ⟨w1.heap.size, 1, none⟩ = some (.int .i64 jN) := by show (w1.alloc _).cell? _ = _; rw [World.cell?_alloc_at _ _ _ _ rfl]; rfl
  have q2 : ((w1.alloc (.cells #[.int .i64 bN, .int .i64 jN, .int .i64 n] 74)).drew).cell? ⟨w1.heap.size, 2, none⟩ = some (.int .i64 n) := by show (w1.alloc _).cell? _ = _; rw [World.cell?_alloc_at _ _ _ _ rfl]; rfl
  have hb2 : Below w1.heap.size w1 ((w1.alloc (.cells #[.int .i64 bN, .int .i64 jN, .int .i64 n] 74)).drew) := ((Below.refl _ _).alloc (Nat.le_refl _) _).drew
  generalize hw2 : (w1.alloc (.cells #[.int .i64 bN, .int .i64 jN, .int .i64 n] 74)).drew = w2 at q0 q1 q2 hb2 ⊢
  clear hw2
  have hB2 : Below w.heap.size w w2 := hB1.trans (hb2.mono (by omega))
  replace e1 := (hb2.cell (p := ⟨w.heap.size, 1, none⟩) hz1).trans e1
  have f2 := (hB2.cell (p := ⟨p, 2, none⟩) hp).trans c2
  have f3 := (hB2.cell (p := ⟨gv, bN * 8 + jN, none⟩) hgv).trans kv
  have f4 := (hB2.frozen (p := ⟨gv, bN * 8 + jN, none⟩) hgv).trans (hfv _)
  have hS2 := hS0.kept hB2 0
  have hj1 : (jN : Int) < 8 := by omega
  have hj2 : ¬ 8 ≤ jN := by omega
  go_still_tail 17, (by kernel_rfl)
  go_wp2_with fail
  have hS3 := (hS2.setVat (b := bN) (j := jN) ev (by rw [hok.vats]; exact hbN) hjN (wrap64 (x + n))).kept ((Below.refl _ _).drew) 0
  have g1 : ((w2.setCell ⟨gv, bN * 8 + jN, none⟩ (.int .i64 (wrap64 (x + n)))).drew).cell? ⟨w.heap.size, 1, none⟩ = some (.int .i64 t) := (cell_other (by omega)).trans e1
  have g2 : ((w2.setCell ⟨gv, bN * 8 + jN, none⟩ (.int .i64 (wrap64 (x + n)))).drew).cell? ⟨p, 3, none⟩ = some (.slice (some ⟨gb, 0, none⟩) r cb) := (cell_other n3).trans ((hB2.cell (p := ⟨p, 3, none⟩) hp).trans c3)
  have g3 : ((w2.setCell ⟨gv, bN * 8 + jN, none⟩ (.int .i64 (wrap64 (x + n)))).drew).cell? ⟨gb, roomOf r t, none⟩ = some (.slice (some ⟨gr, 0, none⟩) ts.length cr) := (cell_other n1).trans ((hB2.cell (p := ⟨gb, roomOf r t, none⟩) hgb).trans kb)
  have g4 : ((w2.setCell ⟨gv, bN * 8 + jN, none⟩ (.int .i64 (wrap64 (x + n)))).drew).cell? ⟨gr, t, none⟩ = some (.bool false) := (cell_other n2).trans ((hB2.cell (p := ⟨gr, t, none⟩) hgr).trans kr)
  have g5 : ((w2.setCell ⟨gv, bN * 8 + jN, none⟩ (.int .i64 (wrap64 (x + n)))).drew).frozen? ⟨gr, t, none⟩ = false := (frozen_other n2).trans ((hB2.frozen (p := ⟨gr, t, none⟩) hgr).trans (hfr _))
  have g6 : ((w2.setCell ⟨gv, bN * 8 + jN, none⟩ (.int .i64 (wrap64 (x + n)))).drew).cell? ⟨p, 6, none⟩ = some (.slice Aw f.wire.length cw) := (cell_other n3).trans ((hB2.cell (p := ⟨p, 6, none⟩) hp).trans c6)
  have hB3 : Apart lo w ((w2.setCell ⟨gv, bN * 8 + jN, none⟩ (.int .i64 (wrap64 (x + n)))).drew) := (((belAp hB2)).setCell (p := ⟨gv, bN * 8 + jN, none⟩) (hS0.ge (g := gv) (by rw [ov]; omega)) _).drew
  have z3 : w.heap.size < ((w2.setCell ⟨gv, bN * 8 + jN, none⟩ (.int .i64 (wrap64 (x + n)))).drew).heap.size := by show _ < (w2.setCell _ _).heap.size; simp; have := hb2.size; omega
  generalize hw3 : (w2.setCell ⟨gv, bN * 8 + jN, none⟩ (.int .i64 (wrap64 (x + n)))).drew = w3 at hS3 g1 g2 g3 g4 g5 g6 hB3 z3 ⊢
  clear hw3 hS2 f2 f3 f4 e1 q0 q1 q2
  go_still_tail 11, (by kernel_rfl)
  go_wp2_with fail
  have hS4 := (hS3.setBook (room := roomOf r t) (t := t) (by show roomOf r t < f.books.length; rw [hok.books]; exact hroom) ehs (by show t < (f.books.getD (roomOf r t) []).length; rw [hbl]; exact ht)).kept ((Below.refl _ _).drew) 0
  have k1 : ((w3.setCell ⟨gr, t, none⟩ (.bool true)).drew).cell? ⟨w.heap.size, 1, none⟩ = some (.int .i64 t) := (cell_other (by omega)).trans g1
  have k6 : ((w3.setCell ⟨gr, t, none⟩ (.bool true)).drew).cell? ⟨p, 6, none⟩ = some (.slice Aw f.wire.length cw) := (cell_other n4).trans g6
  have hB4 : Apart lo w ((w3.setCell ⟨gr, t, none⟩ (.bool true)).drew) := (hB3.setCell (p := ⟨gr, t, none⟩) (hS0.ge (g := gr) (by rw [orr]; omega)) _).drew
  have z4 : w.heap.size < ((w3.setCell ⟨gr, t, none⟩ (.bool true)).drew).heap.size := by show _ < (w3.setCell _ _).heap.size; simpa using z3
  generalize hw4 : (w3.setCell ⟨gr, t, none⟩ (.bool true)).drew = w4 at hS4 k1 k6 hB4 z4 ⊢
  clear hw4 hS3 g1 g2 g3 g4 g5 g6 hB3 z3
  have k7 := (((Below.refl w4.heap.size w4).alloc (Nat.le_refl _) (.cells #[.bool true, .int .i64 t] 123)).cell (p := ⟨p, 6, none⟩) hS4.lt).trans k6
  have hS5 := hS4.kept ((Below.refl w4.heap.size w4).drew) 0
  obtain ⟨A, c, w5, hap, hSh, hb5, hc5, hf5⟩ := hS5.push 60 ⟨true, t⟩ (by have := hok.w10; simpa using this)
  have d6 : w5.cell? ⟨p, 6, none⟩ = some S.w := hc5 6 _ rfl
  have d6f := hf5 6
  rw [ew] at hap d6
  simp only [cN] at hap
  go_region_law (refine step_app rfl (.tmp 80) (.tmp 84) 60 rfl hap (by simp [Act.eval]) (by simp [Act.eval]) ?_)
  all_goals go_end0
  all_goals (refine ⟨rfl, ?_, ?_⟩)
  all_goals first | (rw [hpour]; exact hSh) | exact ((hB4.drew).trans hb5).setCell (p := ⟨p, 6, none⟩) hS0.pge _

end Go.Proofs.Ytomcffionomidaa
