/- A deed with a note: the reference's 'wire'. -/
import Derived.Test.YtomcffionomidaaSpDo
namespace Go.Proofs.Ytomcffionomidaa
open Go.RowKit
set_option linter.unusedSimpArgs false
set_option linter.unusedVariables false

/-- The rest of a slice. -/
theorem Row.tail {w : World} {base : Nat} {e : TypeId} {sz : Nat} {g n c : Nat} {xs : List (Array Value)} (h : Row w base e sz (.slice (some ⟨g, 0, none⟩) n c) xs) (k : Nat) (hk : k ≤ n) :
    ∃ ad : Addr, (if c = k then some (⟨g, 0, none⟩ : Addr) else some ⟨g, k * sz, none⟩) = some ad ∧ SrcAt w (.slice (some ad) (n - k) (c - k)) (xs.drop k) := by
  obtain ⟨A, c2, e2, hc2, hown⟩ := h.form
  simp only [Value.slice.injEq] at e2
  obtain ⟨rfl, rfl, rfl⟩ := e2
  by_cases hc : c = k
  · refine ⟨⟨g, 0, none⟩, by simp [hc], .inr ⟨_, _, by rw [List.length_drop], fun j u hu => ?_⟩⟩
    have : xs.drop k = [] := List.drop_eq_nil_of_le (by omega)
    rw [this] at hu; simp at hu
  · refine ⟨⟨g, k * sz, none⟩, by simp [hc], .inr ⟨_, _, by rw [List.length_drop], fun j u hu => ?_⟩⟩
    have hs := h.src
    rcases hs with ⟨h0, -⟩ | ⟨a, c3, h0, hcell⟩
    · cases h0
    · simp only [Value.slice.injEq, Option.some.injEq] at h0
      obtain ⟨rfl, -, -⟩ := h0
      have e1 : xs.flatMap Array.toList = (xs.take k).flatMap Array.toList ++ (xs.drop k).flatMap Array.toList := by
        rw [← List.flatMap_append, List.take_append_drop]
      have hl : ((xs.take k).flatMap Array.toList).length = k * sz := by
        rw [flat_len (sz := sz) (fun y hy => h.1 y (List.mem_of_mem_take hy)), List.length_take, Nat.min_eq_left hk]
      have := hcell (k * sz + j) u (by rw [e1, List.getElem?_append_right (by omega), hl, Nat.add_sub_cancel_left]; exact hu)
      rw [Addr.add_lit, Nat.zero_add] at this
      rw [Addr.add_lit]; exact this

/-- The head of a slice. -/
theorem Row.head {w : World} {base : Nat} {e : TypeId} {sz : Nat} {g n c : Nat} {xs : List (Array Value)} (h : Row w base e sz (.slice (some ⟨g, 0, none⟩) n c) xs) (k : Nat) (hk : k ≤ n) : SrcAt w (.slice (some ⟨g, 0, none⟩) k c) (xs.take k) := by
  obtain ⟨A, c2, e2, hc2, hown⟩ := h.form
  simp only [Value.slice.injEq] at e2
  obtain ⟨rfl, rfl, rfl⟩ := e2
  refine .inr ⟨⟨g, 0, none⟩, c, by rw [List.length_take, Nat.min_eq_left hk], fun j u hu => ?_⟩
  have hs := h.src
  rcases hs with ⟨h0, -⟩ | ⟨a, c3, h0, hcell⟩
  · cases h0
  · simp only [Value.slice.injEq, Option.some.injEq] at h0
    obtain ⟨rfl, -, -⟩ := h0
    refine hcell j u ?_
    have e1 : xs.flatMap Array.toList = (xs.take k).flatMap Array.toList ++ (xs.drop k).flatMap Array.toList := by
      rw [← List.flatMap_append, List.take_append_drop]
    have hlt : j < ((xs.take k).flatMap Array.toList).length := (List.getElem?_eq_some_iff.1 hu).1
    rw [e1, List.getElem?_append_left hlt]; exact hu

theorem wp_app {P : Program} {dst : Option Tmp} {type : TypeId} {pos : String} {after : Array Edge} {a : Act} {w : World} {K : Act → World → Prop} {Q : Exit → Act → World → Prop}
    (s x : Operand) (t : TypeId) {v u v' : Value} {w' : World} (hrun : (Builtin.append_ #[t, t] type #[v, u]).run P w = .ok v' w') (hs : a.eval s = v) (hx : a.eval x = u) (hK : K (a.put dst v') w') :
    Oper.wp P ⟨dst, .call { callee := .builtin .append, args := #[s, x], argTypes := #[t, t] }, type, pos, after, none⟩ a w K Q := by
  unfold Oper.wp execOp
  simp only [resolve, invoke, builtin, Sem.run_bind, Sem.run_pure, Result.andThen_ok, List.map_toArray, List.map_cons, List.map_nil, hs, hx, hrun]
  exact hK

section
variable (lo : Nat → Prop) (p wp r nb : Nat) (ts : List Tsk) (f : Fl) (w : World) (hS : ShopAt w lo p 101 [.pointer (some ⟨wp, 0, none⟩)] ts f) (hok : FlOk r nb ts f)
include hS hok


set_option maxRecDepth 100000 in
set_option maxHeartbeats 2000000 in
theorem spWire_far (aN : Nat) (k : Int) (h1 : f.wire.length ≤ aN) : Calls Try.prog 117 #[.pointer (some ⟨p, 0, none⟩), .agg #[.int .i64 k, .int .i64 aN]] w (DoPost w lo p 101 [.pointer (some ⟨wp, 0, none⟩)] ts (f, 2)) := by
  have hbox : Below w.heap.size w (w.alloc (.cells #[.int .i64 k, .int .i64 aN] 91)) := (Below.refl _ _).alloc (Nat.le_refl _) _
  obtain ⟨o, S, hS0⟩ := hS
  have hS1 := hS0.kept hbox 0
  have b0 : (w.alloc (.cells #[.int .i64 k, .int .i64 aN] 91)).cell? ⟨w.heap.size, 0, none⟩ = some (.int .i64 k) := by rw [World.cell?_alloc_at _ _ _ _ rfl]; rfl
  have b1 : (w.alloc (.cells #[.int .i64 k, .int .i64 aN] 91)).cell? ⟨w.heap.size, 1, none⟩ = some (.int .i64 aN) := by rw [World.cell?_alloc_at _ _ _ _ rfl]; rfl
  have hz : w.heap.size < (w.alloc (.cells #[.int .i64 k, .int .i64 aN] 91)).heap.size := by simp
  generalize hw0 : w.alloc (.cells #[.int .i64 k, .int .i64 aN] 91) = w0 at b0 b1 hbox hS1 hz
  have hp := hS1.lt
  have h48 := hok.n48
  have h10 := hok.w10
  have hBl : Apart lo w w0 := belAp hbox
  have c6 : w0.cell? ⟨p, 6, none⟩ = some S.w := hS1.cell rfl
  obtain ⟨Aw, cw, ew, -, -⟩ := hS1.wire.1.form
  simp only [List.length_map] at ew
  rw [ew] at c6
  go_enter Try.func117, Try.ntmps117
  go_wp2_with fail
  clear hw0
  go_quiet (fail)
  go_wp2_with fail
  go_ret
  exact ⟨rfl, ⟨_, S, hS1.kept (by (repeat (first | (with_reducible exact Below.refl _ _) | (with_reducible assumption) | ((with_reducible refine Below.setCell ?_ ?_ _); rotate_left; focus (first | (with_reducible exact Nat.le_refl _) | omega | (simp; done) | (simp; omega) | (simp at *; omega))) | ((with_reducible refine Below.alloc ?_ ?_ _); rotate_left; focus (first | (with_reducible exact Nat.le_refl _) | omega | (simp; done) | (simp; omega) | (simp at *; omega))) | (with_reducible refine Below.drew ?_) | (with_reducible refine below_drewN ?_ _)))) 0⟩, hBl.trans ((belAp (show Below w0.heap.size w0 _ by (repeat (first | (with_reducible exact Below.refl _ _) | (with_reducible assumption) | ((with_reducible refine Below.setCell ?_ ?_ _); rotate_left; focus (first | (with_reducible exact Nat.le_refl _) | omega | (simp; done) | (simp; omega) | (simp at *; omega))) | ((with_reducible refine Below.alloc ?_ ?_ _); rotate_left; focus (first | (with_reducible exact Nat.le_refl _) | omega | (simp; done) | (simp; omega) | (simp at *; omega))) | (with_reducible refine Below.drew ?_) | (with_reducible refine below_drewN ?_ _))))))⟩

set_option maxRecDepth 100000 in
set_option maxHeartbeats 4000000 in
theorem spWire_copyFull (aN : Nat) (h1 : aN < f.wire.length) (hb : (f.wire[aN]).back = false) (hl : 10 ≤ f.wire.length) : Calls Try.prog 117 #[.pointer (some ⟨p, 0, none⟩), .agg #[.int .i64 3, .int .i64 aN]] w (DoPost w lo p 101 [.pointer (some ⟨wp, 0, none⟩)] ts (f, 3)) := by
  have hbox : Below w.heap.size w (w.alloc (.cells #[.int .i64 3, .int .i64 aN] 91)) := (Below.refl _ _).alloc (Nat.le_refl _) _
  obtain ⟨o, S, hS0⟩ := hS
  have hS1 := hS0.kept hbox 0
  have b0 : (w.alloc (.cells #[.int .i64 3, .int .i64 aN] 91)).cell? ⟨w.heap.size, 0, none⟩ = some (.int .i64 3) := by rw [World.cell?_alloc_at _ _ _ _ rfl]; rfl
  have b1 : (w.alloc (.cells #[.int .i64 3, .int .i64 aN] 91)).cell? ⟨w.heap.size, 1, none⟩ = some (.int .i64 aN) := by rw [World.cell?_alloc_at _ _ _ _ rfl]; rfl
  have hz : w.heap.size < (w.alloc (.cells #[.int .i64 3, .int .i64 aN] 91)).heap.size := by simp
  generalize hw0 : w.alloc (.cells #[.int .i64 3, .int .i64 aN] 91) = w0 at b0 b1 hbox hS1 hz
  have hp := hS1.lt
  have h48 := hok.n48
  have h10 := hok.w10
  have hBl : Apart lo w w0 := belAp hbox
  have c6 : w0.cell? ⟨p, 6, none⟩ = some S.w := hS1.cell rfl
  obtain ⟨gw, cw2, hw, hgo, hg, hnc, hcell, hfz⟩ := hS1.wire.at (by simp; omega)
  have hgx : gw < w.heap.size := by
    rcases Nat.lt_or_ge gw w.heap.size with h | h
    · exact h
    · rw [oNew_ge h] at hgo; omega
  have u0 : w0.cell? ⟨gw, aN * 2, none⟩ = some (.bool (f.wire[aN]).back) := by
    have := hcell aN (by simpa using h1) 0 (.bool (f.wire[aN]).back) (by simp [cN])
    simpa using this
  have u1 : w0.cell? ⟨gw, aN * 2 + 1, none⟩ = some (.int .i64 (f.wire[aN]).t) := by
    have := hcell aN (by simpa using h1) 1 (.int .i64 (f.wire[aN]).t) (by simp [cN])
    simpa using this
  simp only [List.length_map] at hw hnc
  rw [hw] at c6
  have hnt := hok.wire _ (List.getElem_mem h1)
  have hget : f.wire[aN]? = some f.wire[aN] := List.getElem?_eq_getElem h1
  obtain ⟨n, hn⟩ : ∃ n, f.wire[aN] = n := ⟨_, rfl⟩
  rw [hn] at u0 u1 hnt hget
  obtain ⟨nb0, nt⟩ := n
  replace hnt : nt < ts.length := hnt
  replace u0 : w0.cell? ⟨gw, aN * 2, none⟩ = some (.bool nb0) := u0
  replace u1 : w0.cell? ⟨gw, aN * 2 + 1, none⟩ = some (.int .i64 nt) := u1
  clear hcell hfz
  rw [hn] at hb
  obtain rfl : nb0 = false := hb
  go_enter Try.func117, Try.ntmps117
  go_wp2_with fail
  clear hw0
  go_quiet (fail)
  go_wp2_with fail
  refine wp_named (B := w0.heap.size) (w := w0) (by (repeat (first | (with_reducible exact Below.refl _ _) | (with_reducible assumption) | ((with_reducible refine Below.setCell ?_ ?_ _); rotate_left; focus (first | (with_reducible exact Nat.le_refl _) | omega | (simp; done) | (simp; omega) | (simp at *; omega))) | ((with_reducible refine Below.alloc ?_ ?_ _); rotate_left; focus (first | (with_reducible exact Nat.le_refl _) | omega | (simp; done) | (simp; omega) | (simp at *; omega))) | (with_reducible refine Below.drew ?_) | (with_reducible refine below_drewN ?_ _)))) ?_
  intro W2 hW2
  have e1 := (hW2.cell (p := ⟨w.heap.size, 1, none⟩) hz).trans b1
  have e0 := (hW2.cell (p := ⟨w.heap.size, 0, none⟩) hz).trans b0
  have e6 := (hW2.cell (p := ⟨p, 6, none⟩) hp).trans c6
  have v0 := (hW2.cell (p := ⟨gw, aN * 2, none⟩) hg).trans u0
  have v1 := (hW2.cell (p := ⟨gw, aN * 2 + 1, none⟩) hg).trans u1
  have hp2 : p < W2.heap.size := by have := hW2.size; omega
  have hg2 : gw < W2.heap.size := by have := hW2.size; omega
  have hz2 : w.heap.size < W2.heap.size := by have := hW2.size; omega
  go_region
  have q0 : ((W2.alloc (.cells #[.bool false, .int .i64 nt] 123)).drew).cell? ⟨W2.heap.size, 0, none⟩ = some (.bool false) := by show (W2.alloc _).cell? _ = _; rw [World.cell?_alloc_at _ _ _ _ rfl]; rfl
  have q1 : ((W2.alloc (.cells #[.bool false, .int .i64 nt] 123)).drew).cell? ⟨W2.heap.size, 1, none⟩ = some (.int .i64 nt) := by show (W2.alloc _).cell? _ = _; rw [World.cell?_alloc_at _ _ _ _ rfl]; rfl
  have hb3 : Below W2.heap.size W2 ((W2.alloc (.cells #[.bool false, .int .i64 nt] 123)).drew) := ((Below.refl _ _).alloc (Nat.le_refl _) _).drew
  have hz3 : W2.heap.size < ((W2.alloc (.cells #[.bool false, .int .i64 nt] 123)).drew).heap.size := by show _ < (W2.alloc _).heap.size; simp
  generalize hw3 : (W2.alloc (.cells #[.bool false, .int .i64 nt] 123)).drew = w3 at q0 q1 hb3 hz3 ⊢
  clear hw3 v0 v1
  have g0 := (hb3.cell (p := ⟨w.heap.size, 0, none⟩) hz2).trans e0
  have g1 := (hb3.cell (p := ⟨w.heap.size, 1, none⟩) hz2).trans e1
  have g6 := (hb3.cell (p := ⟨p, 6, none⟩) hp2).trans e6
  clear e0 e1 e6
  have hB3 : Below w0.heap.size w0 w3 := hW2.trans (hb3.mono hW2.size)
  have hB3l : Apart lo w w3 := hBl.trans ((belAp hB3))
  go_wp2_with fail
  go_ret
  exact ⟨rfl, ⟨_, S, hS1.kept hB3 0⟩, hB3l⟩

set_option maxRecDepth 100000 in
set_option maxHeartbeats 4000000 in
theorem spWire_copy (aN : Nat) (h1 : aN < f.wire.length) (hwp : wp < w.heap.size) (hr : w.cell? ⟨wp, 0, none⟩ = some (.int .i64 r)) (hc : (f.wire[aN]).back = true ∨ f.wire.length < 10) : Calls Try.prog 117 #[.pointer (some ⟨p, 0, none⟩), .agg #[.int .i64 3, .int .i64 aN]] w (DoPost w lo p 101 [.pointer (some ⟨wp, 0, none⟩)] ts (pour r ts f f.wire[aN], 0)) := by
  have hbox : Below w.heap.size w (w.alloc (.cells #[.int .i64 3, .int .i64 aN] 91)) := (Below.refl _ _).alloc (Nat.le_refl _) _
  obtain ⟨o, S, hS0⟩ := hS
  have hS1 := hS0.kept hbox 0
  have b0 : (w.alloc (.cells #[.int .i64 3, .int .i64 aN] 91)).cell? ⟨w.heap.size, 0, none⟩ = some (.int .i64 3) := by rw [World.cell?_alloc_at _ _ _ _ rfl]; rfl
  have b1 : (w.alloc (.cells #[.int .i64 3, .int .i64 aN] 91)).cell? ⟨w.heap.size, 1, none⟩ = some (.int .i64 aN) := by rw [World.cell?_alloc_at _ _ _ _ rfl]; rfl
  have hz : w.heap.size < (w.alloc (.cells #[.int .i64 3, .int .i64 aN] 91)).heap.size := by simp
  generalize hw0 : w.alloc (.cells #[.int .i64 3, .int .i64 aN] 91) = w0 at b0 b1 hbox hS1 hz
  have hp := hS1.lt
  have h48 := hok.n48
  have h10 := hok.w10
  have hBl : Apart lo w w0 := belAp hbox
  have c6 : w0.cell? ⟨p, 6, none⟩ = some S.w := hS1.cell rfl
  obtain ⟨gw, cw2, hw, hgo, hg, hnc, hcell, hfz⟩ := hS1.wire.at (by simp; omega)
  have hgx : gw < w.heap.size := by
    rcases Nat.lt_or_ge gw w.heap.size with h | h
    · exact h
    · rw [oNew_ge h] at hgo; omega
  have u0 : w0.cell? ⟨gw, aN * 2, none⟩ = some (.bool (f.wire[aN]).back) := by
    have := hcell aN (by simpa using h1) 0 (.bool (f.wire[aN]).back) (by simp [cN])
    simpa using this
  have u1 : w0.cell? ⟨gw, aN * 2 + 1, none⟩ = some (.int .i64 (f.wire[aN]).t) := by
    have := hcell aN (by simpa using h1) 1 (.int .i64 (f.wire[aN]).t) (by simp [cN])
    simpa using this
  simp only [List.length_map] at hw hnc
  rw [hw] at c6
  have hnt := hok.wire _ (List.getElem_mem h1)
  have hget : f.wire[aN]? = some f.wire[aN] := List.getElem?_eq_getElem h1
  obtain ⟨n, hn⟩ : ∃ n, f.wire[aN] = n := ⟨_, rfl⟩
  rw [hn] at u0 u1 hnt hget
  obtain ⟨nb0, nt⟩ := n
  replace hnt : nt < ts.length := hnt
  replace u0 : w0.cell? ⟨gw, aN * 2, none⟩ = some (.bool nb0) := u0
  replace u1 : w0.cell? ⟨gw, aN * 2 + 1, none⟩ = some (.int .i64 nt) := u1
  clear hcell hfz
  rw [hn] at hc ⊢
  replace hc : nb0 = true ∨ f.wire.length < 10 := hc
  have hq : nb0 = true ∨ (nb0 = false ∧ decide ((10 : Int) ≤ f.wire.length) = false) := by
    rcases hc with h2 | h2
    · exact .inl h2
    · cases nb0
      · exact .inr ⟨rfl, by simp; omega⟩
      · exact .inl rfl
  rcases hq with rfl | ⟨rfl, hl⟩
  · go_enter Try.func117, Try.ntmps117
    go_wp2_with fail
    clear hw0
    go_quiet (fail)
    go_wp2_with fail
    refine wp_named (B := w0.heap.size) (w := w0) (by (repeat (first | (with_reducible exact Below.refl _ _) | (with_reducible assumption) | ((with_reducible refine Below.setCell ?_ ?_ _); rotate_left; focus (first | (with_reducible exact Nat.le_refl _) | omega | (simp; done) | (simp; omega) | (simp at *; omega))) | ((with_reducible refine Below.alloc ?_ ?_ _); rotate_left; focus (first | (with_reducible exact Nat.le_refl _) | omega | (simp; done) | (simp; omega) | (simp at *; omega))) | (with_reducible refine Below.drew ?_) | (with_reducible refine below_drewN ?_ _)))) ?_
    intro W2 hW2
    have e1 := (hW2.cell (p := ⟨w.heap.size, 1, none⟩) hz).trans b1
    have e0 := (hW2.cell (p := ⟨w.heap.size, 0, none⟩) hz).trans b0
    have e6 := (hW2.cell (p := ⟨p, 6, none⟩) hp).trans c6
    have v0 := (hW2.cell (p := ⟨gw, aN * 2, none⟩) hg).trans u0
    have v1 := (hW2.cell (p := ⟨gw, aN * 2 + 1, none⟩) hg).trans u1
    have hp2 : p < W2.heap.size := by have := hW2.size; omega
    have hg2 : gw < W2.heap.size := by have := hW2.size; omega
    have hz2 : w.heap.size < W2.heap.size := by have := hW2.size; omega
    go_region
    have q0 : ((W2.alloc (.cells #[.bool true, .int .i64 nt] 123)).drew).cell? ⟨W2.heap.size, 0, none⟩ = some (.bool true) := by show (W2.alloc _).cell? _ = _; rw [World.cell?_alloc_at _ _ _ _ rfl]; rfl
    have q1 : ((W2.alloc (.cells #[.bool true, .int .i64 nt] 123)).drew).cell? ⟨W2.heap.size, 1, none⟩ = some (.int .i64 nt) := by show (W2.alloc _).cell? _ = _; rw [World.cell?_alloc_at _ _ _ _ rfl]; rfl
    have hb3 : Below W2.heap.size W2 ((W2.alloc (.cells #[.bool true, .int .i64 nt] 123)).drew) := ((Below.refl _ _).alloc (Nat.le_refl _) _).drew
    have hz3 : W2.heap.size < ((W2.alloc (.cells #[.bool true, .int .i64 nt] 123)).drew).heap.size := by show _ < (W2.alloc _).heap.size; simp
    generalize hw3 : (W2.alloc (.cells #[.bool true, .int .i64 nt] 123)).drew = w3 at q0 q1 hb3 hz3 ⊢
    clear hw3 v0 v1
    have g0 := (hb3.cell (p := ⟨w.heap.size, 0, none⟩) hz2).trans e0
    have g1 := (hb3.cell (p := ⟨w.heap.size, 1, none⟩) hz2).trans e1
    have g6 := (hb3.cell (p := ⟨p, 6, none⟩) hp2).trans e6
    clear e0 e1 e6
    have hB3 : Below w0.heap.size w0 w3 := hW2.trans (hb3.mono hW2.size)
    have hB3l : Apart lo w w3 := hBl.trans ((belAp hB3))
    have hS3 := hS1.kept hB3 0
    go_wp2_with fail
    refine (come_any lo p wp r nb ts _ ⟨true, nt⟩ w3 ⟨_, S, hS3⟩ hok hnt (Nat.lt_of_lt_of_le hwp (Nat.le_trans hbox.size hB3.size)) (((hbox.trans (hB3.mono hbox.size)).cell (p := ⟨wp, 0, none⟩) hwp).trans hr)).mono ?_
    rintro e w6 ⟨rfl, hS6, hB6⟩
    go_wp2_with fail
    go_ret
    exact ⟨rfl, hS6, hB3l.trans hB6⟩
  · go_enter Try.func117, Try.ntmps117
    go_wp2_with fail
    clear hw0
    go_quiet (fail)
    go_wp2_with fail
    refine wp_named (B := w0.heap.size) (w := w0) (by (repeat (first | (with_reducible exact Below.refl _ _) | (with_reducible assumption) | ((with_reducible refine Below.setCell ?_ ?_ _); rotate_left; focus (first | (with_reducible exact Nat.le_refl _) | omega | (simp; done) | (simp; omega) | (simp at *; omega))) | ((with_reducible refine Below.alloc ?_ ?_ _); rotate_left; focus (first | (with_reducible exact Nat.le_refl _) | omega | (simp; done) | (simp; omega) | (simp at *; omega))) | (with_reducible refine Below.drew ?_) | (with_reducible refine below_drewN ?_ _)))) ?_
    intro W2 hW2
    have e1 := (hW2.cell (p := ⟨w.heap.size, 1, none⟩) hz).trans b1
    have e0 := (hW2.cell (p := ⟨w.heap.size, 0, none⟩) hz).trans b0
    have e6 := (hW2.cell (p := ⟨p, 6, none⟩) hp).trans c6
    have v0 := (hW2.cell (p := ⟨gw, aN * 2, none⟩) hg).trans u0
    have v1 := (hW2.cell (p := ⟨gw, aN * 2 + 1, none⟩) hg).trans u1
    have hp2 : p < W2.heap.size := by have := hW2.size; omega
    have hg2 : gw < W2.heap.size := by have := hW2.size; omega
    have hz2 : w.heap.size < W2.heap.size := by have := hW2.size; omega
    go_region
    have q0 : ((W2.alloc (.cells #[.bool false, .int .i64 nt] 123)).drew).cell? ⟨W2.heap.size, 0, none⟩ = some (.bool false) := by show (W2.alloc _).cell? _ = _; rw [World.cell?_alloc_at _ _ _ _ rfl]; rfl
    have q1 : ((W2.alloc (.cells #[.bool false, .int .i64 nt] 123)).drew).cell? ⟨W2.heap.size, 1, none⟩ = some (.int .i64 nt) := by show (W2.alloc _).cell? _ = _; rw [World.cell?_alloc_at _ _ _ _ rfl]; rfl
    have hb3 : Below W2.heap.size W2 ((W2.alloc (.cells #[.bool false, .int .i64 nt] 123)).drew) := ((Below.refl _ _).alloc (Nat.le_refl _) _).drew
    have hz3 : W2.heap.size < ((W2.alloc (.cells #[.bool false, .int .i64 nt] 123)).drew).heap.size := by show _ < (W2.alloc _).heap.size; simp
    generalize hw3 : (W2.alloc (.cells #[.bool false, .int .i64 nt] 123)).drew = w3 at q0 q1 hb3 hz3 ⊢
    clear hw3 v0 v1
    have g0 := (hb3.cell (p := ⟨w.heap.size, 0, none⟩) hz2).trans e0
    have g1 := (hb3.cell (p := ⟨w.heap.size, 1, none⟩) hz2).trans e1
    have g6 := (hb3.cell (p := ⟨p, 6, none⟩) hp2).trans e6
    clear e0 e1 e6
    have hB3 : Below w0.heap.size w0 w3 := hW2.trans (hb3.mono hW2.size)
    have hB3l : Apart lo w w3 := hBl.trans ((belAp hB3))
    have hS3 := hS1.kept hB3 0
    go_wp2_with fail
    refine (come_any lo p wp r nb ts _ ⟨false, nt⟩ w3 ⟨_, S, hS3⟩ hok hnt (Nat.lt_of_lt_of_le hwp (Nat.le_trans hbox.size hB3.size)) (((hbox.trans (hB3.mono hbox.size)).cell (p := ⟨wp, 0, none⟩) hwp).trans hr)).mono ?_
    rintro e w6 ⟨rfl, hS6, hB6⟩
    go_wp2_with fail
    go_ret
    exact ⟨rfl, hS6, hB3l.trans hB6⟩
end
end Go.Proofs.Ytomcffionomidaa
