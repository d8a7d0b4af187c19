/- All deeds, one after the other. -/
import Derived.Test.YtomcffionomidaaGiven2
namespace Go.Proofs.Ytomcffionomidaa
open Go.RowKit
set_option linter.unusedSimpArgs false
set_option linter.unusedVariables false

/-- The floor before deed k, and the code of deed k. -/
def fA (r : Nat) (ts : List Tsk) (f : Fl) (ds : List Dd) : Nat → Fl
  | 0 => f
  | k + 1 => (step r ts (fA r ts f ds k) (ds.getD k ⟨0, 0⟩)).1
def cA (r : Nat) (ts : List Tsk) (f : Fl) (ds : List Dd) (k : Nat) : Int := (step r ts (fA r ts f ds k) (ds.getD k ⟨0, 0⟩)).2
def codesA (r : Nat) (ts : List Tsk) (f : Fl) (ds : List Dd) (n : Nat) : List Int := (List.range n).map (cA r ts f ds)
def doneA (r : Nat) (ts : List Tsk) (f : Fl) (ds : List Dd) : Nat → Nat
  | 0 => 0
  | k + 1 => doneA r ts f ds k + if cA r ts f ds k = 0 then 1 else 0

theorem doneA_le (r : Nat) (ts : List Tsk) (f : Fl) (ds : List Dd) : ∀ n, doneA r ts f ds n ≤ n
  | 0 => Nat.le_refl _
  | n + 1 => by have := doneA_le r ts f ds n; simp only [doneA]; split <;> omega

theorem getD_at {α : Type} {l : List α} {k : Nat} (h : k < l.length) (d : α) : l.getD k d = l[k] := by rw [List.getD_eq_getElem?_getD, List.getElem?_eq_getElem h]; rfl

theorem codesA_succ (r : Nat) (ts : List Tsk) (f : Fl) (ds : List Dd) (n : Nat) : codesA r ts f ds (n + 1) = codesA r ts f ds n ++ [cA r ts f ds n] := by simp [codesA, List.range_succ]
theorem codesA_len (r : Nat) (ts : List Tsk) (f : Fl) (ds : List Dd) (n : Nat) : (codesA r ts f ds n).length = n := by simp [codesA]

theorem okDeeds_at {ds : List Dd} (h : okDeeds ds = true) {k : Nat} (hk : k < ds.length) : okDeed ds[k] = true := by
  unfold okDeeds at h
  rw [List.all_eq_true] at h
  exact h _ (List.getElem_mem hk)

theorem okDeed_a {d : Dd} (h : okDeed d = true) : 0 ≤ d.a := by simp [okDeed] at h; omega

theorem fA_ok {r nb : Nat} {ts : List Tsk} {f : Fl} {ds : List Dd} (h : FlOk r nb ts f) (hd : okDeeds ds = true) : ∀ k, k ≤ ds.length → FlOk r nb ts (fA r ts f ds k)
  | 0, _ => h
  | k + 1, hk => by
    have hk' : k < ds.length := hk
    simp only [fA]
    refine (fA_ok h hd k (by omega)).step ?_
    rw [getD_at hk']
    exact okDeed_a (okDeeds_at hd hk')

theorem step_code {r : Nat} {ts : List Tsk} {f : Fl} {d : Dd} : 0 ≤ (step r ts f d).2 ∧ (step r ts f d).2 ≤ 4 := by
  unfold step
  split
  · split
    · simp
    · split
      · simp
      · split <;> simp
  · split
    · simp
    · split
      · simp
      · unfold wireDo
        split
        · simp
        · split <;> simp

theorem tasksOf_in (bs : List Bat) : ∀ t ∈ tasksOf bs, 0 ≤ t.b ∧ t.b < bs.length ∧ 0 ≤ t.j ∧ t.j < 8 := by
  intro t ht
  simp only [tasksOf, tasksTo, tasksOfBat, List.mem_flatMap, List.mem_range] at ht
  obtain ⟨i, hi, j, hj, h⟩ := ht
  unfold taskOf at h
  split at h
  · simp only [List.mem_singleton] at h; subst h; exact ⟨by show (0 : Int) ≤ i; omega, by show (i : Int) < _; omega, by show (0 : Int) ≤ j; omega, by show (j : Int) < 8; omega⟩
  · simp at h

/-- The reference's deed, whatever valid deed it is. -/
theorem spDo_wire (lo : Nat → Prop) (p wp r nb : Nat) (ts : List Tsk) (f : Fl) (w : World) (hS : ShopAt w lo p 101 [.pointer (some ⟨wp, 0, none⟩)] ts f) (k : Int) (hk : k = 2 ∨ k = 3 ∨ k = 4) (aN : Nat) (s : Fl × Int)
    (hw : Calls Try.prog 117 #[.pointer (some ⟨p, 0, none⟩), .agg #[.int .i64 k, .int .i64 aN]] (w.alloc (.cells #[.int .i64 k, .int .i64 aN] 91)) (DoPost (w.alloc (.cells #[.int .i64 k, .int .i64 aN] 91)) lo p 101 [.pointer (some ⟨wp, 0, none⟩)] ts s)) :
    Calls Try.prog 94 #[.pointer (some ⟨p, 0, none⟩), .agg #[.int .i64 k, .int .i64 aN]] w (DoPost w lo p 101 [.pointer (some ⟨wp, 0, none⟩)] ts s) := by
  have hbox : Below w.heap.size w (w.alloc (.cells #[.int .i64 k, .int .i64 aN] 91)) := (Below.refl _ _).alloc (Nat.le_refl _) _
  have h2 : (k == 1) = false := by simp; omega
  have h3 : (k == 5) = false := by simp; omega
  have h4 : (k == 6) = false := by simp; omega
  obtain ⟨f2, c2⟩ := s
  go_enter Try.func94, Try.ntmps94
  go_wp2_with (go_at_call 117; refine hw.mono ?_; rintro e w1 ⟨rfl, hS1, hB1⟩)
  go_ret
  exact ⟨rfl, hS1, (belAp hbox).trans hB1⟩

theorem spDo_any (lo : Nat → Prop) (p wp r nb : Nat) (ts : List Tsk) (f : Fl) (w : World) (hS : ShopAt w lo p 101 [.pointer (some ⟨wp, 0, none⟩)] ts f) (hok : FlOk r nb ts f) (d : Dd) (hd : okDeed d = true) (hwp : wp < w.heap.size) (hwne : wp ≠ p) (hr : w.cell? ⟨wp, 0, none⟩ = some (.int .i64 r)) :
    Calls Try.prog 94 #[.pointer (some ⟨p, 0, none⟩), .agg (cD d)] w (DoPost w lo p 101 [.pointer (some ⟨wp, 0, none⟩)] ts (step r ts f d)) := by
  obtain ⟨k, a⟩ := d
  simp only [okDeed, Bool.and_eq_true, Bool.or_eq_true, decide_eq_true_eq] at hd
  obtain ⟨⟨⟨k1, k6⟩, a0, a9⟩, hka⟩ := hd
  obtain ⟨aN, rfl⟩ := Int.eq_ofNat_of_zero_le a0
  have hbox : ∀ k : Int, Below w.heap.size w (w.alloc (.cells #[.int .i64 k, .int .i64 aN] 91)) := fun k => (Below.refl _ _).alloc (Nat.le_refl _) _
  have hwp1 : ∀ k : Int, wp < (w.alloc (.cells #[.int .i64 k, .int .i64 aN] 91)).heap.size := fun k => Nat.lt_of_lt_of_le hwp (hbox k).size
  have hr1 : ∀ k : Int, (w.alloc (.cells #[.int .i64 k, .int .i64 aN] 91)).cell? ⟨wp, 0, none⟩ = some (.int .i64 r) := fun k => ((hbox k).cell (p := ⟨wp, 0, none⟩) hwp).trans hr
  have far : ∀ k : Int, k ≠ 1 → k ≠ 5 → k ≠ 6 → f.wire.length ≤ aN → step r ts f ⟨k, aN⟩ = (f, 2) := fun k g1 g2 g3 h1 => by
    have hne : f.wire[aN]? = none := List.getElem?_eq_none h1
    simp only [step, if_neg g1, if_neg g2, if_neg g3, wireDo, Int.toNat_natCast, hne]
  obtain rfl | rfl | rfl | rfl | rfl | rfl : k = 1 ∨ k = 2 ∨ k = 3 ∨ k = 4 ∨ k = 5 ∨ k = 6 := by omega
  · exact spDo_ask lo p wp r nb ts f w hS hok aN
  · refine spDo_wire lo p wp r nb ts f w hS 2 (by omega) aN _ ?_
    rcases Nat.lt_or_ge aN f.wire.length with h1 | h1
    · have hget : f.wire[aN]? = some f.wire[aN] := List.getElem?_eq_getElem h1
      have hst : step r ts f ⟨2, aN⟩ = (pour r ts { f with wire := f.wire.eraseIdx aN } f.wire[aN], 0) := by simp [step, wireDo, hget]
      rw [hst]
      exact spWire_deliver lo p wp r nb ts f _ (hS.kept (hbox 2)) hok aN h1 (hwp1 2) hwne (hr1 2)
    · rw [far 2 (by omega) (by omega) (by omega) h1]
      exact spWire_far lo p wp r nb ts f _ (hS.kept (hbox 2)) hok aN 2 h1
  · refine spDo_wire lo p wp r nb ts f w hS 3 (by omega) aN _ ?_
    rcases Nat.lt_or_ge aN f.wire.length with h1 | h1
    · have hget : f.wire[aN]? = some f.wire[aN] := List.getElem?_eq_getElem h1
      by_cases hc : (f.wire[aN]).back = false ∧ 10 ≤ f.wire.length
      · have hst : step r ts f ⟨3, aN⟩ = (f, 3) := by simp [step, wireDo, hget, hc]
        rw [hst]
        exact spWire_copyFull lo p wp r nb ts f _ (hS.kept (hbox 3)) hok aN h1 hc.1 hc.2
      · have hst : step r ts f ⟨3, aN⟩ = (pour r ts f f.wire[aN], 0) := by
          simp only [step, wireDo, Int.toNat_natCast, hget]
          simp [hc]
        rw [hst]
        refine spWire_copy lo p wp r nb ts f _ (hS.kept (hbox 3)) hok aN h1 (hwp1 3) (hr1 3) ?_
        cases hb : (f.wire[aN]).back
        · simp only [hb, true_and] at hc; omega
        · exact .inl rfl
    · rw [far 3 (by omega) (by omega) (by omega) h1]
      exact spWire_far lo p wp r nb ts f _ (hS.kept (hbox 3)) hok aN 3 h1
  · refine spDo_wire lo p wp r nb ts f w hS 4 (by omega) aN _ ?_
    rcases Nat.lt_or_ge aN f.wire.length with h1 | h1
    · have hget : f.wire[aN]? = some f.wire[aN] := List.getElem?_eq_getElem h1
      have hst : step r ts f ⟨4, aN⟩ = ({ f with wire := f.wire.eraseIdx aN }, 0) := by simp [step, wireDo, hget]
      rw [hst]
      exact spWire_drop lo p wp r nb ts f _ (hS.kept (hbox 4)) hok aN h1
    · rw [far 4 (by omega) (by omega) (by omega) h1]
      exact spWire_far lo p wp r nb ts f _ (hS.kept (hbox 4)) hok aN 4 h1
  · exact spDo_save lo p wp r nb ts f w hS hok aN
  · exact spDo_crash lo p wp r nb ts f w hS hok aN

/-- A shop that is kept, and other blocks that are foreign to it. -/
theorem ShopAt.more {w w' : World} {lo lo' : Nat → Prop} {p : Nat} {pty : TypeId} {hd : List Value} {ts : List Tsk} {f : Fl} (h : ShopAt w lo p pty hd ts f) (hb : Below w.heap.size w w') (hl : ∀ b, lo' b → (lo b ∨ w.heap.size ≤ b) ∧ b < w'.heap.size) : ShopAt w' lo' p pty hd ts f := by
  obtain ⟨o, S, h⟩ := h
  have hk := h.kept hb 0
  refine ⟨_, S, { hk with foreign := fun b hb' => ?_, lo := fun b hb' => (hl b hb').2 }⟩
  rcases (hl b hb').1 with h1 | h1
  · exact hk.foreign b h1
  · exact oNew_ge h1

/-- .. or one that is foreign is changed. -/
theorem ShopAt.aside {w w' : World} {lo lo' : Nat → Prop} {p : Nat} {pty : TypeId} {hd : List Value} {ts : List Tsk} {f : Fl} {row : Option Nat} (h : ShopAt w lo p pty hd ts f) (hg : w.grownBy w' row) (hr : ∀ k, row = some k → lo k) (hl : ∀ b, lo' b → (lo b ∨ w.heap.size ≤ b) ∧ b < w'.heap.size) : ShopAt w' lo' p pty hd ts f := by
  obtain ⟨o, S, h⟩ := h
  have hm : Moves o (oNew o w.heap.size 0) 0 w w' := Moves.grown hg (fun g e => h.foreign g (hr g e)) 0
  refine ⟨oNew o w.heap.size 0, S, ⟨fun b hb' => ?_, fun b hb' => (hl b hb').2, by rw [oNew_lt h.lt]; exact h.hp, by rw [(hm.2 p h.lt).2 (by have := h.hp; omega)]; exact h.block, h.tasks.moves hm (by omega), h.vats.moves hm (by omega), h.books.moves hm (by omega), h.hl, fun i v l hv hl => (h.book i v l hv hl).moves hm (by omega), h.known.moves hm (by omega), h.saved.moves hm (by omega), h.wire.moves hm (by omega)⟩⟩
  rcases (hl b hb').1 with h1 | h1
  · rw [oNew_lt (h.lo b h1)]; exact h.foreign b h1
  · exact oNew_ge h1
end Go.Proofs.Ytomcffionomidaa
