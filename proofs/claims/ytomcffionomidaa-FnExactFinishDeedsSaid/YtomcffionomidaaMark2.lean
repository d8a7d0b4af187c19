/- The marks of works and tasks, and that they are held. -/
import Derived.Test.YtomcffionomidaaMark
namespace Go.Proofs.Ytomcffionomidaa
open Go.RowKit

set_option maxRecDepth 100000 in
theorem markBatchS_own (base : Nat) (A : Option Addr) (c : Nat) (xs : List (Array Value)) (w : World) (hn : xs.length ≤ 1048576) (hA : OwnSl w base 9 A xs) (hb : base ≤ w.heap.size) :
    Calls Try.prog 50 #[.slice A xs.length c, .int .i64 1] w fun e w' => e = .returned (.int .i64 (1 + 9 * xs.length)) ∧ Below base w w' := by
  by_cases h0 : 0 < xs.length
  · obtain ⟨g, rfl, h1, h2, _, ht⟩ := hA.2 h0
    exact (markBatchS_any g xs.length c w hn h2 ht).mono fun e w' ⟨he, ho⟩ => ⟨he, ho.toBelow h1 hb⟩
  · obtain rfl : xs = [] := List.eq_nil_of_length_eq_zero (by omega)
    clear hn hA h0
    simp only [List.length_nil]
    go_enter Try.func50, Try.ntmps50
    go_wp2
    refine wp_loop_rounds 1 ?_
    rw [rounds_succ]
    go_wp2
    go_ret
    exact ⟨rfl, Below.refl _ _⟩

set_option maxRecDepth 100000 in
theorem markWorks_any (r : Int) (base : Nat) (A : Option Addr) (c : Nat) (xs : List (Array Value)) (w : World) (hn : xs.length ≤ 1048576) (hA : OwnSl w base 9 A xs) (hb : base ≤ w.heap.size) :
    Calls Try.prog 16 #[.agg #[.int .i64 r, .slice A xs.length c], .int .i64 1] w fun e w' => e = .returned (.int .i64 (1 + 9 * xs.length)) ∧ Below base w w' := by
  have hbel : ∀ o, Below w.heap.size w (w.alloc o) := fun o => (Below.refl _ _).alloc (Nat.le_refl _) _
  go_enter Try.func16, Try.ntmps16
  go_wp2_with (go_at_call 50; refine (markBatchS_own base _ _ _ _ hn (hA.below (hbel _)) (by simp; omega)).mono ?_; rintro e w1 ⟨rfl, hb1⟩)
  go_ret
  exact ⟨rfl, ((hbel _).mono hb).trans hb1⟩

/-- The tasks that bear the marks from 1 on. -/
def mT (n : Nat) : List Tsk := (List.range n).map fun i : Nat => (⟨1 + 3 * (i : Int), 2 + 3 * (i : Int), 3 + 3 * (i : Int)⟩ : Tsk)

theorem mT_len (n : Nat) : (mT n).length = n := by simp [mT]
theorem mT_at (n k : Nat) (h : k < n) : ((mT n).map cT)[k]? = some #[.int .i64 (1 + 3 * k), .int .i64 (2 + 3 * k), .int .i64 (3 + 3 * k)] := by simp [mT, h, cT]
theorem mT_all (n : Nat) : ∀ x ∈ (mT n).map cT, x.size = 3 := by
  intro x hx
  obtain ⟨t, _, rfl⟩ := List.mem_map.1 hx
  rfl

def MtR (w : World) (base g n : Nat) (G : Nat) (k i : Value) (wr : World) : Prop :=
  ∃ (j : Nat), j ≤ n ∧ G = n - j ∧ i = .int .i64 j ∧ k = .int .i64 (1 + 3 * j) ∧ Fill wr g 3 n ((mT n).map cT) j ∧ Below base w wr

theorem Fill.step3 {w : World} {g n k : Nat} {xs : List (Array Value)} (h : Fill w g 3 n xs k) (hall : ∀ x ∈ xs, x.size = 3) (hn : xs.length = n) (hk : k < n) {u v z : Value} (hx : xs[k]? = some #[u, v, z]) :
    Fill (((w.setCell ⟨g, k * 3, none⟩ u).setCell ⟨g, k * 3 + 1, none⟩ v).setCell ⟨g, k * 3 + 2, none⟩ z) g 3 n xs (k + 1) := by
  have hk' : k < xs.length := by omega
  have he : xs[k] = #[u, v, z] := by rw [List.getElem?_eq_getElem hk'] at hx; injection hx
  have hsz : (xs[k]).size = 3 := hall _ (List.getElem_mem hk')
  have ht : w.there g (k * 3) (xs[k]).size := there_sub h.2.1 (by omega) (by omega)
  have hw : (((w.setCell ⟨g, k * 3, none⟩ u).setCell ⟨g, k * 3 + 1, none⟩ v).setCell ⟨g, k * 3 + 2, none⟩ z) = w.setCells g (k * 3) (xs[k]).toList := by rw [he]; rfl
  rw [hw]
  refine ⟨by rw [setCells_size]; exact h.1, World.there_setCells h.2.1 _ _ _, fun i x hik hx' => ?_⟩
  by_cases e : i = k
  · subst e
    rw [hx, ← he] at hx'
    cases hx'
    exact World.rangeAt_setCells_same w g (i * 3) _ (by simpa using ht)
  · have hx3 : x.size = 3 := hall _ (List.mem_of_getElem? hx')
    exact World.rangeAt_setCells_apart (h.2.2 i x (by omega) hx') g (k * 3) _ (.inr (.inl (by simp; omega)))

set_option maxRecDepth 100000 in
theorem markTaskS_own (base : Nat) (A : Option Addr) (c : Nat) (xs : List (Array Value)) (w : World) (hn : xs.length ≤ 1048576) (hA : OwnSl w base 3 A xs) :
    Calls Try.prog 17 #[.slice A xs.length c, .int .i64 1] w fun e w' => e = .returned (.int .i64 (1 + 3 * xs.length)) ∧ OwnSl w' base 3 A ((mT xs.length).map cT) ∧ Below base w w' := by
  by_cases h0 : 0 < xs.length
  · obtain ⟨g, rfl, h1, h2, -, ht⟩ := hA.2 h0
    generalize hN : xs.length = n at hn ht h0
    clear hA hN xs
    go_enter Try.func17, Try.ntmps17
    go_wp2
    go_loopg [1, 5] n (MtR w base g n)
    case atStart => exact ⟨0, by omega, by omega, by go_num, by go_num, ⟨h2, ht, fun i x hi => by omega⟩, Below.refl _ _⟩
    case round =>
      obtain ⟨k, hk, rfl, rfl, rfl, hF, hb⟩ := hrel
      by_cases hlt : k < n
      · have htk := hF.2.1
        obtain ⟨v0, hv0, hf0⟩ := there_at htk (i := k * 3) (by omega)
        obtain ⟨v1, hv1, hf1⟩ := there_at htk (i := k * 3 + 1) (by omega)
        obtain ⟨v2, hv2, hf2⟩ := there_at htk (i := k * 3 + 2) (by omega)
        clear htk
        go_wp2
        go_roundg (n - (k + 1))
        case measure => omega
        case rel =>
          refine ⟨k + 1, by omega, rfl, by go_num, by go_num, ?_, ((hb.setCell (p := ⟨g, k * 3, none⟩) h1 _).setCell (p := ⟨g, k * 3 + 1, none⟩) h1 _).setCell (p := ⟨g, k * 3 + 2, none⟩) h1 _⟩
          refine hF.step3 (mT_all n) (by simp [mT_len]) hlt ?_
          rw [mT_at n k hlt, show (1 : Int) + 3 * k + 1 = 2 + 3 * k by omega, show (2 : Int) + 3 * k + 1 = 3 + 3 * k by omega]
      · go_wp2
        go_ret
        obtain rfl : k = n := by omega
        exact ⟨rfl, hF.own (mT_all k) (by simp [mT_len]) h1, hb⟩
  · obtain rfl : xs = [] := List.eq_nil_of_length_eq_zero (by omega)
    clear hn hA h0
    simp only [List.length_nil]
    go_enter Try.func17, Try.ntmps17
    go_wp2
    refine wp_loop_rounds 1 ?_
    rw [rounds_succ]
    go_wp2
    go_ret
    exact ⟨rfl, ⟨by simp [mT], fun h => by simp [mT] at h⟩, Below.refl _ _⟩

def HtR (w : World) (n : Nat) (G : Nat) (k i : Value) (wr : World) : Prop :=
  ∃ (j : Nat), j ≤ n ∧ G = n - j ∧ i = .int .i64 j ∧ k = .int .i64 (1 + 3 * j) ∧ wr = w

set_option maxRecDepth 100000 in
theorem heldTaskS_any (A : Option Addr) (n c : Nat) (w : World) (hn : n ≤ 1048576) (hA : SlAt w 3 A ((mT n).map cT)) :
    Calls Try.prog 18 #[.slice A n c, .int .i64 1] w fun e w' => e = .returned (.int .i64 (1 + 3 * n)) ∧ w = w' := by
  go_enter Try.func18, Try.ntmps18
  go_wp2
  go_loopg [1, 5] n (HtR w n)
  case atStart => exact ⟨0, by omega, by omega, by go_num, by go_num, rfl⟩
  case round =>
    obtain ⟨k, hk, rfl, rfl, rfl, rfl⟩ := hrel
    by_cases hlt : k < n
    · obtain ⟨g, o, rfl, _, hc⟩ := hA.2 (by simpa [mT_len] using by omega)
      have hr := hc k _ (mT_at n k hlt)
      have c0 : wr.cell? ⟨g, o + k * 3, none⟩ = some (.int .i64 (1 + 3 * k)) := hr 0 _ rfl
      have c1 : wr.cell? ⟨g, o + k * 3 + 1, none⟩ = some (.int .i64 (1 + 3 * k + 1)) := by rw [show (1 : Int) + 3 * k + 1 = 2 + 3 * k by omega]; exact hr 1 _ rfl
      have c2 : wr.cell? ⟨g, o + k * 3 + 2, none⟩ = some (.int .i64 (1 + 3 * k + 1 + 1)) := by rw [show (1 : Int) + 3 * k + 1 + 1 = 3 + 3 * k by omega]; exact hr 2 _ rfl
      go_wp2
      go_roundg (n - (k + 1))
      case measure => omega
      case rel => exact ⟨k + 1, by omega, rfl, by go_num, by go_num, rfl⟩
    · go_wp2
      go_ret
      obtain rfl : k = n := by omega
      exact ⟨rfl, rfl⟩
end Go.Proofs.Ytomcffionomidaa
