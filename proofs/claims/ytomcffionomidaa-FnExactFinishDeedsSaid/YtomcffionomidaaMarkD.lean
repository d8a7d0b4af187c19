/- Marks on deeds. -/
import Derived.Test.YtomcffionomidaaFin3
import Derived.Test.YtomcffionomidaaMark3
namespace Go.Proofs.Ytomcffionomidaa
open Go.RowKit
set_option linter.unusedSimpArgs false
set_option linter.unusedVariables false

/-- The deeds that bear the marks from s on. -/
def mD (s : Int) (n : Nat) : List Dd := (List.range n).map fun i : Nat => (⟨s + 2 * (i : Int), s + 2 * (i : Int) + 1⟩ : Dd)
theorem mD_len (s : Int) (n : Nat) : (mD s n).length = n := by simp [mD]
theorem mD_at (s : Int) (n k : Nat) (h : k < n) : ((mD s n).map cD)[k]? = some #[.int .i64 (s + 2 * k), .int .i64 (s + 2 * k + 1)] := by simp [mD, h, cD]
theorem mD_all (s : Int) (n : Nat) : ∀ x ∈ (mD s n).map cD, x.size = 2 := by
  intro x hx
  obtain ⟨t, _, rfl⟩ := List.mem_map.1 hx
  rfl

theorem Fill.step2 {w : World} {g n k : Nat} {xs : List (Array Value)} (h : Fill w g 2 n xs k) (hall : ∀ x ∈ xs, x.size = 2) (hn : xs.length = n) (hk : k < n) {u v : Value} (hx : xs[k]? = some #[u, v]) :
    Fill ((w.setCell ⟨g, k * 2, none⟩ u).setCell ⟨g, k * 2 + 1, none⟩ v) g 2 n xs (k + 1) := by
  have hk' : k < xs.length := by omega
  have he : xs[k] = #[u, v] := by rw [List.getElem?_eq_getElem hk'] at hx; injection hx
  have hsz : (xs[k]).size = 2 := hall _ (List.getElem_mem hk')
  have ht : w.there g (k * 2) (xs[k]).size := there_sub h.2.1 (by omega) (by omega)
  have hw : ((w.setCell ⟨g, k * 2, none⟩ u).setCell ⟨g, k * 2 + 1, none⟩ v) = w.setCells g (k * 2) (xs[k]).toList := by rw [he]; rfl
  rw [hw]
  refine ⟨by rw [setCells_size]; exact h.1, World.there_setCells h.2.1 _ _ _, fun i x hik hx' => ?_⟩
  by_cases e : i = k
  · subst e
    rw [hx, ← he] at hx'
    cases hx'
    exact World.rangeAt_setCells_same w g (i * 2) _ (by simpa using ht)
  · have hx3 : x.size = 2 := hall _ (List.mem_of_getElem? hx')
    exact World.rangeAt_setCells_apart (h.2.2 i x (by omega) hx') g (k * 2) _ (.inr (.inl (by simp; omega)))

def MdR (w : World) (s : Int) (g n : Nat) (G : Nat) (k i : Value) (wr : World) : Prop :=
  ∃ (j : Nat), j ≤ n ∧ G = n - j ∧ i = .int .i64 j ∧ k = .int .i64 (s + 2 * j) ∧ Fill wr g 2 n ((mD s n).map cD) j ∧ Only w g wr

def MdPost (w : World) (s : Int) (lo hi : Nat) (A : Option Addr) (n : Nat) (e : Ending) (w' : World) : Prop :=
  e = .returned (.int .i64 (s + 2 * n)) ∧ OwnIn w' lo hi 2 A ((mD s n).map cD) ∧ Kept lo hi w w'

set_option maxRecDepth 100000 in
theorem markDeedS_in (s : Int) (hs0 : 0 ≤ s) (hs1 : s ≤ 100000000) (lo hi : Nat) (A : Option Addr) (n c : Nat) (xs : List (Array Value)) (w : World) (hxn : n = xs.length) (hn : n ≤ 1048576) (hA : OwnIn w lo hi 2 A xs) :
    Calls Try.prog 31 #[.slice A n c, .int .i64 s] w (MdPost w s lo hi A n) := by
  by_cases h0 : 0 < n
  · obtain ⟨g, rfl, h1, hh, h2, -, ht⟩ := hA.2 (by omega)
    rw [← hxn] at ht
    clear hA hxn xs
    go_enter Try.func31, Try.ntmps31
    go_wp2
    go_loopg [1, 5] n (MdR w s g n)
    case atStart => exact ⟨0, by omega, by omega, by go_num, by go_num, ⟨h2, ht, fun i x hi => by omega⟩, Only.refl _ _⟩
    case round =>
      obtain ⟨k, hk, rfl, rfl, rfl, hF, hb⟩ := hrel
      by_cases hlt : k < n
      · have htk := hF.2.1
        obtain ⟨v0, hv0, hf0⟩ := there_at htk (i := k * 2) (by omega)
        obtain ⟨v1, hv1, hf1⟩ := there_at htk (i := k * 2 + 1) (by omega)
        clear htk
        go_wp2
        go_roundg (n - (k + 1))
        case measure => omega
        case rel => exact ⟨k + 1, by omega, rfl, by go_num, by go_num, hF.step2 (mD_all s n) (by simp [mD_len]) hlt (by rw [mD_at s n k hlt]), (hb.set _ _).set _ _⟩
      · go_wp2
        go_ret
        obtain rfl : k = n := by omega
        refine ⟨rfl, ⟨mD_all s k, fun _ => ⟨g, rfl, h1, hh, hF.1, fun i x hx => hF.2.2 i x (by have := (List.getElem?_eq_some_iff.1 hx).1; simpa [mD_len] using this) hx, by simpa [mD_len] using hF.2.1⟩⟩, hb.kept h1 hh⟩
  · obtain rfl : n = 0 := by omega
    clear hn h0
    go_enter Try.func31, Try.ntmps31
    go_wp2
    refine wp_loop_rounds 1 ?_
    rw [rounds_succ]
    go_wp2
    go_ret
    exact ⟨by simp, ⟨by simp [mD], fun h => by simp [mD] at h⟩, Kept.refl _ _ _⟩

def HdR (w : World) (n : Nat) (G : Nat) (k i : Value) (wr : World) : Prop :=
  ∃ (j : Nat), j ≤ n ∧ G = n - j ∧ i = .int .i64 j ∧ k = .int .i64 (1 + 2 * j) ∧ wr = w

set_option maxRecDepth 100000 in
theorem heldDeedS_any (A : Option Addr) (n c : Nat) (w : World) (hn : n ≤ 1048576) (hA : SlAt w 2 A ((mD 1 n).map cD)) :
    Calls Try.prog 32 #[.slice A n c, .int .i64 1] w fun e w' => e = .returned (.int .i64 (1 + 2 * n)) ∧ w = w' := by
  go_enter Try.func32, Try.ntmps32
  go_wp2
  go_loopg [1, 5] n (HdR w n)
  case atStart => exact ⟨0, by omega, by omega, by go_num, by go_num, rfl⟩
  case round =>
    obtain ⟨k, hk, rfl, rfl, rfl, rfl⟩ := hrel
    by_cases hlt : k < n
    · obtain ⟨g, o, rfl, _, hc⟩ := hA.2 (by simpa [mD_len] using by omega)
      have hr := hc k _ (mD_at 1 n k hlt)
      have c0 : wr.cell? ⟨g, o + k * 2, none⟩ = some (.int .i64 (1 + 2 * k)) := hr 0 _ rfl
      have c1 : wr.cell? ⟨g, o + k * 2 + 1, none⟩ = some (.int .i64 (1 + 2 * k + 1)) := hr 1 _ rfl
      go_wp2
      go_roundg (n - (k + 1))
      case measure => omega
      case rel => exact ⟨k + 1, by omega, rfl, by go_num, by go_num, rfl⟩
    · go_wp2
      go_ret
      obtain rfl : k = n := by omega
      exact ⟨rfl, rfl⟩
end Go.Proofs.Ytomcffionomidaa
