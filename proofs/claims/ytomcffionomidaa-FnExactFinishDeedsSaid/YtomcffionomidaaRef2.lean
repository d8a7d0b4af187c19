/- 'RefusedDeed' of the reference. -/
import Derived.Test.YtomcffionomidaaRef
namespace Go.Proofs.Ytomcffionomidaa
open Go.RowKit
set_option linter.unusedSimpArgs false
set_option linter.unusedVariables false

set_option maxRecDepth 100000 in
set_option maxHeartbeats 4000000 in
theorem specRefused_any (r : Int) (A : Option Addr) (c : Nat) (bs : List Bat) (A2 : Option Addr) (c2 : Nat) (ds : List Dd) (w : World) (h : WorksAt w A c bs) (hd : DeedsAt w A2 c2 ds) (x y z : Int) (hres : RefRes r bs ds x y z) :
    Calls Try.prog 20 #[.agg #[.int .i64 r, .slice A bs.length c], .slice A2 ds.length c2] w (Ref3 w x y z) := by
  have hbox : Below w.heap.size w (w.alloc (.cells #[.int .i64 r, .slice A bs.length c] 31)) := (Below.refl _ _).alloc (Nat.le_refl _) _
  have c0 : (w.alloc (.cells #[.int .i64 r, .slice A bs.length c] 31)).cell? ⟨w.heap.size, 0, none⟩ = some (.int .i64 r) := by rw [World.cell?_alloc_at _ _ _ _ rfl]; rfl
  have c1 : (w.alloc (.cells #[.int .i64 r, .slice A bs.length c] 31)).cell? ⟨w.heap.size, 1, none⟩ = some (.slice A bs.length c) := by rw [World.cell?_alloc_at _ _ _ _ rfl]; rfl
  have h0 := h.below hbox
  have hd0 := hd.below hbox
  have hz : w.heap.size < (w.alloc (.cells #[.int .i64 r, .slice A bs.length c] 31)).heap.size := by simp
  generalize hw0 : w.alloc (.cells #[.int .i64 r, .slice A bs.length c] 31) = w0 at hbox c0 c1 h0 hd0 hz
  have hck := l07Given_any w.heap.size r A c bs A2 c2 ds w0 hz c0 c1 h0 hd0
  by_cases hg : givenCode r bs ds = 0
  · rw [hg] at hck
    obtain ⟨hok, hds, hl, rn, rfl, hr1, hr4⟩ := given_ok hg
    obtain ⟨f0, hf00⟩ : ∃ f0, floor0 rn bs.length (tasksOf bs).length = f0 := ⟨_, rfl⟩
    have HR : Hid ((∃ i : Nat, i < ds.length ∧ (∀ j, j < i → cA rn (tasksOf bs) f0 ds j = 0) ∧ cA rn (tasksOf bs) f0 ds i ≠ 0 ∧ x = i ∧ y = cA rn (tasksOf bs) f0 ds i ∧ z = 0) ∨ ((∀ j, j < ds.length → cA rn (tasksOf bs) f0 ds j = 0) ∧ x = 0 ∧ y = 0 ∧ z = 6)) := by
      rcases hres with ⟨h1, -⟩ | ⟨-, h2⟩ | ⟨-, h3⟩
      · exact absurd hg h1
      · left; simpa only [cB0, Int.toNat_natCast, hf00] using h2
      · right; simpa only [cB0, Int.toNat_natCast, hf00] using h3
    clear hres hg
    go_enter Try.func20, Try.ntmps20
    go_wp2_with fail
    clear hw0
    refine hck.mono ?_
    rintro e w1 ⟨rfl, hb1⟩
    have d0 := (hb1.cell (p := ⟨w.heap.size, 0, none⟩) hz).trans c0
    have d1 := (hb1.cell (p := ⟨w.heap.size, 1, none⟩) hz).trans c1
    have hz0 := hbox.size
    have hz1 := hb1.size
    have hB1 : Below w.heap.size w w1 := hbox.trans (hb1.mono hz0)
    have hpl := play_any w.heap.size rn A c bs A2 c2 ds w1 (by omega) d0 d1 (h0.below hb1) (hd0.below hb1) hok hds hl
    rw [hf00] at hpl
    go_wp2_with (go_at_call 52; refine hpl.mono ?_; rintro e w2 ⟨p, v, rfl, hS2, hR2, hb2⟩; obtain ⟨Av, cv, ev, -, -⟩ := hR2.form; rw [List.length_map, codesA_len] at ev; subst ev)
    have hB2 : Below w.heap.size w w2 := hB1.trans (hb2.mono (by omega))
    clear hS2 hb1 hb2 c0 c1 d0 d1 h0 hd0
    go_loopg [10] ds.length (fun g i wr => ∃ k : Nat, k ≤ ds.length ∧ g = ds.length - k ∧ i = .int .i64 k ∧ Hid (∀ j, j < k → cA rn (tasksOf bs) f0 ds j = 0) ∧ wr = w2)
    case atStart => exact ⟨0, by omega, by omega, by go_num, fun j hj => by omega, rfl⟩
    case round =>
      obtain ⟨k, hk, rfl, rfl, HZ, rfl⟩ := hrel
      by_cases hlt : k < ds.length
      · obtain ⟨g, cg, eg, -, -, hcell⟩ := hR2.one_at (k := k) (by rw [List.length_map, codesA_len]; exact hlt)
        rw [List.length_map, codesA_len] at eg
        have hck0 := hcell (.int .i64 (cA rn (tasksOf bs) f0 ds k)) (by simp [codesA, cI])
        simp only [Value.slice.injEq] at eg
        obtain ⟨rfl, -, rfl⟩ := eg
        clear hcell
        obtain ⟨cc, hcc⟩ : ∃ cc, cA rn (tasksOf bs) f0 ds k = cc := ⟨_, rfl⟩
        rw [hcc] at hck0
        have HC := Lib.hid hcc
        clear hcc
        by_cases hc0 : cc = 0
        · subst hc0
          go_wp2
          go_roundg (ds.length - (k + 1))
          case measure => omega
          case rel =>
            refine ⟨k + 1, by omega, rfl, by go_num, fun j hj => ?_, rfl⟩
            by_cases e : j = k
            · rw [e]; exact HC.out
            · exact HZ.out j (by omega)
        · have e0 : (cc != 0) = true := by simp; omega
          have hfin : x = k ∧ y = cc ∧ z = 0 := by
            rcases HR.out with ⟨i, h1, h2, h3, h4, h5, h6⟩ | ⟨h1, -⟩
            · have : i = k := by
                rcases Nat.lt_trichotomy i k with e | e | e
                · exact absurd (HZ.out i e) h3
                · exact e
                · exact absurd (HC.out.symm.trans (h2 k e)) hc0
              subst this
              exact ⟨h4, h5.trans HC.out, h6⟩
            · exact absurd (HC.out.symm.trans (h1 k hlt)) hc0
          have HX := Lib.hid hfin
          clear hfin hc0
          go_wp2
          go_quiet (fail)
          go_wp2
          go_ret3
          obtain ⟨rfl, rfl, rfl⟩ := HX.out
          exact ⟨rfl, by (repeat (first | (with_reducible exact Below.refl _ _) | (with_reducible assumption) | ((with_reducible refine Below.setCell ?_ ?_ _); rotate_left; focus (first | (with_reducible exact Nat.le_refl _) | omega | (simp; done) | (simp; omega) | (simp at *; omega))) | ((with_reducible refine Below.alloc ?_ ?_ _); rotate_left; focus (first | (with_reducible exact Nat.le_refl _) | omega | (simp; done) | (simp; omega) | (simp at *; omega))) | (with_reducible refine Below.drew ?_) | (with_reducible refine below_drewN ?_ _) | ((with_reducible refine Below.trans ?_ (Below.mono hB2 ?_)); rotate_left; focus (first | (with_reducible exact Nat.le_refl _) | omega | (simp; done) | (simp; omega) | (simp at *; omega)))))⟩
      · obtain rfl : k = ds.length := by omega
        go_wp2
        go_ret3
        have hfin : x = 0 ∧ y = 0 ∧ z = 6 := by
          rcases HR.out with ⟨i, h1, h2, h3, h4, h5, h6⟩ | ⟨-, h⟩
          · exact absurd (HZ.out i h1) h3
          · exact h
        obtain ⟨rfl, rfl, rfl⟩ := hfin
        exact ⟨rfl, hB2⟩
  · have e0 : (givenCode r bs ds != 0) = true := by simp; exact hg
    have hfin : x = 0 ∧ y = 0 ∧ z = givenCode r bs ds := by
      rcases hres with ⟨-, h⟩ | ⟨h, -⟩ | ⟨h, -⟩
      · exact h
      · exact absurd h hg
      · exact absurd h hg
    obtain ⟨rfl, rfl, rfl⟩ := hfin
    clear hres hg
    go_enter Try.func20, Try.ntmps20
    go_wp2_with fail
    clear hw0
    refine hck.mono ?_
    rintro e w1 ⟨rfl, hb1⟩
    go_wp2
    go_ret3
    exact ⟨rfl, hbox.trans (hb1.mono hbox.size)⟩
end Go.Proofs.Ytomcffionomidaa
