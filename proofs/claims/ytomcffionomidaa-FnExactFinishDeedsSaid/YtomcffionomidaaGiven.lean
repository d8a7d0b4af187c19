/- What is given: valid works, valid deeds, not too many. -/
import Derived.Test.YtomcffionomidaaBegin2
namespace Go.Proofs.Ytomcffionomidaa
open Go.RowKit
set_option linter.unusedSimpArgs false
set_option linter.unusedVariables false

/-- The whole of a deed's walk: the box first. -/
theorem validDeed_any (d : Dd) (w : World) : Calls Try.prog 97 #[.agg (cD d)] w (BoolBel (okDeed d) w) := by
  obtain ⟨k, a⟩ := d
  have hbel : Below w.heap.size w (w.alloc (.cells #[.int .i64 k, .int .i64 a] 91)) := (Below.refl _ _).alloc (Nat.le_refl _) _
  unfold cD
  by_cases h1 : 1 ≤ k ∧ k ≤ 6
  · have e1 : (decide (1 ≤ k) && decide (k ≤ 6)) = true := by simp; omega
    by_cases h2 : 0 ≤ a ∧ a ≤ 999
    · have e2 : (decide (0 ≤ a) && decide (a ≤ 999)) = true := by simp; omega
      by_cases h3 : k < 5
      · have e3 : okDeed ⟨k, a⟩ = true := by simp [okDeed]; omega
        have e4 : decide (k < 5) = true := by simp; omega
        rw [e3]
        go_enter Try.func97, Try.ntmps97
        go_wp2_with (go_at_call 59; refine (inRange_any _ _ _ _).mono ?_; rintro e w1 ⟨rfl, rfl⟩)
        go_ret
        exact ⟨rfl, hbel⟩
      · have e4 : decide (k < 5) = false := by simp; omega
        by_cases h4 : a = 0
        · have e3 : okDeed ⟨k, a⟩ = true := by simp [okDeed]; omega
          have e5 : (a == 0) = true := by simp; omega
          rw [e3]
          clear h4
          go_enter Try.func97, Try.ntmps97
          go_wp2_with (go_at_call 59; refine (inRange_any _ _ _ _).mono ?_; rintro e w1 ⟨rfl, rfl⟩)
          go_ret
          exact ⟨rfl, hbel⟩
        · have e3 : okDeed ⟨k, a⟩ = false := by simp [okDeed]; omega
          have e5 : (a == 0) = false := by simp; omega
          rw [e3]
          clear h4
          go_enter Try.func97, Try.ntmps97
          go_wp2_with (go_at_call 59; refine (inRange_any _ _ _ _).mono ?_; rintro e w1 ⟨rfl, rfl⟩)
          go_ret
          exact ⟨rfl, hbel⟩
    · have e2 : (decide (0 ≤ a) && decide (a ≤ 999)) = false := by simp; omega
      have e3 : okDeed ⟨k, a⟩ = false := by simp [okDeed]; omega
      rw [e3]
      go_enter Try.func97, Try.ntmps97
      go_wp2_with (go_at_call 59; refine (inRange_any _ _ _ _).mono ?_; rintro e w1 ⟨rfl, rfl⟩)
      go_ret
      exact ⟨rfl, hbel⟩
  · have e1 : (decide (1 ≤ k) && decide (k ≤ 6)) = false := by simp; omega
    have e3 : okDeed ⟨k, a⟩ = false := by simp [okDeed]; omega
    rw [e3]
    go_enter Try.func97, Try.ntmps97
    go_wp2_with (go_at_call 59; refine (inRange_any _ _ _ _).mono ?_; rintro e w1 ⟨rfl, rfl⟩)
    go_ret
    exact ⟨rfl, hbel⟩

theorem badDeed_is {d : Dd} {b : Bool} (h : okDeed d = b) (w : World) : Calls Try.prog 96 #[.agg (cD d)] w (BoolBel (!b) w) := by
  subst h
  have hbel : Below w.heap.size w (w.alloc (.cells (cD d) 91)) := (Below.refl _ _).alloc (Nat.le_refl _) _
  have hr : (w.alloc (.cells (cD d) 91)).rangeAt w.heap.size 0 (cD d).toList := fun j v hv => by rw [World.cell?_alloc_at _ _ _ _ rfl]; simpa using hv
  have hl := (later_row (P := Try.prog) (w := w.alloc (.cells (cD d) 91)) 91 (cD d) Try.underlying91 rfl (by kernel_rfl) (by simp) hr) _ (Below.refl _ _)
  go_enter Try.func96, Try.ntmps96
  go_wp2_with (first | ((with_reducible refine wpList_load_at (ty := 91) ?_); refine ⟨_, hl, ?_⟩) | (go_at_call 97; refine (validDeed_any d _).mono ?_; rintro e w1 ⟨rfl, hb1⟩))
  go_ret
  exact ⟨rfl, hbel.trans (hb1.mono (by simp))⟩

def okDeeds (ds : List Dd) : Bool := ds.all okDeed
theorem okDeeds_no {ds : List Dd} {k : Nat} (hk : k < ds.length) (h : okDeed ds[k] = false) : okDeeds ds = false := by
  unfold okDeeds
  rw [List.all_eq_false]
  exact ⟨_, List.getElem_mem hk, by simp [h]⟩
theorem okDeeds_yes {ds : List Dd} (h : ∀ j (h : j < ds.length), okDeed ds[j] = true) : okDeeds ds = true := by
  unfold okDeeds
  rw [List.all_eq_true]
  intro d hd
  obtain ⟨j, hj, rfl⟩ := List.getElem_of_mem hd
  exact h j hj

def FoundDeed (ds : List Dd) (w : World) (e : Ending) (w' : World) : Prop := ∃ n : Int, e = .returned (.int .i64 n) ∧ (decide (0 ≤ n) = !okDeeds ds) ∧ Below w.heap.size w w'

set_option maxRecDepth 100000 in
theorem indexDeed_any (A : Option Addr) (c : Nat) (ds : List Dd) (w : World) (hA : SlAt w 2 A (ds.map cD)) (hn : ds.length ≤ 140737488355328) :
    Calls Try.prog 118 #[.slice A ds.length c, .func (.func 96) #[] #[]] w (FoundDeed ds w) := by
  go_enter Try.func118, Try.ntmps118
  go_wp2
  go_loopg [8] ds.length (fun g i wr => ∃ k : Nat, k ≤ ds.length ∧ g = ds.length - k ∧ i = .int .i64 k ∧ Hid (∀ j (h : j < ds.length), j < k → okDeed ds[j] = true) ∧ Below w.heap.size w wr)
  case atStart => exact ⟨0, by omega, by omega, by go_num, fun j h hj => by omega, Below.refl _ _⟩
  case round =>
    obtain ⟨k, hk, rfl, rfl, H, hb⟩ := hrel
    by_cases hlt : k < ds.length
    · obtain ⟨ga, oa, rfl, -, -, hl⟩ := (hA.below hb).elem (P := Try.prog) (k := k) (by simpa using hlt) 91 Try.underlying91 rfl (by kernel_rfl)
      have hl1 := hl wr (Below.refl _ _)
      simp only [List.getElem_map] at hl1
      clear hl
      by_cases h1 : okDeed ds[k] = true
      · go_wp2_with (first | ((with_reducible refine wpList_load_at (ty := 91) ?_); refine ⟨_, hl1, ?_⟩) | (go_at_call 96; refine (badDeed_is h1 _).mono ?_; rintro e w1 ⟨rfl, hb1⟩))
        go_roundg (ds.length - (k + 1))
        case measure => omega
        case rel =>
          refine ⟨k + 1, by omega, rfl, by go_num, fun j h hj => ?_, Bel.then hb hb1⟩
          by_cases e : j = k
          · subst e; exact h1
          · exact H.out j h (by omega)
      · have h1' : okDeed ds[k] = false := by simpa using h1
        have hno := okDeeds_no hlt h1'
        clear h1
        go_wp2_with (first | ((with_reducible refine wpList_load_at (ty := 91) ?_); refine ⟨_, hl1, ?_⟩) | (go_at_call 96; refine (badDeed_is h1' _).mono ?_; rintro e w1 ⟨rfl, hb1⟩))
        go_ret
        exact ⟨_, rfl, by rw [hno]; simp, Bel.then hb hb1⟩
    · obtain rfl : k = ds.length := by omega
      have hno := okDeeds_yes (ds := ds) (fun j h => H.out j h (by omega))
      go_wp2
      go_ret
      exact ⟨_, rfl, by rw [hno]; simp, hb⟩

theorem hasBad_is {A : Option Addr} {c : Nat} {ds : List Dd} {w : World} {b : Bool} (hA : SlAt w 2 A (ds.map cD)) (hn : ds.length ≤ 140737488355328) (h : okDeeds ds = b) :
    Calls Try.prog 95 #[.slice A ds.length c, .func (.func 96) #[] #[]] w (BoolBel (!b) w) := by
  subst h
  go_enter Try.func95, Try.ntmps95
  go_wp2_with (go_at_call 118; refine (indexDeed_any _ _ _ _ hA hn).mono ?_; rintro e w1 ⟨n, rfl, hx, hb1⟩)
  go_ret
  exact ⟨by rw [← hx]; rfl, hb1⟩

/-- The code of what is given. -/
def givenCode (r : Int) (bs : List Bat) (ds : List Dd) : Int := if okWorks r bs = true ∧ okDeeds ds = true then (if 300 < ds.length then 2 else 0) else 1

structure DeedsAt (w : World) (A : Option Addr) (c : Nat) (ds : List Dd) : Prop where
  at_ : SlAt w 2 A (ds.map cD)
  n : ds.length ≤ 140737488355328
  c : ds.length ≤ c
theorem DeedsAt.below {w w' : World} {A : Option Addr} {c : Nat} {ds : List Dd} (h : DeedsAt w A c ds) (hb : Below w.heap.size w w') : DeedsAt w' A c ds := ⟨h.at_.below hb, h.n, h.c⟩

set_option maxRecDepth 100000 in
theorem checkDeeds_any (r : Int) (A : Option Addr) (c : Nat) (bs : List Bat) (A2 : Option Addr) (c2 : Nat) (ds : List Dd) (w : World) (h : WorksAt w A c bs) (hd : DeedsAt w A2 c2 ds) :
    Calls Try.prog 54 #[.agg #[.int .i64 r, .slice A bs.length c], .slice A2 ds.length c2] w (IntBel (givenCode r bs ds) w) := by
  have hbox : Below w.heap.size w (w.alloc (.cells #[.int .i64 r, .slice A bs.length c] 31)) := (Below.refl _ _).alloc (Nat.le_refl _) _
  have c0 : (w.alloc (.cells #[.int .i64 r, .slice A bs.length c] 31)).cell? ⟨w.heap.size, 0, none⟩ = some (.int .i64 r) := by rw [World.cell?_alloc_at _ _ _ _ rfl]; rfl
  have c1 : (w.alloc (.cells #[.int .i64 r, .slice A bs.length c] 31)).cell? ⟨w.heap.size, 1, none⟩ = some (.slice A bs.length c) := by rw [World.cell?_alloc_at _ _ _ _ rfl]; rfl
  have h' := h.below hbox
  have hd' := hd.below hbox
  have hdn := hd.n
  cases hok : okWorks r bs with
  | false =>
    have hg : givenCode r bs ds = 1 := by simp [givenCode, hok]
    rw [hg]
    go_enter Try.func54, Try.ntmps54
    go_wp2_with (go_at_call 46; refine (ValidWorks_is h' hok).mono ?_; rintro e w1 ⟨rfl, hb1⟩)
    go_ret
    exact ⟨rfl, hbox.trans (hb1.mono (by simp))⟩
  | true =>
    cases hds : okDeeds ds with
    | false =>
      have hg : givenCode r bs ds = 1 := by simp [givenCode, hds]
      rw [hg]
      go_enter Try.func54, Try.ntmps54
      go_wp2_with (first | (go_at_call 46; refine (ValidWorks_is h' hok).mono ?_; rintro e w1 ⟨rfl, hb1⟩) | (go_at_call 95; refine (hasBad_is (hd'.below hb1).at_ hd.n hds).mono ?_; rintro e w2 ⟨rfl, hb2⟩))
      go_ret
      exact ⟨rfl, (hbox.trans (hb1.mono (by simp))).trans (hb2.mono (by have := hb1.size; simp at this; omega))⟩
    | true =>
      by_cases hl : 300 < ds.length
      · have hg : givenCode r bs ds = 2 := by simp [givenCode, hok, hds, hl]
        rw [hg]
        go_enter Try.func54, Try.ntmps54
        go_wp2_with (first | (go_at_call 46; refine (ValidWorks_is h' hok).mono ?_; rintro e w1 ⟨rfl, hb1⟩) | (go_at_call 95; refine (hasBad_is (hd'.below hb1).at_ hd.n hds).mono ?_; rintro e w2 ⟨rfl, hb2⟩))
        go_ret
        exact ⟨rfl, (hbox.trans (hb1.mono (by simp))).trans (hb2.mono (by have := hb1.size; simp at this; omega))⟩
      · have hg : givenCode r bs ds = 0 := by simp [givenCode, hok, hds, hl]
        rw [hg]
        go_enter Try.func54, Try.ntmps54
        go_wp2_with (first | (go_at_call 46; refine (ValidWorks_is h' hok).mono ?_; rintro e w1 ⟨rfl, hb1⟩) | (go_at_call 95; refine (hasBad_is (hd'.below hb1).at_ hd.n hds).mono ?_; rintro e w2 ⟨rfl, hb2⟩))
        go_ret
        exact ⟨rfl, (hbox.trans (hb1.mono (by simp))).trans (hb2.mono (by have := hb1.size; simp at this; omega))⟩
end Go.Proofs.Ytomcffionomidaa
