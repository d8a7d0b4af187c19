/- The reference's and the program's checks of drops and places of names. -/
import Derived.Test.YtomcffionomidaaOk1
import Derived.Lib.Hide
namespace Go.Proofs.Ytomcffionomidaa
open Go.RowKit

/-- The place of the first batch with a name, or -1. -/
def placeOf (bs : List Bat) (s : ByteArray) : Int :=
  match bs.findIdx? fun b => b.name.toList == s.toList with
  | some k => k
  | none => -1

theorem placeOf_at {bs : List Bat} {s : ByteArray} {k : Nat} (hk : k < bs.length) (h : (bs[k].name.toList == s.toList) = true) (hb : ∀ j (h : j < bs.length), j < k → (bs[j].name.toList == s.toList) = false) : placeOf bs s = k := by
  have : bs.findIdx? (fun b => b.name.toList == s.toList) = some k := by
    rw [List.findIdx?_eq_some_iff_getElem]
    exact ⟨hk, h, fun j hj => by simp [hb j (by omega) hj]⟩
  unfold placeOf; rw [this]
theorem placeOf_none {bs : List Bat} {s : ByteArray} (hb : ∀ j (h : j < bs.length), (bs[j].name.toList == s.toList) = false) : placeOf bs s = -1 := by
  have : bs.findIdx? (fun b => b.name.toList == s.toList) = none := by
    rw [List.findIdx?_eq_none_iff]
    intro b hm
    obtain ⟨j, hj, rfl⟩ := List.getElem_of_mem hm
    exact hb j hj
  unfold placeOf; rw [this]

set_option maxRecDepth 100000 in
theorem l07Find_any (A : Option Addr) (c : Nat) (bs : List Bat) (s : ByteArray) (w : World) (hA : SlAt w 9 A (bs.map cB)) (hn : bs.length ≤ 140737488355328) :
    Calls Try.prog 84 #[.slice A bs.length c, .string s] w fun e w' => e = .returned (.int .i64 (placeOf bs s)) ∧ w = w' := by
  go_enter Try.func84, Try.ntmps84
  go_wp2
  go_loopg [5] bs.length (fun g i wr => ∃ k : Nat, k ≤ bs.length ∧ g = bs.length - k ∧ i = .int .i64 k ∧ Hid (∀ j (h : j < bs.length), j < k → (bs[j].name.toList == s.toList) = false) ∧ wr = w)
  case atStart => exact ⟨0, by omega, by omega, by go_num, fun j h hj => by omega, rfl⟩
  case round =>
    obtain ⟨k, hk, rfl, rfl, H, rfl⟩ := hrel
    by_cases hlt : k < bs.length
    · obtain ⟨g, o, rfl, -, hc⟩ := hA.cell (k := k) (by simpa using hlt)
      have hc0 := hc 0 (.string bs[k].name) (by simp [cB])
      simp only [Nat.add_zero] at hc0
      clear hc
      by_cases he : (bs[k].name.toList == s.toList) = true
      · have hp := placeOf_at hlt he H.out
        go_wp2
        go_ret
        exact ⟨by first | rfl | (rw [hp]; rfl), rfl⟩
      · have he' : (bs[k].name.toList == s.toList) = false := by simpa using he
        clear he
        go_wp2
        go_roundg (bs.length - (k + 1))
        case measure => omega
        case rel =>
          refine ⟨k + 1, by omega, rfl, by go_num, fun j h hj => ?_, rfl⟩
          by_cases e : j = k
          · subst e; exact he'
          · exact H.out j h (by omega)
    · obtain rfl : k = bs.length := by omega
      have hp := placeOf_none (fun j h => H.out j h h)
      go_wp2
      go_ret
      exact ⟨by first | rfl | (rw [hp]; rfl), rfl⟩

theorem cV_at (d : List Int) (k : Nat) (h : k < d.length) : (cV d)[k]? = some (.int .i64 d[k]) := by simp [cV, h]

theorem okDrops_at {d : List Int} {k : Nat} (h : k < d.length) (hd : okDrop d[k] = false) : okDrops d = false := by
  unfold okDrops; rw [List.all_eq_false]; exact ⟨d[k], List.getElem_mem h, by simp [hd]⟩
theorem okDrops_all {d : List Int} (h : ∀ k (hk : k < d.length), okDrop d[k] = true) : okDrops d = true := by
  unfold okDrops; rw [List.all_eq_true]; intro x hx; obtain ⟨k, hk, rfl⟩ := List.getElem_of_mem hx; exact h k hk

set_option maxRecDepth 100000 in
theorem l07Drops_any (d : List Int) (h8 : d.length = 8) (w : World) : Calls Try.prog 85 #[.agg (cV d)] w (BoolBel (okDrops d) w) := by
  have hbel : Below w.heap.size w (w.alloc (.cells (cV d) 47)) := (Below.refl _ _).alloc (Nat.le_refl _) _
  go_enter Try.func85, Try.ntmps85
  go_wp2
  go_loopg [3] 8 (fun g i wr => ∃ k : Nat, k ≤ 8 ∧ g = 8 - k ∧ i = .int .i64 k ∧ (∀ j (h : j < d.length), j < k → okDrop d[j] = true) ∧ wr = w.alloc (.cells (cV d) 47))
  case atStart => exact ⟨0, by omega, by omega, by go_num, fun j h hj => by omega, rfl⟩
  case round =>
    obtain ⟨k, hk, rfl, rfl, hall, rfl⟩ := hrel
    by_cases hlt : k < 8
    · have hck := cV_at d k (by omega)
      by_cases h1 : 0 ≤ d[k] ∧ d[k] ≤ 100000
      · obtain ⟨h1, h2⟩ := h1
        have H := Lib.hid hall
        clear hall
        go_wp2_with (go_at_call 58; refine (in_any _ _ _ _).mono ?_; rintro e w1 ⟨rfl, rfl⟩)
        go_roundg (8 - (k + 1))
        case measure => omega
        case rel =>
          refine ⟨k + 1, by omega, rfl, by go_num, fun j h hj => ?_, rfl⟩
          by_cases e : j = k
          · subst e; simp [okDrop, h1, h2]
          · exact H.out j h (by omega)
      · have hno := okDrops_at (d := d) (k := k) (by omega) (by simp [okDrop]; omega)
        have hd : (decide (0 ≤ d[k]) && decide (d[k] ≤ 100000)) = false := by simp; omega
        clear hall h1
        go_wp2_with (go_at_call 58; refine (in_any _ _ _ _).mono ?_; rintro e w1 ⟨rfl, rfl⟩)
        go_ret
        exact ⟨by first | rfl | (rw [hno]; rfl), hbel⟩
    · obtain rfl : k = 8 := by omega
      have hno := okDrops_all (d := d) (fun j h => hall j h (by omega))
      clear hall
      go_wp2
      go_ret
      exact ⟨by first | rfl | (rw [hno]; rfl), hbel⟩

/-- The place of the first number that is no number of drops, or -1. -/
def badAt (d : List Int) : Int := match d.findIdx? fun n => !okDrop n with | some k => k | none => -1
theorem badAt_at {d : List Int} {k : Nat} (hk : k < d.length) (h : okDrop d[k] = false) (hb : ∀ j (h : j < d.length), j < k → okDrop d[j] = true) : badAt d = k := by
  have : d.findIdx? (fun n => !okDrop n) = some k := by
    rw [List.findIdx?_eq_some_iff_getElem]
    exact ⟨hk, by simp [h], fun j hj => by simp [hb j (by omega) hj]⟩
  unfold badAt; rw [this]
theorem badAt_none {d : List Int} (hb : ∀ j (h : j < d.length), okDrop d[j] = true) : badAt d = -1 := by
  have : d.findIdx? (fun n => !okDrop n) = none := by
    rw [List.findIdx?_eq_none_iff]
    intro b hm
    obtain ⟨j, hj, rfl⟩ := List.getElem_of_mem hm
    simp [hb j hj]
  unfold badAt; rw [this]
theorem badAt_ok (d : List Int) : decide (0 ≤ badAt d) = !okDrops d := by
  unfold badAt
  cases h : d.findIdx? fun n => !okDrop n with
  | some k =>
    obtain ⟨hk, hk', _⟩ := List.findIdx?_eq_some_iff_getElem.1 h
    simp at hk'
    rw [okDrops_at hk hk']
    simp
  | none =>
    rw [List.findIdx?_eq_none_iff] at h
    rw [okDrops_all (d := d) (fun k hk => by simpa using h _ (List.getElem_mem hk))]
    simp

theorem few1_any (n : Int) (w : World) : Calls Try.prog 113 #[.int .i64 n] w fun e w' => e = .returned (.bool (!okDrop n)) ∧ w = w' := by
  go_enter Try.func113, Try.ntmps113
  go_wp2_with (go_at_call 59; refine (inRange_any _ _ _ _).mono ?_; rintro e w1 ⟨rfl, rfl⟩)
  all_goals go_ret
  all_goals exact ⟨by simp [okDrop], rfl⟩
theorem few1_is {n : Int} {b : Bool} (h : okDrop n = b) (w : World) : Calls Try.prog 113 #[.int .i64 n] w fun e w' => e = .returned (.bool (!b)) ∧ w = w' := h ▸ few1_any n w

set_option maxRecDepth 100000 in
theorem indexBad_any (g c : Nat) (d : List Int) (w : World) (hn : d.length ≤ 140737488355328) (hc : ∀ j (h : j < d.length), w.cell? ⟨g, j, none⟩ = some (.int .i64 d[j])) :
    Calls Try.prog 127 #[.slice (some ⟨g, 0, none⟩) d.length c, .func (.func 113) #[] #[]] w fun e w' => e = .returned (.int .i64 (badAt d)) ∧ w = w' := by
  have HC := Lib.hid hc
  clear hc
  go_enter Try.func127, Try.ntmps127
  go_wp2
  go_loopg [8] d.length (fun g i wr => ∃ k : Nat, k ≤ d.length ∧ g = d.length - k ∧ i = .int .i64 k ∧ Hid (∀ j (h : j < d.length), j < k → okDrop d[j] = true) ∧ wr = w)
  case atStart => exact ⟨0, by omega, by omega, by go_num, fun j h hj => by omega, rfl⟩
  case round =>
    obtain ⟨k, hk, rfl, rfl, H, rfl⟩ := hrel
    by_cases hlt : k < d.length
    · have hck := HC.out k hlt
      by_cases h1 : okDrop d[k] = true
      · go_wp2_with (go_at_call 113; refine (few1_is h1 _).mono ?_; rintro e w1 ⟨rfl, rfl⟩)
        go_roundg (d.length - (k + 1))
        case measure => omega
        case rel =>
          refine ⟨k + 1, by omega, rfl, by go_num, fun j h hj => ?_, rfl⟩
          by_cases e : j = k
          · subst e; exact h1
          · exact H.out j h (by omega)
      · have h1' : okDrop d[k] = false := by simpa using h1
        have hno := badAt_at hlt h1' H.out
        clear h1
        go_wp2_with (go_at_call 113; refine (few1_is h1' _).mono ?_; rintro e w1 ⟨rfl, rfl⟩)
        go_ret
        exact ⟨by first | rfl | (rw [hno]; rfl), rfl⟩
    · obtain rfl : k = d.length := by omega
      have hno := badAt_none (d := d) (fun j h => H.out j h (by omega))
      go_wp2
      go_ret
      exact ⟨by first | rfl | (rw [hno]; rfl), rfl⟩

set_option maxRecDepth 100000 in
theorem containsBad_any (g c : Nat) (d : List Int) (w : World) (hn : d.length ≤ 140737488355328) (hc : ∀ j (h : j < d.length), w.cell? ⟨g, j, none⟩ = some (.int .i64 d[j])) :
    Calls Try.prog 112 #[.slice (some ⟨g, 0, none⟩) d.length c, .func (.func 113) #[] #[]] w fun e w' => e = .returned (.bool (!okDrops d)) ∧ w = w' := by
  have HC := Lib.hid hc
  have hb := badAt_ok d
  clear hc
  go_enter Try.func112, Try.ntmps112
  go_wp2_with (go_at_call 127; refine (indexBad_any _ _ _ _ hn HC.out).mono ?_; rintro e w1 ⟨rfl, rfl⟩)
  go_ret
  exact ⟨by first | rfl | (rw [← hb]; rfl), rfl⟩

set_option maxRecDepth 100000 in
theorem areFew_any (d : List Int) (h8 : d.length = 8) (w : World) : Calls Try.prog 88 #[.agg (cV d)] w (BoolBel (okDrops d) w) := by
  have hbel : Below w.heap.size w (w.alloc (.cells (cV d) 47)) := (Below.refl _ _).alloc (Nat.le_refl _) _
  have hct := containsBad_any w.heap.size 8 d (w.alloc (.cells (cV d) 47)) (by omega) (fun j h => by rw [World.cell?_alloc_at _ _ _ _ rfl]; exact cV_at d j h)
  rw [h8] at hct
  go_enter Try.func88, Try.ntmps88
  go_wp2_with (go_at_call 112; refine hct.mono ?_; rintro e w1 ⟨rfl, rfl⟩)
  go_ret
  exact ⟨by simp, hbel⟩
end Go.Proofs.Ytomcffionomidaa
