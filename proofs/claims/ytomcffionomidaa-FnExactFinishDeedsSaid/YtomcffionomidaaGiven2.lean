/- What is given, by the reference. -/
import Derived.Test.YtomcffionomidaaGiven
namespace Go.Proofs.Ytomcffionomidaa
open Go.RowKit
set_option linter.unusedSimpArgs false
set_option linter.unusedVariables false

def wordsBlk : Obj := .cells #[.string ⟨#[]⟩, .string ⟨#[97, 115, 107]⟩, .string ⟨#[100, 101, 108, 105, 118, 101, 114]⟩, .string ⟨#[99, 111, 112, 121]⟩, .string ⟨#[100, 114, 111, 112]⟩, .string ⟨#[115, 97, 118, 101]⟩, .string ⟨#[99, 114, 97, 115, 104]⟩] 9
def toldBlk : Obj := .cells #[.int .i64 0, .int .i64 1, .int .i64 1, .int .i64 1, .int .i64 1, .int .i64 0, .int .i64 0] 3

def WordsPost (w : World) (e : Ending) (w' : World) : Prop :=
  e = .returned (.tuple #[.slice (some ⟨w.heap.size, 0, none⟩) 7 7, .slice (some ⟨w.heap.size + 1, 0, none⟩) 7 7]) ∧ w' = (w.alloc wordsBlk).alloc toldBlk

theorem words_any (w : World) : Calls Try.prog 116 #[] w (WordsPost w) := by
  go_enter Try.func116, Try.ntmps116
  go_wp2
  go_ret2
  exact ⟨rfl, rfl⟩


set_option maxRecDepth 100000 in
set_option maxHeartbeats 1000000 in
theorem l07Deed_any (d : Dd) (w : World) : Calls Try.prog 92 #[.agg (cD d)] w (BoolBel (okDeed d) w) := by
  obtain ⟨k, a⟩ := d
  have hbel : Below w.heap.size w (w.alloc (.cells #[.int .i64 k, .int .i64 a] 91)) := (Below.refl _ _).alloc (Nat.le_refl _) _
  have hbel2 : Below w.heap.size w (((w.alloc (.cells #[.int .i64 k, .int .i64 a] 91)).alloc wordsBlk).alloc toldBlk) := below3 _ _ _ _
  unfold cD
  by_cases h1 : 1 ≤ k ∧ k ≤ 6
  · have e1 : (decide (1 ≤ k) && decide (k ≤ 6)) = true := by simp; omega
    by_cases h2 : 0 ≤ a ∧ a ≤ 999
    · have e2 : (decide (0 ≤ a) && decide (a ≤ 999)) = true := by simp; omega
      by_cases h3 : k < 5
      · have e3 : okDeed ⟨k, a⟩ = true := by simp [okDeed]; omega
        rw [e3]
        obtain rfl | rfl | rfl | rfl : k = 1 ∨ k = 2 ∨ k = 3 ∨ k = 4 := by omega
        all_goals (clear e1 h1 h3 e3)
        · go_enter Try.func92, Try.ntmps92
          go_wp2_with (first | (go_at_call 58; refine (in_any _ _ _ _).mono ?_; rintro e w1 ⟨rfl, rfl⟩) | (go_at_call 116; refine (words_any _).mono ?_; rintro e w1 ⟨rfl, rfl⟩; unfold wordsBlk toldBlk))
          go_ret
          exact ⟨rfl, hbel2⟩
        · go_enter Try.func92, Try.ntmps92
          go_wp2_with (first | (go_at_call 58; refine (in_any _ _ _ _).mono ?_; rintro e w1 ⟨rfl, rfl⟩) | (go_at_call 116; refine (words_any _).mono ?_; rintro e w1 ⟨rfl, rfl⟩; unfold wordsBlk toldBlk))
          go_ret
          exact ⟨rfl, hbel2⟩
        · go_enter Try.func92, Try.ntmps92
          go_wp2_with (first | (go_at_call 58; refine (in_any _ _ _ _).mono ?_; rintro e w1 ⟨rfl, rfl⟩) | (go_at_call 116; refine (words_any _).mono ?_; rintro e w1 ⟨rfl, rfl⟩; unfold wordsBlk toldBlk))
          go_ret
          exact ⟨rfl, hbel2⟩
        · go_enter Try.func92, Try.ntmps92
          go_wp2_with (first | (go_at_call 58; refine (in_any _ _ _ _).mono ?_; rintro e w1 ⟨rfl, rfl⟩) | (go_at_call 116; refine (words_any _).mono ?_; rintro e w1 ⟨rfl, rfl⟩; unfold wordsBlk toldBlk))
          go_ret
          exact ⟨rfl, hbel2⟩
      · by_cases h4 : a = 0
        · subst h4
          have e3 : okDeed ⟨k, 0⟩ = true := by simp [okDeed]; omega
          rw [e3]
          obtain rfl | rfl : k = 5 ∨ k = 6 := by omega
          all_goals (clear e1 h1 h3 e3 h2 e2)
          · go_enter Try.func92, Try.ntmps92
            go_wp2_with (first | (go_at_call 58; refine (in_any _ _ _ _).mono ?_; rintro e w1 ⟨rfl, rfl⟩) | (go_at_call 116; refine (words_any _).mono ?_; rintro e w1 ⟨rfl, rfl⟩; unfold wordsBlk toldBlk))
            go_ret
            exact ⟨rfl, hbel2⟩
          · go_enter Try.func92, Try.ntmps92
            go_wp2_with (first | (go_at_call 58; refine (in_any _ _ _ _).mono ?_; rintro e w1 ⟨rfl, rfl⟩) | (go_at_call 116; refine (words_any _).mono ?_; rintro e w1 ⟨rfl, rfl⟩; unfold wordsBlk toldBlk))
            go_ret
            exact ⟨rfl, hbel2⟩
        · have e3 : okDeed ⟨k, a⟩ = false := by simp [okDeed]; omega
          have e5 : (a == 0) = false := by simp; omega
          rw [e3]
          obtain rfl | rfl : k = 5 ∨ k = 6 := by omega
          all_goals (clear e1 h1 h3 e3 h4)
          · go_enter Try.func92, Try.ntmps92
            go_wp2_with (first | (go_at_call 58; refine (in_any _ _ _ _).mono ?_; rintro e w1 ⟨rfl, rfl⟩) | (go_at_call 116; refine (words_any _).mono ?_; rintro e w1 ⟨rfl, rfl⟩; unfold wordsBlk toldBlk))
            go_ret
            exact ⟨rfl, hbel2⟩
          · go_enter Try.func92, Try.ntmps92
            go_wp2_with (first | (go_at_call 58; refine (in_any _ _ _ _).mono ?_; rintro e w1 ⟨rfl, rfl⟩) | (go_at_call 116; refine (words_any _).mono ?_; rintro e w1 ⟨rfl, rfl⟩; unfold wordsBlk toldBlk))
            go_ret
            exact ⟨rfl, hbel2⟩
    · have e2 : (decide (0 ≤ a) && decide (a ≤ 999)) = false := by simp; omega
      have e3 : okDeed ⟨k, a⟩ = false := by simp [okDeed]; omega
      rw [e3]
      go_enter Try.func92, Try.ntmps92
      go_wp2_with (first | (go_at_call 58; refine (in_any _ _ _ _).mono ?_; rintro e w1 ⟨rfl, rfl⟩) | (go_at_call 116; refine (words_any _).mono ?_; rintro e w1 ⟨rfl, rfl⟩; unfold wordsBlk toldBlk))
      go_ret
      exact ⟨rfl, hbel⟩
  · have e1 : (decide (1 ≤ k) && decide (k ≤ 6)) = false := by simp; omega
    have e3 : okDeed ⟨k, a⟩ = false := by simp [okDeed]; omega
    rw [e3]
    go_enter Try.func92, Try.ntmps92
    go_wp2_with (first | (go_at_call 58; refine (in_any _ _ _ _).mono ?_; rintro e w1 ⟨rfl, rfl⟩) | (go_at_call 116; refine (words_any _).mono ?_; rintro e w1 ⟨rfl, rfl⟩; unfold wordsBlk toldBlk))
    go_ret
    exact ⟨rfl, hbel⟩

theorem l07Deed_is {d : Dd} {b : Bool} (h : okDeed d = b) (w : World) : Calls Try.prog 92 #[.agg (cD d)] w (BoolBel b w) := h ▸ l07Deed_any d w

set_option maxRecDepth 100000 in
set_option maxHeartbeats 1000000 in
theorem l07Given_any (p : Nat) (r : Int) (A : Option Addr) (c : Nat) (bs : List Bat) (A2 : Option Addr) (c2 : Nat) (ds : List Dd) (w : World) (hp : p < w.heap.size) (h0 : w.cell? ⟨p, 0, none⟩ = some (.int .i64 r)) (h1 : w.cell? ⟨p, 1, none⟩ = some (.slice A bs.length c)) (h : WorksAt w A c bs) (hd : DeedsAt w A2 c2 ds) :
    Calls Try.prog 51 #[.pointer (some ⟨p, 0, none⟩), .slice A2 ds.length c2] w (IntBel (givenCode r bs ds) w) := by
  have hdn := hd.n
  cases hok : okWorks r bs with
  | false =>
    have hg : givenCode r bs ds = 1 := by simp [givenCode, hok]
    rw [hg]
    go_enter Try.func51, Try.ntmps51
    go_wp2_with (go_at_call 43; refine (l07Ok_is hp h0 h1 h hok).mono ?_; rintro e w1 ⟨rfl, hb1⟩)
    go_ret
    exact ⟨rfl, hb1⟩
  | true =>
    go_enter Try.func51, Try.ntmps51
    go_wp2_with (go_at_call 43; refine (l07Ok_is hp h0 h1 h hok).mono ?_; rintro e w1 ⟨rfl, hb1⟩)
    go_loopg [5] ds.length (fun g i wr => ∃ k : Nat, k ≤ ds.length ∧ g = ds.length - k ∧ i = .int .i64 k ∧ Hid (∀ j (h : j < ds.length), j < k → okDeed ds[j] = true) ∧ Below w.heap.size w wr)
    case atStart => exact ⟨0, by omega, by omega, by go_num, fun j h hj => by omega, hb1⟩
    case round =>
      clear hb1
      obtain ⟨k, hk, rfl, rfl, H, hb⟩ := hrel
      by_cases hlt : k < ds.length
      · obtain ⟨ga, oa, rfl, -, -, hl⟩ := (hd.at_.below hb).elem (P := Try.prog) (k := k) (by simpa using hlt) 91 Try.underlying91 rfl (by kernel_rfl)
        have hl1 := hl wr (Below.refl _ _)
        simp only [List.getElem_map] at hl1
        clear hl
        by_cases h1 : okDeed ds[k] = true
        · go_wp2_with (first | ((with_reducible refine wpList_load_at (ty := 91) ?_); refine ⟨_, hl1, ?_⟩) | (go_at_call 92; refine (l07Deed_is h1 _).mono ?_; rintro e w1 ⟨rfl, hb1⟩))
          go_roundg (ds.length - (k + 1))
          case measure => omega
          case rel =>
            refine ⟨k + 1, by omega, rfl, by go_num, fun j h hj => ?_, Bel.then hb hb1⟩
            by_cases e : j = k
            · subst e; exact h1
            · exact H.out j h (by omega)
        · have h1' : okDeed ds[k] = false := by simpa using h1
          have hno := okDeeds_no hlt h1'
          have hg : givenCode r bs ds = 1 := by simp [givenCode, hno]
          clear h1 hno
          go_wp2_with (first | ((with_reducible refine wpList_load_at (ty := 91) ?_); refine ⟨_, hl1, ?_⟩) | (go_at_call 92; refine (l07Deed_is h1' _).mono ?_; rintro e w1 ⟨rfl, hb1⟩))
          go_ret
          exact ⟨by first | rfl | (rw [hg]; rfl), Bel.then hb hb1⟩
      · obtain rfl : k = ds.length := by omega
        have hds := okDeeds_yes (ds := ds) (fun j h => H.out j h (by omega))
        by_cases hl : 300 < ds.length
        · have hg : givenCode r bs ds = 2 := by simp [givenCode, hok, hds, hl]
          clear hds
          go_wp2
          go_ret
          exact ⟨by first | rfl | (rw [hg]; rfl), hb⟩
        · have hg : givenCode r bs ds = 0 := by simp [givenCode, hok, hds, hl]
          clear hds
          go_wp2
          go_ret
          exact ⟨by first | rfl | (rw [hg]; rfl), hb⟩
end Go.Proofs.Ytomcffionomidaa
