/- The reference's and the program's checks of names, drops and places. -/
import Derived.Test.YtomcffionomidaaOkDef
import Derived.Test.YtomcffionomidaaTo
namespace Go.Proofs.Ytomcffionomidaa
open Go.RowKit

def BoolSame (b : Bool) (w : World) (e : Ending) (w' : World) : Prop := e = .returned (.bool b) ∧ w = w'
def BoolBel (b : Bool) (w : World) (e : Ending) (w' : World) : Prop := e = .returned (.bool b) ∧ Below w.heap.size w w'
def IntBel (n : Int) (w : World) (e : Ending) (w' : World) : Prop := e = .returned (.int .i64 n) ∧ Below w.heap.size w w'

set_option maxRecDepth 100000 in
theorem l07Name_any (s : ByteArray) (hs : s.size ≤ 9223372036854775807) (w : World) : Calls Try.prog 83 #[.string s] w (BoolSame (okName s) w) := by
  go_enter Try.func83, Try.ntmps83
  go_wp2
  go_loopg [3] s.size (fun g i wr => ∃ k : Nat, k ≤ s.size ∧ g = s.size - k ∧ i = .int .i64 k ∧ (∀ j (h : j < s.size), j < k → 97 ≤ (s[j].toNat : Int) ∧ (s[j].toNat : Int) ≤ 122) ∧ wr = w)
  case atStart => exact ⟨0, by omega, by omega, by go_num, fun j h hj => by omega, rfl⟩
  case round =>
    obtain ⟨k, hk, rfl, rfl, hall, rfl⟩ := hrel
    by_cases hlt : k < s.size
    · by_cases h1 : (s[k].toNat : Int) < 97
      · have hno := okName_false s k hlt (.inl h1)
        go_wp2
        go_ret
        exact ⟨by first | rfl | (rw [hno]; rfl), rfl⟩
      · by_cases h2 : 122 < (s[k].toNat : Int)
        · have hno := okName_false s k hlt (.inr h2)
          go_wp2
          go_ret
          exact ⟨by first | rfl | (rw [hno]; rfl), rfl⟩
        · have H : Hid (∀ j (h : j < s.size), j < k → 97 ≤ (s[j].toNat : Int) ∧ (s[j].toNat : Int) ≤ 122) := hall
          clear hall
          go_wp2
          go_roundg (s.size - (k + 1))
          case measure => omega
          case rel =>
            refine ⟨k + 1, by omega, rfl, by go_num, fun j h hj => ?_, rfl⟩
            by_cases e : j = k
            · subst e; omega
            · exact H.out j h (by omega)
    · obtain rfl : k = s.size := by omega
      have hno := okName_size s (fun j h => hall j h h)
      clear hall
      go_wp2_with (go_at_call 58; refine (in_any _ _ _ _).mono ?_; rintro e w1 ⟨rfl, rfl⟩)
      go_ret
      exact ⟨by first | rfl | (rw [hno]; rfl), rfl⟩

set_option maxRecDepth 100000 in
theorem isName_any (s : ByteArray) (hs : s.size ≤ 9223372036854775807) (w : World) : Calls Try.prog 87 #[.string s] w (BoolSame (okName s) w) := by
  go_enter Try.func87, Try.ntmps87
  go_wp2
  go_loopg [6] s.size (fun g i wr => ∃ k : Nat, k ≤ s.size ∧ g = s.size - k ∧ i = .int .i64 k ∧ (∀ j (h : j < s.size), j < k → 97 ≤ (s[j].toNat : Int) ∧ (s[j].toNat : Int) ≤ 122) ∧ wr = w)
  case atStart => exact ⟨0, by omega, by omega, by go_num, fun j h hj => by omega, rfl⟩
  case round =>
    obtain ⟨k, hk, rfl, rfl, hall, rfl⟩ := hrel
    by_cases hlt : k < s.size
    · by_cases h1 : (s[k].toNat : Int) < 97
      · have hno := okName_false s k hlt (.inl h1)
        go_wp2
        go_ret
        exact ⟨by first | rfl | (rw [hno]; rfl), rfl⟩
      · by_cases h2 : 122 < (s[k].toNat : Int)
        · have hno := okName_false s k hlt (.inr h2)
          go_wp2
          go_ret
          exact ⟨by first | rfl | (rw [hno]; rfl), rfl⟩
        · have H : Hid (∀ j (h : j < s.size), j < k → 97 ≤ (s[j].toNat : Int) ∧ (s[j].toNat : Int) ≤ 122) := hall
          clear hall
          go_wp2
          go_roundg (s.size - (k + 1))
          case measure => omega
          case rel =>
            refine ⟨k + 1, by omega, rfl, by go_num, fun j h hj => ?_, rfl⟩
            by_cases e : j = k
            · subst e; omega
            · exact H.out j h (by omega)
    · obtain rfl : k = s.size := by omega
      have hno := okName_size s (fun j h => hall j h h)
      clear hall
      go_wp2_with (go_at_call 59; refine (inRange_any _ _ _ _).mono ?_; rintro e w1 ⟨rfl, rfl⟩)
      go_ret
      exact ⟨by first | rfl | (rw [hno]; rfl), rfl⟩
end Go.Proofs.Ytomcffionomidaa
