/- The program's search for a name; valid works, by the reference and by the program. -/
import Derived.Test.YtomcffionomidaaOk2
namespace Go.Proofs.Ytomcffionomidaa
open Go.RowKit

theorem place1_any (b : Bat) (s : ByteArray) (gn : Nat) (w : World) (hg : gn < w.heap.size) (hs : w.cell? ⟨gn, 0, none⟩ = some (.string s)) :
    Calls Try.prog 115 #[.agg (cB b), .pointer (some ⟨gn, 0, none⟩)] w (BoolBel (b.name.toList == s.toList) w) := by
  have h0 := cB_zero b
  have hs' : (w.alloc (.cells (cB b) 72)).cell? ⟨gn, 0, none⟩ = some (.string s) := by rw [World.cell?_alloc_past _ _ _ hg]; exact hs
  go_enter Try.func115, Try.ntmps115
  go_wp2
  go_ret
  exact ⟨rfl, (Below.refl _ _).alloc (Nat.le_refl _) _⟩
theorem place1_is {b : Bat} {s : ByteArray} {gn : Nat} {w : World} {t : Bool} (hg : gn < w.heap.size) (hs : w.cell? ⟨gn, 0, none⟩ = some (.string s)) (h : (b.name.toList == s.toList) = t) :
    Calls Try.prog 115 #[.agg (cB b), .pointer (some ⟨gn, 0, none⟩)] w (BoolBel t w) := h ▸ place1_any b s gn w hg hs

set_option maxRecDepth 100000 in
theorem indexPlace_any (A : Option Addr) (c : Nat) (bs : List Bat) (s : ByteArray) (gn : Nat) (w : World) (hA : SlAt w 9 A (bs.map cB)) (hn : bs.length ≤ 140737488355328) (hg : gn < w.heap.size) (hs : w.cell? ⟨gn, 0, none⟩ = some (.string s)) :
    Calls Try.prog 114 #[.slice A bs.length c, .func (.func 115) #[] #[.pointer (some ⟨gn, 0, none⟩)]] w (IntBel (placeOf bs s) w) := by
  go_enter Try.func114, Try.ntmps114
  go_wp2
  go_loopg [8] bs.length (fun g i wr => ∃ k : Nat, k ≤ bs.length ∧ g = bs.length - k ∧ i = .int .i64 k ∧ Hid (∀ j (h : j < bs.length), j < k → (bs[j].name.toList == s.toList) = false) ∧ Below w.heap.size w wr)
  case atStart => exact ⟨0, by omega, by omega, by go_num, fun j h hj => by omega, Below.refl _ _⟩
  case round =>
    obtain ⟨k, hk, rfl, rfl, H, hb⟩ := hrel
    by_cases hlt : k < bs.length
    · obtain ⟨ga, oa, rfl, -, -, hl⟩ := (hA.below hb).elem (P := Try.prog) (k := k) (by simpa using hlt) 72 Try.underlying72 rfl (by kernel_rfl)
      have hl1 := hl wr (Below.refl _ _)
      simp only [List.getElem_map] at hl1
      clear hl
      have hg' : gn < wr.heap.size := Nat.lt_of_lt_of_le hg hb.size
      have hs' : wr.cell? ⟨gn, 0, none⟩ = some (.string s) := (hb.cell (p := ⟨gn, 0, none⟩) hg).trans hs
      by_cases h1 : (bs[k].name.toList == s.toList) = true
      · have hno := placeOf_at hlt h1 H.out
        have H1 := Lib.hid h1
        clear h1
        go_wp2_with (first | ((with_reducible refine wpList_load_at (ty := 72) ?_); refine ⟨_, hl1, ?_⟩) | (go_at_call 115; refine (place1_is hg' hs' H1.out).mono ?_; rintro e w1 ⟨rfl, hb1⟩))
        go_ret
        exact ⟨by first | rfl | (rw [hno]; rfl), Bel.then hb hb1⟩
      · have h1' : (bs[k].name.toList == s.toList) = false := by simpa using h1
        have H1 := Lib.hid h1'
        clear h1 h1'
        go_wp2_with (first | ((with_reducible refine wpList_load_at (ty := 72) ?_); refine ⟨_, hl1, ?_⟩) | (go_at_call 115; refine (place1_is hg' hs' H1.out).mono ?_; rintro e w1 ⟨rfl, hb1⟩))
        go_roundg (bs.length - (k + 1))
        case measure => omega
        case rel =>
          refine ⟨k + 1, by omega, rfl, by go_num, fun j h hj => ?_, Bel.then hb hb1⟩
          by_cases e : j = k
          · subst e; exact H1.out
          · exact H.out j h (by omega)
    · obtain rfl : k = bs.length := by omega
      have hno := placeOf_none (fun j h => H.out j h h)
      go_wp2
      go_ret
      exact ⟨by first | rfl | (rw [hno]; rfl), hb⟩

set_option maxRecDepth 100000 in
theorem batchPlace_any (A : Option Addr) (c : Nat) (bs : List Bat) (s : ByteArray) (w : World) (hA : SlAt w 9 A (bs.map cB)) (hn : bs.length ≤ 140737488355328) :
    Calls Try.prog 89 #[.slice A bs.length c, .string s] w (IntBel (placeOf bs s) w) := by
  have hmf : ∀ (fn : Fn) (first cap : Array Value) (w : World), (Instr.makeFunc fn first cap).run Try.prog w = .ok (.func fn first cap) w := fun _ _ _ _ => rfl
  have hbel : Below w.heap.size w (w.alloc (.cells #[.string s] 9)) := (Below.refl _ _).alloc (Nat.le_refl _) _
  have hct := indexPlace_any A c bs s w.heap.size (w.alloc (.cells #[.string s] 9)) (hA.below hbel) hn (by simp) (by rw [World.cell?_alloc_at _ _ _ _ rfl]; rfl)
  go_enter Try.func89, Try.ntmps89
  go_wp2_with (go_at_call 114; refine hct.mono ?_; rintro e w1 ⟨rfl, hb1⟩)
  go_ret
  exact ⟨rfl, Bel.then hbel hb1⟩
end Go.Proofs.Ytomcffionomidaa
