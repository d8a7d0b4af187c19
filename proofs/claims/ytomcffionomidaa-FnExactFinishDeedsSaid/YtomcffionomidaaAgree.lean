/- 'IsAgreed' of the program and of the reference. -/
import Derived.Test.YtomcffionomidaaRef2
namespace Go.Proofs.Ytomcffionomidaa
open Go.RowKit
set_option linter.unusedSimpArgs false
set_option linter.unusedVariables false

def agreedB (l : List Bool) : Bool := l.all id
theorem agreed_no {l : List Bool} {k : Nat} (hk : k < l.length) (h : l[k] = false) : agreedB l = false := by
  unfold agreedB; rw [List.all_eq_false]; exact ⟨_, List.getElem_mem hk, by simp [h]⟩
theorem agreed_yes {l : List Bool} (h : ∀ j (h : j < l.length), l[j] = true) : agreedB l = true := by
  unfold agreedB; rw [List.all_eq_true]; intro d hd; obtain ⟨j, hj, rfl⟩ := List.getElem_of_mem hd; exact h j hj

def IdxPost (l : List Bool) (w : World) (e : Ending) (w' : World) : Prop := ∃ n : Int, e = .returned (.int .i64 n) ∧ (decide (0 ≤ n) = !agreedB l) ∧ w = w'

/-- The cells of a row of bools. -/
theorem Row.bool_at {w : World} {base : Nat} {v : Value} {l : List Bool} (h : Row w base 4 1 v (l.map cBo)) {k : Nat} (hk : k < l.length) : ∃ g c, v = .slice (some ⟨g, 0, none⟩) l.length c ∧ g < w.heap.size ∧ w.cell? ⟨g, k, none⟩ = some (.bool l[k]) := by
  obtain ⟨g, c, e, -, hg, hc⟩ := h.one_at (k := k) (by simpa using hk)
  rw [List.length_map] at e
  exact ⟨g, c, e, hg, hc _ (by simp [cBo])⟩

set_option maxRecDepth 100000 in
theorem idxBool_any {base : Nat} {v : Value} {l : List Bool} (w : World) (h : Row w base 4 1 v (l.map cBo)) (hl : l.length ≤ 48) :
    Calls Try.prog 119 #[v, .bool false] w (IdxPost l w) := by
  obtain ⟨Av, cv, rfl, -, -⟩ := h.form
  rw [List.length_map] at h ⊢
  go_enter Try.func119, Try.ntmps119
  go_wp2
  go_loopg [8] l.length (fun g i wr => ∃ k : Nat, k ≤ l.length ∧ g = l.length - k ∧ i = .int .i64 k ∧ Hid (∀ j (h : j < l.length), j < k → l[j] = true) ∧ wr = w)
  case atStart => exact ⟨0, by omega, by omega, by go_num, fun j h hj => by omega, rfl⟩
  case round =>
    obtain ⟨k, hk, rfl, rfl, H, rfl⟩ := hrel
    by_cases hlt : k < l.length
    · obtain ⟨g, cg, eg, -, hc⟩ := h.bool_at hlt
      simp only [Value.slice.injEq] at eg
      obtain ⟨rfl, -, rfl⟩ := eg
      obtain ⟨b, hb⟩ : ∃ b, l[k] = b := ⟨_, rfl⟩
      rw [hb] at hc
      have HB := Lib.hid hb
      clear hb
      cases b with
      | true =>
        go_wp2
        go_roundg (l.length - (k + 1))
        case measure => omega
        case rel =>
          refine ⟨k + 1, by omega, rfl, by go_num, fun j h hj => ?_, rfl⟩
          by_cases e : j = k
          · subst e; exact HB.out
          · exact H.out j h (by omega)
      | false =>
        have hno := agreed_no hlt HB.out
        go_wp2
        go_ret
        exact ⟨_, rfl, by rw [hno]; simp, rfl⟩
    · obtain rfl : k = l.length := by omega
      have hno := agreed_yes (l := l) (fun j h => H.out j h (by omega))
      go_wp2
      go_ret
      exact ⟨_, rfl, by rw [hno]; simp, rfl⟩

set_option maxRecDepth 100000 in
theorem hasFalse_any {base : Nat} {v : Value} {l : List Bool} (w : World) (h : Row w base 4 1 v (l.map cBo)) (hl : l.length ≤ 48) :
    Calls Try.prog 103 #[v, .bool false] w (BoolSame (!agreedB l) w) := by
  go_enter Try.func103, Try.ntmps103
  go_wp2_with (go_at_call 119; refine (idxBool_any _ h hl).mono ?_; rintro e w1 ⟨n, rfl, hx, rfl⟩)
  go_ret
  exact ⟨by rw [← hx]; rfl, rfl⟩

set_option maxRecDepth 100000 in
theorem isAgreed_any (lo : Nat → Prop) (p : Nat) (r : Int) (A : Option Addr) (n c : Nat) (ts : List Tsk) (f : Fl) (w : World) (hS : ShopAt w lo p 106 [.int .i64 r, .slice A n c] ts f) (hl : f.known.length ≤ 48) :
    Calls Try.prog 63 #[.pointer (some ⟨p, 0, none⟩)] w (BoolSame (agreedB f.known) w) := by
  obtain ⟨o, S, hS⟩ := hS
  have c5 : w.cell? ⟨p, 5, none⟩ = some S.k := hS.cell rfl
  obtain ⟨Ak, ck, ek, -, -⟩ := hS.known.1.form
  have hK := hS.known.1
  rw [List.length_map] at ek
  rw [ek] at c5 hK
  go_enter Try.func63, Try.ntmps63
  go_wp2_with (go_at_call 103; refine (hasFalse_any _ hK hl).mono ?_; rintro e w1 ⟨rfl, rfl⟩)
  go_ret
  exact ⟨by simp, rfl⟩

set_option maxRecDepth 100000 in
theorem agreed_any (lo : Nat → Prop) (p wp : Nat) (ts : List Tsk) (f : Fl) (w : World) (hS : ShopAt w lo p 101 [.pointer (some ⟨wp, 0, none⟩)] ts f) (hl : f.known.length ≤ 48) :
    Calls Try.prog 62 #[.pointer (some ⟨p, 0, none⟩)] w (BoolSame (agreedB f.known) w) := by
  obtain ⟨o, S, hS⟩ := hS
  have c4 : w.cell? ⟨p, 4, none⟩ = some S.k := hS.cell rfl
  obtain ⟨Ak, ck, ek, -, -⟩ := hS.known.1.form
  have hK := hS.known.1
  rw [List.length_map] at ek
  rw [ek] at c4 hK
  go_enter Try.func62, Try.ntmps62
  go_wp2
  go_loopg [3] f.known.length (fun g i wr => ∃ k : Nat, k ≤ f.known.length ∧ g = f.known.length - k ∧ i = .int .i64 k ∧ Hid (∀ j (h : j < f.known.length), j < k → f.known[j] = true) ∧ wr = w)
  case atStart => exact ⟨0, by omega, by omega, by go_num, fun j h hj => by omega, rfl⟩
  case round =>
    obtain ⟨k, hk, rfl, rfl, H, rfl⟩ := hrel
    by_cases hlt : k < f.known.length
    · obtain ⟨g, cg, eg, -, hc⟩ := hK.bool_at hlt
      simp only [Value.slice.injEq] at eg
      obtain ⟨rfl, -, rfl⟩ := eg
      obtain ⟨b, hb⟩ : ∃ b, f.known[k] = b := ⟨_, rfl⟩
      rw [hb] at hc
      have HB := Lib.hid hb
      clear hb
      cases b with
      | true =>
        go_wp2
        go_roundg (f.known.length - (k + 1))
        case measure => omega
        case rel =>
          refine ⟨k + 1, by omega, rfl, by go_num, fun j h hj => ?_, rfl⟩
          by_cases e : j = k
          · subst e; exact HB.out
          · exact H.out j h (by omega)
      | false =>
        have hno := agreed_no hlt HB.out
        go_wp2
        go_ret
        exact ⟨by rw [hno]; rfl, rfl⟩
    · obtain rfl : k = f.known.length := by omega
      have hno := agreed_yes (l := f.known) (fun j h => H.out j h (by omega))
      go_wp2
      go_ret
      exact ⟨by rw [hno]; rfl, rfl⟩

def AgRes (r : Int) (bs : List Bat) (ds : List Dd) (b : Bool) (z : Int) : Prop :=
  (givenCode r bs ds ≠ 0 ∧ b = false ∧ z = givenCode r bs ds) ∨ (givenCode r bs ds = 0 ∧ b = agreedB (fB0 r bs ds ds.length).known ∧ z = 0)
theorem agRes_ex (r : Int) (bs : List Bat) (ds : List Dd) : ∃ b z, AgRes r bs ds b z := by
  by_cases hg : givenCode r bs ds = 0
  · exact ⟨_, _, .inr ⟨hg, rfl, rfl⟩⟩
  · exact ⟨_, _, .inl ⟨hg, rfl, rfl⟩⟩
def Ag2 (w : World) (b : Bool) (z : Int) (e : Ending) (w' : World) : Prop := e = .returned (.tuple #[.bool b, .int .i64 z]) ∧ Below w.heap.size w w'

set_option maxRecDepth 100000 in
set_option maxHeartbeats 1000000 in
theorem implAgreed_any (r : Int) (A : Option Addr) (c : Nat) (bs : List Bat) (A2 : Option Addr) (c2 : Nat) (ds : List Dd) (w : World) (h : WorksAt w A c bs) (hd : DeedsAt w A2 c2 ds) (b : Bool) (z : Int) (hres : AgRes r bs ds b z) :
    Calls Try.prog 28 #[.agg #[.int .i64 r, .slice A bs.length c], .slice A2 ds.length c2] w (Ag2 w b z) := by
  have hbox : Below w.heap.size w (w.alloc (.cells #[.int .i64 r, .slice A bs.length c] 31)) := (Below.refl _ _).alloc (Nat.le_refl _) _
  have c0 : (w.alloc (.cells #[.int .i64 r, .slice A bs.length c] 31)).cell? ⟨w.heap.size, 0, none⟩ = some (.int .i64 r) := by rw [World.cell?_alloc_at _ _ _ _ rfl]; rfl
  have c1 : (w.alloc (.cells #[.int .i64 r, .slice A bs.length c] 31)).cell? ⟨w.heap.size, 1, none⟩ = some (.slice A bs.length c) := by rw [World.cell?_alloc_at _ _ _ _ rfl]; rfl
  have h0 := h.below hbox
  have hd0 := hd.below hbox
  have hz : w.heap.size < (w.alloc (.cells #[.int .i64 r, .slice A bs.length c] 31)).heap.size := by simp
  generalize hw0 : w.alloc (.cells #[.int .i64 r, .slice A bs.length c] 31) = w0 at hbox c0 c1 h0 hd0 hz
  have hck := checkDeeds_any r A c bs A2 c2 ds w0 h0 hd0
  rcases hres with ⟨hg, rfl, rfl⟩ | ⟨hg, rfl, rfl⟩
  · have e0 : (givenCode r bs ds != 0) = true := by simp; exact hg
    clear hg
    go_enter Try.func28, Try.ntmps28
    go_wp2_with fail
    clear hw0
    refine hck.mono ?_
    rintro e w1 ⟨rfl, hb1⟩
    go_wp2
    go_ret2
    exact ⟨rfl, hbox.trans (hb1.mono hbox.size)⟩
  · rw [hg] at hck
    obtain ⟨hok, hds, hl, rn, rfl, hr1, hr4⟩ := given_ok hg
    obtain ⟨-, -, n1, n6, -⟩ := okWorks_parts hok
    have h48 : (tasksOf bs).length ≤ 48 := by have := tasksTo_len bs bs.length; unfold tasksOf; omega
    have hf0 := floor0_ok hr1 hr4 h48 (tasksOf_in bs)
    have hfn := fA_ok hf0 hds ds.length (Nat.le_refl _)
    have hk48 : (fB0 rn bs ds ds.length).known.length ≤ 48 := by unfold fB0; rw [Int.toNat_natCast]; rw [hfn.known]; exact h48
    clear hg
    go_enter Try.func28, Try.ntmps28
    go_wp2_with fail
    clear hw0
    refine hck.mono ?_
    rintro e w1 ⟨rfl, hb1⟩
    have d0 := (hb1.cell (p := ⟨w.heap.size, 0, none⟩) hz).trans c0
    have d1 := (hb1.cell (p := ⟨w.heap.size, 1, none⟩) hz).trans c1
    have hz0 := hbox.size
    have hz1 := hb1.size
    have haf := after_any rn A c bs A2 c2 ds w1 (h0.below hb1) (hd0.below hb1) hok hds hl
    rw [show fA rn (tasksOf bs) (floor0 rn bs.length (tasksOf bs).length) ds ds.length = fB0 rn bs ds ds.length by simp [fB0]] at haf
    go_wp2_with (first | (go_at_call 61; refine haf.mono ?_; rintro e w2 ⟨p, rfl, hS2, hb2⟩) | (go_at_call 63; refine (isAgreed_any _ p _ _ _ _ _ _ _ hS2 hk48).mono ?_; rintro e w3 ⟨rfl, rfl⟩))
    go_ret2
    exact ⟨rfl, (hbox.trans (hb1.mono hz0)).trans (hb2.mono (by omega))⟩

set_option maxRecDepth 100000 in
set_option maxHeartbeats 1000000 in
theorem specAgreed_any (r : Int) (A : Option Addr) (c : Nat) (bs : List Bat) (A2 : Option Addr) (c2 : Nat) (ds : List Dd) (w : World) (h : WorksAt w A c bs) (hd : DeedsAt w A2 c2 ds) (b : Bool) (z : Int) (hres : AgRes r bs ds b z) :
    Calls Try.prog 27 #[.agg #[.int .i64 r, .slice A bs.length c], .slice A2 ds.length c2] w (Ag2 w b z) := by
  have hbox : Below w.heap.size w (w.alloc (.cells #[.int .i64 r, .slice A bs.length c] 31)) := (Below.refl _ _).alloc (Nat.le_refl _) _
  have c0 : (w.alloc (.cells #[.int .i64 r, .slice A bs.length c] 31)).cell? ⟨w.heap.size, 0, none⟩ = some (.int .i64 r) := by rw [World.cell?_alloc_at _ _ _ _ rfl]; rfl
  have c1 : (w.alloc (.cells #[.int .i64 r, .slice A bs.length c] 31)).cell? ⟨w.heap.size, 1, none⟩ = some (.slice A bs.length c) := by rw [World.cell?_alloc_at _ _ _ _ rfl]; rfl
  have h0 := h.below hbox
  have hd0 := hd.below hbox
  have hz : w.heap.size < (w.alloc (.cells #[.int .i64 r, .slice A bs.length c] 31)).heap.size := by simp
  generalize hw0 : w.alloc (.cells #[.int .i64 r, .slice A bs.length c] 31) = w0 at hbox c0 c1 h0 hd0 hz
  have hck := l07Given_any w.heap.size r A c bs A2 c2 ds w0 hz c0 c1 h0 hd0
  rcases hres with ⟨hg, rfl, rfl⟩ | ⟨hg, rfl, rfl⟩
  · have e0 : (givenCode r bs ds != 0) = true := by simp; exact hg
    clear hg
    go_enter Try.func27, Try.ntmps27
    go_wp2_with fail
    clear hw0
    refine hck.mono ?_
    rintro e w1 ⟨rfl, hb1⟩
    go_wp2
    go_ret2
    exact ⟨rfl, hbox.trans (hb1.mono hbox.size)⟩
  · rw [hg] at hck
    obtain ⟨hok, hds, hl, rn, rfl, hr1, hr4⟩ := given_ok hg
    obtain ⟨-, -, n1, n6, -⟩ := okWorks_parts hok
    have h48 : (tasksOf bs).length ≤ 48 := by have := tasksTo_len bs bs.length; unfold tasksOf; omega
    have hf0 := floor0_ok hr1 hr4 h48 (tasksOf_in bs)
    have hfn := fA_ok hf0 hds ds.length (Nat.le_refl _)
    have hk48 : (fB0 rn bs ds ds.length).known.length ≤ 48 := by unfold fB0; rw [Int.toNat_natCast]; rw [hfn.known]; exact h48
    clear hg
    go_enter Try.func27, Try.ntmps27
    go_wp2_with fail
    clear hw0
    refine hck.mono ?_
    rintro e w1 ⟨rfl, hb1⟩
    have d0 := (hb1.cell (p := ⟨w.heap.size, 0, none⟩) hz).trans c0
    have d1 := (hb1.cell (p := ⟨w.heap.size, 1, none⟩) hz).trans c1
    have hz0 := hbox.size
    have hz1 := hb1.size
    have hpl := play_any w.heap.size rn A c bs A2 c2 ds w1 (by omega) d0 d1 (h0.below hb1) (hd0.below hb1) hok hds hl
    rw [show fA rn (tasksOf bs) (floor0 rn bs.length (tasksOf bs).length) ds ds.length = fB0 rn bs ds ds.length by simp [fB0]] at hpl
    go_wp2_with (first | (go_at_call 52; refine hpl.mono ?_; rintro e w2 ⟨p, v, rfl, hS2, hR2, hb2⟩) | (go_at_call 62; refine (agreed_any _ p _ _ _ _ hS2 hk48).mono ?_; rintro e w3 ⟨rfl, rfl⟩))
    go_ret2
    exact ⟨rfl, (hbox.trans (hb1.mono hz0)).trans (hb2.mono (by omega))⟩
end Go.Proofs.Ytomcffionomidaa
