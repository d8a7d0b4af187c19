/- 'RefusedDeed' of the program and of the reference. -/
import Derived.Test.YtomcffionomidaaPlay2
namespace Go.Proofs.Ytomcffionomidaa
open Go.RowKit
set_option linter.unusedSimpArgs false
set_option linter.unusedVariables false

/-- The code of deed k of given deeds, and the floor before it. -/
def cB0 (r : Int) (bs : List Bat) (ds : List Dd) (k : Nat) : Int := cA r.toNat (tasksOf bs) (floor0 r.toNat bs.length (tasksOf bs).length) ds k
def fB0 (r : Int) (bs : List Bat) (ds : List Dd) (k : Nat) : Fl := fA r.toNat (tasksOf bs) (floor0 r.toNat bs.length (tasksOf bs).length) ds k

def RefRes (r : Int) (bs : List Bat) (ds : List Dd) (x y z : Int) : Prop :=
  (givenCode r bs ds ≠ 0 ∧ x = 0 ∧ y = 0 ∧ z = givenCode r bs ds) ∨
  (givenCode r bs ds = 0 ∧ ∃ i : Nat, i < ds.length ∧ (∀ j, j < i → cB0 r bs ds j = 0) ∧ cB0 r bs ds i ≠ 0 ∧ x = i ∧ y = cB0 r bs ds i ∧ z = 0) ∨
  (givenCode r bs ds = 0 ∧ (∀ j, j < ds.length → cB0 r bs ds j = 0) ∧ x = 0 ∧ y = 0 ∧ z = 6)

theorem first_bad (c : Nat → Int) : ∀ n, (∃ i, i < n ∧ (∀ j, j < i → c j = 0) ∧ c i ≠ 0) ∨ ∀ j, j < n → c j = 0
  | 0 => .inr fun j h => by omega
  | n + 1 => by
    rcases first_bad c n with ⟨i, h1, h2, h3⟩ | h
    · exact .inl ⟨i, by omega, h2, h3⟩
    · by_cases e : c n = 0
      · refine .inr fun j hj => ?_
        by_cases e2 : j = n
        · rw [e2]; exact e
        · exact h j (by omega)
      · exact .inl ⟨n, by omega, h, e⟩

theorem refRes_ex (r : Int) (bs : List Bat) (ds : List Dd) : ∃ x y z, RefRes r bs ds x y z := by
  by_cases hg : givenCode r bs ds = 0
  · rcases first_bad (cB0 r bs ds) ds.length with ⟨i, h1, h2, h3⟩ | h
    · exact ⟨_, _, _, .inr (.inl ⟨hg, i, h1, h2, h3, rfl, rfl, rfl⟩)⟩
    · exact ⟨_, _, _, .inr (.inr ⟨hg, h, rfl, rfl, rfl⟩)⟩
  · exact ⟨_, _, _, .inl ⟨hg, rfl, rfl, rfl⟩⟩

theorem given_ok {r : Int} {bs : List Bat} {ds : List Dd} (h : givenCode r bs ds = 0) : okWorks r bs = true ∧ okDeeds ds = true ∧ ds.length ≤ 300 ∧ ∃ rn : Nat, r = rn ∧ 1 ≤ rn ∧ rn ≤ 4 := by
  unfold givenCode at h
  split at h
  · rename_i h1
    split at h
    · omega
    · obtain ⟨a, b, -⟩ := okWorks_parts h1.1
      exact ⟨h1.1, h1.2, by omega, r.toNat, by omega, by omega, by omega⟩
  · omega

def Ref3 (w : World) (x y z : Int) (e : Ending) (w' : World) : Prop := e = .returned (.tuple #[.int .i64 x, .int .i64 y, .int .i64 z]) ∧ Below w.heap.size w w'

def RfRel (w : World) (p : Nat) (pty : TypeId) (hd : List Value) (r : Nat) (ts : List Tsk) (f : Fl) (ds : List Dd) (g : Nat) (i : Value) (wr : World) : Prop :=
  ∃ k : Nat, k ≤ ds.length ∧ g = ds.length - k ∧ i = .int .i64 k ∧ (∀ j, j < k → cA r ts f ds j = 0) ∧ ShopAt wr (under w.heap.size) p pty hd ts (fA r ts f ds k) ∧ Below w.heap.size w wr

set_option maxRecDepth 100000 in
set_option maxHeartbeats 4000000 in
theorem implRefused_any (r : Int) (A : Option Addr) (c : Nat) (bs : List Bat) (A2 : Option Addr) (c2 : Nat) (ds : List Dd) (w : World) (h : WorksAt w A c bs) (hd : DeedsAt w A2 c2 ds) (x y z : Int) (hres : RefRes r bs ds x y z) :
    Calls Try.prog 22 #[.agg #[.int .i64 r, .slice A bs.length c], .slice A2 ds.length c2] w (Ref3 w x y z) := by
  have hbox : Below w.heap.size w (w.alloc (.cells #[.int .i64 r, .slice A bs.length c] 31)) := (Below.refl _ _).alloc (Nat.le_refl _) _
  have c0 : (w.alloc (.cells #[.int .i64 r, .slice A bs.length c] 31)).cell? ⟨w.heap.size, 0, none⟩ = some (.int .i64 r) := by rw [World.cell?_alloc_at _ _ _ _ rfl]; rfl
  have c1 : (w.alloc (.cells #[.int .i64 r, .slice A bs.length c] 31)).cell? ⟨w.heap.size, 1, none⟩ = some (.slice A bs.length c) := by rw [World.cell?_alloc_at _ _ _ _ rfl]; rfl
  have h0 := h.below hbox
  have hd0 := hd.below hbox
  have hz : w.heap.size < (w.alloc (.cells #[.int .i64 r, .slice A bs.length c] 31)).heap.size := by simp
  generalize hw0 : w.alloc (.cells #[.int .i64 r, .slice A bs.length c] 31) = w0 at hbox c0 c1 h0 hd0 hz
  have hck := checkDeeds_any r A c bs A2 c2 ds w0 h0 hd0
  by_cases hg : givenCode r bs ds = 0
  · rw [hg] at hck
    obtain ⟨hok, hds, hl, rn, rfl, hr1, hr4⟩ := given_ok hg
    obtain ⟨-, -, n1, n6, -⟩ := okWorks_parts hok
    have h48 : (tasksOf bs).length ≤ 48 := by have := tasksTo_len bs bs.length; unfold tasksOf; omega
    have hf0 : FlOk rn bs.length (tasksOf bs) (floor0 rn bs.length (tasksOf bs).length) := floor0_ok hr1 hr4 h48 (tasksOf_in bs)
    obtain ⟨f0, hf00⟩ : ∃ f0, floor0 rn bs.length (tasksOf bs).length = f0 := ⟨_, rfl⟩
    have HR : Hid ((∃ i : Nat, i < ds.length ∧ (∀ j, j < i → cA rn (tasksOf bs) f0 ds j = 0) ∧ cA rn (tasksOf bs) f0 ds i ≠ 0 ∧ x = i ∧ y = cA rn (tasksOf bs) f0 ds i ∧ z = 0) ∨ ((∀ j, j < ds.length → cA rn (tasksOf bs) f0 ds j = 0) ∧ x = 0 ∧ y = 0 ∧ z = 6)) := by
      rcases hres with ⟨h1, -⟩ | ⟨-, h2⟩ | ⟨-, h3⟩
      · exact absurd hg h1
      · left; simpa only [cB0, Int.toNat_natCast, hf00] using h2
      · right; simpa only [cB0, Int.toNat_natCast, hf00] using h3
    rw [hf00] at hf0
    have HF := Lib.hid hf00
    clear hres hg hf00
    go_enter Try.func22, Try.ntmps22
    go_wp2_with fail
    clear hw0
    refine hck.mono ?_
    rintro e w1 ⟨rfl, hb1⟩
    have d0 := (hb1.cell (p := ⟨w.heap.size, 0, none⟩) hz).trans c0
    have d1 := (hb1.cell (p := ⟨w.heap.size, 1, none⟩) hz).trans c1
    have hz0 := hbox.size
    have hz1 := hb1.size
    have hB1 : Below w.heap.size w w1 := hbox.trans (hb1.mono hz0)
    go_wp2_with (go_at_call 55; refine (open_any rn A c bs _ (h0.at_.below hb1) hr1 hr4 n6 h.d8).mono ?_; rintro e w2 ⟨p, rfl, hS1, hb2⟩)
    have hB2 : Below w.heap.size w w2 := hB1.trans (hb2.mono (by omega))
    have hS2 : ShopAt w2 (under w.heap.size) p 106 [.int .i64 rn, .slice A bs.length c] (tasksOf bs) f0 := by
      rw [← HF.out]
      exact hS1.more (Below.refl _ _) fun b hb => by
        have := hB2.size
        simp only [under] at hb ⊢
        omega
    clear hS1 hb1 hb2 c0 c1 d0 d1 h0 hd0
    go_loopg [22] ds.length (RfRel w p 106 [.int .i64 rn, .slice A bs.length c] rn (tasksOf bs) f0 ds)
    case atStart => exact ⟨0, by omega, by omega, by go_num, fun j hj => by omega, hS2, hB2⟩
    case round =>
      clear hS2 hB2 hB1
      obtain ⟨k, hk, rfl, rfl, hz, hS, hB⟩ := hrel
      have HZ := Lib.hid hz
      clear hz
      by_cases hlt : k < ds.length
      · obtain ⟨ga, oa, rfl, -, -, hl⟩ := (hd.at_.below hB).elem (P := Try.prog) (k := k) (by simpa using hlt) 91 Try.underlying91 rfl (by kernel_rfl)
        have hl1 := hl wr (Below.refl _ _)
        simp only [List.getElem_map, cD] at hl1
        clear hl
        have hbx : Below wr.heap.size wr (wr.alloc (.cells #[.int .i64 ds[k].k, .int .i64 ds[k].a] 91)) := (Below.refl _ _).alloc (Nat.le_refl _) _
        have hdo := do_any (under w.heap.size) p rn bs.length A bs.length c (tasksOf bs) _ _ (hS.more hbx fun b hb => ⟨.inl hb, by have := hB.size; simp only [under] at hb; simp; omega⟩) (fA_ok hf0 hds k hk) ds[k] (okDeeds_at hds hlt)
        have hf1 : (step rn (tasksOf bs) (fA rn (tasksOf bs) f0 ds k) ds[k]).1 = fA rn (tasksOf bs) f0 ds (k + 1) := by simp only [fA]; rw [getD_at hlt]
        have hc1 : (step rn (tasksOf bs) (fA rn (tasksOf bs) f0 ds k) ds[k]).2 = cA rn (tasksOf bs) f0 ds k := by simp only [cA]; rw [getD_at hlt]
        generalize step rn (tasksOf bs) (fA rn (tasksOf bs) f0 ds k) ds[k] = s at hdo hf1 hc1
        obtain ⟨f2, cc⟩ := s
        simp only at hf1 hc1
        subst hf1
        have HC := Lib.hid hc1
        clear hc1
        by_cases hc0 : cc = 0
        · subst hc0
          go_wp2_with (first | ((with_reducible refine wpList_load_at (ty := 91) ?_); refine ⟨_, hl1, ?_⟩) | (go_at_call 56; refine hdo.mono ?_; rintro e w2 ⟨rfl, hS2, hB2⟩))
          go_roundg (ds.length - (k + 1))
          case measure => omega
          case rel =>
            refine ⟨k + 1, by omega, rfl, by go_num, fun j hj => ?_, hS2, (hB.trans (hbx.mono hB.size)).trans (hB2.below (by have := hB.size; simp; omega))⟩
            by_cases e : j = k
            · rw [e]; exact HC.out.symm
            · exact HZ.out j (by omega)
        · have e0 : (cc != 0) = true := by simp; omega
          have hfin : x = k ∧ y = cc ∧ z = 0 := by
            rcases HR.out with ⟨i, h1, h2, h3, h4, h5, h6⟩ | ⟨h1, -⟩
            · have : i = k := by
                rcases Nat.lt_trichotomy i k with e | e | e
                · exact absurd (HZ.out i e) h3
                · exact e
                · exact absurd (HC.out.trans (h2 k e)) hc0
              subst this
              exact ⟨h4, h5.trans HC.out.symm, h6⟩
            · exact absurd (HC.out.trans (h1 k hlt)) hc0
          have HX := Lib.hid hfin
          clear hfin hc0
          go_wp2_with (first | ((with_reducible refine wpList_load_at (ty := 91) ?_); refine ⟨_, hl1, ?_⟩) | (go_at_call 56; refine hdo.mono ?_; rintro e w2 ⟨rfl, hS2, hB2⟩))
          go_ret3
          obtain ⟨rfl, rfl, rfl⟩ := HX.out
          exact ⟨rfl, (hB.trans (hbx.mono hB.size)).trans (hB2.below (by have := hB.size; simp; omega))⟩
      · obtain rfl : k = ds.length := by omega
        go_wp2
        go_ret3
        have hfin : x = 0 ∧ y = 0 ∧ z = 6 := by
          rcases HR.out with ⟨i, h1, h2, h3, h4, h5, h6⟩ | ⟨-, h⟩
          · exact absurd (HZ.out i h1) h3
          · exact h
        obtain ⟨rfl, rfl, rfl⟩ := hfin
        exact ⟨rfl, hB⟩
  · have e0 : (givenCode r bs ds != 0) = true := by simp; exact hg
    have hfin : x = 0 ∧ y = 0 ∧ z = givenCode r bs ds := by
      rcases hres with ⟨-, h⟩ | ⟨h, -⟩ | ⟨h, -⟩
      · exact h
      · exact absurd h hg
      · exact absurd h hg
    obtain ⟨rfl, rfl, rfl⟩ := hfin
    clear hres hg
    go_enter Try.func22, Try.ntmps22
    go_wp2_with fail
    clear hw0
    refine hck.mono ?_
    rintro e w1 ⟨rfl, hb1⟩
    go_wp2
    go_ret3
    exact ⟨rfl, hbox.trans (hb1.mono hbox.size)⟩

theorem Row.one_at {w : World} {base : Nat} {e : TypeId} {v : Value} {xs : List (Array Value)} (h : Row w base e 1 v xs) {k : Nat} (hk : k < xs.length) : ∃ g c, v = .slice (some ⟨g, 0, none⟩) xs.length c ∧ base ≤ g ∧ g < w.heap.size ∧ ∀ u, (xs[k])[0]? = some u → w.cell? ⟨g, k, none⟩ = some u := by
  obtain ⟨A, c, rfl, hc, hown⟩ := h.form
  obtain ⟨g, o, e2, hg, hcl⟩ := hown.at.cell (k := k) hk
  obtain ⟨g2, e3, hb, -⟩ := hown.2 (by omega)
  rw [e3] at e2
  simp only [Option.some.injEq, Addr.mk.injEq] at e2
  obtain ⟨rfl, rfl, -⟩ := e2
  subst e3
  exact ⟨g2, c, rfl, hb, hg, fun u hu => by have := hcl 0 u hu; simpa using this⟩
end Go.Proofs.Ytomcffionomidaa
