/- 'FinishDeeds' of the program. -/
import Derived.Test.YtomcffionomidaaFin
namespace Go.Proofs.Ytomcffionomidaa
open Go.RowKit
set_option linter.unusedSimpArgs false
set_option linter.unusedVariables false

def FnRes (r : Int) (bs : List Bat) (ds : List Dd) (xs : List Dd) (z : Int) : Prop :=
  (givenCode r bs ds ≠ 0 ∧ xs = [] ∧ z = givenCode r bs ds) ∨
  (givenCode r bs ds = 0 ∧ 300 < ds.length + (plan (fB0 r bs ds ds.length)).length ∧ xs = [] ∧ z = 3) ∨
  (givenCode r bs ds = 0 ∧ ds.length + (plan (fB0 r bs ds ds.length)).length ≤ 300 ∧ xs = plan (fB0 r bs ds ds.length) ∧ z = 0)
theorem fnRes_ex (r : Int) (bs : List Bat) (ds : List Dd) : ∃ xs z, FnRes r bs ds xs z ∧ xs.length ≤ 300 := by
  by_cases hg : givenCode r bs ds = 0
  · by_cases hl : 300 < ds.length + (plan (fB0 r bs ds ds.length)).length
    · exact ⟨_, _, .inr (.inl ⟨hg, hl, rfl, rfl⟩), by simp⟩
    · exact ⟨_, _, .inr (.inr ⟨hg, by omega, rfl, rfl⟩), by omega⟩
  · exact ⟨_, _, .inl ⟨hg, rfl, rfl⟩, by simp⟩

def Fn2 (w : World) (xs : List Dd) (z : Int) (e : Ending) (w' : World) : Prop :=
  ∃ v, e = .returned (.tuple #[v, .int .i64 z]) ∧ Row w' w.heap.size 91 2 v (xs.map cD) ∧ Below w.heap.size w w'

def FiRel (w2 : World) (f : Fl) (g : Nat) (i v : Value) (wr : World) : Prop :=
  ∃ k : Nat, k ≤ f.known.length ∧ g = f.known.length - k ∧ i = .int .i64 k ∧ Row wr w2.heap.size 91 2 v ((List.replicate f.wire.length ddr ++ finTo f.known k).map cD) ∧ Below w2.heap.size w2 wr

theorem deeds_ok (l : List Dd) : ∀ y ∈ l.map cD, y.size = 2 ∧ y.all (·.oneCell') = true := fun y hy => by
  obtain ⟨b, -, rfl⟩ := List.mem_map.1 hy
  exact ⟨rfl, cD_one b⟩

set_option maxRecDepth 100000 in
set_option maxHeartbeats 4000000 in
theorem implFinish_any (r : Int) (A : Option Addr) (c : Nat) (bs : List Bat) (A2 : Option Addr) (c2 : Nat) (ds : List Dd) (w : World) (h : WorksAt w A c bs) (hd : DeedsAt w A2 c2 ds) (xs : List Dd) (z : Int) (hres : FnRes r bs ds xs z) :
    Calls Try.prog 30 #[.agg #[.int .i64 r, .slice A bs.length c], .slice A2 ds.length c2] w (Fn2 w xs z) := by
  have hbox : Below w.heap.size w (w.alloc (.cells #[.int .i64 r, .slice A bs.length c] 31)) := (Below.refl _ _).alloc (Nat.le_refl _) _
  have c0 : (w.alloc (.cells #[.int .i64 r, .slice A bs.length c] 31)).cell? ⟨w.heap.size, 0, none⟩ = some (.int .i64 r) := by rw [World.cell?_alloc_at _ _ _ _ rfl]; rfl
  have c1 : (w.alloc (.cells #[.int .i64 r, .slice A bs.length c] 31)).cell? ⟨w.heap.size, 1, none⟩ = some (.slice A bs.length c) := by rw [World.cell?_alloc_at _ _ _ _ rfl]; rfl
  have h0 := h.below hbox
  have hd0 := hd.below hbox
  have hz : w.heap.size < (w.alloc (.cells #[.int .i64 r, .slice A bs.length c] 31)).heap.size := by simp
  generalize hw0 : w.alloc (.cells #[.int .i64 r, .slice A bs.length c] 31) = w0 at hbox c0 c1 h0 hd0 hz
  have hck := checkDeeds_any r A c bs A2 c2 ds w0 h0 hd0
  by_cases hg : givenCode r bs ds = 0
  · rw [hg] at hck
    obtain ⟨hok, hds, hl, rn, rfl, hr1, hr4⟩ := given_ok hg
    obtain ⟨-, -, n1, n6, -⟩ := okWorks_parts hok
    have h48 : (tasksOf bs).length ≤ 48 := by have := tasksTo_len bs bs.length; unfold tasksOf; omega
    have hf0 := floor0_ok hr1 hr4 h48 (tasksOf_in bs)
    have hfn := fA_ok hf0 hds ds.length (Nat.le_refl _)
    rw [show fA rn (tasksOf bs) (floor0 rn bs.length (tasksOf bs).length) ds ds.length = fB0 rn bs ds ds.length by simp [fB0]] at hfn
    have HR : Hid ((300 < ds.length + (plan (fB0 rn bs ds ds.length)).length ∧ xs = [] ∧ z = 3) ∨ (ds.length + (plan (fB0 rn bs ds ds.length)).length ≤ 300 ∧ xs = plan (fB0 rn bs ds ds.length) ∧ z = 0)) := by
      rcases hres with ⟨h1, -⟩ | ⟨-, h2⟩ | ⟨-, h3⟩
      · exact absurd hg h1
      · exact .inl h2
      · exact .inr h3
    clear hres hg
    go_enter Try.func30, Try.ntmps30
    go_wp2_with fail
    clear hw0
    refine hck.mono ?_
    rintro e w1 ⟨rfl, hb1⟩
    have d0 := (hb1.cell (p := ⟨w.heap.size, 0, none⟩) hz).trans c0
    have d1 := (hb1.cell (p := ⟨w.heap.size, 1, none⟩) hz).trans c1
    have hz0 := hbox.size
    have hz1 := hb1.size
    have haf := after_any rn A c bs A2 c2 ds w1 (h0.below hb1) (hd0.below hb1) hok hds hl
    rw [show fA rn (tasksOf bs) (floor0 rn bs.length (tasksOf bs).length) ds ds.length = fB0 rn bs ds ds.length by simp [fB0]] at haf
    generalize fB0 rn bs ds ds.length = f at hfn haf HR
    go_wp2_with fail
    refine haf.mono ?_
    rintro e w2 ⟨p, rfl, ⟨o, S, hS2⟩, hb2⟩
    have hB2 : Below w.heap.size w w2 := (hbox.trans (hb1.mono hz0)).trans (hb2.mono (by omega))
    have hz2 := hB2.size
    have hp := hS2.lt
    have hw10 := hfn.w10
    have hkl : f.known.length ≤ 48 := by rw [hfn.known]; exact h48
    obtain ⟨Aw, cw, ew, -, -⟩ := hS2.wire.1.form
    obtain ⟨Ak, ck, ek, -, -⟩ := hS2.known.1.form
    rw [List.length_map] at ew ek
    have c7 : w2.cell? ⟨p, 7, none⟩ = some S.w := hS2.cell rfl
    have c5 : w2.cell? ⟨p, 5, none⟩ = some S.k := hS2.cell rfl
    rw [ew] at c7
    rw [ek] at c5
    have hK : Row w2 0 4 1 (.slice Ak f.known.length ck) (f.known.map cBo) := by rw [← ek]; exact hS2.known.1
    have c7a := cell_alloc (.cells #[.int .i64 4, .int .i64 0] 91) c7
    have hb3 : Below w2.heap.size w2 (w2.alloc (.cells #[.int .i64 4, .int .i64 0] 91)) := (Below.refl _ _).alloc (Nat.le_refl _) _
    have hrp := repeat_any f.wire.length w2.heap.size hw10 (w2.alloc (.cells #[.int .i64 4, .int .i64 0] 91)) (by simp) (by rw [World.cell?_alloc_at _ _ _ _ rfl]; rfl) (by rw [World.cell?_alloc_at _ _ _ _ rfl]; rfl)
    clear d0 d1 hS2 c0 c1
    go_wp2_with fail
    refine hrp.mono ?_
    rintro e w4 ⟨rfl, hR4, hb4⟩
    have hB4 : Below w2.heap.size w2 w4 := hb3.trans (hb4.mono (by simp))
    have e5 := (hB4.cell (p := ⟨p, 5, none⟩) hp).trans c5
    replace hR4 : Row w4 w2.heap.size 91 2 (.slice (some ⟨(w2.alloc (.cells #[.int .i64 4, .int .i64 0] 91)).heap.size, 0, none⟩) f.wire.length f.wire.length) ((List.replicate f.wire.length ddr ++ finTo f.known 0).map cD) := by
      have := hR4.base (base' := w2.heap.size) (by simp)
      simpa [finTo] using this
    clear hrp hb3 hb4 c7 c7a c5
    go_wp2_with fail
    go_loopg [39, 9] f.known.length (FiRel w2 f)
    case atStart => exact ⟨0, by omega, by omega, by go_num, by simpa using hR4, hB4⟩
    case round =>
      clear hR4 hB4 e5
      obtain ⟨k, hk, rfl, rfl, hR, hB⟩ := hrel
      have hlen1 : (List.replicate f.wire.length ddr ++ finTo f.known k).length ≤ 160 := by
        rw [List.length_append, List.length_replicate]; have := finTo_len f.known k; omega
      obtain ⟨Av, cv, ev, -, -⟩ := hR.form
      rw [List.length_map] at ev
      obtain ⟨nl, hnl⟩ : ∃ nl, (List.replicate f.wire.length ddr ++ finTo f.known k).length = nl := ⟨_, rfl⟩
      rw [hnl] at ev hlen1
      subst ev
      by_cases hlt : k < f.known.length
      · obtain ⟨gk', ck', ek', hgk, hck'⟩ := hK.bool_at hlt
        simp only [Value.slice.injEq] at ek'
        obtain ⟨rfl, -, rfl⟩ := ek'
        have hcur := (hB.cell (p := ⟨gk', k, none⟩) hgk).trans hck'
        obtain ⟨b, hb⟩ : ∃ b, f.known[k] = b := ⟨_, rfl⟩
        rw [hb] at hcur
        cases b with
        | true =>
          have hR5 : Row wr w2.heap.size 91 2 (.slice Av nl cv) ((List.replicate f.wire.length ddr ++ finTo f.known (k + 1)).map cD) := by
            have e : finTask f.known k = [] := by unfold finTask; rw [getD_at hlt, hb]; rfl
            rw [finTo_succ, e, List.append_nil]; exact hR
          clear hb hck'
          go_wp2
          go_roundg (f.known.length - (k + 1))
          case measure => omega
          case rel => exact ⟨k + 1, by omega, rfl, by go_num, hR5, hB⟩
        | false =>
          have e : finTask f.known k = [⟨1, k⟩, ⟨2, 0⟩, ⟨2, 0⟩] := by unfold finTask; rw [getD_at hlt, hb]; rfl
          have hbq : Below wr.heap.size wr (wr.alloc (.cells #[.int .i64 1, .int .i64 k, .int .i64 2, .int .i64 0, .int .i64 2, .int .i64 0] 91)) := (Below.refl _ _).alloc (Nat.le_refl _) _
          have hsrc : SrcAt (wr.alloc (.cells #[.int .i64 1, .int .i64 k, .int .i64 2, .int .i64 0, .int .i64 2, .int .i64 0] 91)) (.slice (some ⟨wr.heap.size, 0, none⟩) 3 3) (([⟨1, k⟩, ⟨2, 0⟩, ⟨2, 0⟩] : List Dd).map cD) := .inr ⟨⟨wr.heap.size, 0, none⟩, 3, rfl, fun j u hu => by
            rw [Addr.add_lit, Nat.zero_add, World.cell?_alloc_at _ _ _ _ rfl]
            simpa [cD] using hu⟩
          have hi1 := hB.size
          obtain ⟨v', w5, hap, hR5, hg5, -⟩ := (hR.kept hbq).pushMany (P := Try.prog) 42 42 Try.underlying42 Try.infoDeed2 rfl (by omega) hsrc (deeds_ok _) (by rw [List.length_map, hnl]; simp; omega) (by omega) (by simp; omega)
          rw [← List.map_append, List.append_assoc, ← e, ← finTo_succ] at hR5
          have hB5 : Below w2.heap.size w2 w5 := (hB.alloc hB.size _).grown hg5 (by simp; omega) fun g hg => (hR.2.lt g hg).1
          clear hb hck' e hsrc hbq
          go_wp2_with ((with_reducible refine wpList_app_at (t := 42) ?_); refine ⟨_, _, hap, ?_⟩)
          go_roundg (f.known.length - (k + 1))
          case measure => omega
          case rel => exact ⟨k + 1, by omega, rfl, by go_num, hR5, hB5⟩
      · obtain rfl : k = f.known.length := by omega
        have hi1 := hB.size
        obtain ⟨v', w5, hap, hR5, hg5, hb5⟩ := hR.push (P := Try.prog) 42 42 Try.underlying42 Try.infoDeed2 rfl (by omega) #[.int .i64 5, .int .i64 0] rfl (by simp [Value.oneCell']) (by rw [List.length_map, hnl]; omega) (by omega) hi1
        have hpl : (List.map cD (List.replicate f.wire.length ddr ++ finTo f.known f.known.length) ++ [#[Value.int .i64 5, .int .i64 0]]) = (plan f).map cD := by simp [plan, cD, ddr]
        rw [hpl] at hR5
        obtain ⟨A5, c5', e5, -, -⟩ := hR5.form
        rw [List.length_map] at e5
        have hpn : (plan f).length ≤ 200 := by simp only [plan, List.length_append, List.length_replicate, List.length_singleton]; have := finTo_len f.known f.known.length; omega
        obtain ⟨pn, hpn2⟩ : ∃ pn, (plan f).length = pn := ⟨_, rfl⟩
        rw [hpn2] at e5 hpn
        subst e5
        have hB5 : Below w.heap.size w w5 := (hB2.trans (hB.mono hz2)).trans (hb5.mono (by omega))
        have HR2 := HR.out
        rw [hpn2] at HR2
        clear hpl hg5 hb5
        by_cases hov : 300 < ds.length + pn
        · have hfin : xs = [] ∧ z = 3 := by
            rcases HR2 with ⟨-, h⟩ | ⟨h, -⟩
            · exact h
            · omega
          obtain ⟨rfl, rfl⟩ := hfin
          clear HR2 hpn2
          go_wp2_with ((with_reducible refine wpList_app_at (t := 42) ?_); refine ⟨_, _, hap, ?_⟩)
          go_ret2
          exact ⟨_, rfl, Row.nil _ _ _ _, hB5⟩
        · have hfin : xs = plan f ∧ z = 0 := by
            rcases HR2 with ⟨h, -⟩ | ⟨-, h⟩
            · omega
            · exact h
          obtain ⟨rfl, rfl⟩ := hfin
          clear HR2 hpn2
          go_wp2_with ((with_reducible refine wpList_app_at (t := 42) ?_); refine ⟨_, _, hap, ?_⟩)
          go_ret2
          exact ⟨_, rfl, hR5.base hz2, hB5⟩
  · have e0 : (givenCode r bs ds != 0) = true := by simp; exact hg
    have hfin : xs = [] ∧ z = givenCode r bs ds := by
      rcases hres with ⟨-, h⟩ | ⟨h, -⟩ | ⟨h, -⟩
      · exact h
      · exact absurd h hg
      · exact absurd h hg
    obtain ⟨rfl, rfl⟩ := hfin
    clear hres hg
    go_enter Try.func30, Try.ntmps30
    go_wp2_with fail
    clear hw0
    refine hck.mono ?_
    rintro e w1 ⟨rfl, hb1⟩
    go_wp2
    go_ret2
    exact ⟨_, rfl, Row.nil _ _ _ _, hbox.trans (hb1.mono hbox.size)⟩
end Go.Proofs.Ytomcffionomidaa
