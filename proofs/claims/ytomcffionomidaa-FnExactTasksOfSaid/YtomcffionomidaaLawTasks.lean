/- The law FnExactTasksOf, walked. -/
import Derived.Test.YtomcffionomidaaTasks3
import Derived.Test.YtomcffionomidaaEq
import Derived.Test.YtomcffionomidaaEq2
import Derived.Test.YtomcffionomidaaMark3
import Derived.Deep.RegionHeld3
namespace Go.Proofs.Ytomcffionomidaa
open Go.RowKit

set_option maxRecDepth 100000 in
set_option maxHeartbeats 4000000 in
theorem lawTasks_walk (r : Int) (A : Option Addr) (c : Nat) (bs : List Bat) (w : World) (h : WorksRaw w A c bs) :
    Calls Try.prog 3 #[.agg #[.int .i64 r, .slice A bs.length c]] w fun e w' => e = .returned (.bool true) ∧ Below w.heap.size w w' := by
  obtain ⟨xs, code, hres, hxs⟩ := tasksRes_ex r bs
  have hbox : Below w.heap.size w (w.alloc (.cells #[.int .i64 r, .slice A bs.length c] 24)) := (Below.refl _ _).alloc (Nat.le_refl _) _
  have c0 : (w.alloc (.cells #[.int .i64 r, .slice A bs.length c] 24)).cell? ⟨w.heap.size, 0, none⟩ = some (.int .i64 r) := by rw [World.cell?_alloc_at _ _ _ _ rfl]; rfl
  have c1 : (w.alloc (.cells #[.int .i64 r, .slice A bs.length c] 24)).cell? ⟨w.heap.size, 1, none⟩ = some (.slice A bs.length c) := by rw [World.cell?_alloc_at _ _ _ _ rfl]; rfl
  have hW := h.below hbox
  have hz : w.heap.size < (w.alloc (.cells #[.int .i64 r, .slice A bs.length c] 24)).heap.size := by simp
  generalize hw0 : w.alloc (.cells #[.int .i64 r, .slice A bs.length c] 24) = w0 at hbox c0 c1 hW hz
  go_enter Try.func3, Try.ntmps3
  go_wp2_with fail
  clear hw0
  refine (szWorks_any r A c bs _ hW).mono ?_
  rintro e w1 ⟨q, rfl, hq, hb1⟩
  have z1 : w.heap.size < w1.heap.size := by have := hb1.size; omega
  have d0 := (hb1.cell (p := ⟨w.heap.size, 0, none⟩) hz).trans c0
  have d1 := (hb1.cell (p := ⟨w.heap.size, 1, none⟩) hz).trans c1
  have hV1 := hW.below hb1
  have hB1 : Below w.heap.size w w1 := hbox.trans (hb1.mono (by omega))
  have hWI := h.at_.in
  clear c0 c1 hW hb1 hbox hz h
  go_wp2_with fail
  · go_ret
    exact ⟨rfl, hB1⟩
  -- the reference's answer, over a copy
  have hn := (hq (by omega)).1
  have hW1 := hV1.small (hq (by omega))
  clear hV1
  refine (toWorks_any r A c bs _ hW1.at_ hn hW1.d8).mono ?_
  rintro e w2 ⟨A2, rfl, hO2, hb2⟩
  have hs2 := hb2.size
  have z2 : w.heap.size < w2.heap.size := by omega
  have e0 := (hb2.cell (p := ⟨w.heap.size, 0, none⟩) z1).trans d0
  have e1 := (hb2.cell (p := ⟨w.heap.size, 1, none⟩) z1).trans d1
  have hW2 := hW1.below hb2
  have hB2 : Below w.heap.size w w2 := hB1.trans (hb2.mono (by omega))
  clear d0 d1 hb2 hB1
  go_wp2_with fail
  refine (specTasksOf_any r A2 bs.length bs xs code _ ⟨hO2.at, hW1.n, Nat.le_refl _, hW1.d8, hW1.nm⟩ hres).mono ?_
  rintro e w3 ⟨v3, rfl, hR3, hb3⟩
  obtain ⟨A3, c3, rfl, -, hO3⟩ := hR3.form
  have hs3 := hb3.size
  have z3 : w.heap.size < w3.heap.size := by omega
  have d0 := (hb3.cell (p := ⟨w.heap.size, 0, none⟩) z2).trans e0
  have d1 := (hb3.cell (p := ⟨w.heap.size, 1, none⟩) z2).trans e1
  have hW3 := hW2.below hb3
  have hB3 : Below w.heap.size w w3 := hB2.trans (hb3.mono (by omega))
  have hS3 := hO3.in.sl
  clear e0 e1 hb3 hB2 hO2 hW1 hW2 hR3 hO3
  -- the copy that the program gets
  go_wp2_with fail
  refine (toWorks_any r A c bs _ hW3.at_ hn hW3.d8).mono ?_
  rintro e w4 ⟨A4, rfl, hO4, hb4⟩
  have hs4 := hb4.size
  have z4 : w.heap.size < w4.heap.size := by omega
  have e0 := (hb4.cell (p := ⟨w.heap.size, 0, none⟩) z3).trans d0
  have e1 := (hb4.cell (p := ⟨w.heap.size, 1, none⟩) z3).trans d1
  have hW4 := hW3.below hb4
  have hB4 : Below w.heap.size w w4 := hB3.trans (hb4.mono (by omega))
  have hS4 := hS3.below hb4 (Nat.le_refl _)
  have hO4i := hO4.in
  clear d0 d1 hb4 hB3 hS3 hO4
  have hx : Below w4.heap.size w4 (w4.alloc (.cells #[.int .i64 r, .slice A4 bs.length bs.length] 31)) := (Below.refl _ _).alloc (Nat.le_refl _) _
  have f0 : (w4.alloc (.cells #[.int .i64 r, .slice A4 bs.length bs.length] 31)).cell? ⟨w4.heap.size, 0, none⟩ = some (.int .i64 r) := by rw [World.cell?_alloc_at _ _ _ _ rfl]; rfl
  have f1 : (w4.alloc (.cells #[.int .i64 r, .slice A4 bs.length bs.length] 31)).cell? ⟨w4.heap.size, 1, none⟩ = some (.slice A4 bs.length bs.length) := by rw [World.cell?_alloc_at _ _ _ _ rfl]; rfl
  have y5 : w4.heap.size < (w4.alloc (.cells #[.int .i64 r, .slice A4 bs.length bs.length] 31)).heap.size := by simp
  generalize hw5 : w4.alloc (.cells #[.int .i64 r, .slice A4 bs.length bs.length] 31) = w5 at hx f0 f1 y5
  go_wp2_with fail
  clear hw5
  have z5 : w.heap.size < w5.heap.size := by omega
  have d0 := (hx.cell (p := ⟨w.heap.size, 0, none⟩) z4).trans e0
  have d1 := (hx.cell (p := ⟨w.heap.size, 1, none⟩) z4).trans e1
  have hW5 := hW4.below hx
  have hB5 : Below w.heap.size w w5 := hB4.trans (hx.mono (by omega))
  have hS5 := hS4.below hx (by omega)
  have hO5 := hO4i.below hx (by omega)
  clear e0 e1 hx hB4 hS4 hO4i hW3 hW4
  refine (implTasksOf_any r A4 bs.length bs xs code _ ⟨hO5.sl.at, hW5.n, Nat.le_refl _, hW5.d8, hW5.nm⟩ hres).mono ?_
  rintro e w6 ⟨v6, rfl, hR6, hb6⟩
  obtain ⟨A6, c6, rfl, -, hO6⟩ := hR6.form
  have z6 : w.heap.size < w6.heap.size := by have := hb6.size; omega
  have y6 : w4.heap.size < w6.heap.size := by have := hb6.size; omega
  have e0 := (hb6.cell (p := ⟨w.heap.size, 0, none⟩) z5).trans d0
  have e1 := (hb6.cell (p := ⟨w.heap.size, 1, none⟩) z5).trans d1
  have g0 := (hb6.cell (p := ⟨w4.heap.size, 0, none⟩) y5).trans f0
  have g1 := (hb6.cell (p := ⟨w4.heap.size, 1, none⟩) y5).trans f1
  have hW6 := hW5.below hb6
  have hB6 : Below w.heap.size w w6 := hB5.trans (hb6.mono (by omega))
  have hS6 := hS5.below hb6 (by omega)
  have hO4' := hO5.below hb6 (by omega)
  have hT6 := hO6.in
  have hs56 := hb6.size
  clear d0 d1 f0 f1 hb6 hB5 hS5 hO5 hW5 hR6
  -- the answers are alike
  go_wp2_with fail
  refine (eqTaskS_same A6 A3 c6 c3 xs _ hO6.at hS6.at (by omega)).mono ?_
  rintro e w7 ⟨rfl, hb7⟩
  have z7 : w.heap.size < w7.heap.size := by have := hb7.size; omega
  have y7 : w4.heap.size < w7.heap.size := by have := hb7.size; omega
  have d0 := (hb7.cell (p := ⟨w.heap.size, 0, none⟩) z6).trans e0
  have d1 := (hb7.cell (p := ⟨w.heap.size, 1, none⟩) z6).trans e1
  have f0 := (hb7.cell (p := ⟨w4.heap.size, 0, none⟩) y6).trans g0
  have f1 := (hb7.cell (p := ⟨w4.heap.size, 1, none⟩) y6).trans g1
  have hW7 := hW6.below hb7
  have hB7 : Below w.heap.size w w7 := hB6.trans (hb7.mono (by omega))
  have hS7 := hS6.below hb7 (by omega)
  have hX7 := hO4'.below hb7 (by omega)
  have hT7 := hT6.below hb7 (by omega)
  have hs67 := hb7.size
  clear e0 e1 g0 g1 hb7 hB6 hS6 hO4' hO6 hT6 hW6
  go_wp2_with fail
  have hdr : Below w7.heap.size w7 w7.drew := (Below.refl _ _).drew
  go_region_held3 (fun W => W.cell? ⟨w.heap.size, 0, none⟩ = some (.int .i64 r) ∧ W.cell? ⟨w.heap.size, 1, none⟩ = some (.slice A bs.length c) ∧ W.cell? ⟨w4.heap.size, 0, none⟩ = some (.int .i64 r) ∧ W.cell? ⟨w4.heap.size, 1, none⟩ = some (.slice A4 bs.length bs.length)) (first | exact ⟨d0, d1, f0, f1⟩ | exact ⟨k0, k1, k2, k3⟩ | exact ⟨l0, l1, l2, l3⟩) (first | (go_at_call 12; refine (toWorks_any r A c bs _ (hW7.below hdr).at_ hn hW7.d8).mono ?_; rintro e w8 ⟨A8, rfl, hO8, hb8⟩; have k0 := (hb8.cell (p := ⟨w.heap.size, 0, none⟩) z7).trans d0; have k1 := (hb8.cell (p := ⟨w.heap.size, 1, none⟩) z7).trans d1; have k2 := (hb8.cell (p := ⟨w4.heap.size, 0, none⟩) y7).trans f0; have k3 := (hb8.cell (p := ⟨w4.heap.size, 1, none⟩) y7).trans f1) | (go_at_call 15; refine (eqWorks_same r A4 A8 _ _ bs _ ((hX7.below hdr (by omega)).below hb8 (by simp; omega)).sl.at hO8.at hW7.d8 hW7.n).mono ?_; rintro e w9 ⟨rfl, hb9⟩; have z8 := Nat.lt_of_lt_of_le z7 hb8.size; have y8 := Nat.lt_of_lt_of_le y7 hb8.size; have l0 := (hb9.cell (p := ⟨w.heap.size, 0, none⟩) z8).trans k0; have l1 := (hb9.cell (p := ⟨w.heap.size, 1, none⟩) z8).trans k1; have l2 := (hb9.cell (p := ⟨w4.heap.size, 0, none⟩) y8).trans k2; have l3 := (hb9.cell (p := ⟨w4.heap.size, 1, none⟩) y8).trans k3))
  have hs79 : w7.heap.size ≤ w9.heap.size := Nat.le_trans hb8.size hb9.size
  have hb79 : Below w7.heap.size w7 w9 := (hdr.trans hb8).trans (hb9.mono hb8.size)
  have hB9 : Below w.heap.size w w9 := hB7.trans (hb79.mono (by omega))
  have hS9 := hS7.below hb79 (by omega)
  have hX9 := hX7.below hb79 (by omega)
  have hT9 := hT7.below hb79 (by omega)
  have hW9 := hW7.below hb79
  have hI9 := (hWI.below (hB9.mono (Nat.le_refl _)) (Nat.le_refl _))
  clear k0 k1 k2 k3 d0 d1 f0 f1 hdr hb8 hb9 hO8 hb79 hB7 hS7 hX7 hT7 hW7 z8 y8
  -- the marks
  go_wp2_with fail
  have hlm : (bs.map cB).length = bs.length := by simp
  have hmk := markWorks_in r w3.heap.size w4.heap.size A4 bs.length (bs.map cB) w9 (by omega) hX9 (by omega)
  rw [hlm] at hmk
  refine hmk.mono ?_
  rintro e w10 ⟨rfl, hk⟩
  have hs910 := hk.size
  have d0 := (hk.cell (p := ⟨w.heap.size, 0, none⟩) (by show w.heap.size < _; omega) (.inl (by show w.heap.size < _; omega))).trans l0
  have d1 := (hk.cell (p := ⟨w.heap.size, 1, none⟩) (by show w.heap.size < _; omega) (.inl (by show w.heap.size < _; omega))).trans l1
  have hS10 := hS9.kept hk (.inl (Nat.le_refl _))
  have hI10 := hI9.kept hk (.inl (by omega))
  have hT10 := hT9.kept hk (.inr (by omega))
  have hB10 : Below w.heap.size w w10 := hB9.trans (hk.below (by omega) (by omega))
  clear l0 l1 l2 l3 hk hmk hlm hS9 hT9 hX9 hB9
  go_wp2_with fail
  refine (eqTaskS_same A6 A3 c6 c3 xs _ hT10.sl.at hS10.at (by omega)).mono ?_
  rintro e w11 ⟨rfl, hb11⟩
  have hs11 := hb11.size
  have e0 := (hb11.cell (p := ⟨w.heap.size, 0, none⟩) (by show w.heap.size < _; omega)).trans d0
  have e1 := (hb11.cell (p := ⟨w.heap.size, 1, none⟩) (by show w.heap.size < _; omega)).trans d1
  have hS11 := hS10.below hb11 (by omega)
  have hI11 := hI10.below hb11 (by omega)
  have hT11 := hT10.below hb11 (by omega)
  have hB11 : Below w.heap.size w w11 := hB10.trans (hb11.mono (by omega))
  clear d0 d1 hb11 hS10 hT10 hB10
  go_wp2_with fail
  have hlx : (xs.map cT).length = xs.length := by simp
  have hmt := markTaskS_own w5.heap.size A6 c6 (xs.map cT) w11 (by omega) hT11.own
  rw [hlx] at hmt
  refine hmt.mono ?_
  rintro e w12 ⟨rfl, hO12, hb12⟩
  have hs12 := hb12.size
  have d0 := (hb12.cell (p := ⟨w.heap.size, 0, none⟩) (by show w.heap.size < _; omega)).trans e0
  have d1 := (hb12.cell (p := ⟨w.heap.size, 1, none⟩) (by show w.heap.size < _; omega)).trans e1
  have hS12 := hS11.below hb12 (by omega)
  have hW12 : WorksAt w12 A c bs := ⟨(hI11.below hb12 (by omega)).at, hW9.n, hW9.c, hW9.d8, hW9.nm⟩
  have hB12 : Below w.heap.size w w12 := hB11.trans (hb12.mono (by omega))
  have hA12 := hO12.in.sl
  clear e0 e1 hb12 hS11 hT11 hB11 hmt hlx hO12
  go_wp2_with fail
  refine (heldTaskS_any A6 xs.length c6 _ (by omega) hA12.at).mono ?_
  rintro e w13 ⟨rfl, rfl⟩
  -- once more, over another copy
  go_wp2_with fail
  refine (toWorks_any r A c bs _ hW12.at_ hn hW12.d8).mono ?_
  rintro e w14 ⟨A14, rfl, hO14, hb14⟩
  have hs14 := hb14.size
  have hS14 := hS12.below hb14 (by omega)
  have hA14 := hA12.below hb14 (Nat.le_refl _)
  have hB14 : Below w.heap.size w w14 := hB12.trans (hb14.mono (by omega))
  clear d0 d1 hb14 hS12 hA12 hB12
  go_wp2_with fail
  refine (implTasksOf_any r A14 bs.length bs xs code _ ⟨hO14.at, hW12.n, Nat.le_refl _, hW12.d8, hW12.nm⟩ hres).mono ?_
  rintro e w15 ⟨v15, rfl, hR15, hb15⟩
  obtain ⟨A15, c15, rfl, -, hO15⟩ := hR15.form
  have hs15 := hb15.size
  have hS15 := hS14.below hb15 (by omega)
  have hA15 := hA14.below hb15 (by omega)
  have hB15 : Below w.heap.size w w15 := hB14.trans (hb15.mono (by omega))
  clear hb15 hS14 hA14 hB14 hO14 hW12 hR15
  go_wp2_with fail
  refine (eqTaskS_same A15 A3 c15 c3 xs _ hO15.at hS15.at (by omega)).mono ?_
  rintro e w16 ⟨rfl, hb16⟩
  have hs16 := hb16.size
  have hA16 := hA15.below hb16 (by omega)
  have hB16 : Below w.heap.size w w16 := hB15.trans (hb16.mono (by omega))
  clear hb16 hS15 hA15 hB15 hO15
  go_wp2_with fail
  refine (heldTaskS_any A6 xs.length c6 _ (by omega) hA16.at).mono ?_
  rintro e w17 ⟨rfl, rfl⟩
  go_wp2
  go_ret
  exact ⟨rfl, hB16⟩
end Go.Proofs.Ytomcffionomidaa
