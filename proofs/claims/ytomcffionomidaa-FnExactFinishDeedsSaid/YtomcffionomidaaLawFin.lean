/- The law FnExactFinishDeeds, walked. -/
import Derived.Test.YtomcffionomidaaLawRef
import Derived.Test.YtomcffionomidaaMarkD
namespace Go.Proofs.Ytomcffionomidaa
open Go.RowKit
set_option linter.unusedSimpArgs false
set_option linter.unusedVariables false


set_option maxRecDepth 100000 in
set_option maxHeartbeats 4000000 in
theorem lawFinish_walk (r : Int) (A : Option Addr) (c : Nat) (bs : List Bat) (A2 : Option Addr) (c2 : Nat) (ds : List Dd) (w : World) (h : WorksRaw w A c bs) (hd : DeedsRaw w A2 c2 ds) :
    Calls Try.prog 7 #[.agg #[.int .i64 r, .slice A bs.length c], .slice A2 ds.length c2] w fun e w' => e = .returned (.bool true) ∧ Below w.heap.size w w' := by
  obtain ⟨xs, z, hres, hxs⟩ := fnRes_ex r bs ds
  have HR := Lib.hid hres
  clear hres
  have hbox : Below w.heap.size w (w.alloc (.cells #[.int .i64 r, .slice A bs.length c] 24)) := (Below.refl _ _).alloc (Nat.le_refl _) _
  have c0 : (w.alloc (.cells #[.int .i64 r, .slice A bs.length c] 24)).cell? ⟨w.heap.size, 0, none⟩ = some (.int .i64 r) := by rw [World.cell?_alloc_at _ _ _ _ rfl]; rfl
  have c1 : (w.alloc (.cells #[.int .i64 r, .slice A bs.length c] 24)).cell? ⟨w.heap.size, 1, none⟩ = some (.slice A bs.length c) := by rw [World.cell?_alloc_at _ _ _ _ rfl]; rfl
  have hW0 := h.below hbox
  have hD0 := hd.below hbox
  have hz : w.heap.size < (w.alloc (.cells #[.int .i64 r, .slice A bs.length c] 24)).heap.size := by simp
  generalize hw0 : w.alloc (.cells #[.int .i64 r, .slice A bs.length c] 24) = w0 at hbox c0 c1 hW0 hD0 hz
  have K0 : Hid (∀ W, Below w0.heap.size w0 W → W.cell? ⟨w.heap.size, 0, none⟩ = some (.int .i64 r)) := fun W hW => (hW.cell (p := ⟨w.heap.size, 0, none⟩) hz).trans c0
  have K1 : Hid (∀ W, Below w0.heap.size w0 W → W.cell? ⟨w.heap.size, 1, none⟩ = some (.slice A bs.length c)) := fun W hW => (hW.cell (p := ⟨w.heap.size, 1, none⟩) hz).trans c1
  go_enter Try.func7, Try.ntmps7
  go_wp2_with fail
  clear hw0 c0 c1
  refine (szWorks2_any r A c bs _ hW0).mono ?_
  rintro e w1 ⟨q, rfl, hq1, hq, H1⟩
  have d0 := K0.out w1 H1
  have d1 := K1.out w1 H1
  go_wp2_with fail
  focus
    go_ret
    exact ⟨rfl, hbox.trans (H1.mono hbox.size)⟩
  have hq0 : 0 ≤ q := by omega
  refine (szDeedS_any A2 c2 ds q hq0 hq1 hd.n _).mono ?_
  rintro e w2 ⟨q2, rfl, hq2, rfl⟩
  go_wp2_with fail
  focus
    go_ret
    exact ⟨rfl, hbox.trans (H1.mono hbox.size)⟩
  have hq3 : 0 ≤ q2 := by omega
  have hn := (hq hq0).1
  have hdn := hq2 hq3
  have hW := hW0.small (hq hq0)
  have hD : DeedsAt w0 A2 c2 ds := ⟨hD0.at_, by omega, hD0.c⟩
  clear hq hq2 hW0 hD0 h hd d0 d1
  -- the reference's answer, over copies
  refine (toWorks_any r A c bs _ (hW.below H1).at_ hn hW.d8).mono ?_
  rintro e w3 ⟨A3, rfl, hO3, hb3⟩
  have H3 := H1.trans (hb3.mono H1.size)
  have d0 := K0.out w3 H3
  have d1 := K1.out w3 H3
  go_wp2_with fail
  refine (toDeedS_any A2 c2 ds _ (hD.below H3).at_ hdn).mono ?_
  rintro e w4 ⟨A4, rfl, hO4, hb4⟩
  have H4 := H3.trans (hb4.mono H3.size)
  have hs3 : WorksAt w4 A3 bs.length bs := ⟨(hO3.below hb4).at, hW.n, Nat.le_refl _, hW.d8, hW.nm⟩
  have hs4 : DeedsAt w4 A4 ds.length ds := ⟨hO4.at, hD.n, Nat.le_refl _⟩
  clear d0 d1 hb3
  have d0 := K0.out w4 H4
  have d1 := K1.out w4 H4
  go_wp2_with fail
  refine (specFinish_any r A3 _ bs A4 _ ds _ hs3 hs4 xs z HR.out).mono ?_
  rintro e w5 ⟨v5, rfl, hR5, hb5⟩
  obtain ⟨A5, c5, rfl, -, hO5⟩ := hR5.form
  rw [List.length_map] at hR5 ⊢
  have S5 := hO5.in.sl
  have t45 := hb5.size
  clear hR5 hO5
  have H5 := H4.trans (hb5.mono H4.size)
  clear d0 d1 hb4 hO3 hO4 hs3 hs4
  have d0 := K0.out w5 H5
  have d1 := K1.out w5 H5
  go_wp2_with fail
  -- the copies that the program gets
  refine (toWorks_any r A c bs _ (hW.below H5).at_ hn hW.d8).mono ?_
  rintro e w6 ⟨A6, rfl, hO6, hb6⟩
  have hb6' := hb6
  have H6 := H5.trans (hb6.mono H5.size)
  have hx : Below w6.heap.size w6 (w6.alloc (.cells #[.int .i64 r, .slice A6 bs.length bs.length] 31)) := (Below.refl _ _).alloc (Nat.le_refl _) _
  have f0 : (w6.alloc (.cells #[.int .i64 r, .slice A6 bs.length bs.length] 31)).cell? ⟨w6.heap.size, 0, none⟩ = some (.int .i64 r) := by rw [World.cell?_alloc_at _ _ _ _ rfl]; rfl
  have f1 : (w6.alloc (.cells #[.int .i64 r, .slice A6 bs.length bs.length] 31)).cell? ⟨w6.heap.size, 1, none⟩ = some (.slice A6 bs.length bs.length) := by rw [World.cell?_alloc_at _ _ _ _ rfl]; rfl
  have hzx : w6.heap.size < (w6.alloc (.cells #[.int .i64 r, .slice A6 bs.length bs.length] 31)).heap.size := by simp
  clear d0 d1 hb6
  have d0 := K0.out w6 H6
  have d1 := K1.out w6 H6
  generalize hw7 : w6.alloc (.cells #[.int .i64 r, .slice A6 bs.length bs.length] 31) = w7 at hx f0 f1 hzx
  have F0 : Hid (∀ W, Below w7.heap.size w7 W → W.cell? ⟨w6.heap.size, 0, none⟩ = some (.int .i64 r)) := fun W hW => (hW.cell (p := ⟨w6.heap.size, 0, none⟩) hzx).trans f0
  have F1 : Hid (∀ W, Below w7.heap.size w7 W → W.cell? ⟨w6.heap.size, 1, none⟩ = some (.slice A6 bs.length bs.length)) := fun W hW => (hW.cell (p := ⟨w6.heap.size, 1, none⟩) hzx).trans f1
  go_wp2_with fail
  clear hw7 f0 f1
  have H7 := H6.trans (hx.mono H6.size)
  have hx7 : WorksAt w7 A6 bs.length bs := ⟨(hO6.below hx).at, hW.n, Nat.le_refl _, hW.d8, hW.nm⟩
  have I6 := hO6.in
  clear d0 d1 hO6
  refine (toDeedS_any A2 c2 ds _ (hD.below H7).at_ hdn).mono ?_
  rintro e w8 ⟨A8, rfl, hO8, hb8⟩
  have H8 := H7.trans (hb8.mono H7.size)
  have hx8 := hx7.below hb8
  have I8 := hO8.in
  have hy8 : DeedsAt w8 A8 ds.length ds := ⟨hO8.at, hD.n, Nat.le_refl _⟩
  have d0 := K0.out w8 H8
  have d1 := K1.out w8 H8
  have e0 := F0.out w8 hb8
  have e1 := F1.out w8 hb8
  go_wp2_with fail
  refine (implFinish_any r A6 _ bs A8 _ ds _ hx8 hy8 xs z HR.out).mono ?_
  rintro e w90 ⟨v9, rfl, hR9, hb90⟩
  obtain ⟨A9, c9, rfl, -, hO9⟩ := hR9.form
  rw [List.length_map] at hR9 ⊢
  have T9 := hO9.in
  have t56 := hb6'.size
  have t67 := hx.size
  have t78 := hb8.size
  have t89 := hb90.size
  have B59 : Below w5.heap.size w5 w90 := ((hb6'.trans (hx.mono t56)).trans (hb8.mono (by omega))).trans (hb90.mono (by omega))
  have S9 := S5.below B59 (Nat.le_refl _)
  have I6a := (I6.below hx (Nat.le_refl _)).below (hb8.trans (hb90.mono t78)) t67
  have I8a := I8.below hb90 (Nat.le_refl _)
  clear hR9 hO9 S5 I6 I8
  have HH := H8.trans (hb90.mono H8.size)
  have GG := hb8.trans (hb90.mono hb8.size)
  clear d0 d1 e0 e1
  have d0 := K0.out w90 HH
  have d1 := K1.out w90 HH
  have e0 := F0.out w90 GG
  have e1 := F1.out w90 GG
  go_wp2_with fail
  refine (eqDeedS_same A9 A5 _ _ xs _ T9.sl.at S9.at (by omega)).mono ?_
  rintro e w9 ⟨rfl, hbe⟩
  have hb9 : Below w8.heap.size w8 w9 := hb90.trans (hbe.mono hb90.size)
  clear HH GG B59
  have H9 := H8.trans (hb9.mono H8.size)
  have G9 := hb8.trans (hb9.mono hb8.size)
  have hx9 := hx8.below hb9
  have hy9 := hy8.below hb9
  clear d0 d1 e0 e1
  have d0 := K0.out w9 H9
  have d1 := K1.out w9 H9
  have e0 := F0.out w9 G9
  have e1 := F1.out w9 G9
  go_wp2_with fail
  refine wp_region_held_drew (S := fun W => W.cell? ⟨w.heap.size, 0, none⟩ = some (.int .i64 r) ∧ W.cell? ⟨w.heap.size, 1, none⟩ = some (.slice A bs.length c) ∧ W.cell? ⟨w6.heap.size, 0, none⟩ = some (.int .i64 r) ∧ W.cell? ⟨w6.heap.size, 1, none⟩ = some (.slice A6 bs.length bs.length)) (by kernel_rfl) (by exact ⟨d0, d1, e0, e1⟩) (fun hHeld => ?_)
  refine wpAnyH_take (i := 0) (oi := _) (v := ?_) rfl (by kernel_rfl) (by kernel_rfl) (by kernel_rfl) (fun _ _ _ h => h) (Or.inl ⟨by rfl, ?_⟩) (by assumption) ?_
  rotate_left
  focus
    intro w hSw
    (try dsimp only at hSw)
    go_simp
    (try with_reducible rfl)
  (try simp only [List.getElem_toArray, List.getElem_cons_zero, List.getElem_cons_succ, Act.put, List.setIfInBounds_toArray, List.set_cons_zero, List.set_cons_succ])
  refine wpAnyH_take (i := 1) (oi := _) (v := ?_) rfl (by kernel_rfl) (by kernel_rfl) (by kernel_rfl) (fun _ _ _ h => h) (Or.inl ⟨by rfl, ?_⟩) (by assumption) ?_
  rotate_left
  focus
    intro w hSw
    (try dsimp only at hSw)
    go_simp
    (try with_reducible rfl)
  (try simp only [List.getElem_toArray, List.getElem_cons_zero, List.getElem_cons_succ, Act.put, List.setIfInBounds_toArray, List.set_cons_zero, List.set_cons_succ])
  refine wpAnyH_ready (rs := [2]) (by kernel_rfl) (by simp) ?_
  refine AllReadyH.cons (o := _) rfl (fun K hK => ?_) AllReadyH.nil
  (try simp only [List.getElem_toArray, List.getElem_cons_zero, List.getElem_cons_succ])
  go_simp
  refine (toWorks_any r A c bs _ (hW.below H9.drew).at_ hn hW.d8).mono ?_
  rintro e w10 ⟨A10, rfl, hO10, hb10⟩
  have Q10 : Below w9.heap.size w9 w10 := ((Below.refl _ w9).drew).trans hb10
  have H10 := H9.trans (Q10.mono H9.size)
  have G10 := G9.trans (Q10.mono G9.size)
  refine hK.out _ _ ?_ (fun hHeld => ?_)
  focus
    (try dsimp only)
    exact ⟨K0.out _ H10, K1.out _ H10, F0.out _ G10, F1.out _ G10⟩
  clear hK K
  (try simp only [List.getElem_toArray, List.getElem_cons_zero, List.getElem_cons_succ, Act.put, List.setIfInBounds_toArray, List.set_cons_zero, List.set_cons_succ])
  refine wpAnyH_ready (rs := [3]) (by kernel_rfl) (by simp) ?_
  refine AllReadyH.cons (o := _) rfl (fun K hK => ?_) AllReadyH.nil
  (try simp only [List.getElem_toArray, List.getElem_cons_zero, List.getElem_cons_succ])
  go_simp
  refine (eqWorks_same r A6 A10 _ _ bs _ (hx9.below Q10).at_ hO10.at hW.d8 hW.n).mono ?_
  rintro e w11 ⟨rfl, hb11⟩
  have H11 := H10.trans (hb11.mono H10.size)
  have G11 := G10.trans (hb11.mono G10.size)
  refine hK.out _ _ ?_ (fun hHeld => ?_)
  focus
    (try dsimp only)
    exact ⟨K0.out _ H11, K1.out _ H11, F0.out _ G11, F1.out _ G11⟩
  clear hK K
  (try simp only [List.getElem_toArray, List.getElem_cons_zero, List.getElem_cons_succ, Act.put, List.setIfInBounds_toArray, List.set_cons_zero, List.set_cons_succ])
  refine wpAnyH_take (i := 4) (oi := _) (v := ?_) rfl (by kernel_rfl) (by kernel_rfl) (by kernel_rfl) (fun _ _ _ h => h) (Or.inl ⟨by rfl, ?_⟩) (by assumption) ?_
  rotate_left
  focus
    intro w hSw
    (try dsimp only at hSw)
    go_simp
    (try with_reducible rfl)
  (try simp only [List.getElem_toArray, List.getElem_cons_zero, List.getElem_cons_succ, Act.put, List.setIfInBounds_toArray, List.set_cons_zero, List.set_cons_succ])
  refine wpAnyH_done (by kernel_rfl) ?_ _
  have hy11 := (hy9.below Q10).below hb11
  clear hHeld d0 d1 e0 e1 hb10 hO10 hx9 hy9 hx8 hy8
  go_wp2_with fail
  refine (toDeedS_any A2 c2 ds _ (hD.below H11).at_ hdn).mono ?_
  rintro e w12 ⟨A12, rfl, hO12, hb12⟩
  have H12 := H11.trans (hb12.mono H11.size)
  go_wp2_with fail
  refine (eqDeedS_same A8 A12 _ _ ds _ (hy11.below hb12).at_ hO12.at hD.n).mono ?_
  rintro e w13 ⟨rfl, hb13⟩
  have H13 := H12.trans (hb13.mono H12.size)
  have G13 : Below w7.heap.size w7 w13 := (G11.trans (hb12.mono G11.size)).trans (hb13.mono (Nat.le_trans G11.size hb12.size))
  have u9 := hbe.size
  have u10 := Q10.size
  have u11 := hb11.size
  have u12 := hb12.size
  have u13 := hb13.size
  have BB : Below w90.heap.size w90 w13 := (((hbe.trans (Q10.mono (by omega))).trans (hb11.mono (by omega))).trans (hb12.mono (by omega))).trans (hb13.mono (by omega))
  have S13 := S9.below BB (by omega)
  have T13 := T9.below BB (Nat.le_refl _)
  have I6b := I6a.below BB (by omega)
  have I8b := I8a.below BB (by omega)
  have e0 := F0.out w13 G13
  have e1 := F1.out w13 G13
  have h05 := H5.size
  clear S9 T9 I6a I8a BB hbe Q10 hb11 hb12 hb13 hO12 H9 H10 H11 H12 G9 G10 G11 hy11 hb9 hb90
  go_wp2_with fail
  -- the marks
  have hlm : (bs.map cB).length = bs.length := by simp
  have hmk := markWorks_in r w5.heap.size w6.heap.size A6 bs.length (bs.map cB) w13 (by have := hW.n; omega) I6b (by omega)
  rw [hlm] at hmk
  refine hmk.mono ?_
  rintro e w14 ⟨rfl, hk14⟩
  have t14 := hk14.size
  have S14 := S13.kept hk14 (.inl (Nat.le_refl _))
  have T14 := T13.kept hk14 (.inr (by omega))
  have I8c := I8b.kept hk14 (.inr (by omega))
  have H14 := H13.trans (hk14.below h05 H13.size)
  clear hmk hlm S13 T13 I6b I8b hk14 e0 e1 H13
  go_wp2_with fail
  have hnB := hW.n
  have hnD := hD.n
  refine (markDeedS_in (1 + 9 * bs.length) (by omega) (by omega) w7.heap.size w8.heap.size A8 ds.length _ (ds.map cD) _ (by simp) (by omega) I8c).mono ?_
  rintro e w15 ⟨rfl, -, hk15⟩
  have t15 := hk15.size
  have S15 := S14.kept hk15 (.inl (by omega))
  have T15 := T14.kept hk15 (.inr (by omega))
  have H15 := H14.trans (hk15.below (by omega) H14.size)
  have hkn : ¬ ((1 + 9 * (bs.length : Int) + 2 * (ds.length : Int)) < 0) := by omega
  clear S14 T14 I8c hk15 H14
  go_wp2_with fail
  refine (eqDeedS_same A9 A5 _ _ xs _ T15.sl.at S15.at (by omega)).mono ?_
  rintro e w16 ⟨rfl, hb16⟩
  have S16 := S15.below hb16 (by omega)
  have T16 := T15.below hb16 (by omega)
  have H16 := H15.trans (hb16.mono H15.size)
  have t16 := hb16.size
  clear S15 T15 hb16 H15 hkn
  go_wp2_with fail
  refine (markDeedS_in 1 (by omega) (by omega) w8.heap.size w90.heap.size A9 xs.length _ (xs.map cD) _ (by simp) (by omega) T16).mono ?_
  rintro e w17 ⟨rfl, M17, hk17⟩
  have t17 := hk17.size
  have S17 := S16.kept hk17 (.inl (by omega))
  have H17 := H16.trans (hk17.below (by omega) H16.size)
  clear S16 T16 hk17 H16
  go_wp2_with fail
  refine (heldDeedS_any A9 xs.length c9 _ (by omega) M17.sl.at).mono ?_
  rintro e w18 ⟨rfl, rfl⟩
  have hqn : ¬ ((1 + 2 * (xs.length : Int)) < 0) := by omega
  have d0 := K0.out w17 H17
  have d1 := K1.out w17 H17
  -- once more, over other copies
  go_wp2_with fail
  refine (toWorks_any r A c bs _ (hW.below H17).at_ hn hW.d8).mono ?_
  rintro e w18 ⟨A18, rfl, hO18, hb18⟩
  have H18 := H17.trans (hb18.mono H17.size)
  have t18 := hb18.size
  have S18 := S17.below hb18 (by omega)
  have M18 := M17.below hb18 (by omega)
  clear S17 M17 H17 d0 d1
  go_wp2_with fail
  refine (toDeedS_any A2 c2 ds _ (hD.below H18).at_ hdn).mono ?_
  rintro e w19 ⟨A19, rfl, hO19, hb19⟩
  have H19 := H18.trans (hb19.mono H18.size)
  have t19 := hb19.size
  have S19 := S18.below hb19 (by omega)
  have M19 := M18.below hb19 (by omega)
  have hx19 : WorksAt w19 A18 bs.length bs := ⟨(hO18.below hb19).at, hW.n, Nat.le_refl _, hW.d8, hW.nm⟩
  have hy19 : DeedsAt w19 A19 ds.length ds := ⟨hO19.at, hD.n, Nat.le_refl _⟩
  clear S18 M18 H18 hb18 hb19 hO18 hO19
  go_wp2_with fail
  refine (implFinish_any r A18 _ bs A19 _ ds _ hx19 hy19 xs z HR.out).mono ?_
  rintro e w20 ⟨v20, rfl, hR20, hb20⟩
  obtain ⟨A20, c20, rfl, -, hO20⟩ := hR20.form
  rw [List.length_map] at hR20 ⊢
  have t20 := hb20.size
  have S20 := S19.below hb20 (by omega)
  have M20 := M19.below hb20 (by omega)
  have H20 := H19.trans (hb20.mono H19.size)
  clear S19 M19 H19 hb20 hR20
  go_wp2_with fail
  refine (eqDeedS_same A20 A5 _ _ xs _ hO20.at S20.at (by omega)).mono ?_
  rintro e w21 ⟨rfl, hb21⟩
  have M21 := M20.below hb21 (by omega)
  have H21 := H20.trans (hb21.mono H20.size)
  clear S20 M20 H20 hO20
  go_wp2_with fail
  refine (heldDeedS_any A9 xs.length c9 _ (by omega) M21.sl.at).mono ?_
  rintro e w22 ⟨rfl, rfl⟩
  go_wp2_with fail
  go_ret
  exact ⟨rfl, hbox.trans (H21.mono hbox.size)⟩
end Go.Proofs.Ytomcffionomidaa
