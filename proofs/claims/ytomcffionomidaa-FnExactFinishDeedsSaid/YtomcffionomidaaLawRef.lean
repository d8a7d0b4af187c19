/- The laws over works and deeds whose answers are plain: walked. -/
import Derived.Test.YtomcffionomidaaDeedS
import Derived.Deep.RegionHeld3
namespace Go.Proofs.Ytomcffionomidaa
open Go.RowKit
set_option linter.unusedSimpArgs false
set_option linter.unusedVariables false


set_option maxRecDepth 100000 in
set_option maxHeartbeats 4000000 in
theorem lawRefused_walk (r : Int) (A : Option Addr) (c : Nat) (bs : List Bat) (A2 : Option Addr) (c2 : Nat) (ds : List Dd) (w : World) (h : WorksRaw w A c bs) (hd : DeedsRaw w A2 c2 ds) :
    Calls Try.prog 4 #[.agg #[.int .i64 r, .slice A bs.length c], .slice A2 ds.length c2] w fun e w' => e = .returned (.bool true) ∧ Below w.heap.size w w' := by
  obtain ⟨x, y, z, hres⟩ := refRes_ex r bs ds
  have HR := Lib.hid hres
  clear hres
  have hbox : Below w.heap.size w (w.alloc (.cells #[.int .i64 r, .slice A bs.length c] 24)) := (Below.refl _ _).alloc (Nat.le_refl _) _
  have c0 : (w.alloc (.cells #[.int .i64 r, .slice A bs.length c] 24)).cell? ⟨w.heap.size, 0, none⟩ = some (.int .i64 r) := by rw [World.cell?_alloc_at _ _ _ _ rfl]; rfl
  have c1 : (w.alloc (.cells #[.int .i64 r, .slice A bs.length c] 24)).cell? ⟨w.heap.size, 1, none⟩ = some (.slice A bs.length c) := by rw [World.cell?_alloc_at _ _ _ _ rfl]; rfl
  have hW0 := h.below hbox
  have hD0 := hd.below hbox
  have hz : w.heap.size < (w.alloc (.cells #[.int .i64 r, .slice A bs.length c] 24)).heap.size := by simp
  generalize hw0 : w.alloc (.cells #[.int .i64 r, .slice A bs.length c] 24) = w0 at hbox c0 c1 hW0 hD0 hz
  have K0 : Hid (∀ W, Below w0.heap.size w0 W → W.cell? ⟨w.heap.size, 0, none⟩ = some (.int .i64 r)) := fun W hW => (hW.cell (p := ⟨w.heap.size, 0, none⟩) hz).trans c0
  have K1 : Hid (∀ W, Below w0.heap.size w0 W → W.cell? ⟨w.heap.size, 1, none⟩ = some (.slice A bs.length c)) := fun W hW => (hW.cell (p := ⟨w.heap.size, 1, none⟩) hz).trans c1
  go_enter Try.func4, Try.ntmps4
  go_wp2_with fail
  clear hw0 c0 c1
  refine (szWorks2_any r A c bs _ hW0).mono ?_
  rintro e w1 ⟨q, rfl, hq1, hq, H1⟩
  have d0 := K0.out w1 H1
  have d1 := K1.out w1 H1
  go_wp2_with fail
  focus
    go_ret
    exact ⟨rfl, hbox.trans (H1.mono hbox.size)⟩
  have hq0 : 0 ≤ q := by omega
  refine (szDeedS_any A2 c2 ds q hq0 hq1 hd.n _).mono ?_
  rintro e w2 ⟨q2, rfl, hq2, rfl⟩
  go_wp2_with fail
  focus
    go_ret
    exact ⟨rfl, hbox.trans (H1.mono hbox.size)⟩
  have hq3 : 0 ≤ q2 := by omega
  have hn := (hq hq0).1
  have hdn := hq2 hq3
  have hW := hW0.small (hq hq0)
  have hD : DeedsAt w0 A2 c2 ds := ⟨hD0.at_, by omega, hD0.c⟩
  clear hq hq2 hW0 hD0 h hd d0 d1
  -- the reference's answer, over copies
  refine (toWorks_any r A c bs _ (hW.below H1).at_ hn hW.d8).mono ?_
  rintro e w3 ⟨A3, rfl, hO3, hb3⟩
  have H3 := H1.trans (hb3.mono H1.size)
  have d0 := K0.out w3 H3
  have d1 := K1.out w3 H3
  go_wp2_with fail
  refine (toDeedS_any A2 c2 ds _ (hD.below H3).at_ hdn).mono ?_
  rintro e w4 ⟨A4, rfl, hO4, hb4⟩
  have H4 := H3.trans (hb4.mono H3.size)
  have hs3 : WorksAt w4 A3 bs.length bs := ⟨(hO3.below hb4).at, hW.n, Nat.le_refl _, hW.d8, hW.nm⟩
  have hs4 : DeedsAt w4 A4 ds.length ds := ⟨hO4.at, hD.n, Nat.le_refl _⟩
  clear d0 d1 hb3
  have d0 := K0.out w4 H4
  have d1 := K1.out w4 H4
  go_wp2_with fail
  refine (specRefused_any r A3 _ bs A4 _ ds _ hs3 hs4 x y z HR.out).mono ?_
  rintro e w5 ⟨rfl, hb5⟩
  have H5 := H4.trans (hb5.mono H4.size)
  clear d0 d1 hb4 hO3 hO4 hs3 hs4
  have d0 := K0.out w5 H5
  have d1 := K1.out w5 H5
  go_wp2_with fail
  -- the copies that the program gets
  refine (toWorks_any r A c bs _ (hW.below H5).at_ hn hW.d8).mono ?_
  rintro e w6 ⟨A6, rfl, hO6, hb6⟩
  have H6 := H5.trans (hb6.mono H5.size)
  have hx : Below w6.heap.size w6 (w6.alloc (.cells #[.int .i64 r, .slice A6 bs.length bs.length] 31)) := (Below.refl _ _).alloc (Nat.le_refl _) _
  have f0 : (w6.alloc (.cells #[.int .i64 r, .slice A6 bs.length bs.length] 31)).cell? ⟨w6.heap.size, 0, none⟩ = some (.int .i64 r) := by rw [World.cell?_alloc_at _ _ _ _ rfl]; rfl
  have f1 : (w6.alloc (.cells #[.int .i64 r, .slice A6 bs.length bs.length] 31)).cell? ⟨w6.heap.size, 1, none⟩ = some (.slice A6 bs.length bs.length) := by rw [World.cell?_alloc_at _ _ _ _ rfl]; rfl
  have hzx : w6.heap.size < (w6.alloc (.cells #[.int .i64 r, .slice A6 bs.length bs.length] 31)).heap.size := by simp
  clear d0 d1 hb6
  have d0 := K0.out w6 H6
  have d1 := K1.out w6 H6
  generalize hw7 : w6.alloc (.cells #[.int .i64 r, .slice A6 bs.length bs.length] 31) = w7 at hx f0 f1 hzx
  have F0 : Hid (∀ W, Below w7.heap.size w7 W → W.cell? ⟨w6.heap.size, 0, none⟩ = some (.int .i64 r)) := fun W hW => (hW.cell (p := ⟨w6.heap.size, 0, none⟩) hzx).trans f0
  have F1 : Hid (∀ W, Below w7.heap.size w7 W → W.cell? ⟨w6.heap.size, 1, none⟩ = some (.slice A6 bs.length bs.length)) := fun W hW => (hW.cell (p := ⟨w6.heap.size, 1, none⟩) hzx).trans f1
  go_wp2_with fail
  clear hw7 f0 f1
  have H7 := H6.trans (hx.mono H6.size)
  have hx7 : WorksAt w7 A6 bs.length bs := ⟨(hO6.below hx).at, hW.n, Nat.le_refl _, hW.d8, hW.nm⟩
  clear d0 d1 hO6
  refine (toDeedS_any A2 c2 ds _ (hD.below H7).at_ hdn).mono ?_
  rintro e w8 ⟨A8, rfl, hO8, hb8⟩
  have H8 := H7.trans (hb8.mono H7.size)
  have hx8 := hx7.below hb8
  have hy8 : DeedsAt w8 A8 ds.length ds := ⟨hO8.at, hD.n, Nat.le_refl _⟩
  have d0 := K0.out w8 H8
  have d1 := K1.out w8 H8
  have e0 := F0.out w8 hb8
  have e1 := F1.out w8 hb8
  go_wp2_with fail
  refine (implRefused_any r A6 _ bs A8 _ ds _ hx8 hy8 x y z HR.out).mono ?_
  rintro e w9 ⟨rfl, hb9⟩
  have H9 := H8.trans (hb9.mono H8.size)
  have G9 := hb8.trans (hb9.mono hb8.size)
  have hx9 := hx8.below hb9
  have hy9 := hy8.below hb9
  clear d0 d1 e0 e1
  have d0 := K0.out w9 H9
  have d1 := K1.out w9 H9
  have e0 := F0.out w9 G9
  have e1 := F1.out w9 G9
  go_wp2_with fail
  refine wp_region_held_drew (S := fun W => W.cell? ⟨w.heap.size, 0, none⟩ = some (.int .i64 r) ∧ W.cell? ⟨w.heap.size, 1, none⟩ = some (.slice A bs.length c) ∧ W.cell? ⟨w6.heap.size, 0, none⟩ = some (.int .i64 r) ∧ W.cell? ⟨w6.heap.size, 1, none⟩ = some (.slice A6 bs.length bs.length)) (by kernel_rfl) (by exact ⟨d0, d1, e0, e1⟩) (fun hHeld => ?_)
  refine wpAnyH_take (i := 0) (oi := _) (v := ?_) rfl (by kernel_rfl) (by kernel_rfl) (by kernel_rfl) (fun _ _ _ h => h) (Or.inl ⟨by rfl, ?_⟩) (by assumption) ?_
  rotate_left
  focus
    intro w hSw
    (try dsimp only at hSw)
    go_simp
    (try with_reducible rfl)
  (try simp only [List.getElem_toArray, List.getElem_cons_zero, List.getElem_cons_succ, Act.put, List.setIfInBounds_toArray, List.set_cons_zero, List.set_cons_succ])
  refine wpAnyH_take (i := 1) (oi := _) (v := ?_) rfl (by kernel_rfl) (by kernel_rfl) (by kernel_rfl) (fun _ _ _ h => h) (Or.inl ⟨by rfl, ?_⟩) (by assumption) ?_
  rotate_left
  focus
    intro w hSw
    (try dsimp only at hSw)
    go_simp
    (try with_reducible rfl)
  (try simp only [List.getElem_toArray, List.getElem_cons_zero, List.getElem_cons_succ, Act.put, List.setIfInBounds_toArray, List.set_cons_zero, List.set_cons_succ])
  refine wpAnyH_ready (rs := [2]) (by kernel_rfl) (by simp) ?_
  refine AllReadyH.cons (o := _) rfl (fun K hK => ?_) AllReadyH.nil
  (try simp only [List.getElem_toArray, List.getElem_cons_zero, List.getElem_cons_succ])
  go_simp
  refine (toWorks_any r A c bs _ (hW.below H9.drew).at_ hn hW.d8).mono ?_
  rintro e w10 ⟨A10, rfl, hO10, hb10⟩
  have Q10 : Below w9.heap.size w9 w10 := ((Below.refl _ w9).drew).trans hb10
  have H10 := H9.trans (Q10.mono H9.size)
  have G10 := G9.trans (Q10.mono G9.size)
  refine hK.out _ _ ?_ (fun hHeld => ?_)
  focus
    (try dsimp only)
    exact ⟨K0.out _ H10, K1.out _ H10, F0.out _ G10, F1.out _ G10⟩
  clear hK K
  (try simp only [List.getElem_toArray, List.getElem_cons_zero, List.getElem_cons_succ, Act.put, List.setIfInBounds_toArray, List.set_cons_zero, List.set_cons_succ])
  refine wpAnyH_ready (rs := [3]) (by kernel_rfl) (by simp) ?_
  refine AllReadyH.cons (o := _) rfl (fun K hK => ?_) AllReadyH.nil
  (try simp only [List.getElem_toArray, List.getElem_cons_zero, List.getElem_cons_succ])
  go_simp
  refine (eqWorks_same r A6 A10 _ _ bs _ (hx9.below Q10).at_ hO10.at hW.d8 hW.n).mono ?_
  rintro e w11 ⟨rfl, hb11⟩
  have H11 := H10.trans (hb11.mono H10.size)
  have G11 := G10.trans (hb11.mono G10.size)
  refine hK.out _ _ ?_ (fun hHeld => ?_)
  focus
    (try dsimp only)
    exact ⟨K0.out _ H11, K1.out _ H11, F0.out _ G11, F1.out _ G11⟩
  clear hK K
  (try simp only [List.getElem_toArray, List.getElem_cons_zero, List.getElem_cons_succ, Act.put, List.setIfInBounds_toArray, List.set_cons_zero, List.set_cons_succ])
  refine wpAnyH_take (i := 4) (oi := _) (v := ?_) rfl (by kernel_rfl) (by kernel_rfl) (by kernel_rfl) (fun _ _ _ h => h) (Or.inl ⟨by rfl, ?_⟩) (by assumption) ?_
  rotate_left
  focus
    intro w hSw
    (try dsimp only at hSw)
    go_simp
    (try with_reducible rfl)
  (try simp only [List.getElem_toArray, List.getElem_cons_zero, List.getElem_cons_succ, Act.put, List.setIfInBounds_toArray, List.set_cons_zero, List.set_cons_succ])
  refine wpAnyH_done (by kernel_rfl) ?_ _
  have hy11 := (hy9.below Q10).below hb11
  clear hHeld d0 d1 e0 e1 hb10 hO10 hx9 hy9 hx8 hy8
  go_wp2_with fail
  refine (toDeedS_any A2 c2 ds _ (hD.below H11).at_ hdn).mono ?_
  rintro e w12 ⟨A12, rfl, hO12, hb12⟩
  have H12 := H11.trans (hb12.mono H11.size)
  go_wp2_with fail
  refine (eqDeedS_same A8 A12 _ _ ds _ (hy11.below hb12).at_ hO12.at hD.n).mono ?_
  rintro e w13 ⟨rfl, hb13⟩
  have H13 := H12.trans (hb13.mono H12.size)
  go_wp2_with fail
  go_ret
  exact ⟨rfl, hbox.trans (H13.mono hbox.size)⟩

set_option maxRecDepth 100000 in
set_option maxHeartbeats 4000000 in
theorem lawAgreed_walk (r : Int) (A : Option Addr) (c : Nat) (bs : List Bat) (A2 : Option Addr) (c2 : Nat) (ds : List Dd) (w : World) (h : WorksRaw w A c bs) (hd : DeedsRaw w A2 c2 ds) :
    Calls Try.prog 6 #[.agg #[.int .i64 r, .slice A bs.length c], .slice A2 ds.length c2] w fun e w' => e = .returned (.bool true) ∧ Below w.heap.size w w' := by
  obtain ⟨x, z, hres⟩ := agRes_ex r bs ds
  have HR := Lib.hid hres
  clear hres
  have hbox : Below w.heap.size w (w.alloc (.cells #[.int .i64 r, .slice A bs.length c] 24)) := (Below.refl _ _).alloc (Nat.le_refl _) _
  have c0 : (w.alloc (.cells #[.int .i64 r, .slice A bs.length c] 24)).cell? ⟨w.heap.size, 0, none⟩ = some (.int .i64 r) := by rw [World.cell?_alloc_at _ _ _ _ rfl]; rfl
  have c1 : (w.alloc (.cells #[.int .i64 r, .slice A bs.length c] 24)).cell? ⟨w.heap.size, 1, none⟩ = some (.slice A bs.length c) := by rw [World.cell?_alloc_at _ _ _ _ rfl]; rfl
  have hW0 := h.below hbox
  have hD0 := hd.below hbox
  have hz : w.heap.size < (w.alloc (.cells #[.int .i64 r, .slice A bs.length c] 24)).heap.size := by simp
  generalize hw0 : w.alloc (.cells #[.int .i64 r, .slice A bs.length c] 24) = w0 at hbox c0 c1 hW0 hD0 hz
  have K0 : Hid (∀ W, Below w0.heap.size w0 W → W.cell? ⟨w.heap.size, 0, none⟩ = some (.int .i64 r)) := fun W hW => (hW.cell (p := ⟨w.heap.size, 0, none⟩) hz).trans c0
  have K1 : Hid (∀ W, Below w0.heap.size w0 W → W.cell? ⟨w.heap.size, 1, none⟩ = some (.slice A bs.length c)) := fun W hW => (hW.cell (p := ⟨w.heap.size, 1, none⟩) hz).trans c1
  go_enter Try.func6, Try.ntmps6
  go_wp2_with fail
  clear hw0 c0 c1
  refine (szWorks2_any r A c bs _ hW0).mono ?_
  rintro e w1 ⟨q, rfl, hq1, hq, H1⟩
  have d0 := K0.out w1 H1
  have d1 := K1.out w1 H1
  go_wp2_with fail
  focus
    go_ret
    exact ⟨rfl, hbox.trans (H1.mono hbox.size)⟩
  have hq0 : 0 ≤ q := by omega
  refine (szDeedS_any A2 c2 ds q hq0 hq1 hd.n _).mono ?_
  rintro e w2 ⟨q2, rfl, hq2, rfl⟩
  go_wp2_with fail
  focus
    go_ret
    exact ⟨rfl, hbox.trans (H1.mono hbox.size)⟩
  have hq3 : 0 ≤ q2 := by omega
  have hn := (hq hq0).1
  have hdn := hq2 hq3
  have hW := hW0.small (hq hq0)
  have hD : DeedsAt w0 A2 c2 ds := ⟨hD0.at_, by omega, hD0.c⟩
  clear hq hq2 hW0 hD0 h hd d0 d1
  -- the reference's answer, over copies
  refine (toWorks_any r A c bs _ (hW.below H1).at_ hn hW.d8).mono ?_
  rintro e w3 ⟨A3, rfl, hO3, hb3⟩
  have H3 := H1.trans (hb3.mono H1.size)
  have d0 := K0.out w3 H3
  have d1 := K1.out w3 H3
  go_wp2_with fail
  refine (toDeedS_any A2 c2 ds _ (hD.below H3).at_ hdn).mono ?_
  rintro e w4 ⟨A4, rfl, hO4, hb4⟩
  have H4 := H3.trans (hb4.mono H3.size)
  have hs3 : WorksAt w4 A3 bs.length bs := ⟨(hO3.below hb4).at, hW.n, Nat.le_refl _, hW.d8, hW.nm⟩
  have hs4 : DeedsAt w4 A4 ds.length ds := ⟨hO4.at, hD.n, Nat.le_refl _⟩
  clear d0 d1 hb3
  have d0 := K0.out w4 H4
  have d1 := K1.out w4 H4
  go_wp2_with fail
  refine (specAgreed_any r A3 _ bs A4 _ ds _ hs3 hs4 x z HR.out).mono ?_
  rintro e w5 ⟨rfl, hb5⟩
  have H5 := H4.trans (hb5.mono H4.size)
  clear d0 d1 hb4 hO3 hO4 hs3 hs4
  have d0 := K0.out w5 H5
  have d1 := K1.out w5 H5
  go_wp2_with fail
  -- the copies that the program gets
  refine (toWorks_any r A c bs _ (hW.below H5).at_ hn hW.d8).mono ?_
  rintro e w6 ⟨A6, rfl, hO6, hb6⟩
  have H6 := H5.trans (hb6.mono H5.size)
  have hx : Below w6.heap.size w6 (w6.alloc (.cells #[.int .i64 r, .slice A6 bs.length bs.length] 31)) := (Below.refl _ _).alloc (Nat.le_refl _) _
  have f0 : (w6.alloc (.cells #[.int .i64 r, .slice A6 bs.length bs.length] 31)).cell? ⟨w6.heap.size, 0, none⟩ = some (.int .i64 r) := by rw [World.cell?_alloc_at _ _ _ _ rfl]; rfl
  have f1 : (w6.alloc (.cells #[.int .i64 r, .slice A6 bs.length bs.length] 31)).cell? ⟨w6.heap.size, 1, none⟩ = some (.slice A6 bs.length bs.length) := by rw [World.cell?_alloc_at _ _ _ _ rfl]; rfl
  have hzx : w6.heap.size < (w6.alloc (.cells #[.int .i64 r, .slice A6 bs.length bs.length] 31)).heap.size := by simp
  clear d0 d1 hb6
  have d0 := K0.out w6 H6
  have d1 := K1.out w6 H6
  generalize hw7 : w6.alloc (.cells #[.int .i64 r, .slice A6 bs.length bs.length] 31) = w7 at hx f0 f1 hzx
  have F0 : Hid (∀ W, Below w7.heap.size w7 W → W.cell? ⟨w6.heap.size, 0, none⟩ = some (.int .i64 r)) := fun W hW => (hW.cell (p := ⟨w6.heap.size, 0, none⟩) hzx).trans f0
  have F1 : Hid (∀ W, Below w7.heap.size w7 W → W.cell? ⟨w6.heap.size, 1, none⟩ = some (.slice A6 bs.length bs.length)) := fun W hW => (hW.cell (p := ⟨w6.heap.size, 1, none⟩) hzx).trans f1
  go_wp2_with fail
  clear hw7 f0 f1
  have H7 := H6.trans (hx.mono H6.size)
  have hx7 : WorksAt w7 A6 bs.length bs := ⟨(hO6.below hx).at, hW.n, Nat.le_refl _, hW.d8, hW.nm⟩
  clear d0 d1 hO6
  refine (toDeedS_any A2 c2 ds _ (hD.below H7).at_ hdn).mono ?_
  rintro e w8 ⟨A8, rfl, hO8, hb8⟩
  have H8 := H7.trans (hb8.mono H7.size)
  have hx8 := hx7.below hb8
  have hy8 : DeedsAt w8 A8 ds.length ds := ⟨hO8.at, hD.n, Nat.le_refl _⟩
  have d0 := K0.out w8 H8
  have d1 := K1.out w8 H8
  have e0 := F0.out w8 hb8
  have e1 := F1.out w8 hb8
  go_wp2_with fail
  refine (implAgreed_any r A6 _ bs A8 _ ds _ hx8 hy8 x z HR.out).mono ?_
  rintro e w9 ⟨rfl, hb9⟩
  have H9 := H8.trans (hb9.mono H8.size)
  have G9 := hb8.trans (hb9.mono hb8.size)
  have hx9 := hx8.below hb9
  have hy9 := hy8.below hb9
  clear d0 d1 e0 e1
  have d0 := K0.out w9 H9
  have d1 := K1.out w9 H9
  have e0 := F0.out w9 G9
  have e1 := F1.out w9 G9
  go_wp2_with fail
  refine wp_region_held_drew (S := fun W => W.cell? ⟨w.heap.size, 0, none⟩ = some (.int .i64 r) ∧ W.cell? ⟨w.heap.size, 1, none⟩ = some (.slice A bs.length c) ∧ W.cell? ⟨w6.heap.size, 0, none⟩ = some (.int .i64 r) ∧ W.cell? ⟨w6.heap.size, 1, none⟩ = some (.slice A6 bs.length bs.length)) (by kernel_rfl) (by exact ⟨d0, d1, e0, e1⟩) (fun hHeld => ?_)
  refine wpAnyH_take (i := 0) (oi := _) (v := ?_) rfl (by kernel_rfl) (by kernel_rfl) (by kernel_rfl) (fun _ _ _ h => h) (Or.inl ⟨by rfl, ?_⟩) (by assumption) ?_
  rotate_left
  focus
    intro w hSw
    (try dsimp only at hSw)
    go_simp
    (try with_reducible rfl)
  (try simp only [List.getElem_toArray, List.getElem_cons_zero, List.getElem_cons_succ, Act.put, List.setIfInBounds_toArray, List.set_cons_zero, List.set_cons_succ])
  refine wpAnyH_take (i := 1) (oi := _) (v := ?_) rfl (by kernel_rfl) (by kernel_rfl) (by kernel_rfl) (fun _ _ _ h => h) (Or.inl ⟨by rfl, ?_⟩) (by assumption) ?_
  rotate_left
  focus
    intro w hSw
    (try dsimp only at hSw)
    go_simp
    (try with_reducible rfl)
  (try simp only [List.getElem_toArray, List.getElem_cons_zero, List.getElem_cons_succ, Act.put, List.setIfInBounds_toArray, List.set_cons_zero, List.set_cons_succ])
  refine wpAnyH_ready (rs := [2]) (by kernel_rfl) (by simp) ?_
  refine AllReadyH.cons (o := _) rfl (fun K hK => ?_) AllReadyH.nil
  (try simp only [List.getElem_toArray, List.getElem_cons_zero, List.getElem_cons_succ])
  go_simp
  refine (toWorks_any r A c bs _ (hW.below H9.drew).at_ hn hW.d8).mono ?_
  rintro e w10 ⟨A10, rfl, hO10, hb10⟩
  have Q10 : Below w9.heap.size w9 w10 := ((Below.refl _ w9).drew).trans hb10
  have H10 := H9.trans (Q10.mono H9.size)
  have G10 := G9.trans (Q10.mono G9.size)
  refine hK.out _ _ ?_ (fun hHeld => ?_)
  focus
    (try dsimp only)
    exact ⟨K0.out _ H10, K1.out _ H10, F0.out _ G10, F1.out _ G10⟩
  clear hK K
  (try simp only [List.getElem_toArray, List.getElem_cons_zero, List.getElem_cons_succ, Act.put, List.setIfInBounds_toArray, List.set_cons_zero, List.set_cons_succ])
  refine wpAnyH_ready (rs := [3]) (by kernel_rfl) (by simp) ?_
  refine AllReadyH.cons (o := _) rfl (fun K hK => ?_) AllReadyH.nil
  (try simp only [List.getElem_toArray, List.getElem_cons_zero, List.getElem_cons_succ])
  go_simp
  refine (eqWorks_same r A6 A10 _ _ bs _ (hx9.below Q10).at_ hO10.at hW.d8 hW.n).mono ?_
  rintro e w11 ⟨rfl, hb11⟩
  have H11 := H10.trans (hb11.mono H10.size)
  have G11 := G10.trans (hb11.mono G10.size)
  refine hK.out _ _ ?_ (fun hHeld => ?_)
  focus
    (try dsimp only)
    exact ⟨K0.out _ H11, K1.out _ H11, F0.out _ G11, F1.out _ G11⟩
  clear hK K
  (try simp only [List.getElem_toArray, List.getElem_cons_zero, List.getElem_cons_succ, Act.put, List.setIfInBounds_toArray, List.set_cons_zero, List.set_cons_succ])
  refine wpAnyH_take (i := 4) (oi := _) (v := ?_) rfl (by kernel_rfl) (by kernel_rfl) (by kernel_rfl) (fun _ _ _ h => h) (Or.inl ⟨by rfl, ?_⟩) (by assumption) ?_
  rotate_left
  focus
    intro w hSw
    (try dsimp only at hSw)
    go_simp
    (try with_reducible rfl)
  (try simp only [List.getElem_toArray, List.getElem_cons_zero, List.getElem_cons_succ, Act.put, List.setIfInBounds_toArray, List.set_cons_zero, List.set_cons_succ])
  refine wpAnyH_done (by kernel_rfl) ?_ _
  have hy11 := (hy9.below Q10).below hb11
  clear hHeld d0 d1 e0 e1 hb10 hO10 hx9 hy9 hx8 hy8
  go_wp2_with fail
  refine (toDeedS_any A2 c2 ds _ (hD.below H11).at_ hdn).mono ?_
  rintro e w12 ⟨A12, rfl, hO12, hb12⟩
  have H12 := H11.trans (hb12.mono H11.size)
  go_wp2_with fail
  refine (eqDeedS_same A8 A12 _ _ ds _ (hy11.below hb12).at_ hO12.at hD.n).mono ?_
  rintro e w13 ⟨rfl, hb13⟩
  have H13 := H12.trans (hb13.mono H12.size)
  go_wp2_with fail
  go_ret
  exact ⟨rfl, hbox.trans (H13.mono hbox.size)⟩
end Go.Proofs.Ytomcffionomidaa
