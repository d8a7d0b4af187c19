/- The law over VatAfter: walked. -/
import Derived.Test.YtomcffionomidaaLawRef
import Derived.Deep.RegionHeld3
namespace Go.Proofs.Ytomcffionomidaa
open Go.RowKit
set_option linter.unusedSimpArgs false
set_option linter.unusedVariables false


theorem eqVat_same (d : List Int) (h : d.length = 8) (w : World) : Calls Try.prog 26 #[.agg (cV d), .agg (cV d)] w fun e w' => e = .returned (.bool true) ∧ Below w.heap.size w w' := by
  obtain ⟨d0, d1, d2, d3, d4, d5, d6, d7, rfl⟩ := eight d h
  exact eqVat8 d0 d1 d2 d3 d4 d5 d6 d7 w

/-- A vat in a box that was made for it. -/
theorem vat_box (W : World) (v : List Int) (h8 : v.length = 8) :
    (Instr.storeAt 47 (.pointer (some ⟨W.heap.size, 0, none⟩)) (.agg (cV v))).run Try.prog (W.alloc (.cells #[.int .i64 0, .int .i64 0, .int .i64 0, .int .i64 0, .int .i64 0, .int .i64 0, .int .i64 0, .int .i64 0] 47)) = .ok () (W.alloc (.cells (cV v) 47)) ∧
      ∀ U, Below (W.alloc (.cells (cV v) 47)).heap.size (W.alloc (.cells (cV v) 47)) U → (Instr.loadAt 47 (.pointer (some ⟨W.heap.size, 0, none⟩))).run Try.prog U = .ok (.agg (cV v)) U := by
  have hsz : (cV v).size = 8 := by simp [cV, h8]
  have hone : (cV v).all (·.oneCell') = true := by simp [cV, Value.oneCell']
  refine ⟨run_storeAt_new (P := Try.prog) W 47 #[.int .i64 0, .int .i64 0, .int .i64 0, .int .i64 0, .int .i64 0, .int .i64 0, .int .i64 0, .int .i64 0] (cV v) (by rw [hsz]; kernel_rfl) (by rw [hsz]; rfl) hone, ?_⟩
  refine later_row 47 (cV v) Try.underlying47 rfl (by rw [hsz]; kernel_rfl) (by simp) fun j u hu => ?_
  rw [World.cell?_alloc_at _ _ _ _ rfl]; simpa using hu

theorem vtRes_8 {r : Int} {bs : List Bat} {ds : List Dd} {b : Int} {v : List Int} {z : Int} (h : VtRes r bs ds b v z) : v.length = 8 := by
  rcases h with ⟨-, rfl, -⟩ | ⟨-, -, rfl, -⟩ | ⟨hg, n, -, hn, rfl, -⟩
  · rfl
  · rfl
  · obtain ⟨hok, hds, hl, rn, rfl, hr1, hr4⟩ := given_ok hg
    have h48 : (tasksOf bs).length ≤ 48 := by
      obtain ⟨-, -, n1, n6, -⟩ := okWorks_parts hok
      have := tasksTo_len bs bs.length; unfold tasksOf; omega
    have hfn := fA_ok (floor0_ok hr1 hr4 h48 (tasksOf_in bs)) hds ds.length (Nat.le_refl _)
    rw [show fA rn (tasksOf bs) (floor0 rn bs.length (tasksOf bs).length) ds ds.length = fB0 rn bs ds ds.length by simp [fB0]] at hfn
    have hl : n < (fB0 rn bs ds ds.length).vats.length := by rw [hfn.vats]; exact hn
    rw [getD_at hl]
    exact hfn.vat _ (List.getElem_mem hl)

set_option maxRecDepth 100000 in
set_option maxHeartbeats 4000000 in
theorem lawVat_walk (r : Int) (A : Option Addr) (c : Nat) (bs : List Bat) (A2 : Option Addr) (c2 : Nat) (ds : List Dd) (b : Int) (w : World) (h : WorksRaw w A c bs) (hd : DeedsRaw w A2 c2 ds) :
    Calls Try.prog 5 #[.agg #[.int .i64 r, .slice A bs.length c], .slice A2 ds.length c2, .int .i64 b] w fun e w' => e = .returned (.bool true) ∧ Below w.heap.size w w' := by
  obtain ⟨v, z, hres⟩ := vtRes_ex r bs ds b
  have h8 := vtRes_8 hres
  have HR := Lib.hid hres
  clear hres
  have hbox : Below w.heap.size w (w.alloc (.cells #[.int .i64 r, .slice A bs.length c] 24)) := (Below.refl _ _).alloc (Nat.le_refl _) _
  have c0 : (w.alloc (.cells #[.int .i64 r, .slice A bs.length c] 24)).cell? ⟨w.heap.size, 0, none⟩ = some (.int .i64 r) := by rw [World.cell?_alloc_at _ _ _ _ rfl]; rfl
  have c1 : (w.alloc (.cells #[.int .i64 r, .slice A bs.length c] 24)).cell? ⟨w.heap.size, 1, none⟩ = some (.slice A bs.length c) := by rw [World.cell?_alloc_at _ _ _ _ rfl]; rfl
  have hW0 := h.below hbox
  have hD0 := hd.below hbox
  have hz : w.heap.size < (w.alloc (.cells #[.int .i64 r, .slice A bs.length c] 24)).heap.size := by simp
  generalize hw0 : w.alloc (.cells #[.int .i64 r, .slice A bs.length c] 24) = w0 at hbox c0 c1 hW0 hD0 hz
  have K0 : Hid (∀ W, Below w0.heap.size w0 W → W.cell? ⟨w.heap.size, 0, none⟩ = some (.int .i64 r)) := fun W hW => (hW.cell (p := ⟨w.heap.size, 0, none⟩) hz).trans c0
  have K1 : Hid (∀ W, Below w0.heap.size w0 W → W.cell? ⟨w.heap.size, 1, none⟩ = some (.slice A bs.length c)) := fun W hW => (hW.cell (p := ⟨w.heap.size, 1, none⟩) hz).trans c1
  go_enter Try.func5, Try.ntmps5
  go_wp2_with fail
  clear hw0 c0 c1
  refine (szWorks2_any r A c bs _ hW0).mono ?_
  rintro e w1 ⟨q, rfl, hq1, hq, H1⟩
  have d0 := K0.out w1 H1
  have d1 := K1.out w1 H1
  go_wp2_with fail
  focus
    go_ret
    exact ⟨rfl, hbox.trans (H1.mono hbox.size)⟩
  have hq0 : 0 ≤ q := by omega
  refine (szDeedS_any A2 c2 ds q hq0 hq1 hd.n _).mono ?_
  rintro e w2 ⟨q2, rfl, hq2, rfl⟩
  go_wp2_with fail
  focus
    go_ret
    exact ⟨rfl, hbox.trans (H1.mono hbox.size)⟩
  have hq3 : 0 ≤ q2 := by omega
  have hn := (hq hq0).1
  have hdn := hq2 hq3
  have hW := hW0.small (hq hq0)
  have hD : DeedsAt w0 A2 c2 ds := ⟨hD0.at_, by omega, hD0.c⟩
  clear hq hq2 hW0 hD0 h hd d0 d1
  -- the reference's answer, over copies
  refine (toWorks_any r A c bs _ (hW.below H1).at_ hn hW.d8).mono ?_
  rintro e w3 ⟨A3, rfl, hO3, hb3⟩
  have H3 := H1.trans (hb3.mono H1.size)
  have d0 := K0.out w3 H3
  have d1 := K1.out w3 H3
  go_wp2_with fail
  refine (toDeedS_any A2 c2 ds _ (hD.below H3).at_ hdn).mono ?_
  rintro e w4 ⟨A4, rfl, hO4, hb4⟩
  have H4 := H3.trans (hb4.mono H3.size)
  have hs3 : WorksAt w4 A3 bs.length bs := ⟨(hO3.below hb4).at, hW.n, Nat.le_refl _, hW.d8, hW.nm⟩
  have hs4 : DeedsAt w4 A4 ds.length ds := ⟨hO4.at, hD.n, Nat.le_refl _⟩
  clear d0 d1 hb3
  have d0 := K0.out w4 H4
  have d1 := K1.out w4 H4
  go_wp2_with fail
  refine (specVat_any r A3 _ bs A4 _ ds b _ hs3 hs4 v z HR.out).mono ?_
  rintro e w50 ⟨rfl, hb50⟩
  obtain ⟨hst, hld⟩ := vat_box w50 v h8
  have hb5 : Below w4.heap.size w4 (w50.alloc (.cells (cV v) 47)) := hb50.alloc hb50.size _
  generalize hw5 : w50.alloc (.cells (cV v) 47) = w5 at hst hld hb5
  have hd0' := K0.out w5 (H4.trans (hb5.mono H4.size))
  have hd1' := K1.out w5 (H4.trans (hb5.mono H4.size))
  have LDS := Lib.hid hld
  clear hld
  have H5 := H4.trans (hb5.mono H4.size)
  clear hd0' hd1'
  clear d0 d1 hb4 hO3 hO4 hs3 hs4
  have d0 := K0.out w5 H5
  have d1 := K1.out w5 H5
  go_wp2_with ((with_reducible refine wpList_store_at (ty := 47) ?_); refine ⟨_, hst, ?_⟩)
  clear hw5 hst
  -- the copies that the program gets
  refine (toWorks_any r A c bs _ (hW.below H5).at_ hn hW.d8).mono ?_
  rintro e w6 ⟨A6, rfl, hO6, hb6⟩
  have H6 := H5.trans (hb6.mono H5.size)
  have hx : Below w6.heap.size w6 (w6.alloc (.cells #[.int .i64 r, .slice A6 bs.length bs.length] 31)) := (Below.refl _ _).alloc (Nat.le_refl _) _
  have f0 : (w6.alloc (.cells #[.int .i64 r, .slice A6 bs.length bs.length] 31)).cell? ⟨w6.heap.size, 0, none⟩ = some (.int .i64 r) := by rw [World.cell?_alloc_at _ _ _ _ rfl]; rfl
  have f1 : (w6.alloc (.cells #[.int .i64 r, .slice A6 bs.length bs.length] 31)).cell? ⟨w6.heap.size, 1, none⟩ = some (.slice A6 bs.length bs.length) := by rw [World.cell?_alloc_at _ _ _ _ rfl]; rfl
  have hzx : w6.heap.size < (w6.alloc (.cells #[.int .i64 r, .slice A6 bs.length bs.length] 31)).heap.size := by simp
  have hb56 := hb6
  clear d0 d1 hb6
  have d0 := K0.out w6 H6
  have d1 := K1.out w6 H6
  generalize hw7 : w6.alloc (.cells #[.int .i64 r, .slice A6 bs.length bs.length] 31) = w7 at hx f0 f1 hzx
  have F0 : Hid (∀ W, Below w7.heap.size w7 W → W.cell? ⟨w6.heap.size, 0, none⟩ = some (.int .i64 r)) := fun W hW => (hW.cell (p := ⟨w6.heap.size, 0, none⟩) hzx).trans f0
  have F1 : Hid (∀ W, Below w7.heap.size w7 W → W.cell? ⟨w6.heap.size, 1, none⟩ = some (.slice A6 bs.length bs.length)) := fun W hW => (hW.cell (p := ⟨w6.heap.size, 1, none⟩) hzx).trans f1
  go_wp2_with fail
  clear hw7 f0 f1
  have H7 := H6.trans (hx.mono H6.size)
  have hx7 : WorksAt w7 A6 bs.length bs := ⟨(hO6.below hx).at, hW.n, Nat.le_refl _, hW.d8, hW.nm⟩
  clear d0 d1 hO6
  refine (toDeedS_any A2 c2 ds _ (hD.below H7).at_ hdn).mono ?_
  rintro e w8 ⟨A8, rfl, hO8, hb8⟩
  have H8 := H7.trans (hb8.mono H7.size)
  have B58 : Below w5.heap.size w5 w8 := (hb56.trans (hx.mono hb56.size)).trans (hb8.mono (Nat.le_trans hb56.size hx.size))
  have hx8 := hx7.below hb8
  have hy8 : DeedsAt w8 A8 ds.length ds := ⟨hO8.at, hD.n, Nat.le_refl _⟩
  have d0 := K0.out w8 H8
  have d1 := K1.out w8 H8
  have e0 := F0.out w8 hb8
  have e1 := F1.out w8 hb8
  go_wp2_with fail
  refine (implVat_any r A6 _ bs A8 _ ds b _ hx8 hy8 v z HR.out).mono ?_
  rintro e w90 ⟨rfl, hb90⟩
  obtain ⟨hst2, hld2⟩ := vat_box w90 v h8
  have hb91 : Below w8.heap.size w8 (w90.alloc (.cells (cV v) 47)) := hb90.alloc hb90.size _
  generalize hw91 : w90.alloc (.cells (cV v) 47) = w91 at hst2 hld2 hb91
  have R9 : Below w5.heap.size w5 w91 := (B58.trans (hb91.mono B58.size))
  have m1 := hld2 w91 (Below.refl _ _)
  have m2 := LDS.out w91 R9
  have HH := H8.trans (hb91.mono H8.size)
  have GG := hb8.trans (hb91.mono hb8.size)
  clear d0 d1 e0 e1 hld2
  have d0 := K0.out w91 HH
  have d1 := K1.out w91 HH
  have e0 := F0.out w91 GG
  have e1 := F1.out w91 GG
  go_wp2_with (first | ((with_reducible refine wpList_store_at (ty := 47) ?_); refine ⟨_, hst2, ?_⟩) | ((with_reducible refine wpList_load_at (ty := 47) ?_); refine ⟨_, m1, ?_⟩) | ((with_reducible refine wpList_load_at (ty := 47) ?_); refine ⟨_, m2, ?_⟩))
  refine (eqVat_same v h8 w91).mono ?_
  rintro e w9 ⟨rfl, hbe⟩
  have hb9 : Below w8.heap.size w8 w9 := hb91.trans (hbe.mono hb91.size)
  clear m1 m2 hst2 hw91 R9 HH GG hbe hb90 hb91
  have H9 := H8.trans (hb9.mono H8.size)
  have G9 := hb8.trans (hb9.mono hb8.size)
  have hx9 := hx8.below hb9
  have hy9 := hy8.below hb9
  clear d0 d1 e0 e1
  have d0 := K0.out w9 H9
  have d1 := K1.out w9 H9
  have e0 := F0.out w9 G9
  have e1 := F1.out w9 G9
  go_wp2_with fail
  refine wp_region_held_drew (S := fun W => W.cell? ⟨w.heap.size, 0, none⟩ = some (.int .i64 r) ∧ W.cell? ⟨w.heap.size, 1, none⟩ = some (.slice A bs.length c) ∧ W.cell? ⟨w6.heap.size, 0, none⟩ = some (.int .i64 r) ∧ W.cell? ⟨w6.heap.size, 1, none⟩ = some (.slice A6 bs.length bs.length)) (by kernel_rfl) (by exact ⟨d0, d1, e0, e1⟩) (fun hHeld => ?_)
  refine wpAnyH_take (i := 0) (oi := _) (v := ?_) rfl (by kernel_rfl) (by kernel_rfl) (by kernel_rfl) (fun _ _ _ h => h) (Or.inl ⟨by rfl, ?_⟩) (by assumption) ?_
  rotate_left
  focus
    intro w hSw
    (try dsimp only at hSw)
    go_simp
    (try with_reducible rfl)
  (try simp only [List.getElem_toArray, List.getElem_cons_zero, List.getElem_cons_succ, Act.put, List.setIfInBounds_toArray, List.set_cons_zero, List.set_cons_succ])
  refine wpAnyH_take (i := 1) (oi := _) (v := ?_) rfl (by kernel_rfl) (by kernel_rfl) (by kernel_rfl) (fun _ _ _ h => h) (Or.inl ⟨by rfl, ?_⟩) (by assumption) ?_
  rotate_left
  focus
    intro w hSw
    (try dsimp only at hSw)
    go_simp
    (try with_reducible rfl)
  (try simp only [List.getElem_toArray, List.getElem_cons_zero, List.getElem_cons_succ, Act.put, List.setIfInBounds_toArray, List.set_cons_zero, List.set_cons_succ])
  refine wpAnyH_ready (rs := [2]) (by kernel_rfl) (by simp) ?_
  refine AllReadyH.cons (o := _) rfl (fun K hK => ?_) AllReadyH.nil
  (try simp only [List.getElem_toArray, List.getElem_cons_zero, List.getElem_cons_succ])
  go_simp
  refine (toWorks_any r A c bs _ (hW.below H9.drew).at_ hn hW.d8).mono ?_
  rintro e w10 ⟨A10, rfl, hO10, hb10⟩
  have Q10 : Below w9.heap.size w9 w10 := ((Below.refl _ w9).drew).trans hb10
  have H10 := H9.trans (Q10.mono H9.size)
  have G10 := G9.trans (Q10.mono G9.size)
  refine hK.out _ _ ?_ (fun hHeld => ?_)
  focus
    (try dsimp only)
    exact ⟨K0.out _ H10, K1.out _ H10, F0.out _ G10, F1.out _ G10⟩
  clear hK K
  (try simp only [List.getElem_toArray, List.getElem_cons_zero, List.getElem_cons_succ, Act.put, List.setIfInBounds_toArray, List.set_cons_zero, List.set_cons_succ])
  refine wpAnyH_ready (rs := [3]) (by kernel_rfl) (by simp) ?_
  refine AllReadyH.cons (o := _) rfl (fun K hK => ?_) AllReadyH.nil
  (try simp only [List.getElem_toArray, List.getElem_cons_zero, List.getElem_cons_succ])
  go_simp
  refine (eqWorks_same r A6 A10 _ _ bs _ (hx9.below Q10).at_ hO10.at hW.d8 hW.n).mono ?_
  rintro e w11 ⟨rfl, hb11⟩
  have H11 := H10.trans (hb11.mono H10.size)
  have G11 := G10.trans (hb11.mono G10.size)
  refine hK.out _ _ ?_ (fun hHeld => ?_)
  focus
    (try dsimp only)
    exact ⟨K0.out _ H11, K1.out _ H11, F0.out _ G11, F1.out _ G11⟩
  clear hK K
  (try simp only [List.getElem_toArray, List.getElem_cons_zero, List.getElem_cons_succ, Act.put, List.setIfInBounds_toArray, List.set_cons_zero, List.set_cons_succ])
  refine wpAnyH_take (i := 4) (oi := _) (v := ?_) rfl (by kernel_rfl) (by kernel_rfl) (by kernel_rfl) (fun _ _ _ h => h) (Or.inl ⟨by rfl, ?_⟩) (by assumption) ?_
  rotate_left
  focus
    intro w hSw
    (try dsimp only at hSw)
    go_simp
    (try with_reducible rfl)
  (try simp only [List.getElem_toArray, List.getElem_cons_zero, List.getElem_cons_succ, Act.put, List.setIfInBounds_toArray, List.set_cons_zero, List.set_cons_succ])
  refine wpAnyH_done (by kernel_rfl) ?_ _
  have hy11 := (hy9.below Q10).below hb11
  clear hHeld d0 d1 e0 e1 hb10 hO10 hx9 hy9 hx8 hy8
  go_wp2_with fail
  refine (toDeedS_any A2 c2 ds _ (hD.below H11).at_ hdn).mono ?_
  rintro e w12 ⟨A12, rfl, hO12, hb12⟩
  have H12 := H11.trans (hb12.mono H11.size)
  go_wp2_with fail
  refine (eqDeedS_same A8 A12 _ _ ds _ (hy11.below hb12).at_ hO12.at hD.n).mono ?_
  rintro e w13 ⟨rfl, hb13⟩
  have H13 := H12.trans (hb13.mono H12.size)
  go_wp2_with fail
  go_ret
  exact ⟨rfl, hbox.trans (H13.mono hbox.size)⟩
end Go.Proofs.Ytomcffionomidaa
