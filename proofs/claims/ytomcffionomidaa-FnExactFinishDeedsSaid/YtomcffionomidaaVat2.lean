/- 'VatAfter' of the reference. -/
import Derived.Test.YtomcffionomidaaVat
namespace Go.Proofs.Ytomcffionomidaa
open Go.RowKit
set_option linter.unusedSimpArgs false
set_option linter.unusedVariables false

set_option maxRecDepth 100000 in
set_option maxHeartbeats 1000000 in
theorem specVat_any (r : Int) (A : Option Addr) (c : Nat) (bs : List Bat) (A2 : Option Addr) (c2 : Nat) (ds : List Dd) (b : Int) (w : World) (h : WorksAt w A c bs) (hd : DeedsAt w A2 c2 ds) (v : List Int) (z : Int) (hres : VtRes r bs ds b v z) :
    Calls Try.prog 24 #[.agg #[.int .i64 r, .slice A bs.length c], .slice A2 ds.length c2, .int .i64 b] w (Vt2 w v z) := by
  have hbox : Below w.heap.size w (w.alloc (.cells #[.int .i64 r, .slice A bs.length c] 31)) := (Below.refl _ _).alloc (Nat.le_refl _) _
  have c0 : (w.alloc (.cells #[.int .i64 r, .slice A bs.length c] 31)).cell? ⟨w.heap.size, 0, none⟩ = some (.int .i64 r) := by rw [World.cell?_alloc_at _ _ _ _ rfl]; rfl
  have c1 : (w.alloc (.cells #[.int .i64 r, .slice A bs.length c] 31)).cell? ⟨w.heap.size, 1, none⟩ = some (.slice A bs.length c) := by rw [World.cell?_alloc_at _ _ _ _ rfl]; rfl
  have h0 := h.below hbox
  have hd0 := hd.below hbox
  have hz : w.heap.size < (w.alloc (.cells #[.int .i64 r, .slice A bs.length c] 31)).heap.size := by simp
  generalize hw0 : w.alloc (.cells #[.int .i64 r, .slice A bs.length c] 31) = w0 at hbox c0 c1 h0 hd0 hz
  have hbz : Below w0.heap.size w0 (w0.alloc (.cells #[.int .i64 0, .int .i64 0, .int .i64 0, .int .i64 0, .int .i64 0, .int .i64 0, .int .i64 0, .int .i64 0] 47)) := (Below.refl _ _).alloc (Nat.le_refl _) _
  have hzq : w0.heap.size < (w0.alloc (.cells #[.int .i64 0, .int .i64 0, .int .i64 0, .int .i64 0, .int .i64 0, .int .i64 0, .int .i64 0, .int .i64 0] 47)).heap.size := by simp
  have hth : (w0.alloc (.cells #[.int .i64 0, .int .i64 0, .int .i64 0, .int .i64 0, .int .i64 0, .int .i64 0, .int .i64 0, .int .i64 0] 47)).there w0.heap.size 0 8 := there_block (heap_alloc_new w0 _) 0 8 (by simp)
  generalize hw0z : w0.alloc (.cells #[.int .i64 0, .int .i64 0, .int .i64 0, .int .i64 0, .int .i64 0, .int .i64 0, .int .i64 0, .int .i64 0] 47) = w0z at hbz hzq hth
  have c0 := (hbz.cell (p := ⟨w.heap.size, 0, none⟩) hz).trans c0
  have c1 := (hbz.cell (p := ⟨w.heap.size, 1, none⟩) hz).trans c1
  have hz' : w.heap.size < w0z.heap.size := by omega
  have hB0 : Below w.heap.size w w0z := hbox.trans (hbz.mono hbox.size)
  have hzs := hbox.size
  have hck := l07Given_any w.heap.size r A c bs A2 c2 ds w0z hz' c0 c1 (h0.below hbz) (hd0.below hbz)
  rcases hres with ⟨hg, rfl, rfl⟩ | ⟨hg, hb, rfl, rfl⟩ | ⟨hg, n, rfl, hn, rfl, rfl⟩
  · have e0 : (givenCode r bs ds != 0) = true := by simp; exact hg
    have e00 : (givenCode r bs ds == 0) = false := by simp; exact hg
    clear hg
    go_enter Try.func24, Try.ntmps24
    go_wp2_with fail
    clear hw0 hw0z
    refine hck.mono ?_
    rintro e w1 ⟨rfl, hq⟩
    obtain ⟨W, hst, ⟨p0, p1, p2, p3, p4, p5, p6, p7⟩, hbW⟩ := store_vat w1 w0.heap.size (there_below hth hq hzq) 0 0 0 0 0 0 0 0
    go_wp2_with ((with_reducible refine wpList_store_at (ty := 47) ?_); refine ⟨_, hst, ?_⟩)
    refine bodyPost_ret (v := .tuple #[.agg #[.int .i64 0, .int .i64 0, .int .i64 0, .int .i64 0, .int .i64 0, .int .i64 0, .int .i64 0, .int .i64 0], .int .i64 (givenCode r bs ds)]) (by simp [results, Try.results24, go_sem, p0, p1, p2, p3, p4, p5, p6, p7]) rfl ⟨rfl, hbW _ _ ?_ hzs⟩
    exact hB0.trans (hq.mono (by omega))
  · rw [hg] at hck
    obtain ⟨hok, hds, hl, rn, rfl, hr1, hr4⟩ := given_ok hg
    obtain ⟨-, -, n1, n6, -⟩ := okWorks_parts hok
    have e1 : (decide (0 ≤ b) && decide (b ≤ (bs.length : Int) - 1)) = false := by simp; omega
    clear hg hb
    go_enter Try.func24, Try.ntmps24
    go_wp2_with fail
    clear hw0 hw0z
    refine hck.mono ?_
    rintro e w1 ⟨rfl, hq⟩
    have d0 := (hq.cell (p := ⟨w.heap.size, 0, none⟩) hz').trans c0
    have d1 := (hq.cell (p := ⟨w.heap.size, 1, none⟩) hz').trans c1
    obtain ⟨W, hst, ⟨p0, p1, p2, p3, p4, p5, p6, p7⟩, hbW⟩ := store_vat w1 w0.heap.size (there_below hth hq hzq) 0 0 0 0 0 0 0 0
    go_wp2_with (first | ((with_reducible refine wpList_store_at (ty := 47) ?_); refine ⟨_, hst, ?_⟩) | (go_at_call 58; refine (in_any _ _ _ _).mono ?_; rintro e w2 ⟨rfl, rfl⟩))
    refine bodyPost_ret (v := .tuple #[.agg #[.int .i64 0, .int .i64 0, .int .i64 0, .int .i64 0, .int .i64 0, .int .i64 0, .int .i64 0, .int .i64 0], .int .i64 (2)]) (by simp [results, Try.results24, go_sem, p0, p1, p2, p3, p4, p5, p6, p7]) rfl ⟨rfl, hbW _ _ ?_ hzs⟩
    exact hB0.trans (hq.mono (by omega))
  · rw [hg] at hck
    obtain ⟨hok, hds, hl, rn, rfl, hr1, hr4⟩ := given_ok hg
    obtain ⟨-, -, n1, n6, -⟩ := okWorks_parts hok
    have h48 : (tasksOf bs).length ≤ 48 := by have := tasksTo_len bs bs.length; unfold tasksOf; omega
    have hf0 := floor0_ok hr1 hr4 h48 (tasksOf_in bs)
    have hfn := fA_ok hf0 hds ds.length (Nat.le_refl _)
    have e1 : (decide ((0 : Int) ≤ n) && decide ((n : Int) ≤ (bs.length : Int) - 1)) = true := by simp; omega
    have e2 : decide ((n : Int) ≤ (bs.length : Int) - 1) = true := by simp; omega
    rw [show fA rn (tasksOf bs) (floor0 rn bs.length (tasksOf bs).length) ds ds.length = fB0 rn bs ds ds.length by simp [fB0]] at hfn
    clear hg
    go_enter Try.func24, Try.ntmps24
    go_wp2_with fail
    clear hw0 hw0z
    refine hck.mono ?_
    rintro e w1 ⟨rfl, hb1⟩
    have d0 := (hb1.cell (p := ⟨w.heap.size, 0, none⟩) hz').trans c0
    have d1 := (hb1.cell (p := ⟨w.heap.size, 1, none⟩) hz').trans c1
    have hz1 := hb1.size
    have haf := play_any w.heap.size rn A c bs A2 c2 ds w1 (by omega) d0 d1 ((h0.below hbz).below hb1) ((hd0.below hbz).below hb1) hok hds hl
    rw [show fA rn (tasksOf bs) (floor0 rn bs.length (tasksOf bs).length) ds ds.length = fB0 rn bs ds ds.length by simp [fB0]] at haf
    go_wp2_with (go_at_call 58; refine (in_any _ _ _ _).mono ?_; rintro e w2 ⟨rfl, rfl⟩)
    refine haf.mono ?_
    rintro e w2 ⟨p, vv, rfl, ⟨o, S, hS2⟩, -, hb2⟩
    have hq : Below w0z.heap.size w0z w2 := hb1.trans (hb2.mono hz1)
    obtain ⟨g, cg, v, ev, hgl, hv, h8, hld⟩ := hS2.vatAt hfn hn
    obtain ⟨v0, v1, v2, v3, v4, v5, v6, v7, rfl⟩ := eight v h8
    have hld2 := hld w2 (Below.refl _ _)
    have HV := Lib.hid hv
    clear hv
    simp only [cV, List.map_cons, List.map_nil] at hld2
    have c3 : w2.cell? ⟨p, 2, none⟩ = some S.v := hS2.cell rfl
    rw [ev] at c3
    clear hld
    obtain ⟨W, hst, ⟨p0, p1, p2, p3, p4, p5, p6, p7⟩, hbW⟩ := store_vat w2 w0.heap.size (there_below hth hq hzq) v0 v1 v2 v3 v4 v5 v6 v7
    go_wp2_with (first | ((with_reducible refine wpList_load_at (ty := 47) ?_); refine ⟨_, hld2, ?_⟩) | ((with_reducible refine wpList_store_at (ty := 47) ?_); refine ⟨_, hst, ?_⟩))
    refine bodyPost_ret (v := .tuple #[.agg #[.int .i64 v0, .int .i64 v1, .int .i64 v2, .int .i64 v3, .int .i64 v4, .int .i64 v5, .int .i64 v6, .int .i64 v7], .int .i64 (0)]) (by simp [results, Try.results24, go_sem, p0, p1, p2, p3, p4, p5, p6, p7]) rfl ⟨by rw [HV.out]; rfl, hbW _ _ ?_ hzs⟩
    exact hB0.trans (hq.mono (by omega))
end Go.Proofs.Ytomcffionomidaa
