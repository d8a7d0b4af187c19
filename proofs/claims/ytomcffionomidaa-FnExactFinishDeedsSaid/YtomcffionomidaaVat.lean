/- 'VatAfter' of the program and of the reference. -/
import Derived.Test.YtomcffionomidaaAgree
namespace Go.Proofs.Ytomcffionomidaa
open Go.RowKit
set_option linter.unusedSimpArgs false
set_option linter.unusedVariables false

def vz : List Int := List.replicate 8 0
def VtRes (r : Int) (bs : List Bat) (ds : List Dd) (b : Int) (v : List Int) (z : Int) : Prop :=
  (givenCode r bs ds ≠ 0 ∧ v = vz ∧ z = givenCode r bs ds) ∨ (givenCode r bs ds = 0 ∧ ¬ (0 ≤ b ∧ b < bs.length) ∧ v = vz ∧ z = 2) ∨
  (givenCode r bs ds = 0 ∧ ∃ n : Nat, b = n ∧ n < bs.length ∧ v = (fB0 r bs ds ds.length).vats.getD n [] ∧ z = 0)
theorem vtRes_ex (r : Int) (bs : List Bat) (ds : List Dd) (b : Int) : ∃ v z, VtRes r bs ds b v z := by
  by_cases hg : givenCode r bs ds = 0
  · by_cases hb : 0 ≤ b ∧ b < bs.length
    · exact ⟨_, _, .inr (.inr ⟨hg, b.toNat, by omega, by omega, rfl, rfl⟩)⟩
    · exact ⟨_, _, .inr (.inl ⟨hg, hb, rfl, rfl⟩)⟩
  · exact ⟨_, _, .inl ⟨hg, rfl, rfl⟩⟩
def Vt2 (w : World) (v : List Int) (z : Int) (e : Ending) (w' : World) : Prop := e = .returned (.tuple #[.agg (cV v), .int .i64 z]) ∧ Below w.heap.size w w'

/-- A vat of a shop's. -/
theorem Shop.vatAt {w : World} {o : Nat → Nat} {lo : Nat → Prop} {p r nb : Nat} {pty : TypeId} {hd : List Value} {ts : List Tsk} {f : Fl} {S : Slots} (h : Shop w o lo p pty hd ts f S) (hok : FlOk r nb ts f) {n : Nat} (hn : n < nb) :
    ∃ g c v, S.v = .slice (some ⟨g, 0, none⟩) nb c ∧ g < w.heap.size ∧ f.vats.getD n [] = v ∧ v.length = 8 ∧ ∀ W, Below w.heap.size w W → (Instr.loadAt 47 (.pointer (some ⟨g, n * 8, none⟩))).run Try.prog W = .ok (.agg (cV v)) W := by
  have hl : n < f.vats.length := by rw [hok.vats]; exact hn
  have h8 : (f.vats[n]).length = 8 := hok.vat _ (List.getElem_mem hl)
  obtain ⟨A, c, e, hc, hown⟩ := h.vats.1.form
  rw [List.length_map, hok.vats] at e
  obtain ⟨g, rfl, -, hg, hr, -⟩ := hown.2 (by simp; omega)
  refine ⟨g, c, f.vats[n], e, hg, getD_at hl _, h8, ?_⟩
  have hsz : (cV f.vats[n]).size = 8 := by simp [cV, h8]
  exact later_row 47 (cV f.vats[n]) Try.underlying47 rfl (by rw [hsz]; kernel_rfl) hg (hr n _ (by simp [hl]))

theorem store_vat (w1 : World) (rb : Nat) (ht : w1.there rb 0 8) (v0 v1 v2 v3 v4 v5 v6 v7 : Int) :
    ∃ W, (Instr.storeAt 47 (.pointer (some ⟨rb, 0, none⟩)) (.agg #[.int .i64 v0, .int .i64 v1, .int .i64 v2, .int .i64 v3, .int .i64 v4, .int .i64 v5, .int .i64 v6, .int .i64 v7])).run Try.prog w1 = .ok () W ∧
      (W.cell? ⟨rb, 0, none⟩ = some (.int .i64 v0) ∧ W.cell? ⟨rb, 1, none⟩ = some (.int .i64 v1) ∧ W.cell? ⟨rb, 2, none⟩ = some (.int .i64 v2) ∧ W.cell? ⟨rb, 3, none⟩ = some (.int .i64 v3) ∧ W.cell? ⟨rb, 4, none⟩ = some (.int .i64 v4) ∧ W.cell? ⟨rb, 5, none⟩ = some (.int .i64 v5) ∧ W.cell? ⟨rb, 6, none⟩ = some (.int .i64 v6) ∧ W.cell? ⟨rb, 7, none⟩ = some (.int .i64 v7)) ∧
      ∀ (B : Nat) (a : World), Below B a w1 → B ≤ rb → Below B a W := by
  have hs := run_storeAt_mid (P := Try.prog) w1 rb 0 47 #[.int .i64 v0, .int .i64 v1, .int .i64 v2, .int .i64 v3, .int .i64 v4, .int .i64 v5, .int .i64 v6, .int .i64 v7] ht (by kernel_rfl) (by simp [Value.oneCell'])
  have hr := World.rangeAt_setCells_same w1 rb 0 [Value.int .i64 v0, .int .i64 v1, .int .i64 v2, .int .i64 v3, .int .i64 v4, .int .i64 v5, .int .i64 v6, .int .i64 v7] ht
  refine ⟨_, hs, ⟨?_, ?_, ?_, ?_, ?_, ?_, ?_, ?_⟩, fun B a h hB => Below.setCells' hB _ _ _ h⟩
  · exact hr 0 _ rfl
  · exact hr 1 _ rfl
  · exact hr 2 _ rfl
  · exact hr 3 _ rfl
  · exact hr 4 _ rfl
  · exact hr 5 _ rfl
  · exact hr 6 _ rfl
  · exact hr 7 _ rfl


set_option maxRecDepth 100000 in
set_option maxHeartbeats 1000000 in
theorem implVat_any (r : Int) (A : Option Addr) (c : Nat) (bs : List Bat) (A2 : Option Addr) (c2 : Nat) (ds : List Dd) (b : Int) (w : World) (h : WorksAt w A c bs) (hd : DeedsAt w A2 c2 ds) (v : List Int) (z : Int) (hres : VtRes r bs ds b v z) :
    Calls Try.prog 25 #[.agg #[.int .i64 r, .slice A bs.length c], .slice A2 ds.length c2, .int .i64 b] w (Vt2 w v z) := by
  have hbox : Below w.heap.size w (w.alloc (.cells #[.int .i64 r, .slice A bs.length c] 31)) := (Below.refl _ _).alloc (Nat.le_refl _) _
  have c0 : (w.alloc (.cells #[.int .i64 r, .slice A bs.length c] 31)).cell? ⟨w.heap.size, 0, none⟩ = some (.int .i64 r) := by rw [World.cell?_alloc_at _ _ _ _ rfl]; rfl
  have c1 : (w.alloc (.cells #[.int .i64 r, .slice A bs.length c] 31)).cell? ⟨w.heap.size, 1, none⟩ = some (.slice A bs.length c) := by rw [World.cell?_alloc_at _ _ _ _ rfl]; rfl
  have h0 := h.below hbox
  have hd0 := hd.below hbox
  have hz : w.heap.size < (w.alloc (.cells #[.int .i64 r, .slice A bs.length c] 31)).heap.size := by simp
  generalize hw0 : w.alloc (.cells #[.int .i64 r, .slice A bs.length c] 31) = w0 at hbox c0 c1 h0 hd0 hz
  have hbz : Below w0.heap.size w0 (w0.alloc (.cells #[.int .i64 0, .int .i64 0, .int .i64 0, .int .i64 0, .int .i64 0, .int .i64 0, .int .i64 0, .int .i64 0] 47)) := (Below.refl _ _).alloc (Nat.le_refl _) _
  have hzq : w0.heap.size < (w0.alloc (.cells #[.int .i64 0, .int .i64 0, .int .i64 0, .int .i64 0, .int .i64 0, .int .i64 0, .int .i64 0, .int .i64 0] 47)).heap.size := by simp
  have hth : (w0.alloc (.cells #[.int .i64 0, .int .i64 0, .int .i64 0, .int .i64 0, .int .i64 0, .int .i64 0, .int .i64 0, .int .i64 0] 47)).there w0.heap.size 0 8 := there_block (heap_alloc_new w0 _) 0 8 (by simp)
  generalize hw0z : w0.alloc (.cells #[.int .i64 0, .int .i64 0, .int .i64 0, .int .i64 0, .int .i64 0, .int .i64 0, .int .i64 0, .int .i64 0] 47) = w0z at hbz hzq hth
  have c0 := (hbz.cell (p := ⟨w.heap.size, 0, none⟩) hz).trans c0
  have c1 := (hbz.cell (p := ⟨w.heap.size, 1, none⟩) hz).trans c1
  have hz' : w.heap.size < w0z.heap.size := by omega
  have hB0 : Below w.heap.size w w0z := hbox.trans (hbz.mono hbox.size)
  have hzs := hbox.size
  have hck := checkDeeds_any r A c bs A2 c2 ds w0z (h0.below hbz) (hd0.below hbz)
  rcases hres with ⟨hg, rfl, rfl⟩ | ⟨hg, hb, rfl, rfl⟩ | ⟨hg, n, rfl, hn, rfl, rfl⟩
  · have e0 : (givenCode r bs ds != 0) = true := by simp; exact hg
    clear hg
    go_enter Try.func25, Try.ntmps25
    go_wp2_with fail
    clear hw0 hw0z
    refine hck.mono ?_
    rintro e w1 ⟨rfl, hq⟩
    obtain ⟨W, hst, ⟨p0, p1, p2, p3, p4, p5, p6, p7⟩, hbW⟩ := store_vat w1 w0.heap.size (there_below hth hq hzq) 0 0 0 0 0 0 0 0
    go_wp2_with ((with_reducible refine wpList_store_at (ty := 47) ?_); refine ⟨_, hst, ?_⟩)
    refine bodyPost_ret (v := .tuple #[.agg #[.int .i64 0, .int .i64 0, .int .i64 0, .int .i64 0, .int .i64 0, .int .i64 0, .int .i64 0, .int .i64 0], .int .i64 (givenCode r bs ds)]) (by simp [results, Try.results25, go_sem, p0, p1, p2, p3, p4, p5, p6, p7]) rfl ⟨rfl, hbW _ _ ?_ hzs⟩
    exact hB0.trans (hq.mono (by omega))
  · rw [hg] at hck
    obtain ⟨hok, hds, hl, rn, rfl, hr1, hr4⟩ := given_ok hg
    obtain ⟨-, -, n1, n6, -⟩ := okWorks_parts hok
    have e1 : (decide (0 ≤ b) && decide (b ≤ (bs.length : Int) - 1)) = false := by simp; omega
    clear hg hb
    go_enter Try.func25, Try.ntmps25
    go_wp2_with fail
    clear hw0 hw0z
    refine hck.mono ?_
    rintro e w1 ⟨rfl, hq⟩
    have d0 := (hq.cell (p := ⟨w.heap.size, 0, none⟩) hz').trans c0
    have d1 := (hq.cell (p := ⟨w.heap.size, 1, none⟩) hz').trans c1
    obtain ⟨W, hst, ⟨p0, p1, p2, p3, p4, p5, p6, p7⟩, hbW⟩ := store_vat w1 w0.heap.size (there_below hth hq hzq) 0 0 0 0 0 0 0 0
    go_wp2_with (first | ((with_reducible refine wpList_store_at (ty := 47) ?_); refine ⟨_, hst, ?_⟩) | (go_at_call 60; refine (lengthBatch_any _ _ _ _).mono ?_; rintro e w2 ⟨rfl, rfl⟩) | (go_at_call 59; refine (inRange_any _ _ _ _).mono ?_; rintro e w2 ⟨rfl, rfl⟩))
    refine bodyPost_ret (v := .tuple #[.agg #[.int .i64 0, .int .i64 0, .int .i64 0, .int .i64 0, .int .i64 0, .int .i64 0, .int .i64 0, .int .i64 0], .int .i64 (2)]) (by simp [results, Try.results25, go_sem, p0, p1, p2, p3, p4, p5, p6, p7]) rfl ⟨rfl, hbW _ _ ?_ hzs⟩
    exact hB0.trans (hq.mono (by omega))
  · rw [hg] at hck
    obtain ⟨hok, hds, hl, rn, rfl, hr1, hr4⟩ := given_ok hg
    obtain ⟨-, -, n1, n6, -⟩ := okWorks_parts hok
    have h48 : (tasksOf bs).length ≤ 48 := by have := tasksTo_len bs bs.length; unfold tasksOf; omega
    have hf0 := floor0_ok hr1 hr4 h48 (tasksOf_in bs)
    have hfn := fA_ok hf0 hds ds.length (Nat.le_refl _)
    have e1 : (decide ((0 : Int) ≤ n) && decide ((n : Int) ≤ (bs.length : Int) - 1)) = true := by simp; omega
    have e2 : decide ((n : Int) ≤ (bs.length : Int) - 1) = true := by simp; omega
    rw [show fA rn (tasksOf bs) (floor0 rn bs.length (tasksOf bs).length) ds ds.length = fB0 rn bs ds ds.length by simp [fB0]] at hfn
    clear hg
    go_enter Try.func25, Try.ntmps25
    go_wp2_with fail
    clear hw0 hw0z
    refine hck.mono ?_
    rintro e w1 ⟨rfl, hb1⟩
    have d0 := (hb1.cell (p := ⟨w.heap.size, 0, none⟩) hz').trans c0
    have d1 := (hb1.cell (p := ⟨w.heap.size, 1, none⟩) hz').trans c1
    have hz1 := hb1.size
    have haf := after_any rn A c bs A2 c2 ds w1 ((h0.below hbz).below hb1) ((hd0.below hbz).below hb1) hok hds hl
    rw [show fA rn (tasksOf bs) (floor0 rn bs.length (tasksOf bs).length) ds ds.length = fB0 rn bs ds ds.length by simp [fB0]] at haf
    go_wp2_with (first | (go_at_call 60; refine (lengthBatch_any _ _ _ _).mono ?_; rintro e w2 ⟨rfl, rfl⟩) | (go_at_call 59; refine (inRange_any _ _ _ _).mono ?_; rintro e w2 ⟨rfl, rfl⟩))
    refine haf.mono ?_
    rintro e w2 ⟨p, rfl, ⟨o, S, hS2⟩, hb2⟩
    have hq : Below w0z.heap.size w0z w2 := hb1.trans (hb2.mono hz1)
    obtain ⟨g, cg, v, ev, hgl, hv, h8, hld⟩ := hS2.vatAt hfn hn
    obtain ⟨v0, v1, v2, v3, v4, v5, v6, v7, rfl⟩ := eight v h8
    have hld2 := hld w2 (Below.refl _ _)
    have HV := Lib.hid hv
    clear hv
    simp only [cV, List.map_cons, List.map_nil] at hld2
    have c3 : w2.cell? ⟨p, 3, none⟩ = some S.v := hS2.cell rfl
    rw [ev] at c3
    clear hld
    obtain ⟨W, hst, ⟨p0, p1, p2, p3, p4, p5, p6, p7⟩, hbW⟩ := store_vat w2 w0.heap.size (there_below hth hq hzq) v0 v1 v2 v3 v4 v5 v6 v7
    go_wp2_with (first | ((with_reducible refine wpList_load_at (ty := 47) ?_); refine ⟨_, hld2, ?_⟩) | ((with_reducible refine wpList_store_at (ty := 47) ?_); refine ⟨_, hst, ?_⟩))
    refine bodyPost_ret (v := .tuple #[.agg #[.int .i64 v0, .int .i64 v1, .int .i64 v2, .int .i64 v3, .int .i64 v4, .int .i64 v5, .int .i64 v6, .int .i64 v7], .int .i64 (0)]) (by simp [results, Try.results25, go_sem, p0, p1, p2, p3, p4, p5, p6, p7]) rfl ⟨by rw [HV.out]; rfl, hbW _ _ ?_ hzs⟩
    exact hB0.trans (hq.mono (by omega))
end Go.Proofs.Ytomcffionomidaa
