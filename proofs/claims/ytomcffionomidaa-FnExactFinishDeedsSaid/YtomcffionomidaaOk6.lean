/- Valid works, by the program. -/
import Derived.Test.YtomcffionomidaaOk4
import Derived.Deep.WholeRow
namespace Go.Proofs.Ytomcffionomidaa
open Go.RowKit

theorem isName_is {s : ByteArray} {b : Bool} (h : okName s = b) (hs : s.size ≤ 9223372036854775807) (w : World) : Calls Try.prog 87 #[.string s] w (BoolSame b w) := h ▸ isName_any s hs w
theorem areFew_is {d : List Int} {b : Bool} (h : okDrops d = b) (h8 : d.length = 8) (w : World) : Calls Try.prog 88 #[.agg (cV d)] w (BoolBel b w) := h ▸ areFew_any d h8 w
theorem batchPlace_is {A : Option Addr} {c : Nat} {bs : List Bat} {s : ByteArray} {n : Int} (h : placeOf bs s = n) (w : World) (hA : SlAt w 9 A (bs.map cB)) (hn : bs.length ≤ 140737488355328) :
    Calls Try.prog 89 #[.slice A bs.length c, .string s] w (IntBel n w) := h ▸ batchPlace_any A c bs s w hA hn

/-- The first batch with a batch's own name is itself, or one ahead of it. -/
theorem placeOf_own {bs : List Bat} {k : Nat} (hk : k < bs.length) : (placeOf bs bs[k].name = k) = (firstAt bs k bs[k].name = true) := by
  apply propext
  constructor
  · intro h
    unfold firstAt
    rw [List.all_eq_true]
    intro b hb
    obtain ⟨j, hj, rfl⟩ := List.getElem_of_mem hb
    have hj' : j < k := by simp at hj; omega
    rw [List.getElem_take]
    cases hq : bs[j].name.toList == bs[k].name.toList with
    | false => rfl
    | true =>
      exfalso
      unfold placeOf at h
      split at h
      · rename_i m hm
        obtain ⟨hm1, _, hm3⟩ := List.findIdx?_eq_some_iff_getElem.1 hm
        have : m = k := by omega
        subst this
        have := hm3 j hj'
        simp [hq] at this
      · omega
  · intro h
    refine placeOf_at hk (by simp) fun j hj hjk => ?_
    unfold firstAt at h
    rw [List.all_eq_true] at h
    have := h bs[j] (by rw [List.mem_take_iff_getElem]; exact ⟨j, by omega, rfl⟩)
    simpa using this

theorem lengthBatch_any (A : Option Addr) (n c : Nat) (w : World) : Calls Try.prog 60 #[.slice A n c] w fun e w' => e = .returned (.int .i64 n) ∧ w = w' := by
  go_enter Try.func60, Try.ntmps60
  go_wp2
  go_ret
  exact ⟨rfl, rfl⟩

def VwRel (w : World) (r : Int) (A : Option Addr) (c : Nat) (bs : List Bat) (g : Nat) (i : Value) (wr : World) : Prop :=
  ∃ k : Nat, k ≤ bs.length ∧ g = bs.length - k ∧ i = .int .i64 k ∧ Hid (∀ j, j < bs.length → j < k → okAt bs j = true) ∧ Below (w.heap.size + 1) (w.alloc (.cells #[.int .i64 r, .slice A bs.length c] 31)) wr

set_option maxRecDepth 100000 in
theorem ValidWorks_no (r : Int) (A : Option Addr) (c : Nat) (bs : List Bat) (w : World) (h : ¬ ((1 ≤ r ∧ r ≤ 4) ∧ (1 ≤ bs.length ∧ bs.length ≤ 6))) :
    Calls Try.prog 46 #[.agg #[.int .i64 r, .slice A bs.length c]] w (BoolBel (okWorks r bs) w) := by
  by_cases hr : 1 ≤ r ∧ r ≤ 4
  · have hl : ¬ (1 ≤ bs.length ∧ bs.length ≤ 6) := fun hl => h ⟨hr, hl⟩
    have hno := okWorks_len (r := r) hl
    have hd : (decide (1 ≤ (bs.length : Int)) && decide ((bs.length : Int) ≤ 6)) = false := by simp; omega
    obtain ⟨hr1, hr2⟩ := hr
    clear hl h
    go_enter Try.func46, Try.ntmps46
    go_wp2_with (first | (go_at_call 59; refine (inRange_any _ _ _ _).mono ?_; rintro e w1 ⟨rfl, rfl⟩) | (go_at_call 60; refine (lengthBatch_any _ _ _ _).mono ?_; rintro e w1 ⟨rfl, rfl⟩))
    go_ret
    exact ⟨by first | rfl | (rw [hno]; rfl), (Below.refl _ _).alloc (Nat.le_refl _) _⟩
  · have hno := okWorks_rooms (bs := bs) hr
    have hd : (decide (1 ≤ r) && decide (r ≤ 4)) = false := by simp; omega
    clear hr h
    go_enter Try.func46, Try.ntmps46
    go_wp2_with (first | (go_at_call 59; refine (inRange_any _ _ _ _).mono ?_; rintro e w1 ⟨rfl, rfl⟩) | (go_at_call 60; refine (lengthBatch_any _ _ _ _).mono ?_; rintro e w1 ⟨rfl, rfl⟩))
    go_ret
    exact ⟨by first | rfl | (rw [hno]; rfl), (Below.refl _ _).alloc (Nat.le_refl _) _⟩

/-- In the round k: the box of the batch, and what is read of it. -/
theorem boxed {w : World} (b : Bat) (h8 : b.d.length = 8) :
    (w.alloc (.cells (cB b) 72)).cell? ⟨w.heap.size, 0, none⟩ = some (.string b.name) ∧
    ∀ W, Below (w.heap.size + 1) (w.alloc (.cells (cB b) 72)) W → (Instr.loadAt 47 (.pointer (some ⟨w.heap.size, 1, none⟩))).run Try.prog W = .ok (.agg (cV b.d)) W := by
  refine ⟨by rw [World.cell?_alloc_at _ _ _ _ rfl]; exact cB_zero b, fun W hW => ?_⟩
  have h := later_row (P := Try.prog) (w := w.alloc (.cells (cB b) 72)) (g := w.heap.size) (o := 1) 47 (cV b.d) Try.underlying47 rfl (by rw [Try.sizeVat, cV_size, h8]) (by simp) (fun j v hv => ?_)
  · exact h W (by simpa using hW)
  · have hj : j < b.d.length := by simpa [cV] using (List.getElem?_eq_some_iff.1 hv).1
    rw [show (cV b.d).toList[j]? = some (.int .i64 b.d[j]) from by simpa using cV_at _ j hj] at hv
    rw [World.cell?_alloc_at _ _ _ _ rfl, ← hv, Nat.add_comm]
    exact cB_succ b j hj

set_option maxRecDepth 100000 in
set_option maxHeartbeats 6000000 in
theorem ValidWorks_yes (r : Int) (A : Option Addr) (c : Nat) (bs : List Bat) (w : World) (hr1 : 1 ≤ r) (hr2 : r ≤ 4) (hl1 : 1 ≤ bs.length) (hl2 : bs.length ≤ 6)
    (hA : SlAt w 9 A (bs.map cB)) (h8 : ∀ b ∈ bs, b.d.length = 8) (hs : ∀ b ∈ bs, b.name.size ≤ 140737488355328) :
    Calls Try.prog 46 #[.agg #[.int .i64 r, .slice A bs.length c]] w (BoolBel (okWorks r bs) w) := by
  have hd : (decide (1 ≤ (bs.length : Int)) && decide ((bs.length : Int) ≤ 6)) = true := by simp; omega
  have hd1 : (1 : Int) ≤ (bs.length : Int) := by omega
  have hd2 : (bs.length : Int) ≤ 6 := by omega
  have hbox : Below w.heap.size w (w.alloc (.cells #[.int .i64 r, .slice A bs.length c] 31)) := (Below.refl _ _).alloc (Nat.le_refl _) _
  go_enter Try.func46, Try.ntmps46
  go_wp2_with (first | (go_at_call 59; refine (inRange_any _ _ _ _).mono ?_; rintro e w1 ⟨rfl, rfl⟩) | (go_at_call 60; refine (lengthBatch_any _ _ _ _).mono ?_; rintro e w1 ⟨rfl, rfl⟩))
  go_loopg [19] bs.length (VwRel w r A c bs)
  case atStart => exact ⟨0, by omega, by omega, by go_num, fun j h hj => by omega, Below.refl _ _⟩
  case round =>
    obtain ⟨k, hk, rfl, rfl, H, hb⟩ := hrel
    have hb0 : Below w.heap.size w wr := hbox.trans (hb.mono (by omega))
    have hwz : w.heap.size + 1 ≤ wr.heap.size := by have := hb.size; simpa using this
    have c1 : wr.cell? ⟨w.heap.size, 1, none⟩ = some (.slice A bs.length c) := by
      rw [hb.cell (p := ⟨w.heap.size, 1, none⟩) (by simp), World.cell?_alloc_at _ _ _ _ rfl]; rfl
    by_cases hlt : k < bs.length
    · have h8k := h8 _ (List.getElem_mem hlt)
      have hsk := hs _ (List.getElem_mem hlt)
      obtain ⟨ga, oa, rfl, -, -, hl⟩ := (hA.below hb0).elem (P := Try.prog) (k := k) (by simpa using hlt) 72 Try.underlying72 rfl (by kernel_rfl)
      have hl1' := hl wr (Below.refl _ _)
      simp only [List.getElem_map] at hl1'
      have hl2' : ∀ o, (Instr.loadAt 72 (.pointer (some ⟨ga, oa + k * 9, none⟩))).run Try.prog (wr.alloc o) = .ok (.agg (cB bs[k])) (wr.alloc o) := fun o => by
        have := hl (wr.alloc o) ((Below.refl _ _).alloc (Nat.le_refl _) _)
        simpa only [List.getElem_map] using this
      clear hl
      obtain ⟨hx0, hx1⟩ := boxed (w := wr) bs[k] h8k
      have hst := run_storeAt_new (P := Try.prog) wr 72 #[.string ⟨#[]⟩, .int .i64 0, .int .i64 0, .int .i64 0, .int .i64 0, .int .i64 0, .int .i64 0, .int .i64 0, .int .i64 0] (cB bs[k]) (by rw [cB_size _ h8k]; kernel_rfl) (by rw [cB_size _ h8k]; rfl) (cB_one _)
      have hx1' := hx1 _ (Below.refl _ _)
      have c1' : (wr.alloc (.cells (cB bs[k]) 72)).cell? ⟨w.heap.size, 1, none⟩ = some (.slice (some ⟨ga, oa, none⟩) bs.length c) := by rw [World.cell?_alloc_past _ _ _ (by omega)]; exact c1
      have hb9 : Below w.heap.size w (wr.alloc (.cells (cB bs[k]) 72)) := hb0.alloc hb0.size _
      by_cases hA1 : okName bs[k].name = true
      · by_cases hC1 : okDrops bs[k].d = true
        · by_cases hB1 : placeOf bs bs[k].name = k
          · have hok : okAt bs k = true := by rw [okAt_def hlt, hA1, hC1, (placeOf_own hlt).mp hB1]; rfl
            have HB := Lib.hid hB1
            clear hB1
            go_wp2_with (first | (go_at_call 87; refine (isName_is hA1 (by omega) _).mono ?_; rintro e w1 ⟨rfl, rfl⟩) | (go_at_call 88; refine (areFew_is hC1 h8k _).mono ?_; rintro e w1 ⟨rfl, hb1⟩; have d1 := (hb1.cell (p := ⟨w.heap.size, 1, none⟩) (by simp; omega)).trans c1'; have d2 := (hb1.cell (p := ⟨wr.heap.size, 0, none⟩) (by simp)).trans hx0) | (go_at_call 89; refine (batchPlace_is HB.out _ (((hA.below hb0).below ((Below.refl _ _).alloc (Nat.le_refl _) _)).below hb1) (by omega)).mono ?_; rintro e w2 ⟨rfl, hb2⟩) | ((with_reducible refine wpList_load_at (ty := 72) ?_); refine ⟨_, hl1', ?_⟩) | ((with_reducible refine wpList_store_at (ty := 72) ?_); refine ⟨_, hst, ?_⟩) | ((with_reducible refine wpList_load_atG (ty := 47) ?_); refine ⟨_, hx1', by kernel_rfl, ?_⟩))
            go_roundg (bs.length - (k + 1))
            case measure => omega
            case rel =>
              refine ⟨k + 1, by omega, rfl, by go_num, fun j h hj => ?_, ((hb.alloc (by omega) _).trans (hb1.mono (by simp; omega))).trans (hb2.mono (by have := hb1.size; simp at this; omega))⟩
              by_cases e : j = k
              · subst e; exact hok
              · exact H.out j h (by omega)
          · have hno : okWorks r bs = false := okWorks_at hlt (by
              rw [okAt_def hlt]
              have : firstAt bs k bs[k].name = false := by
                cases hq : firstAt bs k bs[k].name with
                | false => rfl
                | true => exact absurd ((placeOf_own hlt).mpr hq) hB1
              rw [this]; simp)
            have hB2 : (placeOf bs bs[k].name == (k : Int)) = false := by simpa using hB1
            clear hB1
            go_wp2_with (first | (go_at_call 87; refine (isName_is hA1 (by omega) _).mono ?_; rintro e w1 ⟨rfl, rfl⟩) | (go_at_call 88; refine (areFew_is hC1 h8k _).mono ?_; rintro e w1 ⟨rfl, hb1⟩; have d1 := (hb1.cell (p := ⟨w.heap.size, 1, none⟩) (by simp; omega)).trans c1'; have d2 := (hb1.cell (p := ⟨wr.heap.size, 0, none⟩) (by simp)).trans hx0) | (go_at_call 89; refine (batchPlace_is rfl _ (((hA.below hb0).below ((Below.refl _ _).alloc (Nat.le_refl _) _)).below hb1) (by omega)).mono ?_; rintro e w2 ⟨rfl, hb2⟩) | ((with_reducible refine wpList_load_at (ty := 72) ?_); refine ⟨_, hl1', ?_⟩) | ((with_reducible refine wpList_store_at (ty := 72) ?_); refine ⟨_, hst, ?_⟩) | ((with_reducible refine wpList_load_atG (ty := 47) ?_); refine ⟨_, hx1', by kernel_rfl, ?_⟩))
            go_ret
            exact ⟨by first | rfl | (rw [hno]; rfl), (hb9.trans (hb1.mono (by simp; omega))).trans (hb2.mono (by have := hb1.size; simp at this; omega))⟩
        · have hC2 : okDrops bs[k].d = false := by simpa using hC1
          have hno : okWorks r bs = false := okWorks_at hlt (by rw [okAt_def hlt, hC2]; simp)
          clear hC1
          go_wp2_with (first | (go_at_call 87; refine (isName_is hA1 (by omega) _).mono ?_; rintro e w1 ⟨rfl, rfl⟩) | (go_at_call 88; refine (areFew_is hC2 h8k _).mono ?_; rintro e w1 ⟨rfl, hb1⟩; have d1 := (hb1.cell (p := ⟨w.heap.size, 1, none⟩) (by simp; omega)).trans c1'; have d2 := (hb1.cell (p := ⟨wr.heap.size, 0, none⟩) (by simp)).trans hx0) | ((with_reducible refine wpList_load_at (ty := 72) ?_); refine ⟨_, hl1', ?_⟩) | ((with_reducible refine wpList_store_at (ty := 72) ?_); refine ⟨_, hst, ?_⟩) | ((with_reducible refine wpList_load_atG (ty := 47) ?_); refine ⟨_, hx1', by kernel_rfl, ?_⟩))
          go_ret
          exact ⟨by first | rfl | (rw [hno]; rfl), hb9.trans (hb1.mono (by simp; omega))⟩
      · have hA2 : okName bs[k].name = false := by simpa using hA1
        have hno : okWorks r bs = false := okWorks_at hlt (by rw [okAt_def hlt, hA2]; simp)
        clear hA1
        go_wp2_with (first | (go_at_call 87; refine (isName_is hA2 (by omega) _).mono ?_; rintro e w1 ⟨rfl, rfl⟩) | ((with_reducible refine wpList_load_at (ty := 72) ?_); refine ⟨_, hl1', ?_⟩) | ((with_reducible refine wpList_store_at (ty := 72) ?_); refine ⟨_, hst, ?_⟩) | ((with_reducible refine wpList_load_atG (ty := 47) ?_); refine ⟨_, hx1', by kernel_rfl, ?_⟩))
        go_ret
        exact ⟨by first | rfl | (rw [hno]; rfl), hb9⟩
    · obtain rfl : k = bs.length := by omega
      have hno := okWorks_true hr1 hr2 hl1 hl2 (fun j h => H.out j h h)
      go_wp2
      go_ret
      exact ⟨by first | rfl | (rw [hno]; rfl), hb0⟩
end Go.Proofs.Ytomcffionomidaa
