/- slices.Repeat of one deed. -/
import Derived.Test.YtomcffionomidaaPlay2
import Derived.Test.YtomcffionomidaaBegin0
import Derived.Laws.CopyRow
import Derived.Deep.RegionHeld3
namespace Go.Proofs.Ytomcffionomidaa
open Go.RowKit
set_option linter.unusedSimpArgs false
set_option linter.unusedVariables false

theorem run_copy_two {P : Program} (w : World) (dT sT ty elem : TypeId) (g o dLen dCap : Nat) (a : Addr) (sLen sCap : Nat) (cur : Array Value) (t : TypeId) (cs : List Value)
    (hu : P.underlying dT = some (.slice elem)) (hs : (P.info? elem).map (·.size) = some 2)
    (hg : w.heap[g]? = some (.cells cur t (0, 0))) (hn : cs.length = Nat.min sLen dLen * 2)
    (hsrc : ∀ j v, cs[j]? = some v → w.cell? (a.add j) = some v) (hfit : o + cs.length ≤ cur.size) (h1 : ∀ v ∈ cs, v.oneCell' = true) :
    (Builtin.copy_ #[dT, sT] ty #[.slice (some ⟨g, o, none⟩) dLen dCap, .slice (some a) sLen sCap]).run P w =
      .ok (.int .i64 (Nat.min sLen dLen)) (w.setRow g (cur.toList.take o ++ cs ++ cur.toList.drop (o + cs.length)).toArray) := by
  have hl := run_loadCells_list (P := P) w a cs hsrc
  have hst := run_storeCells_at P g o t cs 0 cur w hg (by simpa using hfit) h1
  cases hq : P.info? elem with
  | none => simp [hq] at hs
  | some i =>
    have hi : i.size = 2 := by simpa [hq] using hs
    simp [Builtin.copy_, run_underlying hu, Builtin.lenOf, Builtin.firstCells, sizeOf, typeInfo, hq, hi, ← hn, hl, hst, goInt]

theorem mul_any (n : Nat) (hn : n ≤ 10) (w : World) : Calls Try.prog 104 #[.int .u64 1, .int .u64 n] w fun e w' => e = .returned (.tuple #[.int .u64 0, .int .u64 n]) ∧ w = w' := by
  have h64 : Calls Try.prog 121 #[.int .u64 1, .int .u64 n] w fun e w' => e = .returned (.tuple #[.int .u64 0, .int .u64 n]) ∧ w = w' := by
    obtain rfl | rfl | rfl | rfl | rfl | rfl | rfl | rfl | rfl | rfl | rfl : n = 0 ∨ n = 1 ∨ n = 2 ∨ n = 3 ∨ n = 4 ∨ n = 5 ∨ n = 6 ∨ n = 7 ∨ n = 8 ∨ n = 9 ∨ n = 10 := by omega
    all_goals
      go_enter Try.func121, Try.ntmps121
      go_wp2
      go_ret2
      exact ⟨rfl, rfl⟩
  go_enter Try.func104, Try.ntmps104
  go_wp2_with (go_at_call 121; refine h64.mono ?_; rintro e w1 ⟨rfl, rfl⟩)
  go_ret2
  exact ⟨rfl, rfl⟩

def ddr : Dd := ⟨4, 0⟩
def ddz : Dd := ⟨0, 0⟩
def repC (k n : Nat) : List Value := (List.replicate k (cD ddr)).flatMap Array.toList ++ (List.replicate (n - k) (cD ddz)).flatMap Array.toList
theorem rep_len (d : Dd) (k : Nat) : ((List.replicate k (cD d)).flatMap Array.toList).length = k * 2 := by
  rw [flat_len (sz := 2) (fun x hx => by rw [List.mem_replicate] at hx; rw [hx.2]; rfl), List.length_replicate]
theorem repC_len {k n : Nat} (h : k ≤ n) : (repC k n).length = n * 2 := by simp only [repC, List.length_append, rep_len]; omega
theorem repC_step {k n m : Nat} (h : k + m ≤ n) : (repC k n).take (k * 2) ++ (List.replicate m (cD ddr)).flatMap Array.toList ++ (repC k n).drop (k * 2 + m * 2) = repC (k + m) n := by
  have e1 : (repC k n).take (k * 2) = (List.replicate k (cD ddr)).flatMap Array.toList := by
    simp only [repC]; rw [List.take_left' (rep_len _ _)]
  have e2 : (repC k n).drop (k * 2 + m * 2) = (List.replicate (n - (k + m)) (cD ddz)).flatMap Array.toList := by
    simp only [repC]
    rw [List.drop_append, List.drop_of_length_le (by rw [rep_len]; omega), rep_len, List.nil_append]
    rw [show n - k = m + (n - (k + m)) by omega, ← List.replicate_append_replicate, List.flatMap_append, List.drop_left' (by rw [rep_len]; omega)]
  rw [e1, e2]
  simp only [repC]
  rw [← List.replicate_append_replicate, List.flatMap_append]
theorem repC_src {k n : Nat} {j : Nat} {v : Value} {m : Nat} (hm : m ≤ k) (h : ((List.replicate m (cD ddr)).flatMap Array.toList)[j]? = some v) : (repC k n)[j]? = some v := by
  have hj : j < m * 2 := by have := (List.getElem?_eq_some_iff.1 h).1; rwa [rep_len] at this
  simp only [repC]
  rw [List.getElem?_append_left (by rw [rep_len]; omega), show k = m + (k - m) by omega, ← List.replicate_append_replicate, List.flatMap_append, List.getElem?_append_left (by rw [rep_len]; omega)]
  exact h

def RepRel (w : World) (n : Nat) (G : Nat) (i : Value) (wr : World) : Prop :=
  ∃ k : Nat, k ≤ n ∧ (0 < n → 0 < k) ∧ G = n - k ∧ i = .int .i64 k ∧ wr.heap[w.heap.size]? = some (.cells (repC k n).toArray 91) ∧ Below w.heap.size w wr

def RepPost (w : World) (n : Nat) (e : Ending) (w' : World) : Prop :=
  e = .returned (.slice (some ⟨w.heap.size, 0, none⟩) n n) ∧ Row w' w.heap.size 91 2 (.slice (some ⟨w.heap.size, 0, none⟩) n n) ((List.replicate n ddr).map cD) ∧ Below w.heap.size w w'

theorem min_int (a b : Nat) : (Nat.min a b : Nat) = min a b := rfl

set_option maxRecDepth 100000 in
set_option maxHeartbeats 1000000 in
theorem repeat_any (n g0 : Nat) (hn : n ≤ 10) (w : World) (hg0 : g0 < w.heap.size) (x0 : w.cell? ⟨g0, 0, none⟩ = some (.int .i64 4)) (x1 : w.cell? ⟨g0, 1, none⟩ = some (.int .i64 0)) :
    Calls Try.prog 65 #[.slice (some ⟨g0, 0, none⟩) 1 1, .int .i64 n] w (RepPost w n) := by
  have hinfo : (Try.prog.info? 91).map (fun i => (i.zero, i.size, i.bytes)) = some (some (.agg #[.int .i64 0, .int .i64 0]), 2, 16) := by kernel_rfl
  obtain ⟨i0, hi, hz0, hz1, hz2⟩ := info_parts hinfo
  have hmk := run_make (P := Try.prog) w 42 91 i0 _ Try.underlying42 hi hz0 .i64 .i64 n n (by omega) (Int.le_refl _) (by rw [hz2]; omega) (by omega)
  have hmc : madeCells (Value.agg #[.int .i64 0, .int .i64 0]).cells ((n : Int).toNat * i0.size) = (repC 0 n).toArray := by
    rw [hz1, Int.toNat_natCast]
    have := madeCells_flat (Value.agg #[.int .i64 0, .int .i64 0]).cells 2 n rfl (by omega)
    rw [← Array.toArray_toList (xs := madeCells _ _), this]
    simp [repC, ddz, cD, Value.cells]
  rw [hmc, Int.toNat_natCast] at hmk
  have hb1 : Below w.heap.size w (w.alloc (.cells (repC 0 n).toArray 91)) := (Below.refl _ _).alloc (Nat.le_refl _) _
  have hh1 : (w.alloc (.cells (repC 0 n).toArray 91)).heap[w.heap.size]? = some (.cells (repC 0 n).toArray 91) := heap_alloc_new w _
  -- the first copy
  have hone : ∀ m, ∀ v ∈ (List.replicate m (cD ddr)).flatMap Array.toList, v.oneCell' = true := fun m v hv => by
    obtain ⟨y, hy1, hy2⟩ := List.mem_flatMap.1 hv
    rw [List.mem_replicate] at hy1
    rw [hy1.2] at hy2
    simp [cD, ddr] at hy2
    rcases hy2 with rfl | rfl <;> rfl
  obtain ⟨m1, hm1⟩ : ∃ m, Nat.min 1 n = m := ⟨_, rfl⟩
  have hm1' : m1 ≤ 1 ∧ m1 ≤ n ∧ (0 < n → m1 = 1) := by rw [← hm1, min_int]; omega
  have hcp := run_copy_two (P := Try.prog) (w.alloc (.cells (repC 0 n).toArray 91)) 42 42 3 91 w.heap.size 0 n n ⟨g0, 0, none⟩ 1 1 (repC 0 n).toArray 91 ((List.replicate m1 (cD ddr)).flatMap Array.toList) Try.underlying42 (by kernel_rfl) hh1
    (by rw [rep_len, hm1]) (fun j v hj => by
      have hj2 : j < m1 * 2 := by have := (List.getElem?_eq_some_iff.1 hj).1; rwa [rep_len] at this
      have e1 : m1 = 1 := by omega
      rw [e1] at hj
      rw [Addr.add_lit, Nat.zero_add, hb1.cell (p := ⟨g0, j, none⟩) hg0]
      obtain rfl | rfl : j = 0 ∨ j = 1 := by omega
      · simp [cD, ddr] at hj; rw [x0, hj]
      · simp [cD, ddr] at hj; rw [x1, hj]) (by rw [rep_len]; have := repC_len (Nat.zero_le n); simp; omega) (hone m1)
  have hst : (repC 0 n).toArray.toList.take 0 ++ (List.replicate m1 (cD ddr)).flatMap Array.toList ++ (repC 0 n).toArray.toList.drop (0 + ((List.replicate m1 (cD ddr)).flatMap Array.toList).length) = repC m1 n := by
    rw [rep_len]
    have := repC_step (k := 0) (n := n) (m := m1) (by omega)
    simpa using this
  rw [hst, hm1] at hcp
  have hh2 := setRow_heap (w.alloc (.cells (repC 0 n).toArray 91)) w.heap.size _ (repC m1 n).toArray 91 _ hh1
  have hb2 : Below w.heap.size w ((w.alloc (.cells (repC 0 n).toArray 91)).setRow w.heap.size (repC m1 n).toArray) := hb1.trans ⟨rfl, rfl, rfl, by simp [World.setRow], fun k hk => setRow_other _ _ k _ (by omega)⟩
  generalize (w.alloc (.cells (repC 0 n).toArray 91)).setRow w.heap.size (repC m1 n).toArray = w2 at hcp hh2 hb2
  clear hst hmc hm1 x0 x1 hh1
  go_enter Try.func65, Try.ntmps65
  go_wp2_with (go_at_call 104; refine (mul_any n hn _).mono ?_; rintro e w1 ⟨rfl, rfl⟩)
  go_loopg [8] (n - m1) (RepRel w n)
  case atStart => exact ⟨m1, hm1'.2.1, fun h => by omega, rfl, rfl, hh2, hb2⟩
  case round =>
    clear hcp hh2 hb2 hmk
    obtain ⟨k, hk, hk0, rfl, rfl, hh, hb⟩ := hrel
    by_cases hlt : k < n
    · have hk0 := hk0 (by omega)
      obtain ⟨m, hm⟩ : ∃ m, Nat.min k (n - k) = m := ⟨_, rfl⟩
      have hm' : m ≤ k ∧ k + m ≤ n ∧ 1 ≤ m := by rw [← hm, min_int]; omega
      have hcp := run_copy_two (P := Try.prog) wr.drew 42 42 3 91 w.heap.size (k * 2) (n - k) (n - k) ⟨w.heap.size, 0, none⟩ k n (repC k n).toArray 91 ((List.replicate m (cD ddr)).flatMap Array.toList) Try.underlying42 (by kernel_rfl) hh
        (by rw [rep_len, hm]) (fun j v hj => by
          rw [Addr.add_lit, Nat.zero_add]
          show wr.cell? _ = _
          rw [cell_of_row _ _ _ _ _ _ hh]
          simpa using repC_src hm'.1 hj) (by rw [rep_len]; have := repC_len hk; simp; omega) (hone m)
      have hst : (repC k n).toArray.toList.take (k * 2) ++ (List.replicate m (cD ddr)).flatMap Array.toList ++ (repC k n).toArray.toList.drop (k * 2 + ((List.replicate m (cD ddr)).flatMap Array.toList).length) = repC (k + m) n := by
        rw [rep_len]
        exact repC_step (k := k) (n := n) (m := m) hm'.2.1
      rw [hst, hm] at hcp
      have hh2 := setRow_heap wr.drew w.heap.size _ (repC (k + m) n).toArray 91 _ hh
      have hb2 : Below w.heap.size w (wr.drew.setRow w.heap.size (repC (k + m) n).toArray) := hb.drew.trans ⟨rfl, rfl, rfl, by simp [World.setRow], fun k hk => setRow_other _ _ k _ (by omega)⟩
      generalize wr.drew.setRow w.heap.size (repC (k + m) n).toArray = w3 at hcp hh2 hb2
      have hnk : ¬ n = k := by omega
      have hkn : (k : Int) ≤ n := by omega
      have hkn2 : k ≤ n := hk
      have hwr : IntKind.i64.wrap ((k : Int) + m) = (k : Int) + m := IntWalk.i64_in _ (by omega)
      clear hst hm
      go_wp2_with fail
      refine wp_region_held_drew (S := fun _ => True) (by kernel_rfl) trivial (fun hHeld => ?_)
      refine wpAnyH_take (i := 0) (oi := _) (v := ?_) rfl (by kernel_rfl) (by kernel_rfl) (by kernel_rfl) (fun _ _ _ h => h) (Or.inl ⟨by rfl, ?_⟩) (by assumption) ?_
      rotate_left
      focus
        intro w hSw
        (try dsimp only at hSw)
        go_simp
        (try with_reducible rfl)
      (try simp only [List.getElem_toArray, List.getElem_cons_zero, List.getElem_cons_succ, Act.put, List.setIfInBounds_toArray, List.set_cons_zero, List.set_cons_succ])
      refine wpAnyH_take (i := 1) (oi := _) (v := ?_) rfl (by kernel_rfl) (by kernel_rfl) (by kernel_rfl) (fun _ _ _ h => h) (Or.inl ⟨by rfl, ?_⟩) (by assumption) ?_
      rotate_left
      focus
        intro w hSw
        (try dsimp only at hSw)
        go_simp
        (try with_reducible rfl)
      (try simp only [List.getElem_toArray, List.getElem_cons_zero, List.getElem_cons_succ, Act.put, List.setIfInBounds_toArray, List.set_cons_zero, List.set_cons_succ])
      refine wpAnyH_take (i := 2) (oi := _) (v := ?_) rfl (by kernel_rfl) (by kernel_rfl) (by kernel_rfl) (fun _ _ _ h => h) (Or.inl ⟨by rfl, ?_⟩) (by assumption) ?_
      rotate_left
      focus
        intro w hSw
        (try dsimp only at hSw)
        go_simp
        (try with_reducible rfl)
      (try simp only [List.getElem_toArray, List.getElem_cons_zero, List.getElem_cons_succ, Act.put, List.setIfInBounds_toArray, List.set_cons_zero, List.set_cons_succ])
      refine wpAnyH_take (i := 3) (oi := _) (v := ?_) rfl (by kernel_rfl) (by kernel_rfl) (by kernel_rfl) (fun _ _ _ h => h) (Or.inl ⟨by rfl, ?_⟩) (by assumption) ?_
      rotate_left
      focus
        intro w hSw
        (try dsimp only at hSw)
        go_simp
        (try with_reducible rfl)
      (try simp only [List.getElem_toArray, List.getElem_cons_zero, List.getElem_cons_succ, Act.put, List.setIfInBounds_toArray, List.set_cons_zero, List.set_cons_succ])
      refine wpAnyH_take (i := 4) (oi := _) (v := ?_) rfl (by kernel_rfl) (by kernel_rfl) (by kernel_rfl) (fun _ _ _ h => h) (Or.inl ⟨by rfl, ?_⟩) (by assumption) ?_
      rotate_left
      focus
        intro w hSw
        (try dsimp only at hSw)
        go_simp
        (try with_reducible rfl)
      (try simp only [List.getElem_toArray, List.getElem_cons_zero, List.getElem_cons_succ, Act.put, List.setIfInBounds_toArray, List.set_cons_zero, List.set_cons_succ])
      refine wpAnyH_take (i := 5) (oi := _) (v := ?_) rfl (by kernel_rfl) (by kernel_rfl) (by kernel_rfl) (fun _ _ _ h => h) (Or.inl ⟨by rfl, ?_⟩) (by assumption) ?_
      rotate_left
      focus
        intro w hSw
        (try dsimp only at hSw)
        go_simp
        (try with_reducible rfl)
      (try simp only [List.getElem_toArray, List.getElem_cons_zero, List.getElem_cons_succ, Act.put, List.setIfInBounds_toArray, List.set_cons_zero, List.set_cons_succ])
      refine wpAnyH_take (i := 6) (oi := _) (v := ?_) rfl (by kernel_rfl) (by kernel_rfl) (by kernel_rfl) (fun _ _ _ h => h) (Or.inl ⟨by rfl, ?_⟩) (by assumption) ?_
      rotate_left
      focus
        intro w hSw
        (try dsimp only at hSw)
        go_simp
        (try with_reducible rfl)
      (try simp only [List.getElem_toArray, List.getElem_cons_zero, List.getElem_cons_succ, Act.put, List.setIfInBounds_toArray, List.set_cons_zero, List.set_cons_succ])
      refine wpAnyH_ready (rs := [7]) (by kernel_rfl) (by simp) ?_
      refine AllReadyH.cons (o := _) rfl (fun K hK => ?_) AllReadyH.nil
      (try simp only [List.getElem_toArray, List.getElem_cons_zero, List.getElem_cons_succ])
      go_simp
      refine hK.out _ _ ?_ (fun hHeld => ?_)
      focus
        (try dsimp only)
        (try trivial)
      clear hK K
      (try simp only [List.getElem_toArray, List.getElem_cons_zero, List.getElem_cons_succ, Act.put, List.setIfInBounds_toArray, List.set_cons_zero, List.set_cons_succ])
      refine wpAnyH_take (i := 8) (oi := _) (v := ?_) rfl (by kernel_rfl) (by kernel_rfl) (by kernel_rfl) (fun _ _ _ h => h) (Or.inl ⟨by rfl, ?_⟩) (by assumption) ?_
      rotate_left
      focus
        intro w hSw
        (try dsimp only at hSw)
        go_simp
        (try with_reducible rfl)
      (try simp only [List.getElem_toArray, List.getElem_cons_zero, List.getElem_cons_succ, Act.put, List.setIfInBounds_toArray, List.set_cons_zero, List.set_cons_succ])
      refine wpAnyH_take (i := 9) (oi := _) (v := ?_) rfl (by kernel_rfl) (by kernel_rfl) (by kernel_rfl) (fun _ _ _ h => h) (Or.inl ⟨by rfl, ?_⟩) (by assumption) ?_
      rotate_left
      focus
        intro w hSw
        (try dsimp only at hSw)
        go_simp
        (try with_reducible rfl)
      (try simp only [List.getElem_toArray, List.getElem_cons_zero, List.getElem_cons_succ, Act.put, List.setIfInBounds_toArray, List.set_cons_zero, List.set_cons_succ])
      refine wpAnyH_done (by kernel_rfl) ?_ _
      clear hcp hwr
      go_wp2_with fail
      go_roundg (n - (k + m))
      case measure => omega
      case rel => exact ⟨k + m, hm'.2.1, fun _ => by omega, rfl, by go_num, hh2, hb2⟩
    · obtain rfl : k = n := by omega
      go_wp2
      go_ret
      refine ⟨rfl, ?_, hb⟩
      have e1 : repC k k = (List.replicate k (cD ddr)).flatMap Array.toList := by simp [repC]
      rw [List.map_replicate]
      exact ⟨fun x hx => by rw [List.mem_replicate] at hx; rw [hx.2]; rfl, by rw [flat_len (sz := 2) (fun x hx => by rw [List.mem_replicate] at hx; rw [hx.2]; rfl)], .inr ⟨w.heap.size, k, _, by rw [List.length_replicate], Nat.le_refl _, hh, by simp, by unfold maxLen; omega, by simp [repC_len (Nat.le_refl k)], by rw [e1, List.length_replicate, List.take_of_length_le (by rw [rep_len]; exact Nat.le_refl _)]⟩⟩
end Go.Proofs.Ytomcffionomidaa
