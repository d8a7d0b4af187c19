/- Deeds that came in: their size, their copies, their comparison. -/
import Derived.Test.YtomcffionomidaaVat2
import Derived.Test.YtomcffionomidaaEq2
namespace Go.Proofs.Ytomcffionomidaa
open Go.RowKit
set_option linter.unusedSimpArgs false
set_option linter.unusedVariables false

structure DeedsRaw (w : World) (A : Option Addr) (c : Nat) (ds : List Dd) : Prop where
  at_ : SlAt w 2 A (ds.map cD)
  n : ds.length ≤ 9223372036854775807
  c : ds.length ≤ c
theorem DeedsRaw.below {w w' : World} {A : Option Addr} {c : Nat} {ds : List Dd} (h : DeedsRaw w A c ds) (hb : Below w.heap.size w w') : DeedsRaw w' A c ds := ⟨h.at_.below hb, h.n, h.c⟩

def SzW (bs : List Bat) (w : World) (e : Ending) (w' : World) : Prop :=
  ∃ r : Int, e = .returned (.int .i64 r) ∧ r ≤ 1048576 ∧ (0 ≤ r → bs.length ≤ 1048576 ∧ ∀ b ∈ bs, b.name.size ≤ 1048576) ∧ Below w.heap.size w w'

set_option maxRecDepth 100000 in
theorem szBatchS2_any (A : Option Addr) (c : Nat) (bs : List Bat) (w : World) (hA : SlAt w 9 A (bs.map cB)) (hs : ∀ b ∈ bs, b.name.size ≤ 9223372036854775807) (hn : bs.length ≤ 9223372036854775807) :
    Calls Try.prog 42 #[.slice A bs.length c, .int .i64 1048576] w (SzW bs w) := by
  go_enter Try.func42, Try.ntmps42
  by_cases h0 : (1048576 : Int) - bs.length < 0
  · go_wp2
    go_ret
    exact ⟨-1, rfl, by omega, fun h => by omega, Below.refl _ _⟩
  go_wp2
  go_loopg [1, 5] bs.length (SzRel bs w)
  case atStart => exact ⟨0, 1048576 - bs.length, by omega, by omega, by go_num, by go_num, by omega, by omega, fun j h hj => by omega, Below.refl _ _⟩
  case round =>
    obtain ⟨k, r, hk, rfl, rfl, rfl, hr0, hr1, hj, hb⟩ := hrel
    by_cases hlt : k < bs.length
    · obtain ⟨ga, oa, rfl, hg, -, hl⟩ := (hA.below hb).elem (P := Try.prog) (k := k) (by simpa using hlt) 126 Try.underlying126 rfl (by kernel_rfl)
      have hl1 := hl wr (Below.refl _ _)
      clear hl
      have hsk := hs bs[k] (List.getElem_mem hlt)
      simp only [List.getElem_map] at hl1
      go_wp2_with (first | ((with_reducible refine wpList_load_at (ty := 126) ?_); refine ⟨_, hl1, ?_⟩) | (go_at_call 82; refine (szBatch_any bs[k] _ hsk (by omega) (by omega) _).mono ?_; rintro e w1 ⟨rfl, hb1⟩))
      · go_ret
        exact ⟨-1, rfl, by omega, fun h => by omega, Bel.then hb hb1⟩
      · have hz : szR r bs[k].name.size = r - bs[k].name.size ∧ bs[k].name.size ≤ r := by
          rename_i h; revert h; unfold szR; split <;> omega
        go_roundg (bs.length - (k + 1))
        case measure => omega
        case rel => exact ⟨k + 1, _, by omega, rfl, by go_num, rfl, by omega, by omega, fun j h hjk => by
            by_cases e : j = k
            · subst e; omega
            · exact hj j h (by omega), Bel.then hb hb1⟩
    · go_wp2
      go_ret
      exact ⟨r, rfl, by omega, fun _ => ⟨by omega, fun b hb => by obtain ⟨j, hj', rfl⟩ := List.getElem_of_mem hb; exact hj j hj' (by omega)⟩, hb⟩

theorem szWorks2_any (r : Int) (A : Option Addr) (c : Nat) (bs : List Bat) (w : World) (h : WorksRaw w A c bs) :
    Calls Try.prog 10 #[.agg #[.int .i64 r, .slice A bs.length c], .int .i64 1048576] w (SzW bs w) := by
  have hbox : Below w.heap.size w (w.alloc (.cells #[.int .i64 r, .slice A bs.length c] 24)) := (Below.refl _ _).alloc (Nat.le_refl _) _
  go_enter Try.func10, Try.ntmps10
  go_wp2_with fail
  refine (szBatchS2_any A c bs _ (h.at_.below hbox) h.nm h.n).mono ?_
  rintro e w1 ⟨q, rfl, hq1, hq, hb1⟩
  go_wp2
  all_goals go_ret
  · exact ⟨-1, rfl, by omega, fun h => by omega, hbox.trans (hb1.mono (by simp))⟩
  · exact ⟨q, rfl, hq1, hq, hbox.trans (hb1.mono (by simp))⟩

def SzD (ds : List Dd) (w : World) (e : Ending) (w' : World) : Prop := ∃ r : Int, e = .returned (.int .i64 r) ∧ (0 ≤ r → ds.length ≤ 1048576) ∧ w = w'
theorem szDeedS_any (A : Option Addr) (c : Nat) (ds : List Dd) (q : Int) (h0 : 0 ≤ q) (h1 : q ≤ 1048576) (hn : ds.length ≤ 9223372036854775807) (w : World) :
    Calls Try.prog 19 #[.slice A ds.length c, .int .i64 q] w (SzD ds w) := by
  go_enter Try.func19, Try.ntmps19
  go_wp2
  all_goals go_ret
  · exact ⟨-1, rfl, fun h => by omega, rfl⟩
  · exact ⟨_, rfl, fun h => by omega, rfl⟩

set_option maxRecDepth 100000 in
theorem toDeed_any (d : Dd) (w : World) : Calls Try.prog 53 #[.agg (cD d)] w fun e w' => e = .returned (.agg (cD d)) ∧ Below w.heap.size w w' := by
  obtain ⟨k, a⟩ := d
  unfold cD
  go_enter Try.func53, Try.ntmps53
  go_wp2
  refine bodyPost_ret (v := .agg #[.int .i64 k, .int .i64 a]) (by simp [results, Try.results53, go_sem]) rfl ⟨rfl, ?_⟩
  (repeat (first | (with_reducible exact Below.refl _ _) | (with_reducible assumption) | ((with_reducible refine Below.setCell ?_ ?_ _); rotate_left; focus (first | (with_reducible exact Nat.le_refl _) | omega | (simp; done) | (simp; omega) | (simp at *; omega))) | ((with_reducible refine Below.alloc ?_ ?_ _); rotate_left; focus (first | (with_reducible exact Nat.le_refl _) | omega | (simp; done) | (simp; omega) | (simp at *; omega))) | (with_reducible refine Below.drew ?_) | (with_reducible refine below_drewN ?_ _)))

theorem eqDeed_same (d : Dd) (w : World) : Calls Try.prog 57 #[.agg (cD d), .agg (cD d)] w fun e w' => e = .returned (.bool true) ∧ Below w.heap.size w w' := by
  obtain ⟨k, a⟩ := d
  unfold cD
  go_enter Try.func57, Try.ntmps57
  go_wp2
  go_ret
  exact ⟨rfl, ((Below.refl _ _).alloc (Nat.le_refl _) _).alloc (by simp) _⟩

theorem Try.infoDeed : (Try.prog.info? 91).map (fun i => (i.zero, i.size, i.bytes)) = some (some (.agg #[.int .i64 0, .int .i64 0]), 2, 16) := by kernel_rfl

set_option maxRecDepth 100000 in
theorem toDeedS_any (A : Option Addr) (c : Nat) (ds : List Dd) (w : World) (hA : SlAt w 2 A (ds.map cD)) (hn : ds.length ≤ 1048576) :
    Calls Try.prog 21 #[.slice A ds.length c] w fun e w' => ∃ A', e = .returned (.slice A' ds.length ds.length) ∧ OwnSl w' w.heap.size 2 A' (ds.map cD) ∧ Below w.heap.size w w' := by
  obtain ⟨i0, hi, hz0, hz1, hz2⟩ := info_parts Try.infoDeed
  have hall : ∀ x ∈ ds.map cD, x.size = 2 := fun x hx => by
    obtain ⟨b, hb, rfl⟩ := List.mem_map.1 hx; exact cD_size b
  go_enter Try.func21, Try.ntmps21
  have hmk := run_make (P := Try.prog) w 42 91 i0 _ Try.underlying42 hi hz0 .i64 .i64 ds.length ds.length (by omega) (Int.le_refl _) (by rw [hz2]; omega) (by omega)
  go_wp2
  clear hmk
  go_loopg [4] ds.length (fun g i wr => ∃ k : Nat, k ≤ ds.length ∧ g = ds.length - k ∧ i = .int .i64 k ∧ Fill wr w.heap.size 2 ds.length (ds.map cD) k ∧ Below w.heap.size w wr)
  case atStart => exact ⟨0, by omega, by omega, by go_num, Fill.start _ _ _ _ _ _, (Below.refl _ _).alloc (Nat.le_refl _) _⟩
  case round =>
    obtain ⟨k, hk, rfl, rfl, hF, hb⟩ := hrel
    by_cases hlt : k < ds.length
    · obtain ⟨ga, oa, rfl, -, -, hl⟩ := (hA.below hb).elem (P := Try.prog) (k := k) (by simpa using hlt) 93 Try.underlying93 rfl (by kernel_rfl)
      have hl1 := hl wr (Below.refl _ _)
      simp only [List.getElem_map] at hl1
      clear hl
      go_wp2_with (first | ((with_reducible refine wpList_load_at (ty := 93) ?_); refine ⟨_, hl1, ?_⟩) | (go_at_call 53; refine (toDeed_any ds[k] _).mono ?_; rintro e w1 ⟨rfl, hb1⟩; obtain ⟨hst, hF1⟩ := (hF.below hb1).step hall (by simp) (by simpa using hlt) (P := Try.prog) 91 (by kernel_rfl) (by simp only [List.getElem_map]; exact cD_one _); simp only [List.getElem_map] at hst hF1) | ((with_reducible refine wpList_store_at (ty := 91) ?_); refine ⟨_, hst, ?_⟩))
      go_roundg (ds.length - (k + 1))
      case measure => omega
      case rel => exact ⟨k + 1, by omega, rfl, by go_num, hF1, Below.setCells' (Nat.le_refl _) _ _ _ (Bel.then hb hb1)⟩
    · go_wp2
      go_ret
      obtain rfl : k = ds.length := by omega
      exact ⟨_, rfl, hF.own hall (by simp) (Nat.le_refl _), hb⟩

set_option maxRecDepth 100000 in
theorem eqDeedS_same (A B : Option Addr) (cA cB' : Nat) (xs : List Dd) (w : World) (hA : SlAt w 2 A (xs.map cD)) (hB : SlAt w 2 B (xs.map cD)) (hn : xs.length ≤ 140737488355328) :
    Calls Try.prog 23 #[.slice A xs.length cA, .slice B xs.length cB'] w fun e w' => e = .returned (.bool true) ∧ Below w.heap.size w w' := by
  go_enter Try.func23, Try.ntmps23
  go_wp2
  go_loopg [5] xs.length (fun g i wr => ∃ k : Nat, k ≤ xs.length ∧ g = xs.length - k ∧ i = .int .i64 k ∧ Below w.heap.size w wr)
  case atStart => exact ⟨0, by omega, by omega, by go_num, Below.refl _ _⟩
  case round =>
    obtain ⟨k, hk, rfl, rfl, hb⟩ := hrel
    by_cases hlt : k < xs.length
    · obtain ⟨ga, oa, rfl, -, -, hla⟩ := (hA.below hb).elem (P := Try.prog) (k := k) (by simpa using hlt) 91 Try.underlying91 rfl (by kernel_rfl)
      obtain ⟨gb, ob, rfl, -, -, hlb⟩ := (hB.below hb).elem (P := Try.prog) (k := k) (by simpa using hlt) 91 Try.underlying91 rfl (by kernel_rfl)
      simp only [List.getElem_map] at hla hlb
      go_wp2
      refine wp_region_below (by kernel_rfl) (by kernel_rfl) ?_
      repeat (first | go_big_quiet_skip | (go_big_quiet_want; first | (refine quiet_load_run 91 _ rfl _ hla ?_; go_simp; go_big_quiet_on) | (refine quiet_load_run 91 _ rfl _ hlb ?_; go_simp; go_big_quiet_on) | (go_big_quiet_op; first | go_big_quiet_on | (apply Exists.intro; refine ⟨fun W hW => ?_, ?_⟩; (focus (go_at_call 57; refine (eqDeed_same _ _).mono ?_; rintro e w1 ⟨rfl, h1⟩; exact ⟨rfl, Bel.then hW h1⟩)); go_big_quiet_on) | (apply Exists.intro; refine ⟨fun _ _ => ?_, ?_⟩; (focus (with_reducible rfl)); go_big_quiet_on))))
      refine wpQuiet_nil ?_
      intro W2 hW2
      go_wp2
      go_roundg (xs.length - (k + 1))
      case measure => omega
      case rel => exact ⟨k + 1, by omega, rfl, by go_num, Bel.then hb hW2⟩
    · go_wp2
      go_ret
      exact ⟨rfl, hb⟩
end Go.Proofs.Ytomcffionomidaa
