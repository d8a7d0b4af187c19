/- Valid works, by the reference. -/
import Derived.Test.YtomcffionomidaaOk4
namespace Go.Proofs.Ytomcffionomidaa
open Go.RowKit

set_option maxRecDepth 100000 in
set_option maxHeartbeats 6000000 in
theorem l07Ok_any (p : Nat) (r : Int) (A : Option Addr) (c : Nat) (bs : List Bat) (w : World) (hp : p < w.heap.size) (h0 : w.cell? ⟨p, 0, none⟩ = some (.int .i64 r)) (h1 : w.cell? ⟨p, 1, none⟩ = some (.slice A bs.length c))
    (hA : SlAt w 9 A (bs.map cB)) (hn : bs.length ≤ 140737488355328) (hc : bs.length ≤ c) (h8 : ∀ b ∈ bs, b.d.length = 8) (hs : ∀ b ∈ bs, b.name.size ≤ 140737488355328) :
    Calls Try.prog 43 #[.pointer (some ⟨p, 0, none⟩)] w (BoolBel (okWorks r bs) w) := by
  by_cases hr : 1 ≤ r ∧ r ≤ 4
  · obtain ⟨hr1, hr2⟩ := hr
    by_cases hl : 1 ≤ bs.length ∧ bs.length ≤ 6
    · obtain ⟨hl1, hl2⟩ := hl
      have hd : (decide (1 ≤ (bs.length : Int)) && decide ((bs.length : Int) ≤ 6)) = true := by simp; omega
      have hd1 : (1 : Int) ≤ (bs.length : Int) := by omega
      have hd2 : (bs.length : Int) ≤ 6 := by omega
      go_enter Try.func43, Try.ntmps43
      go_wp2_with (go_at_call 58; refine (in_any _ _ _ _).mono ?_; rintro e w1 ⟨rfl, rfl⟩)
      go_loopg [3] bs.length (fun g i wr => ∃ k : Nat, k ≤ bs.length ∧ g = bs.length - k ∧ i = .int .i64 k ∧ Hid (∀ j, j < bs.length → j < k → okAt bs j = true) ∧ Below w.heap.size w wr)
      case atStart => exact ⟨0, by omega, by omega, by go_num, fun j h hj => by omega, Below.refl _ _⟩
      case round =>
        obtain ⟨k, hk, rfl, rfl, H, hb⟩ := hrel
        have c0 : wr.cell? ⟨p, 0, none⟩ = some (.int .i64 r) := (hb.cell (p := ⟨p, 0, none⟩) hp).trans h0
        have c1 : wr.cell? ⟨p, 1, none⟩ = some (.slice A bs.length c) := (hb.cell (p := ⟨p, 1, none⟩) hp).trans h1
        by_cases hlt : k < bs.length
        · obtain ⟨ga, oa, rfl, hga, hname, hdr, -⟩ := (hA.below hb).batch hlt
          have l1 := later_one (P := Try.prog) 29 Try.underlying29 rfl c1
          have l2 := later_one (P := Try.prog) 9 Try.underlying9 rfl hname
          have l3 := later_row (P := Try.prog) 47 (cV bs[k].d) Try.underlying47 rfl (by rw [Try.sizeVat, cV_size, h8 _ (List.getElem_mem hlt)]) hga hdr
          have h8k := h8 _ (List.getElem_mem hlt)
          have hsk := hs _ (List.getElem_mem hlt)
          by_cases hA1 : okName bs[k].name = true
          · by_cases hB1 : 0 ≤ placeOf (bs.take k) bs[k].name
            · have hno : okWorks r bs = false := okWorks_at hlt (by rw [okAt_def hlt, firstAt_place]; simp; omega)
              go_wp2
              refine wp_region_below (by kernel_rfl) (by kernel_rfl) ?_
              repeat (first | go_big_quiet_skip | (go_big_quiet_want; first | (refine quiet_load_run 29 _ rfl _ l1 ?_; go_simp; go_big_quiet_on) | (refine quiet_load_run 9 _ rfl _ l2 ?_; go_simp; go_big_quiet_on) | (refine quiet_load_run 47 _ rfl _ l3 ?_; go_simp; go_big_quiet_on) | (go_big_quiet_op; first | go_big_quiet_on | (apply Exists.intro; refine ⟨fun W hW => ?_, ?_⟩; (focus (first | (go_at_call 83; refine (l07Name_is hA1 (by omega) _).mono ?_; rintro e w1 ⟨rfl, rfl⟩; exact ⟨rfl, hW⟩) | (go_at_call 84; refine (l07Find_take _ _ bs k hk _ _ ((hA.below hb).below hW) hn).mono ?_; rintro e w1 ⟨rfl, rfl⟩; exact ⟨rfl, hW⟩))); go_big_quiet_on) | (apply Exists.intro; refine ⟨fun _ _ => ?_, ?_⟩; (focus (with_reducible rfl)); go_big_quiet_on))))
              refine wpQuiet_nil ?_
              intro W2 hW2
              go_wp2
              go_ret
              exact ⟨by first | rfl | (rw [hno]; rfl), Bel.then hb hW2⟩
            · have hB2 : placeOf (bs.take k) bs[k].name = -1 := by have := placeOf_ge (bs.take k) bs[k].name; omega
              have hB3 : placeOf (bs.take k) bs[k].name < 0 := by omega
              by_cases hC1 : okDrops bs[k].d = true
              · have hok : okAt bs k = true := by rw [okAt_def hlt, firstAt_place, hA1, hB2, hC1]; rfl
                clear hB1
                have HB2 := Lib.hid hB2
                clear hB2
                go_wp2
                refine wp_region_below (by kernel_rfl) (by kernel_rfl) ?_
                repeat (first | go_big_quiet_skip | (go_big_quiet_want; first | (refine quiet_load_run 29 _ rfl _ l1 ?_; go_simp; go_big_quiet_on) | (refine quiet_load_run 9 _ rfl _ l2 ?_; go_simp; go_big_quiet_on) | (refine quiet_load_run 47 _ rfl _ l3 ?_; go_simp; go_big_quiet_on) | (go_big_quiet_op; first | go_big_quiet_on | (apply Exists.intro; refine ⟨fun W hW => ?_, ?_⟩; (focus (first | (go_at_call 83; refine (l07Name_is hA1 (by omega) _).mono ?_; rintro e w1 ⟨rfl, rfl⟩; exact ⟨rfl, hW⟩) | (go_at_call 84; refine (l07Find_is HB2.out hk _ ((hA.below hb).below hW) hn).mono ?_; rintro e w1 ⟨rfl, rfl⟩; exact ⟨rfl, hW⟩) | (go_at_call 85; refine (l07Drops_is hC1 h8k _).mono ?_; rintro e w1 ⟨rfl, h1⟩; exact ⟨rfl, Bel.then hW h1⟩))); go_big_quiet_on) | (apply Exists.intro; refine ⟨fun _ _ => ?_, ?_⟩; (focus (with_reducible rfl)); go_big_quiet_on))))
                refine wpQuiet_nil ?_
                intro W2 hW2
                go_wp2
                go_roundg (bs.length - (k + 1))
                case measure => omega
                case rel =>
                  refine ⟨k + 1, by omega, rfl, by go_num, fun j h hj => ?_, Bel.then hb hW2⟩
                  by_cases e : j = k
                  · subst e; exact hok
                  · exact H.out j h (by omega)
              · have hC2 : okDrops bs[k].d = false := by simpa using hC1
                have hno : okWorks r bs = false := okWorks_at hlt (by rw [okAt_def hlt, hC2]; simp)
                clear hB1 hC1
                have HB2 := Lib.hid hB2
                clear hB2
                go_wp2
                refine wp_region_below (by kernel_rfl) (by kernel_rfl) ?_
                repeat (first | go_big_quiet_skip | (go_big_quiet_want; first | (refine quiet_load_run 29 _ rfl _ l1 ?_; go_simp; go_big_quiet_on) | (refine quiet_load_run 9 _ rfl _ l2 ?_; go_simp; go_big_quiet_on) | (refine quiet_load_run 47 _ rfl _ l3 ?_; go_simp; go_big_quiet_on) | (go_big_quiet_op; first | go_big_quiet_on | (apply Exists.intro; refine ⟨fun W hW => ?_, ?_⟩; (focus (first | (go_at_call 83; refine (l07Name_is hA1 (by omega) _).mono ?_; rintro e w1 ⟨rfl, rfl⟩; exact ⟨rfl, hW⟩) | (go_at_call 84; refine (l07Find_is HB2.out hk _ ((hA.below hb).below hW) hn).mono ?_; rintro e w1 ⟨rfl, rfl⟩; exact ⟨rfl, hW⟩) | (go_at_call 85; refine (l07Drops_is hC2 h8k _).mono ?_; rintro e w1 ⟨rfl, h1⟩; exact ⟨rfl, Bel.then hW h1⟩))); go_big_quiet_on) | (apply Exists.intro; refine ⟨fun _ _ => ?_, ?_⟩; (focus (with_reducible rfl)); go_big_quiet_on))))
                refine wpQuiet_nil ?_
                intro W2 hW2
                go_wp2
                go_ret
                exact ⟨by first | rfl | (rw [hno]; rfl), Bel.then hb hW2⟩
          · have hA2 : okName bs[k].name = false := by simpa using hA1
            have hno : okWorks r bs = false := okWorks_at hlt (by rw [okAt_def hlt, hA2]; simp)
            clear hA1
            go_wp2
            refine wp_region_below (by kernel_rfl) (by kernel_rfl) ?_
            repeat (first | go_big_quiet_skip | (go_big_quiet_want; first | (refine quiet_load_run 29 _ rfl _ l1 ?_; go_simp; go_big_quiet_on) | (refine quiet_load_run 9 _ rfl _ l2 ?_; go_simp; go_big_quiet_on) | (refine quiet_load_run 47 _ rfl _ l3 ?_; go_simp; go_big_quiet_on) | (go_big_quiet_op; first | go_big_quiet_on | (apply Exists.intro; refine ⟨fun W hW => ?_, ?_⟩; (focus (go_at_call 83; refine (l07Name_is hA2 (by omega) _).mono ?_; rintro e w1 ⟨rfl, rfl⟩; exact ⟨rfl, hW⟩)); go_big_quiet_on) | (apply Exists.intro; refine ⟨fun _ _ => ?_, ?_⟩; (focus (with_reducible rfl)); go_big_quiet_on))))
            refine wpQuiet_nil ?_
            intro W2 hW2
            go_wp2
            go_ret
            exact ⟨by first | rfl | (rw [hno]; rfl), Bel.then hb hW2⟩
        · obtain rfl : k = bs.length := by omega
          have hno := okWorks_true hr1 hr2 hl1 hl2 (fun j h => H.out j h h)
          go_wp2
          go_ret
          exact ⟨by first | rfl | (rw [hno]; rfl), hb⟩
    · have hno := okWorks_len (r := r) hl
      have hd : (decide (1 ≤ (bs.length : Int)) && decide ((bs.length : Int) ≤ 6)) = false := by simp; omega
      clear hl
      go_enter Try.func43, Try.ntmps43
      go_wp2_with (go_at_call 58; refine (in_any _ _ _ _).mono ?_; rintro e w1 ⟨rfl, rfl⟩)
      go_ret
      exact ⟨by first | rfl | (rw [hno]; rfl), Below.refl _ _⟩
  · have hno := okWorks_rooms (bs := bs) hr
    have hd : (decide (1 ≤ r) && decide (r ≤ 4)) = false := by simp; omega
    clear hr
    go_enter Try.func43, Try.ntmps43
    go_wp2_with (go_at_call 58; refine (in_any _ _ _ _).mono ?_; rintro e w1 ⟨rfl, rfl⟩)
    go_ret
    exact ⟨by first | rfl | (rw [hno]; rfl), Below.refl _ _⟩
end Go.Proofs.Ytomcffionomidaa
