/- The program's 'after', the reference's 'l07Play'. -/
import Derived.Test.YtomcffionomidaaPlay
namespace Go.Proofs.Ytomcffionomidaa
open Go.RowKit
set_option linter.unusedSimpArgs false
set_option linter.unusedVariables false

def AfterPost (w : World) (pty : TypeId) (hd : List Value) (ts : List Tsk) (f : Fl) (n : Int) (e : Ending) (w' : World) : Prop :=
  ∃ p, e = .returned (.tuple #[.pointer (some ⟨p, 0, none⟩), .int .i64 n]) ∧ ShopAt w' (under w.heap.size) p pty hd ts f ∧ Below w.heap.size w w'

def AfRel (w : World) (p : Nat) (pty : TypeId) (hd : List Value) (r : Nat) (ts : List Tsk) (f : Fl) (ds : List Dd) (g : Nat) (i d : Value) (wr : World) : Prop :=
  ∃ k : Nat, k ≤ ds.length ∧ g = ds.length - k ∧ i = .int .i64 k ∧ d = .int .i64 (doneA r ts f ds k : Nat) ∧ ShopAt wr (under w.heap.size) p pty hd ts (fA r ts f ds k) ∧ Below w.heap.size w wr

set_option maxRecDepth 100000 in
set_option maxHeartbeats 2000000 in
theorem after_any (r : Nat) (A : Option Addr) (c : Nat) (bs : List Bat) (A2 : Option Addr) (c2 : Nat) (ds : List Dd) (w : World) (h : WorksAt w A c bs) (hd : DeedsAt w A2 c2 ds) (hok : okWorks r bs = true) (hds : okDeeds ds = true) (hl : ds.length ≤ 300) :
    Calls Try.prog 61 #[.agg #[.int .i64 r, .slice A bs.length c], .slice A2 ds.length c2] w (AfterPost w 106 [.int .i64 r, .slice A bs.length c] (tasksOf bs) (fA r (tasksOf bs) (floor0 r bs.length (tasksOf bs).length) ds ds.length) (doneA r (tasksOf bs) (floor0 r bs.length (tasksOf bs).length) ds ds.length : Nat)) := by
  obtain ⟨r1, r4, n1, n6, -⟩ := okWorks_parts hok
  have hr1 : 1 ≤ r := by omega
  have hr4 : r ≤ 4 := by omega
  have hbox : Below w.heap.size w (w.alloc (.cells #[.int .i64 r, .slice A bs.length c] 31)) := (Below.refl _ _).alloc (Nat.le_refl _) _
  have h48 : (tasksOf bs).length ≤ 48 := by have := tasksTo_len bs bs.length; unfold tasksOf; omega
  have hf0 : FlOk r bs.length (tasksOf bs) (floor0 r bs.length (tasksOf bs).length) := floor0_ok hr1 hr4 h48 (tasksOf_in bs)
  go_enter Try.func61, Try.ntmps61
  go_wp2_with (go_at_call 55; refine (open_any r A c bs _ (h.at_.below hbox) hr1 hr4 n6 h.d8).mono ?_; rintro e w1 ⟨p, rfl, hS1, hb1⟩)
  have hB1 : Below w.heap.size w w1 := hbox.trans (hb1.mono (by simp))
  replace hS1 : ShopAt w1 (under w.heap.size) p 106 [.int .i64 r, .slice A bs.length c] (tasksOf bs) (floor0 r bs.length (tasksOf bs).length) := hS1.more (Below.refl _ _) fun b hb => by
    have := hB1.size
    simp only [under] at hb ⊢
    simp; omega
  go_loopg [14, 7] ds.length (AfRel w p 106 [.int .i64 r, .slice A bs.length c] r (tasksOf bs) (floor0 r bs.length (tasksOf bs).length) ds)
  case atStart => exact ⟨0, by omega, by omega, by go_num, by go_num, hS1, hB1⟩
  case round =>
    clear hS1 hB1 hb1
    obtain ⟨k, hk, rfl, rfl, rfl, hS, hB⟩ := hrel
    by_cases hlt : k < ds.length
    · obtain ⟨ga, oa, rfl, -, -, hl⟩ := (hd.at_.below hB).elem (P := Try.prog) (k := k) (by simpa using hlt) 91 Try.underlying91 rfl (by kernel_rfl)
      have hl1 := hl wr (Below.refl _ _)
      simp only [List.getElem_map, cD] at hl1
      clear hl
      have hbx : Below wr.heap.size wr (wr.alloc (.cells #[.int .i64 ds[k].k, .int .i64 ds[k].a] 91)) := (Below.refl _ _).alloc (Nat.le_refl _) _
      have hdo := do_any (under w.heap.size) p r bs.length A bs.length c (tasksOf bs) _ _ (hS.more hbx fun b hb => ⟨.inl hb, by have := hB.size; simp only [under] at hb; simp; omega⟩) (fA_ok hf0 hds k hk) ds[k] (okDeeds_at hds hlt)
      have hf1 : (step r (tasksOf bs) (fA r (tasksOf bs) (floor0 r bs.length (tasksOf bs).length) ds k) ds[k]).1 = fA r (tasksOf bs) (floor0 r bs.length (tasksOf bs).length) ds (k + 1) := by simp only [fA]; rw [getD_at hlt]
      have hc1 : (step r (tasksOf bs) (fA r (tasksOf bs) (floor0 r bs.length (tasksOf bs).length) ds k) ds[k]).2 = cA r (tasksOf bs) (floor0 r bs.length (tasksOf bs).length) ds k := by simp only [cA]; rw [getD_at hlt]
      have hdn : doneA r (tasksOf bs) (floor0 r bs.length (tasksOf bs).length) ds (k + 1) = doneA r (tasksOf bs) (floor0 r bs.length (tasksOf bs).length) ds k + if cA r (tasksOf bs) (floor0 r bs.length (tasksOf bs).length) ds k = 0 then 1 else 0 := rfl
      have hdl := doneA_le r (tasksOf bs) (floor0 r bs.length (tasksOf bs).length) ds k
      generalize step r (tasksOf bs) (fA r (tasksOf bs) (floor0 r bs.length (tasksOf bs).length) ds k) ds[k] = s at hdo hf1 hc1
      obtain ⟨f2, cc⟩ := s
      simp only at hf1 hc1
      subst hf1
      rw [← hc1] at hdn
      clear hc1
      by_cases h0 : cc = 0
      · subst h0
        simp only [if_true] at hdn
        have HD := Lib.hid hdn
        clear hdn
        go_wp2_with (first | ((with_reducible refine wpList_load_at (ty := 91) ?_); refine ⟨_, hl1, ?_⟩) | (go_at_call 56; refine hdo.mono ?_; rintro e w2 ⟨rfl, hS2, hB2⟩))
        go_roundg (ds.length - (k + 1))
        case measure => omega
        case rel => exact ⟨k + 1, by omega, rfl, by go_num, by rw [HD.out]; go_num, hS2, (hB.trans (hbx.mono hB.size)).trans (hB2.below (by have := hB.size; simp; omega))⟩
      · have e0 : (cc == 0) = false := by simp; omega
        simp only [if_neg h0, Nat.add_zero] at hdn
        have HD := Lib.hid hdn
        clear hdn
        go_wp2_with (first | ((with_reducible refine wpList_load_at (ty := 91) ?_); refine ⟨_, hl1, ?_⟩) | (go_at_call 56; refine hdo.mono ?_; rintro e w2 ⟨rfl, hS2, hB2⟩))
        go_roundg (ds.length - (k + 1))
        case measure => omega
        case rel => exact ⟨k + 1, by omega, rfl, by go_num, by rw [HD.out], hS2, (hB.trans (hbx.mono hB.size)).trans (hB2.below (by have := hB.size; simp; omega))⟩
    · obtain rfl : k = ds.length := by omega
      go_wp2
      go_ret2
      exact ⟨p, rfl, hS, hB⟩

def cI (n : Int) : Array Value := #[.int .i64 n]
theorem Row.apart {w w' : World} {F : Nat → Prop} {base : Nat} {e : TypeId} {sz : Nat} {v : Value} {xs : List (Array Value)} (h : Row w base e sz v xs) (ha : Apart F w w') (hF : ∀ g, v.ownBlock = some g → F g) : Row w' base e sz v xs := by
  have hlt := h.own_lt
  obtain ⟨hall, hlen, h2⟩ := h
  rcases h2 with ⟨rfl, h0⟩ | ⟨g, cap, cur, rfl, hb', hh, hnc, hcm, hcs, htk⟩
  · exact ⟨hall, hlen, .inl ⟨rfl, h0⟩⟩
  · exact ⟨hall, hlen, .inr ⟨g, cap, cur, rfl, hb', by rw [ha.block g (hF g rfl) (hlt g rfl)]; exact hh, hnc, hcm, hcs, htk⟩⟩

def PlayPost (w : World) (pty : TypeId) (hd : List Value) (ts : List Tsk) (f : Fl) (cs : List Int) (e : Ending) (w' : World) : Prop :=
  ∃ p v, e = .returned (.tuple #[.pointer (some ⟨p, 0, none⟩), v]) ∧ ShopAt w' (under w.heap.size) p pty hd ts f ∧ Row w' w.heap.size 2 1 v (cs.map cI) ∧ Below w.heap.size w w'

def foreignTo (n : Nat) (v : Value) : Nat → Prop := fun b => b < n ∨ v.ownBlock = some b

def PlRel (w : World) (p : Nat) (pty : TypeId) (hd : List Value) (r : Nat) (ts : List Tsk) (f : Fl) (ds : List Dd) (g : Nat) (i v : Value) (wr : World) : Prop :=
  ∃ k : Nat, k ≤ ds.length ∧ g = ds.length - k ∧ i = .int .i64 k ∧ Row wr w.heap.size 2 1 v ((codesA r ts f ds k).map cI) ∧ ShopAt wr (foreignTo w.heap.size v) p pty hd ts (fA r ts f ds k) ∧ Below w.heap.size w wr

theorem Try.infoInt64 : (Try.prog.info? 2).map (fun i => (i.zero, i.size, i.bytes)) = some (some (.int .i64 0), 1, 8) := by kernel_rfl

set_option maxRecDepth 100000 in
set_option maxHeartbeats 2000000 in
theorem play_any (wp r : Nat) (A : Option Addr) (c : Nat) (bs : List Bat) (A2 : Option Addr) (c2 : Nat) (ds : List Dd) (w : World) (hwp : wp < w.heap.size) (c0 : w.cell? ⟨wp, 0, none⟩ = some (.int .i64 r)) (c1 : w.cell? ⟨wp, 1, none⟩ = some (.slice A bs.length c)) (h : WorksAt w A c bs) (hd : DeedsAt w A2 c2 ds) (hok : okWorks r bs = true) (hds : okDeeds ds = true) (hl : ds.length ≤ 300) :
    Calls Try.prog 52 #[.pointer (some ⟨wp, 0, none⟩), .slice A2 ds.length c2] w (PlayPost w 101 [.pointer (some ⟨wp, 0, none⟩)] (tasksOf bs) (fA r (tasksOf bs) (floor0 r bs.length (tasksOf bs).length) ds ds.length) (codesA r (tasksOf bs) (floor0 r bs.length (tasksOf bs).length) ds ds.length)) := by
  obtain ⟨r1, r4, n1, n6, -⟩ := okWorks_parts hok
  have hr1 : 1 ≤ r := by omega
  have hr4 : r ≤ 4 := by omega
  have h48 : (tasksOf bs).length ≤ 48 := by have := tasksTo_len bs bs.length; unfold tasksOf; omega
  have hf0 : FlOk r bs.length (tasksOf bs) (floor0 r bs.length (tasksOf bs).length) := floor0_ok hr1 hr4 h48 (tasksOf_in bs)
  go_enter Try.func52, Try.ntmps52
  go_wp2_with (go_at_call 93; refine (begin_any wp r A c bs _ hwp c0 c1 h.at_ hr1 hr4 n6 h.d8).mono ?_; rintro e w1 ⟨p, rfl, hS1, hb1⟩)
  have hpw : w.heap.size ≤ p := by
    obtain ⟨o, S, hS⟩ := hS1
    have := hS.pge
    simp only [under] at this
    omega
  have hz1 := hb1.size
  have hR0 := Row.empty w1 (base := w.heap.size) hz1 2 1
  have hB0 : Below w.heap.size w (w1.alloc (.cells #[] 2)) := hb1.alloc hz1 _
  have hS0 : ShopAt (w1.alloc (.cells #[] 2)) (foreignTo w.heap.size (.slice (some ⟨w1.heap.size, 0, none⟩) 0 0)) p 101 [.pointer (some ⟨wp, 0, none⟩)] (tasksOf bs) (floor0 r bs.length (tasksOf bs).length) := hS1.more ((Below.refl _ _).alloc (Nat.le_refl _) _) fun b hb => by
    simp only [foreignTo, Value.ownBlock, Option.some.injEq] at hb
    simp only [under]
    rcases hb with hb | hb
    · exact ⟨.inl hb, by simp; omega⟩
    · exact ⟨.inr (by omega), by simp; omega⟩
  clear hS1 hb1
  go_loopg [8, 7] ds.length (PlRel w p 101 [.pointer (some ⟨wp, 0, none⟩)] r (tasksOf bs) (floor0 r bs.length (tasksOf bs).length) ds)
  case atStart => exact ⟨0, by omega, by omega, by go_num, hR0, hS0, hB0⟩
  case round =>
    clear hR0 hS0 hB0
    obtain ⟨k, hk, rfl, rfl, hR, hS, hB⟩ := hrel
    by_cases hlt : k < ds.length
    · obtain ⟨ga, oa, rfl, -, -, hl⟩ := (hd.at_.below hB).elem (P := Try.prog) (k := k) (by simpa using hlt) 91 Try.underlying91 rfl (by kernel_rfl)
      have hl1 := hl wr (Below.refl _ _)
      simp only [List.getElem_map] at hl1
      clear hl
      obtain ⟨Av, cv, ev, -, -⟩ := hR.form
      rw [List.length_map, codesA_len] at ev
      subst ev
      have hdo := spDo_any (foreignTo w.heap.size (.slice Av k cv)) p wp r bs.length (tasksOf bs) _ _ hS (fA_ok hf0 hds k hk) ds[k] (okDeeds_at hds hlt) (Nat.lt_of_lt_of_le hwp hB.size) (by omega) ((hB.cell (p := ⟨wp, 0, none⟩) hwp).trans c0)
      have hf1 : (step r (tasksOf bs) (fA r (tasksOf bs) (floor0 r bs.length (tasksOf bs).length) ds k) ds[k]).1 = fA r (tasksOf bs) (floor0 r bs.length (tasksOf bs).length) ds (k + 1) := by simp only [fA]; rw [getD_at hlt]
      have hc1 : codesA r (tasksOf bs) (floor0 r bs.length (tasksOf bs).length) ds (k + 1) = codesA r (tasksOf bs) (floor0 r bs.length (tasksOf bs).length) ds k ++ [(step r (tasksOf bs) (fA r (tasksOf bs) (floor0 r bs.length (tasksOf bs).length) ds k) ds[k]).2] := by rw [codesA_succ]; simp only [cA]; rw [getD_at hlt]
      generalize step r (tasksOf bs) (fA r (tasksOf bs) (floor0 r bs.length (tasksOf bs).length) ds k) ds[k] = s at hdo hf1 hc1
      obtain ⟨f2, cc⟩ := s
      simp only at hf1 hc1
      subst hf1
      have HC := Lib.hid hc1
      clear hc1
      have hlen : ((codesA r (tasksOf bs) (floor0 r bs.length (tasksOf bs).length) ds k).map cI).length + 1 ≤ 4294967296 := by rw [List.length_map, codesA_len]; omega
      have key : ∀ w2, ShopAt w2 (foreignTo w.heap.size (.slice Av k cv)) p 101 [.pointer (some ⟨wp, 0, none⟩)] (tasksOf bs) (fA r (tasksOf bs) (floor0 r bs.length (tasksOf bs).length) ds (k + 1)) → Apart (foreignTo w.heap.size (.slice Av k cv)) wr w2 →
          ∃ v' w3, (Builtin.append_ #[87, 87] 87 #[.slice Av k cv, .slice (some ⟨w2.heap.size, 0, none⟩) 1 1]).run Try.prog (w2.alloc (.cells #[.int .i64 cc] 2)) = .ok v' w3 ∧
            PlRel w p 101 [.pointer (some ⟨wp, 0, none⟩)] r (tasksOf bs) (floor0 r bs.length (tasksOf bs).length) ds (ds.length - (k + 1)) (.int .i64 (k + 1 : Nat)) v' w3 := fun w2 hS2 hA2 => by
        have hB2 : Below w.heap.size w w2 := hB.trans ((hA2.mono (G := under w.heap.size) fun b hb _ => .inl hb).below hB.size)
        have hR2 := hR.apart hA2 fun g hg => .inr hg
        obtain ⟨v', w3, hap, hR3, hg3, hat⟩ := hR2.push_at (P := Try.prog) 87 87 Try.underlying87 Try.infoInt64 rfl (by omega) #[.int .i64 cc] rfl (by simp [Value.oneCell']) hlen (by omega) (Nat.le_trans hB.size hA2.size)
        have hR4 : Row w3 w.heap.size 2 1 v' ((codesA r (tasksOf bs) (floor0 r bs.length (tasksOf bs).length) ds (k + 1)).map cI) := by rw [HC.out, List.map_append]; exact hR3
        have hsz : w2.heap.size + 1 ≤ w3.heap.size := by have := hg3.size; simpa using this
        have hsz2 := hA2.size
        have hsz1 := hB.size
        refine ⟨v', w3, hap, k + 1, hlt, rfl, rfl, hR4, ?_, ?_⟩
        · have hS2a := hS2.more (lo' := foreignTo w.heap.size (.slice Av k cv)) ((Below.refl _ w2).alloc (Nat.le_refl _) (.cells #[.int .i64 cc] 2)) fun b hb => ⟨.inl hb, by
            obtain ⟨o, S, hS⟩ := hS2
            have := hS.lo b hb
            simp; omega⟩
          refine hS2a.aside hg3 (fun b hb => .inr hb) fun b hb => ?_
          rcases hb with hb | hb
          · exact ⟨.inl (.inl hb), by omega⟩
          · refine ⟨?_, hR4.own_lt b hb⟩
            rcases hat with e | e
            · exact .inl (.inr (e ▸ hb))
            · rw [e, Option.some.injEq] at hb
              exact .inr (by simp; omega)
        · exact (hB2.alloc (by omega) _).grown hg3 (by simp; omega) fun b hb => (hR2.2.lt b hb).1
      have KEY := Lib.hid key
      clear key
      go_wp2_with (first | ((with_reducible refine wpList_load_at (ty := 91) ?_); refine ⟨_, hl1, ?_⟩) | (go_at_call 94; refine hdo.mono ?_; rintro e w2 ⟨rfl, hS2, hB2⟩; obtain ⟨v', w3, hap, hrl⟩ := KEY.out w2 hS2 hB2) | ((with_reducible refine wpList_app_at (t := 87) ?_); refine ⟨_, _, hap, ?_⟩))
      go_roundg (ds.length - (k + 1))
      case measure => omega
      case rel => exact hrl
    · obtain rfl : k = ds.length := by omega
      go_wp2
      go_ret2
      exact ⟨p, _, rfl, hS.more (Below.refl _ _) fun b hb => ⟨.inl (.inl hb), by have := hB.size; simp only [under] at hb; omega⟩, hR, hB⟩
end Go.Proofs.Ytomcffionomidaa
