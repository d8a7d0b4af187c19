/- 'FinishDeeds' of the reference. -/
import Derived.Test.YtomcffionomidaaFin2
namespace Go.Proofs.Ytomcffionomidaa
open Go.RowKit
set_option linter.unusedSimpArgs false
set_option linter.unusedVariables false

def fD (f : Fl) (j : Nat) : Fl := { f with wire := f.wire.drop j }
theorem fD_step {r : Nat} {ts : List Tsk} {f : Fl} {j : Nat} (h : j < f.wire.length) : (step r ts (fD f j) ⟨4, 0⟩).1 = fD f (j + 1) := by
  have hg : (f.wire.drop j)[0]? = some f.wire[j] := by rw [List.getElem?_drop]; simp [h]
  have e2 : (f.wire.drop j).eraseIdx 0 = f.wire.drop (j + 1) := by rw [List.eraseIdx_zero, List.tail_drop]
  simp only [step, wireDo, fD, Int.toNat_zero, hg]
  simp [e2]

def gT (r : Nat) (ts : List Tsk) (g : Fl) : Nat → Fl
  | 0 => g
  | t + 1 => if (gT r ts g t).known.getD t false = true then gT r ts g t else (step r ts (step r ts (step r ts (gT r ts g t) ⟨1, t⟩).1 ⟨2, 0⟩).1 ⟨2, 0⟩).1

theorem three_steps {r nb : Nat} {ts : List Tsk} {g : Fl} {t : Nat} (hok : FlOk r nb ts g) (hw : g.wire = []) (ht : t < ts.length) (hk : g.known.getD t false = false) :
    (step r ts (step r ts (step r ts g ⟨1, t⟩).1 ⟨2, 0⟩).1 ⟨2, 0⟩).1.wire = [] ∧ (step r ts (step r ts (step r ts g ⟨1, t⟩).1 ⟨2, 0⟩).1 ⟨2, 0⟩).1.known = g.known.set t true := by
  have h1 : ¬ ((ts.length : Int) ≤ (t : Int)) := by omega
  have e1 : step r ts g ⟨1, t⟩ = ({ g with wire := [⟨false, t⟩] }, 0) := by
    simp only [step, if_neg h1, Int.toNat_natCast, hk, hw]
    simp
  rw [e1]
  have e2 : (step r ts { g with wire := [⟨false, t⟩] } ⟨2, 0⟩).1 = pour r ts { g with wire := [] } ⟨false, t⟩ := by
    simp [step, wireDo]
  simp only [e2]
  have e3 : (pour r ts { g with wire := [] } ⟨false, t⟩).wire = [⟨true, t⟩] ∧ (pour r ts { g with wire := [] } ⟨false, t⟩).known = g.known := by
    unfold pour; split <;> simp_all
  obtain ⟨e4, e5⟩ := e3
  generalize pour r ts { g with wire := [] } ⟨false, t⟩ = g2 at e4 e5
  have e6 : (step r ts g2 ⟨2, 0⟩).1 = pour r ts { g2 with wire := [] } ⟨true, t⟩ := by
    simp [step, wireDo, e4]
  rw [e6]
  simp [pour, e5]

theorem gT_ok {r nb : Nat} {ts : List Tsk} {g : Fl} (hok : FlOk r nb ts g) (hw : g.wire = []) : ∀ t, t ≤ ts.length → FlOk r nb ts (gT r ts g t) ∧ (gT r ts g t).wire = [] ∧ ∀ i, t ≤ i → (gT r ts g t).known.getD i false = g.known.getD i false
  | 0, _ => ⟨hok, hw, fun i _ => rfl⟩
  | t + 1, ht => by
    obtain ⟨h1, h2, h3⟩ := gT_ok hok hw t (by omega)
    simp only [gT]
    split
    · exact ⟨h1, h2, fun i hi => h3 i (by omega)⟩
    · rename_i hk
      obtain ⟨h4, h5⟩ := three_steps h1 h2 (t := t) (by omega) (by simpa using hk)
      refine ⟨((h1.step (d := ⟨1, t⟩) (by show (0 : Int) ≤ t; omega)).step (d := ⟨2, 0⟩) (by show (0 : Int) ≤ 0; omega)).step (d := ⟨2, 0⟩) (by show (0 : Int) ≤ 0; omega), h4, fun i hi => ?_⟩
      rw [h5, ← h3 i (by omega)]
      simp only [List.getD_eq_getElem?_getD]
      rw [List.getElem?_set_ne (by omega)]

def Step2 (w : World) (base p : Nat) (pty : TypeId) (hd : List Value) (ts : List Tsk) (f : Fl) (xs : List Dd) (e : Ending) (w' : World) : Prop :=
  ∃ A n c, e = .returned (.slice A n c) ∧ Hid (n = xs.length) ∧ Row w' base 91 2 (.slice A n c) (xs.map cD) ∧ ShopAt w' (foreignTo base (.slice A n c)) p pty hd ts f ∧ Below base w w'

theorem l07Step_at (base p wp r nb : Nat) (ts : List Tsk) (f f2 : Fl) (A : Option Addr) (n c : Nat) (xs : List Dd) (d : Dd) (w : World) (hn : n = xs.length) (hS : ShopAt w (foreignTo base (.slice A n c)) p 101 [.pointer (some ⟨wp, 0, none⟩)] ts f) (hok : FlOk r nb ts f) (hd : okDeed d = true)
    (hR : Row w base 91 2 (.slice A n c) (xs.map cD)) (hb : base ≤ w.heap.size) (hwp : wp < base) (hwne : wp ≠ p) (hr : w.cell? ⟨wp, 0, none⟩ = some (.int .i64 r)) (hx : xs.length ≤ 1000) (hf : (step r ts f d).1 = f2) :
    Calls Try.prog 64 #[.pointer (some ⟨p, 0, none⟩), .slice A n c, .int .i64 d.k, .int .i64 d.a] w (Step2 w base p 101 [.pointer (some ⟨wp, 0, none⟩)] ts f2 (xs ++ [d])) := by
  subst hn; subst hf
  exact (l07Step_any base p wp r nb ts f A c xs d w hS hok hd hR hb hwp hwne hr hx).mono fun e w' ⟨A', c', he, h1, h2, h3⟩ => ⟨A', _, c', he, rfl, h1, h2, h3⟩

def F1Rel (w : World) (base p : Nat) (hd : List Value) (ts : List Tsk) (f : Fl) (g : Nat) (v : Value) (wr : World) : Prop :=
  ∃ (j : Nat) (A : Option Addr) (n c : Nat), j ≤ f.wire.length ∧ g = f.wire.length - j ∧ v = .slice A n c ∧ Hid (n = (List.replicate j ddr).length) ∧ Row wr base 91 2 (.slice A n c) ((List.replicate j ddr).map cD) ∧ ShopAt wr (foreignTo base (.slice A n c)) p 101 hd ts (fD f j) ∧ Below base w wr
def F2Rel (w : World) (base p r : Nat) (hd : List Value) (ts : List Tsk) (f : Fl) (g : Nat) (i v : Value) (wr : World) : Prop :=
  ∃ (k : Nat) (A : Option Addr) (n c : Nat), k ≤ ts.length ∧ g = ts.length - k ∧ i = .int .i64 k ∧ v = .slice A n c ∧ Hid (n = (List.replicate f.wire.length ddr ++ finTo f.known k).length) ∧ Row wr base 91 2 (.slice A n c) ((List.replicate f.wire.length ddr ++ finTo f.known k).map cD) ∧ ShopAt wr (foreignTo base (.slice A n c)) p 101 hd ts (gT r ts (fD f f.wire.length) k) ∧ Below base w wr

set_option maxRecDepth 100000 in
set_option maxHeartbeats 4000000 in
theorem specFinish_any (r : Int) (A : Option Addr) (c : Nat) (bs : List Bat) (A2 : Option Addr) (c2 : Nat) (ds : List Dd) (w : World) (h : WorksAt w A c bs) (hd : DeedsAt w A2 c2 ds) (xs : List Dd) (z : Int) (hres : FnRes r bs ds xs z) :
    Calls Try.prog 29 #[.agg #[.int .i64 r, .slice A bs.length c], .slice A2 ds.length c2] w (Fn2 w xs z) := by
  have hbox : Below w.heap.size w (w.alloc (.cells #[.int .i64 r, .slice A bs.length c] 31)) := (Below.refl _ _).alloc (Nat.le_refl _) _
  have c0 : (w.alloc (.cells #[.int .i64 r, .slice A bs.length c] 31)).cell? ⟨w.heap.size, 0, none⟩ = some (.int .i64 r) := by rw [World.cell?_alloc_at _ _ _ _ rfl]; rfl
  have c1 : (w.alloc (.cells #[.int .i64 r, .slice A bs.length c] 31)).cell? ⟨w.heap.size, 1, none⟩ = some (.slice A bs.length c) := by rw [World.cell?_alloc_at _ _ _ _ rfl]; rfl
  have h0 := h.below hbox
  have hd0 := hd.below hbox
  have hz : w.heap.size < (w.alloc (.cells #[.int .i64 r, .slice A bs.length c] 31)).heap.size := by simp
  generalize hw0 : w.alloc (.cells #[.int .i64 r, .slice A bs.length c] 31) = w0 at hbox c0 c1 h0 hd0 hz
  have hck := l07Given_any w.heap.size r A c bs A2 c2 ds w0 hz c0 c1 h0 hd0
  by_cases hg : givenCode r bs ds = 0
  · rw [hg] at hck
    obtain ⟨hok, hds, hl, rn, rfl, hr1, hr4⟩ := given_ok hg
    obtain ⟨-, -, n1, n6, -⟩ := okWorks_parts hok
    have h48 : (tasksOf bs).length ≤ 48 := by have := tasksTo_len bs bs.length; unfold tasksOf; omega
    have hf0 := floor0_ok hr1 hr4 h48 (tasksOf_in bs)
    have hfn := fA_ok hf0 hds ds.length (Nat.le_refl _)
    rw [show fA rn (tasksOf bs) (floor0 rn bs.length (tasksOf bs).length) ds ds.length = fB0 rn bs ds ds.length by simp [fB0]] at hfn
    have HR : Hid ((300 < ds.length + (plan (fB0 rn bs ds ds.length)).length ∧ xs = [] ∧ z = 3) ∨ (ds.length + (plan (fB0 rn bs ds ds.length)).length ≤ 300 ∧ xs = plan (fB0 rn bs ds ds.length) ∧ z = 0)) := by
      rcases hres with ⟨h1, -⟩ | ⟨-, h2⟩ | ⟨-, h3⟩
      · exact absurd hg h1
      · exact .inl h2
      · exact .inr h3
    clear hres hg
    go_enter Try.func29, Try.ntmps29
    go_wp2_with fail
    clear hw0
    refine hck.mono ?_
    rintro e w1 ⟨rfl, hb1⟩
    have d0 := (hb1.cell (p := ⟨w.heap.size, 0, none⟩) hz).trans c0
    have d1 := (hb1.cell (p := ⟨w.heap.size, 1, none⟩) hz).trans c1
    have hz0 := hbox.size
    have hz1 := hb1.size
    have hB1 : Below w.heap.size w w1 := hbox.trans (hb1.mono hz0)
    have hpl := play_any w.heap.size rn A c bs A2 c2 ds w1 (by omega) d0 d1 (h0.below hb1) (hd0.below hb1) hok hds hl
    rw [show fA rn (tasksOf bs) (floor0 rn bs.length (tasksOf bs).length) ds ds.length = fB0 rn bs ds ds.length by simp [fB0]] at hpl
    generalize fB0 rn bs ds ds.length = f at hfn hpl HR
    have hwp1 : w.heap.size < w1.heap.size := by omega
    go_wp2_with fail
    refine hpl.mono ?_
    rintro e w2 ⟨p, vv, rfl, hS2, -, hb2⟩
    have hpw : w1.heap.size ≤ p := by
      obtain ⟨o, S, hS⟩ := hS2
      have := hS.pge
      simp only [under] at this
      omega
    have hz2 := hb2.size
    have hK : ∀ W, Below w1.heap.size w1 W → W.cell? ⟨w.heap.size, 0, none⟩ = some (.int .i64 rn) := fun W hW => (hW.cell (p := ⟨w.heap.size, 0, none⟩) hwp1).trans d0
    have KR := Lib.hid hK
    clear hK d0 d1 c0 c1 hb1 hbox hpl
    have hR0 := Row.empty w2 (base := w1.heap.size) hz2 91 2
    have hB0 : Below w1.heap.size w1 (w2.alloc (.cells #[] 91)) := hb2.alloc hz2 _
    have hS0 : ShopAt (w2.alloc (.cells #[] 91)) (foreignTo w1.heap.size (.slice (some ⟨w2.heap.size, 0, none⟩) 0 0)) p 101 [.pointer (some ⟨w.heap.size, 0, none⟩)] (tasksOf bs) (fD f 0) := by
      have : fD f 0 = f := rfl
      rw [this]
      exact hS2.more ((Below.refl _ _).alloc (Nat.le_refl _) _) fun b hb => by
        simp only [foreignTo, Value.ownBlock, Option.some.injEq] at hb
        simp only [under]
        rcases hb with hb | hb
        · exact ⟨.inl hb, by simp; omega⟩
        · exact ⟨.inr (by omega), by simp; omega⟩
    clear hS2 hb2
    have hw10 := hfn.w10
    go_wp2_with fail
    go_loopg [9] f.wire.length (F1Rel w1 w1.heap.size p [.pointer (some ⟨w.heap.size, 0, none⟩)] (tasksOf bs) f)
    case atStart => exact ⟨0, _, 0, 0, by omega, by omega, rfl, rfl, hR0, hS0, hB0⟩
    case round =>
      clear hR0 hS0 hB0
      obtain ⟨j, A3, n3, c3, hj, rfl, rfl, HN, hR, hS, hB⟩ := hrel
      have hSS := hS
      obtain ⟨o, S, hSo⟩ := hSS
      have c6 : wr.cell? ⟨p, 6, none⟩ = some S.w := hSo.cell rfl
      obtain ⟨Aw, cw, ew, -, -⟩ := hSo.wire.1.form
      rw [List.length_map, show (fD f j).wire.length = f.wire.length - j by simp [fD]] at ew
      rw [ew] at c6
      clear ew hSo
      have hbz := hB.size
      by_cases hlt : j < f.wire.length
      · have hm : (0 : Int) < ((f.wire.length - j : Nat) : Int) := by omega
        have hokj : FlOk rn bs.length (tasksOf bs) (fD f j) := { hfn with wire := fun n hn => hfn.wire n (List.mem_of_mem_drop hn), w10 := by simp [fD]; omega }
        have hst := l07Step_at w1.heap.size p w.heap.size rn bs.length (tasksOf bs) (fD f j) (fD f (j + 1)) A3 n3 c3 (List.replicate j ddr) ⟨4, 0⟩ wr HN.out hS hokj rfl hR hbz hwp1 (by omega) (KR.out wr hB) (by simp; omega) (fD_step hlt)
        rw [show List.replicate j ddr ++ [(⟨4, 0⟩ : Dd)] = List.replicate (j + 1) ddr by rw [List.replicate_succ']; rfl] at hst
        go_wp2_with (go_at_call 64; refine hst.mono ?_; rintro e w4 ⟨A4, n4, c4, rfl, HN4, hR4, hS4, hB4⟩)
        go_roundg (f.wire.length - (j + 1))
        case measure => omega
        case rel => exact ⟨j + 1, A4, n4, c4, hlt, rfl, rfl, HN4, hR4, hS4, hB.trans hB4⟩
      · obtain rfl : j = f.wire.length := by omega
        have hm : f.wire.length - f.wire.length = 0 := by omega
        rw [hm] at c6
        have hok0 : FlOk rn bs.length (tasksOf bs) (fD f f.wire.length) := { hfn with wire := fun n hn => hfn.wire n (List.mem_of_mem_drop hn), w10 := by simp [fD] }
        have hw0' : (fD f f.wire.length).wire = [] := by simp [fD]
        clear hm
        go_wp2_with fail
        clear c6
        go_loopg [10, 9] (tasksOf bs).length (F2Rel w1 w1.heap.size p rn [.pointer (some ⟨w.heap.size, 0, none⟩)] (tasksOf bs) f)
        case atStart => exact ⟨0, A3, n3, c3, by omega, by omega, by go_num, rfl, by simpa [finTo] using HN, by simpa [finTo] using hR, hS, hB⟩
        case round =>
          clear hR hS hB HN
          obtain ⟨k, A3, n3, c3, hk, rfl, rfl, rfl, HN, hR, hS, hB⟩ := hrel
          obtain ⟨hgk, hgw, hgn⟩ := gT_ok hok0 hw0' k hk
          have hSS := hS
          obtain ⟨o, S, hSo⟩ := hSS
          have c1 : wr.cell? ⟨p, 1, none⟩ = some S.t := hSo.cell rfl
          have c4 : wr.cell? ⟨p, 4, none⟩ = some S.k := hSo.cell rfl
          obtain ⟨At, ct, et, -, -⟩ := hSo.tasks.1.form
          rw [List.length_map] at et
          rw [et] at c1
          have hbz := hB.size
          have hfk : f.known.length = (tasksOf bs).length := hfn.known
          have hlx : (List.replicate f.wire.length ddr ++ finTo f.known k).length ≤ 160 := by
            rw [List.length_append, List.length_replicate]; have := finTo_len f.known k; omega
          by_cases hlt : k < (tasksOf bs).length
          · have hkl : k < (gT rn (tasksOf bs) (fD f f.wire.length) k).known.length := by rw [hgk.known]; exact hlt
            obtain ⟨gq, cq, eq', hgq, hcq⟩ := hSo.known.1.bool_at hkl
            rw [hgk.known] at eq'
            rw [eq'] at c4
            have hkv : (gT rn (tasksOf bs) (fD f f.wire.length) k).known[k] = f.known.getD k false := by
              have := hgn k (Nat.le_refl _)
              rw [getD_at hkl] at this
              exact this
            rw [hkv] at hcq
            have hgs : gT rn (tasksOf bs) (fD f f.wire.length) (k + 1) = if (gT rn (tasksOf bs) (fD f f.wire.length) k).known.getD k false = true then gT rn (tasksOf bs) (fD f f.wire.length) k else (step rn (tasksOf bs) (step rn (tasksOf bs) (step rn (tasksOf bs) (gT rn (tasksOf bs) (fD f f.wire.length) k) ⟨1, k⟩).1 ⟨2, 0⟩).1 ⟨2, 0⟩).1 := rfl
            rw [hgn k (Nat.le_refl _), show (fD f f.wire.length).known = f.known from rfl] at hgs
            have hfs : finTo f.known (k + 1) = finTo f.known k ++ finTask f.known k := finTo_succ _ _
            clear hSo hkv eq' et
            obtain ⟨b, hb⟩ : ∃ b, f.known.getD k false = b := ⟨_, rfl⟩
            rw [hb] at hcq hgs
            unfold finTask at hfs
            rw [hb] at hfs
            have HGS := Lib.hid hgs
            have HFS := Lib.hid hfs
            clear hgs hfs hb hgn
            cases b with
            | true =>
              have e1 : gT rn (tasksOf bs) (fD f f.wire.length) (k + 1) = gT rn (tasksOf bs) (fD f f.wire.length) k := HGS.out
              have e2 : finTo f.known (k + 1) = finTo f.known k := by rw [HFS.out]; simp
              have hrl : F2Rel w1 w1.heap.size p rn [.pointer (some ⟨w.heap.size, 0, none⟩)] (tasksOf bs) f ((tasksOf bs).length - (k + 1)) (.int .i64 (k + 1 : Nat)) (.slice A3 n3 c3) wr := ⟨k + 1, A3, n3, c3, hlt, rfl, rfl, rfl, by rw [e2]; exact HN, by rw [e2]; exact hR, by rw [e1]; exact hS, hB⟩
              clear e1 e2
              go_wp2
              go_roundg ((tasksOf bs).length - (k + 1))
              case measure => omega
              case rel => exact hrl
            | false =>
              have e1 : gT rn (tasksOf bs) (fD f f.wire.length) (k + 1) = (step rn (tasksOf bs) (step rn (tasksOf bs) (step rn (tasksOf bs) (gT rn (tasksOf bs) (fD f f.wire.length) k) ⟨1, k⟩).1 ⟨2, 0⟩).1 ⟨2, 0⟩).1 := HGS.out
              have e2 : finTo f.known (k + 1) = finTo f.known k ++ [⟨1, k⟩, ⟨2, 0⟩, ⟨2, 0⟩] := HFS.out
              have hd1 : okDeed ⟨1, k⟩ = true := by simp [okDeed]; omega
              have hok1 := hgk.step (d := ⟨1, k⟩) (by show (0 : Int) ≤ k; omega)
              have hok2 := hok1.step (d := ⟨2, 0⟩) (by show (0 : Int) ≤ 0; omega)
              have hst1 := l07Step_at w1.heap.size p w.heap.size rn bs.length (tasksOf bs) _ _ A3 n3 c3 _ ⟨1, k⟩ wr HN.out hS hgk hd1 hR hbz hwp1 (by omega) (KR.out wr hB) (by omega) rfl
              have HE1 := Lib.hid e1
              have HE2 := Lib.hid e2
              clear e1 e2 HGS HFS
              go_wp2_with fail
              refine hst1.mono ?_
              rintro e w4 ⟨A4, n4, c4', rfl, HN4, hR4, hS4, hB4⟩
              have hBB4 := hB.trans hB4
              clear hst1 hcq c4 c1
              go_wp2_with fail
              refine (l07Step_at w1.heap.size p w.heap.size rn bs.length (tasksOf bs) _ _ A4 n4 c4' _ ⟨2, 0⟩ w4 HN4.out hS4 hok1 rfl hR4 hBB4.size hwp1 (by omega) (KR.out w4 hBB4) (by rw [List.length_append]; simp only [List.length_singleton]; omega) rfl).mono ?_
              rintro e w5 ⟨A5, n5, c5', rfl, HN5, hR5, hS5, hB5⟩
              have hBB5 := hBB4.trans hB5
              go_wp2_with fail
              refine (l07Step_at w1.heap.size p w.heap.size rn bs.length (tasksOf bs) _ _ A5 n5 c5' _ ⟨2, 0⟩ w5 HN5.out hS5 hok2 rfl hR5 hBB5.size hwp1 (by omega) (KR.out w5 hBB5) (by rw [List.length_append, List.length_append]; simp only [List.length_singleton]; omega) rfl).mono ?_
              rintro e w6 ⟨A6, n6', c6', rfl, HN6, hR6, hS6, hB6⟩
              have hBB6 := hBB5.trans hB6
              have e3 : List.replicate f.wire.length ddr ++ finTo f.known k ++ [(⟨1, k⟩ : Dd)] ++ [⟨2, 0⟩] ++ [⟨2, 0⟩] = List.replicate f.wire.length ddr ++ finTo f.known (k + 1) := by rw [HE2.out]; simp
              rw [e3] at HN6 hR6
              rw [← HE1.out] at hS6
              clear e3
              go_wp2_with fail
              go_roundg ((tasksOf bs).length - (k + 1))
              case measure => omega
              case rel => exact ⟨k + 1, A6, n6', c6', hlt, rfl, by go_num, rfl, HN6, hR6, hS6, hBB6⟩
          · obtain rfl : k = (tasksOf bs).length := by omega
            have hst := l07Step_at w1.heap.size p w.heap.size rn bs.length (tasksOf bs) _ _ A3 n3 c3 _ ⟨5, 0⟩ wr HN.out hS hgk rfl hR hbz hwp1 (by omega) (KR.out wr hB) (by omega) rfl
            rw [show List.replicate f.wire.length ddr ++ finTo f.known (tasksOf bs).length ++ [(⟨5, 0⟩ : Dd)] = plan f by simp [plan, ddr, hfk]] at hst
            have hz9 := hB1.size
            have hpn : (plan f).length ≤ 200 := by simp only [plan, List.length_append, List.length_replicate, List.length_singleton]; have := finTo_len f.known f.known.length; omega
            clear hSo c4
            go_wp2_with (go_at_call 64; refine hst.mono ?_; rintro e w4 ⟨A4, n4, c4', rfl, HN4, hR4, hS4, hB4⟩; have hn4 : n4 ≤ 200 := by rw [HN4.out]; exact hpn)
            all_goals
              have hov := HN4.out
              have hBB : Below w.heap.size w w4 := hB1.trans ((hB.trans hB4).mono hz9)
              have hs4 := hBB.size
              go_ret2
            · rcases HR.out with ⟨-, rfl, rfl⟩ | ⟨h, -, -⟩
              · exact ⟨_, rfl, Row.empty w4 (by omega) _ _, hBB.alloc (by omega) _⟩
              · omega
            · rcases HR.out with ⟨h, -, -⟩ | ⟨-, rfl, rfl⟩
              · omega
              · exact ⟨_, rfl, hR4.base (by omega), hBB⟩
  · have e0 : (givenCode r bs ds != 0) = true := by simp; exact hg
    have hfin : xs = [] ∧ z = givenCode r bs ds := by
      rcases hres with ⟨-, h⟩ | ⟨h, -⟩ | ⟨h, -⟩
      · exact h
      · exact absurd h hg
      · exact absurd h hg
    obtain ⟨rfl, rfl⟩ := hfin
    clear hres hg
    go_enter Try.func29, Try.ntmps29
    go_wp2_with fail
    clear hw0
    refine hck.mono ?_
    rintro e w1 ⟨rfl, hb1⟩
    go_wp2
    go_ret2
    have hs1 := hb1.size
    have hs0 := hbox.size
    exact ⟨_, rfl, Row.empty w1 (by omega) _ _, (hbox.trans (hb1.mono hbox.size)).alloc (by omega) _⟩
end Go.Proofs.Ytomcffionomidaa
