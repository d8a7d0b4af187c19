/- The marks: each element of a slice gets numbers of its own. -/
import Derived.Test.YtomcffionomidaaTo2
import Derived.Lib.Hide
namespace Go.Proofs.Ytomcffionomidaa
open Go.RowKit

def AnyText (w : World) (e : Ending) (w' : World) : Prop := ∃ s : ByteArray, e = .returned (.string s) ∧ Below w.heap.size w w'
def MtRel (w : World) (g : Nat) (k out : Value) (wr : World) : Prop := ∃ (n : Int) (s : ByteArray), k = .int .i64 n ∧ out = .string s ∧ 0 ≤ n ∧ n < 10 ^ g ∧ g ≤ 13 ∧ s.size + g ≤ 13 ∧ Below w.heap.size w wr

set_option maxRecDepth 100000 in
theorem markText_any (k : Int) (hk : k ≤ 1000000000000) (w : World) : Calls Try.prog 91 #[.int .i64 k] w (AnyText w) := by
  by_cases h0 : k ≤ 0
  · go_enter Try.func91, Try.ntmps91
    go_wp2
    go_ret
    exact ⟨_, rfl, Below.refl _ _⟩
  · go_enter Try.func91, Try.ntmps91
    go_wp2
    go_loopg [0, 3] 13 (MtRel w)
    case atStart => exact ⟨k, _, rfl, rfl, by omega, by omega, by omega, by decide, Below.refl _ _⟩
    case round =>
      obtain ⟨n, s, rfl, rfl, h1, h2, h3, h4, hb⟩ := hrel
      by_cases hn : 0 < n
      · have hg : 0 < gk := by
          rcases Nat.eq_zero_or_pos gk with e | e
          · subst e; simp at h2; omega
          · exact e
        obtain ⟨g, rfl⟩ : ∃ g, gk = g + 1 := ⟨gk - 1, by omega⟩
        have hp : (10 : Int) ^ (g + 1) = 10 ^ g * 10 := Int.pow_succ 10 g
        have hn13 : n < 10 ^ 13 := by
          have : (10 : Int) ^ (g + 1) ≤ 10 ^ 13 := by
            exact_mod_cast Nat.pow_le_pow_right (by omega : 0 < 10) h3
          omega
        have hcv := run_convert_bytes_back (P := Try.prog) (wr.alloc (.cells #[.int .u8 (48 + n % 10)] 5)) 67 9 5 ⟨wr.heap.size, 0, none⟩ 1 [UInt8.ofNat (48 + n % 10).toNat] Try.underlying67 Try.underlying5 Try.underlying9 (fun j hj => by
          obtain rfl : j = 0 := by simpa using hj
          rw [show ((⟨wr.heap.size, 0, none⟩ : Addr).add 0) = ⟨wr.heap.size, 0, none⟩ from rfl, World.cell?_alloc_at _ _ _ _ rfl]
          have : (48 + n % 10).toNat % 256 = (48 + n % 10).toNat := Nat.mod_eq_of_lt (by omega)
          simp [this]; omega)
        simp only [List.length_singleton] at hcv
        have hn13' : n < 10000000000000 := by simpa using hn13
        have h5 : n / 10 < 10 ^ g := by omega
        have H5 := Lib.hid h5
        clear hp hn13 h2 h5
        go_wp2
        go_roundg g
        case measure => omega
        case rel =>
          refine ⟨n / 10, _, rfl, rfl, by omega, H5.out, by omega, ?_, hb.alloc hb.size _⟩
          rw [ByteArray.size_append']
          show 1 + s.size + g ≤ 13
          omega
      · go_wp2
        go_ret
        exact ⟨_, rfl, hb⟩

/-- Nothing but block g has turned, of what was there. -/
def Only (w : World) (g : Nat) (w' : World) : Prop := w.grownBy w' (some g)

theorem Only.refl (w : World) (g : Nat) : Only w g w := World.grownBy.refl w _
theorem Only.below {w w1 w2 : World} {g : Nat} (h : Only w g w1) (hb : Below w1.heap.size w1 w2) : Only w g w2 :=
  ⟨hb.os.trans h.os, hb.tape.trans h.tape, hb.output.trans h.output, Nat.le_trans h.size hb.size, fun k hk hne => (hb.block k (Nat.lt_of_lt_of_le hk h.size)).trans (h.block k hk hne)⟩
theorem Only.set {w w1 : World} {g : Nat} (h : Only w g w1) (i : Nat) (v : Value) : Only w g (w1.setCell ⟨g, i, none⟩ v) :=
  ⟨h.os, h.tape, h.output, by simpa using h.size, fun k hk hne => (Below.heap_setCell w1 ⟨g, i, none⟩ v k (fun e => hne (by rw [e]))).trans (h.block k hk hne)⟩
theorem Only.toBelow {w w1 : World} {g B : Nat} (h : Only w g w1) (hg : B ≤ g) (hB : B ≤ w.heap.size) : Below B w w1 :=
  ⟨h.os, h.tape, h.output, h.size, fun k hk => h.block k (by omega) (fun e => by injection e; omega)⟩
theorem Only.drewN {w w1 : World} {g : Nat} (h : Only w g w1) (n : Nat) : Only w g (w1.drewN n) := ⟨h.os, h.tape, h.output, h.size, h.block⟩

theorem there_set {w : World} {g o n : Nat} (h : w.there g o n) (a : Addr) (v : Value) : (w.setCell a v).there g o n := by
  have := World.there_setCells h a.block a.off [v]
  intro j hj
  obtain ⟨h1, h2⟩ := h j hj
  constructor
  · obtain ⟨u, hu⟩ := Option.isSome_iff_exists.1 h1
    by_cases e : a = ⟨g, o + j, none⟩
    · rw [← e, World.cell?_setCell_same _ _ _ (by rw [e]; exact hu)]; rfl
    · rw [World.cell?_setCell_other _ _ _ _ e, hu]; rfl
  · rw [World.frozen?_setCell]; exact h2

theorem there_only {w w' : World} {g o n : Nat} (h : w.there g o n) (hg : g < w.heap.size) (hb : Below w.heap.size w w') : w'.there g o n := there_below h hb hg

def MkRel (w : World) (g n : Nat) (G : Nat) (k i : Value) (wr : World) : Prop :=
  ∃ (j : Nat), j ≤ n ∧ G = n - j ∧ i = .int .i64 j ∧ k = .int .i64 (1 + 9 * j) ∧ g < wr.heap.size ∧ wr.there g 0 (n * 9) ∧ Only w g wr
def MkRel2 (w : World) (g n j : Nat) (G : Nat) (k i : Value) (wr : World) : Prop :=
  ∃ (t : Nat), t ≤ 8 ∧ G = 8 - t ∧ i = .int .i64 t ∧ k = .int .i64 (1 + 9 * j + 1 + t) ∧ g < wr.heap.size ∧ wr.there g 0 (n * 9) ∧ Only w g wr

theorem there_at {w : World} {g n i : Nat} (h : w.there g 0 n) (hi : i < n) : ∃ v, w.cell? ⟨g, i, none⟩ = some v ∧ w.frozen? ⟨g, i, none⟩ = false := by
  obtain ⟨h1, h2⟩ := h i hi
  obtain ⟨u, hu⟩ := Option.isSome_iff_exists.1 h1
  exact ⟨u, by simpa using hu, by simpa using h2⟩

set_option maxRecDepth 100000 in
theorem markBatchS_any (g n c : Nat) (w : World) (hn : n ≤ 1048576) (hg : g < w.heap.size) (ht : w.there g 0 (n * 9)) :
    Calls Try.prog 50 #[.slice (some ⟨g, 0, none⟩) n c, .int .i64 1] w fun e w' => e = .returned (.int .i64 (1 + 9 * n)) ∧ Only w g w' := by
  go_enter Try.func50, Try.ntmps50
  go_wp2
  go_loopg [1, 5] n (MkRel w g n)
  case atStart => exact ⟨0, by omega, by omega, by go_num, by go_num, hg, ht, Only.refl _ _⟩
  case round =>
    obtain ⟨j, hj, rfl, rfl, rfl, hg1, ht1, ho⟩ := hrel
    by_cases hlt : j < n
    · go_wp2_with (go_at_call 91; refine (markText_any _ (by omega) _).mono ?_; rintro e w1 ⟨s, rfl, hb1⟩; have ht2 := there_below ht1 hb1 hg1; obtain ⟨v1, hv1, hf1⟩ := there_at ht2 (i := j * 9) (by omega))
      have ho1 := (ho.below hb1).set (j * 9) (.string s)
      have ht3 := there_set ht2 ⟨g, j * 9, none⟩ (.string s)
      have hg3 : g < (w1.setCell ⟨g, j * 9, none⟩ (.string s)).heap.size := by have := hb1.size; simp; omega
      clear hv1 hf1 ht2 ht1 hb1 ho hg1
      go_loopg [1, 6] 8 (MkRel2 w g n j)
      case atStart => exact ⟨0, by omega, by omega, by go_num, by go_num, hg3, ht3, ho1⟩
      case round =>
        obtain ⟨t, ht, rfl, rfl, rfl, hg4, ht4, ho4⟩ := hrel
        by_cases hlt2 : t < 8
        · obtain ⟨v1, hv1, hf1⟩ := there_at ht4 (i := j * 9 + 1 + t) (by omega)
          go_wp2
          go_roundg (8 - (t + 1))
          case measure => omega
          case rel => exact ⟨t + 1, by omega, rfl, by go_num, by go_num, by simpa using hg4, there_set ht4 _ _, ho4.set _ _⟩
        · go_wp2
          obtain rfl : t = 8 := by omega
          go_roundg (n - (j + 1))
          case measure => omega
          case rel => exact ⟨j + 1, by omega, rfl, by go_num, by go_num, hg4, ht4, ho4⟩
    · go_wp2
      go_ret
      obtain rfl : j = n := by omega
      exact ⟨rfl, ho⟩
end Go.Proofs.Ytomcffionomidaa
