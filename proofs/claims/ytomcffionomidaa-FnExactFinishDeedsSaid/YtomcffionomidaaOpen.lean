/- The works that came in, opened: what the walk is told of them. -/
import Derived.Test.YtomcffionomidaaTasks3
import Derived.OpenShut
import Derived.Deep.Slices
import Derived.ChangeSame
namespace Go.Proofs.Ytomcffionomidaa
open Go.RowKit Go.ChangeShapes Go.Deep

section
variable {H : Type} {enc : TypeId × Value → H} {P : Program} {w : World} {base : Nat} {spare : Nat → Bool} {held : Bool}

theorem choose_upto {α : Type} [Inhabited α] {n : Nat} {p : Nat → α → Prop} (h : ∀ i, i < n → ∃ a, p i a) : ∃ f : Nat → α, ∀ i, i < n → p i (f i) := by
  classical
  exact ⟨fun i => if hi : i < n then Classical.choose (h i hi) else default, fun i hi => by simp only [hi, dif_pos]; exact Classical.choose_spec (h i hi)⟩

/-- An array of numbers, opened. -/
theorem open_array_ints {t e : TypeId} {n : Nat} {k : IntKind} {fuel : Nat} {cs : List Value} {x : DataW H × List MemPlace} (ht : P.underlying t = some (.array n e)) (he : P.underlying e = some (.int k)) (hc : P.cellsOf e = 1) (hn : P.cellsOf t = n)
    (h : DataW.trod enc P w base spare held fuel t cs = some x) : ∃ zs : List Int, cs = zs.map (Value.int k) ∧ zs.length = n ∧ ∀ z ∈ zs, (Lit.int k z).wf = true := by
  obtain ⟨xs, m, -, -, hl, hxl, hx⟩ := DataW.trod_array ht h
  rw [hn] at hl
  have key : ∀ i, i < n → ∃ z, cs[i]? = some (.int k z) ∧ (Lit.int k z).wf = true := fun i hi => by
    have hxi := hx i hi
    rw [List.getElem?_eq_getElem (by omega : i < xs.length)] at hxi
    obtain ⟨z, hz, -, hw⟩ := DataW.trod_int he hxi
    rw [hc, Nat.mul_one] at hz
    refine ⟨z, ?_, hw⟩
    have h2 : ((cs.drop i).take 1)[0]? = some (Value.int k z) := by rw [hz]; rfl
    simpa using h2
  obtain ⟨f, hf⟩ := choose_upto key
  refine ⟨(List.range n).map f, ?_, by simp, ?_⟩
  · refine List.ext_getElem? fun i => ?_
    by_cases hi : i < n
    · rw [(hf i hi).1]; simp [hi]
    · rw [List.getElem?_eq_none (by omega), List.getElem?_eq_none (by simp; omega)]
  · intro z hz
    obtain ⟨i, hi, rfl⟩ := List.mem_map.1 hz
    exact (hf i (List.mem_range.1 hi)).2

/-- Rows of 'sz' cells that a slice leads to. -/
theorem open_rows {t e : TypeId} {sz : Nat} {fuel : Nat} {cs : List Value} {x : DataW H × List MemPlace} {α : Type} [Inhabited α] {c : α → Array Value} {good : α → Prop} (ht : P.underlying t = some (.slice e)) (hc : P.cellsOf e = sz) (h0 : 0 < sz)
    (hel : ∀ fuel cs x, DataW.trod enc P w base spare held fuel e cs = some x → ∃ a, cs = (c a).toList ∧ good a) (hsz : ∀ a, good a → (c a).size = sz)
    (h : DataW.trod enc P w base spare held fuel t cs = some x) :
    ∃ (A : Option Addr) (k : Nat) (ys : List α), cs = [.slice A ys.length k] ∧ ys.length ≤ k ∧ k ≤ 9223372036854775807 ∧ (∀ a ∈ ys, good a) ∧ SlAt w sz A (ys.map c) := by
  rcases open_slice ht h with ⟨rfl, -⟩ | ⟨a, len, cap, m, n, D, Pl, rfl, -, hl, hm, hmd, -, hx⟩
  · exact ⟨none, 0, [], rfl, by simp, by simp, by simp, SlAt.nil _ _ _⟩
  · have hmle : len ≤ m := by rw [hmd]; split <;> omega
    have key : ∀ i, i < len → ∃ y : α, w.cells? base (a.add (i * sz)) sz = some (c y).toList ∧ good y := fun i hi => by
      obtain ⟨cs', h1, h2⟩ := hx i (by omega)
      obtain ⟨y, rfl, hg⟩ := hel _ _ _ h2
      rw [hc] at h1
      exact ⟨y, h1, hg⟩
    obtain ⟨f, hf⟩ := choose_upto key
    have hlen : ((List.range len).map f).length = len := by simp
    refine ⟨some a, cap, (List.range len).map f, by rw [hlen], by rw [hlen]; exact hl, hm, ?_, ?_, ?_⟩
    · intro y hy
      obtain ⟨i, hi, rfl⟩ := List.mem_map.1 hy
      exact (hf i (List.mem_range.1 hi)).2
    · intro y hy
      obtain ⟨z, hz, rfl⟩ := List.mem_map.1 hy
      obtain ⟨i, hi, rfl⟩ := List.mem_map.1 hz
      exact hsz _ (hf i (List.mem_range.1 hi)).2
    · intro hp
      have hlp : 0 < len := by simpa using hp
      obtain ⟨g, o, spot⟩ := a
      have hcell : ∀ i, i < len → ∀ j, j < sz → w.cell? ((⟨g, o, spot⟩ : Addr).add (i * sz + j)) = (c (f i)).toList[j]? := fun i hi j hj => by
        obtain ⟨-, -, hcl⟩ := World.cells?_some (hf i hi).1
        have := hcl j hj
        rwa [add_add] at this
      have hs0 : (c (f 0)).size = sz := hsz _ (hf 0 hlp).2
      have hc0 := hcell 0 hlp 0 h0
      have hv : (c (f 0)).toList[0]? = some ((c (f 0)).toList[0]'(by simp; omega)) := List.getElem?_eq_getElem _
      rw [hv] at hc0
      have hspot : spot = none := by simpa [Addr.add] using World.cell?_spot hc0
      subst hspot
      refine ⟨g, o, rfl, by simpa [Addr.add] using World.block_lt_of_cell? _ _ hc0, ?_⟩
      intro i y hy j v hv
      rw [List.map_map, List.getElem?_map] at hy
      by_cases hi : i < len
      · rw [List.getElem?_range hi] at hy
        obtain rfl : c (f i) = y := by simpa using hy
        have hsi : (c (f i)).size = sz := hsz _ (hf i hi).2
        have hj : j < sz := by
          have := (List.getElem?_eq_some_iff.1 hv).1
          simpa [hsi] using this
        have := hcell i hi j hj
        rw [hv] at this
        rw [← this]
        congr 1
        unfold Addr.add
        split
        · rename_i h; simp at h; simp; try omega
        · simp; omega
      · rw [List.getElem?_eq_none (by simp; omega)] at hy
        cases hy
end

section
variable {H : Type} {enc : TypeId × Value → H} {w : World} {base : Nat} {spare : Nat → Bool} {held : Bool}

instance : Inhabited Bat := ⟨⟨⟨#[]⟩, []⟩⟩

theorem cells_batch : Go.Program.cellsOf Try.prog 126 = 9 := by kernel_rfl
theorem cells_string : Go.Program.cellsOf Try.prog 9 = 1 := by kernel_rfl
theorem cells_eight : Go.Program.cellsOf Try.prog 46 = 8 := by kernel_rfl
theorem cells_int64 : Go.Program.cellsOf Try.prog 2 = 1 := by kernel_rfl


set_option maxRecDepth 100000 in
theorem batch_in {fuel : Nat} {cs : List Value} {x : DataW H × List MemPlace} (h : DataW.trod enc Try.prog w base spare held fuel 126 cs = some x) :
    ∃ b : Bat, cs = (cB b).toList ∧ b.d.length = 8 ∧ b.name.size ≤ 9223372036854775807 := by
  obtain ⟨y0, y1, n, -, hl, h0, h1⟩ := trod_struct2 Try.underlying126 h
  rw [cells_batch] at hl
  obtain ⟨s, hs, -, hz⟩ := DataW.trod_string Try.underlying9 h0
  obtain ⟨zs, hzs, hzl, -⟩ := open_array_ints Try.underlying46 Try.underlying2 cells_int64 cells_eight h1
  simp only [cells_string] at hs
  simp only [cells_eight] at hzs
  refine ⟨⟨s, zs⟩, ?_, hzl, hz⟩
  cases cs with
  | nil => simp at hl
  | cons c0 cs =>
    simp only [List.length_cons] at hl
    simp at hs hzs
    rw [List.take_of_length_le (by omega)] at hzs
    subst hs
    simp [cB, hzs]

theorem works_in {fuel : Nat} {cs : List Value} {x : DataW H × List MemPlace} (h : DataW.trod enc Try.prog w base spare held fuel 22 cs = some x) :
    ∃ (A : Option Addr) (k : Nat) (bs : List Bat), cs = [.slice A bs.length k] ∧ WorksRaw w A k bs := by
  obtain ⟨A, k, bs, rfl, hk, hm, hg, ha⟩ := open_rows (sz := 9) (c := cB) (good := fun b : Bat => b.d.length = 8 ∧ b.name.size ≤ 9223372036854775807) Try.underlying22 cells_batch (by omega) (fun _ _ _ h => batch_in h) (fun b hb => cB_size b hb.1) h
  exact ⟨A, k, bs, rfl, ha, by omega, hk, fun b hb => (hg b hb).1, fun b hb => (hg b hb).2⟩
end
end Go.Proofs.Ytomcffionomidaa
