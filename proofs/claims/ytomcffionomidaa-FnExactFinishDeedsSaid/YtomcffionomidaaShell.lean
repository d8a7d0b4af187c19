/- What the laws over works and deeds are handed, opened. -/
import Derived.Test.YtomcffionomidaaOpen
import Derived.Test.YtomcffionomidaaDeedS
namespace Go.Proofs.Ytomcffionomidaa
open Go.RowKit Go.ChangeShapes Go.Deep

section
variable {H : Type} {enc : TypeId × Value → H} {w : World} {base : Nat} {spare : Nat → Bool} {held : Bool}
instance : Inhabited Dd := ⟨⟨0, 0⟩⟩
theorem cells_deed : Go.Program.cellsOf Try.prog 93 = 2 := by kernel_rfl

set_option maxRecDepth 100000 in
theorem deed_in {fuel : Nat} {cs : List Value} {x : DataW H × List MemPlace} (h : DataW.trod enc Try.prog w base spare held fuel 93 cs = some x) : ∃ d : Dd, cs = (cD d).toList ∧ True := by
  obtain ⟨y0, y1, n, -, hl, h0, h1⟩ := trod_struct2 Try.underlying93 h
  rw [cells_deed] at hl
  obtain ⟨k, hk, -, -⟩ := DataW.trod_int Try.underlying2 h0
  obtain ⟨a, ha, -, -⟩ := DataW.trod_int Try.underlying2 h1
  simp only [cells_int64] at hk ha
  refine ⟨⟨k, a⟩, ?_, trivial⟩
  match cs, hl with
  | [c0, c1], _ =>
    simp at hk ha
    simp [cD, hk, ha]

set_option maxRecDepth 100000 in
theorem deeds_in {v : Value} {d : DataW H} {ps : List MemPlace} {b0 : Nat} (hv : Value.okWide Try.prog w .any b0 38 v) (h : DataW.Trod enc Try.prog w base spare held 38 v d ps) :
    ∃ (A : Option Addr) (k : Nat) (ds : List Dd), v = .slice A ds.length k ∧ DeedsRaw w A k ds := by
  obtain ⟨A, n, c, rfl⟩ := Go.WideShapes.okWide_slice Try.underlying38 hv
  obtain ⟨fuel, hf⟩ := h
  obtain ⟨A', k, ds, e, hk, hm, -, ha⟩ := open_rows (sz := 2) (c := cD) (good := fun _ : Dd => True) Try.underlying38 cells_deed (by omega) (fun _ _ _ h => deed_in h) (fun d _ => cD_size d) (by simpa [Value.cells] using hf)
  simp at e
  obtain ⟨rfl, rfl, rfl⟩ := e
  exact ⟨A, c, ds, rfl, ha, by omega, hk⟩
end
end Go.Proofs.Ytomcffionomidaa
