/-
  No cell of these rows narrows 'for every input' (looked for: loops, veiled, ifaces, maps, wideKeys, modest, calm, conditions, laid).
  DERIVED. THE GIVEN ROWS OF THIS SEAT. 7 by the template 'for every input the law returns true; each argument reads behind the call as it read before'; 0 by the template 'total and deterministic' (their statements: YtomcffionomidaaTotals.lean).
  GIVEN WITH THE SEED: the statements are not yours to turn. If you find one false, say at which input.
  Laid BY PROGRAM, IN A SANDBOX (cutbox-rows.mjs): the forced cells as the released guide's own fill.sh prints them over the translation 71d2cdf815071abe… (all of the seat's roots in one cut). By AI agents, Wed Nov 11 2026. No macro, syntax, notation, axiom, sorry.
-/
import Derived.Test.YtomcffionomidaaChecked
import GoSem.Claim
import GoSem.ClaimJoined
import GoSem.ClaimMapViews
import Derived.JoinedTies
import Derived.KernelRfl
namespace Go.Proofs.Ytomcffionomidaa
/- THE CELL 'sum', in the pinned program and in every row, IS THE sha256 OF THE DUMP (.gsa) THAT YtomcffionomidaaProg.lean LOADS. Nothing in Lean hashes anything: it is a label: what it is worth is what the hold of that sum in a sandbox is worth. -/
noncomputable def Try.pinned : Pinned := { name := "ytomcffionomidaa", sum := "71d2cdf815071abeffb6bacc1d6e5a0cabd9904b895254c85e6a30a2550cd679", checked := Try.checked }
namespace Rows
def none {H : Type} : Left H := { results := [], args := [] }

/-- 'laws.FnExactTasksOf': WHATEVER THE INPUT: true; the input reads as it did. -/
def fnExactTasksOfSpec : ChangeSpec := { name := "fnExactTasksOf", fn := fun _ => fun
  | [d] => { results := [.lit (.bool true)], args := [d] }
  | _ => none }
def fnExactTasksOfRow : OpenClaim := { program := "ytomcffionomidaa", sum := "71d2cdf815071abeffb6bacc1d6e5a0cabd9904b895254c85e6a30a2550cd679", func := "loop.example/g01213/laws.FnExactTasksOf", spec := "fnExactTasksOf", unfollowed := true, recurses := true, apart := false }
def FnExactTasksOfSaid : Prop := fnExactTasksOfRow.holds Try.pinned (OpenSpec.ofChange fnExactTasksOfSpec)

/-- ITS FALSE NEIGHBOUR: 'it returns false'. Refute it at one input. -/
def fnExactTasksOfWrong : ChangeSpec := { name := "fnExactTasksOf", fn := fun _ => fun
  | [d] => { results := [.lit (.bool false)], args := [d] }
  | _ => none }
def FnExactTasksOfWrongFalsely : Prop := fnExactTasksOfRow.holds Try.pinned (OpenSpec.ofChange fnExactTasksOfWrong)

/-- 'laws.FnExactRefusedDeed': WHATEVER THE INPUT: true; the input reads as it did. -/
def fnExactRefusedDeedSpec : ChangeSpec := { name := "fnExactRefusedDeed", fn := fun _ => fun
  | [d1, d2] => { results := [.lit (.bool true)], args := [d1, d2] }
  | _ => none }
def fnExactRefusedDeedRow : OpenClaim := { program := "ytomcffionomidaa", sum := "71d2cdf815071abeffb6bacc1d6e5a0cabd9904b895254c85e6a30a2550cd679", func := "loop.example/g01213/laws.FnExactRefusedDeed", spec := "fnExactRefusedDeed", unfollowed := true, recurses := true, apart := false }
def FnExactRefusedDeedSaid : Prop := fnExactRefusedDeedRow.holds Try.pinned (OpenSpec.ofChange fnExactRefusedDeedSpec)

/-- ITS FALSE NEIGHBOUR: 'it returns false'. Refute it at one input. -/
def fnExactRefusedDeedWrong : ChangeSpec := { name := "fnExactRefusedDeed", fn := fun _ => fun
  | [d1, d2] => { results := [.lit (.bool false)], args := [d1, d2] }
  | _ => none }
def FnExactRefusedDeedWrongFalsely : Prop := fnExactRefusedDeedRow.holds Try.pinned (OpenSpec.ofChange fnExactRefusedDeedWrong)

/-- 'laws.FnExactVatAfter': WHATEVER THE INPUT: true; the input reads as it did. -/
def fnExactVatAfterSpec : ChangeSpec := { name := "fnExactVatAfter", fn := fun _ => fun
  | [d1, d2, d3] => { results := [.lit (.bool true)], args := [d1, d2, d3] }
  | _ => none }
def fnExactVatAfterRow : OpenClaim := { program := "ytomcffionomidaa", sum := "71d2cdf815071abeffb6bacc1d6e5a0cabd9904b895254c85e6a30a2550cd679", func := "loop.example/g01213/laws.FnExactVatAfter", spec := "fnExactVatAfter", unfollowed := true, recurses := true, apart := false }
def FnExactVatAfterSaid : Prop := fnExactVatAfterRow.holds Try.pinned (OpenSpec.ofChange fnExactVatAfterSpec)

/-- ITS FALSE NEIGHBOUR: 'it returns false'. Refute it at one input. -/
def fnExactVatAfterWrong : ChangeSpec := { name := "fnExactVatAfter", fn := fun _ => fun
  | [d1, d2, d3] => { results := [.lit (.bool false)], args := [d1, d2, d3] }
  | _ => none }
def FnExactVatAfterWrongFalsely : Prop := fnExactVatAfterRow.holds Try.pinned (OpenSpec.ofChange fnExactVatAfterWrong)

/-- 'laws.FnExactIsAgreed': WHATEVER THE INPUT: true; the input reads as it did. -/
def fnExactIsAgreedSpec : ChangeSpec := { name := "fnExactIsAgreed", fn := fun _ => fun
  | [d1, d2] => { results := [.lit (.bool true)], args := [d1, d2] }
  | _ => none }
def fnExactIsAgreedRow : OpenClaim := { program := "ytomcffionomidaa", sum := "71d2cdf815071abeffb6bacc1d6e5a0cabd9904b895254c85e6a30a2550cd679", func := "loop.example/g01213/laws.FnExactIsAgreed", spec := "fnExactIsAgreed", unfollowed := true, recurses := true, apart := false }
def FnExactIsAgreedSaid : Prop := fnExactIsAgreedRow.holds Try.pinned (OpenSpec.ofChange fnExactIsAgreedSpec)

/-- ITS FALSE NEIGHBOUR: 'it returns false'. Refute it at one input. -/
def fnExactIsAgreedWrong : ChangeSpec := { name := "fnExactIsAgreed", fn := fun _ => fun
  | [d1, d2] => { results := [.lit (.bool false)], args := [d1, d2] }
  | _ => none }
def FnExactIsAgreedWrongFalsely : Prop := fnExactIsAgreedRow.holds Try.pinned (OpenSpec.ofChange fnExactIsAgreedWrong)

/-- 'laws.FnExactFinishDeeds': WHATEVER THE INPUT: true; the input reads as it did. -/
def fnExactFinishDeedsSpec : ChangeSpec := { name := "fnExactFinishDeeds", fn := fun _ => fun
  | [d1, d2] => { results := [.lit (.bool true)], args := [d1, d2] }
  | _ => none }
def fnExactFinishDeedsRow : OpenClaim := { program := "ytomcffionomidaa", sum := "71d2cdf815071abeffb6bacc1d6e5a0cabd9904b895254c85e6a30a2550cd679", func := "loop.example/g01213/laws.FnExactFinishDeeds", spec := "fnExactFinishDeeds", unfollowed := true, recurses := true, apart := false }
def FnExactFinishDeedsSaid : Prop := fnExactFinishDeedsRow.holds Try.pinned (OpenSpec.ofChange fnExactFinishDeedsSpec)

/-- ITS FALSE NEIGHBOUR: 'it returns false'. Refute it at one input. -/
def fnExactFinishDeedsWrong : ChangeSpec := { name := "fnExactFinishDeeds", fn := fun _ => fun
  | [d1, d2] => { results := [.lit (.bool false)], args := [d1, d2] }
  | _ => none }
def FnExactFinishDeedsWrongFalsely : Prop := fnExactFinishDeedsRow.holds Try.pinned (OpenSpec.ofChange fnExactFinishDeedsWrong)

/-- 'laws.FnExactFloorAfter': WHATEVER THE INPUT: true; the input reads as it did. -/
def fnExactFloorAfterSpec : ChangeSpec := { name := "fnExactFloorAfter", fn := fun _ => fun
  | [d1, d2] => { results := [.lit (.bool true)], args := [d1, d2] }
  | _ => none }
def fnExactFloorAfterRow : OpenClaim := { program := "ytomcffionomidaa", sum := "71d2cdf815071abeffb6bacc1d6e5a0cabd9904b895254c85e6a30a2550cd679", func := "loop.example/g01213/laws.FnExactFloorAfter", spec := "fnExactFloorAfter", unfollowed := true, recurses := true, apart := false }
def FnExactFloorAfterSaid : Prop := fnExactFloorAfterRow.holds Try.pinned (OpenSpec.ofChange fnExactFloorAfterSpec)

/-- ITS FALSE NEIGHBOUR: 'it returns false'. Refute it at one input. -/
def fnExactFloorAfterWrong : ChangeSpec := { name := "fnExactFloorAfter", fn := fun _ => fun
  | [d1, d2] => { results := [.lit (.bool false)], args := [d1, d2] }
  | _ => none }
def FnExactFloorAfterWrongFalsely : Prop := fnExactFloorAfterRow.holds Try.pinned (OpenSpec.ofChange fnExactFloorAfterWrong)

/-- 'laws.FnPoured': WHATEVER THE INPUT: true; the input reads as it did. -/
def fnPouredSpec : ChangeSpec := { name := "fnPoured", fn := fun _ => fun
  | [d1, d2] => { results := [.lit (.bool true)], args := [d1, d2] }
  | _ => none }
def fnPouredRow : OpenClaim := { program := "ytomcffionomidaa", sum := "71d2cdf815071abeffb6bacc1d6e5a0cabd9904b895254c85e6a30a2550cd679", func := "loop.example/g01213/laws.FnPoured", spec := "fnPoured", unfollowed := true, recurses := true, apart := false }
def FnPouredSaid : Prop := fnPouredRow.holds Try.pinned (OpenSpec.ofChange fnPouredSpec)

/-- ITS FALSE NEIGHBOUR: 'it returns false'. Refute it at one input. -/
def fnPouredWrong : ChangeSpec := { name := "fnPoured", fn := fun _ => fun
  | [d1, d2] => { results := [.lit (.bool false)], args := [d1, d2] }
  | _ => none }
def FnPouredWrongFalsely : Prop := fnPouredRow.holds Try.pinned (OpenSpec.ofChange fnPouredWrong)

/- THE SECOND FORM. 'bulk': how many values and letters a reading holds, each counted each time it is reached (what is shared counts as often as it is met; a slice's spare places count too). A statement '..UptoSaid' is the law's where the arguments, and the package variables that the reading takes, are together of bulk at most 1048576: NARROWER than '..Said'. Prove '..Said' where nothing that the law and all that it calls make is longer than what came in: it says more and counts as full. Else prove '..UptoSaid'. A law counts once. -/
mutual
def uptoBulk {H : Type} : DataW H → Nat
  | .lit (.string bytes) => bytes.length + 1
  | .lit _ => 1
  | .nil => 1
  | .ptr d => uptoBulk d + 1
  | .slice elems spare => uptoBulkAll elems + uptoBulkAll spare + 1
  | .agg parts => uptoBulkAll parts + 1
  | .iface _ d => uptoBulk d + 1
  | .map entries => uptoBulkEntries entries + 1
  | .held _ => 1
def uptoBulkAll {H : Type} : List (DataW H) → Nat
  | [] => 0
  | d :: r => uptoBulk d + uptoBulkAll r
def uptoBulkEntries {H : Type} : List (Lit × DataW H) → Nat
  | [] => 0
  | x :: r => uptoBulkEntry x + uptoBulkEntries r
def uptoBulkEntry {H : Type} : Lit × DataW H → Nat
  | (.string bytes, d) => bytes.length + uptoBulk d + 1
  | (_, d) => uptoBulk d + 1
 end
def uptoSmall : (H : Type) → List (DataW H) → Bool := fun _ ds => decide (uptoBulkAll ds ≤ 1048576)
def OpenSpec.upto (s : _root_.Go.ChangeSpec) : _root_.Go.OpenSpec := { _root_.Go.OpenSpec.ofChange s with cond := some uptoSmall }

/-- 'laws.FnExactTasksOf', WHERE WHAT IT READS IS OF BULK AT MOST 1048576: true; the input reads as it did. -/
def fnExactTasksOfUptoRow : OpenClaim := { program := "ytomcffionomidaa", sum := "71d2cdf815071abeffb6bacc1d6e5a0cabd9904b895254c85e6a30a2550cd679", func := "loop.example/g01213/laws.FnExactTasksOf", spec := "fnExactTasksOf", unfollowed := true, recurses := true, apart := false, narrowed := true }
def FnExactTasksOfUptoSaid : Prop := fnExactTasksOfUptoRow.holds Try.pinned (OpenSpec.upto fnExactTasksOfSpec)

/-- 'laws.FnExactRefusedDeed', WHERE WHAT IT READS IS OF BULK AT MOST 1048576: true; the input reads as it did. -/
def fnExactRefusedDeedUptoRow : OpenClaim := { program := "ytomcffionomidaa", sum := "71d2cdf815071abeffb6bacc1d6e5a0cabd9904b895254c85e6a30a2550cd679", func := "loop.example/g01213/laws.FnExactRefusedDeed", spec := "fnExactRefusedDeed", unfollowed := true, recurses := true, apart := false, narrowed := true }
def FnExactRefusedDeedUptoSaid : Prop := fnExactRefusedDeedUptoRow.holds Try.pinned (OpenSpec.upto fnExactRefusedDeedSpec)

/-- 'laws.FnExactVatAfter', WHERE WHAT IT READS IS OF BULK AT MOST 1048576: true; the input reads as it did. -/
def fnExactVatAfterUptoRow : OpenClaim := { program := "ytomcffionomidaa", sum := "71d2cdf815071abeffb6bacc1d6e5a0cabd9904b895254c85e6a30a2550cd679", func := "loop.example/g01213/laws.FnExactVatAfter", spec := "fnExactVatAfter", unfollowed := true, recurses := true, apart := false, narrowed := true }
def FnExactVatAfterUptoSaid : Prop := fnExactVatAfterUptoRow.holds Try.pinned (OpenSpec.upto fnExactVatAfterSpec)

/-- 'laws.FnExactIsAgreed', WHERE WHAT IT READS IS OF BULK AT MOST 1048576: true; the input reads as it did. -/
def fnExactIsAgreedUptoRow : OpenClaim := { program := "ytomcffionomidaa", sum := "71d2cdf815071abeffb6bacc1d6e5a0cabd9904b895254c85e6a30a2550cd679", func := "loop.example/g01213/laws.FnExactIsAgreed", spec := "fnExactIsAgreed", unfollowed := true, recurses := true, apart := false, narrowed := true }
def FnExactIsAgreedUptoSaid : Prop := fnExactIsAgreedUptoRow.holds Try.pinned (OpenSpec.upto fnExactIsAgreedSpec)

/-- 'laws.FnExactFinishDeeds', WHERE WHAT IT READS IS OF BULK AT MOST 1048576: true; the input reads as it did. -/
def fnExactFinishDeedsUptoRow : OpenClaim := { program := "ytomcffionomidaa", sum := "71d2cdf815071abeffb6bacc1d6e5a0cabd9904b895254c85e6a30a2550cd679", func := "loop.example/g01213/laws.FnExactFinishDeeds", spec := "fnExactFinishDeeds", unfollowed := true, recurses := true, apart := false, narrowed := true }
def FnExactFinishDeedsUptoSaid : Prop := fnExactFinishDeedsUptoRow.holds Try.pinned (OpenSpec.upto fnExactFinishDeedsSpec)

/-- 'laws.FnExactFloorAfter', WHERE WHAT IT READS IS OF BULK AT MOST 1048576: true; the input reads as it did. -/
def fnExactFloorAfterUptoRow : OpenClaim := { program := "ytomcffionomidaa", sum := "71d2cdf815071abeffb6bacc1d6e5a0cabd9904b895254c85e6a30a2550cd679", func := "loop.example/g01213/laws.FnExactFloorAfter", spec := "fnExactFloorAfter", unfollowed := true, recurses := true, apart := false, narrowed := true }
def FnExactFloorAfterUptoSaid : Prop := fnExactFloorAfterUptoRow.holds Try.pinned (OpenSpec.upto fnExactFloorAfterSpec)

/-- 'laws.FnPoured', WHERE WHAT IT READS IS OF BULK AT MOST 1048576: true; the input reads as it did. -/
def fnPouredUptoRow : OpenClaim := { program := "ytomcffionomidaa", sum := "71d2cdf815071abeffb6bacc1d6e5a0cabd9904b895254c85e6a30a2550cd679", func := "loop.example/g01213/laws.FnPoured", spec := "fnPoured", unfollowed := true, recurses := true, apart := false, narrowed := true }
def FnPouredUptoSaid : Prop := fnPouredUptoRow.holds Try.pinned (OpenSpec.upto fnPouredSpec)

end Rows
end Go.Proofs.Ytomcffionomidaa
