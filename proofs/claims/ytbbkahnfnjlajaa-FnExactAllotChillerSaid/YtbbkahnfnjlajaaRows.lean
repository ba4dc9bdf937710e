/-
  No cell of these rows narrows 'for every input' (looked for: loops, veiled, ifaces, maps, wideKeys, modest, calm, conditions, laid).
  DERIVED. THE GIVEN ROWS OF THIS SEAT. 6 by the template 'for every input the law returns true; each argument reads behind the call as it read before'; 0 by the template 'total and deterministic' (their statements: YtbbkahnfnjlajaaTotals.lean).
  GIVEN WITH THE SEED: the statements are not yours to turn. If you find one false, say at which input.
  Laid BY PROGRAM, IN A SANDBOX (cutbox-rows.mjs): the forced cells as the released guide's own fill.sh prints them over the translation 7aac0aa52c0af3ea… (all of the seat's roots in one cut). By AI agents, Wed Nov 11 2026. No macro, syntax, notation, axiom, sorry.
-/
import Derived.Test.YtbbkahnfnjlajaaChecked
import GoSem.Claim
import GoSem.ClaimJoined
import GoSem.ClaimMapViews
import Derived.JoinedTies
import Derived.KernelRfl
namespace Go.Proofs.Ytbbkahnfnjlajaa
/- THE CELL 'sum', in the pinned program and in every row, IS THE sha256 OF THE DUMP (.gsa) THAT YtbbkahnfnjlajaaProg.lean LOADS. Nothing in Lean hashes anything: it is a label: what it is worth is what the hold of that sum in a sandbox is worth. -/
noncomputable def Try.pinned : Pinned := { name := "ytbbkahnfnjlajaa", sum := "7aac0aa52c0af3ea9863ffbcb9a981671e427bd6cb6a9da4c062c0178fe33856", checked := Try.checked }
namespace Rows
def none {H : Type} : Left H := { results := [], args := [] }

/-- 'laws.FnExactCheapestInput': WHATEVER THE INPUT: true; the input reads as it did. -/
def fnExactCheapestInputSpec : ChangeSpec := { name := "fnExactCheapestInput", fn := fun _ => fun
  | [d] => { results := [.lit (.bool true)], args := [d] }
  | _ => none }
def fnExactCheapestInputRow : OpenClaim := { program := "ytbbkahnfnjlajaa", sum := "7aac0aa52c0af3ea9863ffbcb9a981671e427bd6cb6a9da4c062c0178fe33856", func := "loop.example/g00832/laws.FnExactCheapestInput", spec := "fnExactCheapestInput", apart := false }
def FnExactCheapestInputSaid : Prop := fnExactCheapestInputRow.holds Try.pinned (OpenSpec.ofChange fnExactCheapestInputSpec)

/-- ITS FALSE NEIGHBOUR: 'it returns false'. Refute it at one input. -/
def fnExactCheapestInputWrong : ChangeSpec := { name := "fnExactCheapestInput", fn := fun _ => fun
  | [d] => { results := [.lit (.bool false)], args := [d] }
  | _ => none }
def FnExactCheapestInputWrongFalsely : Prop := fnExactCheapestInputRow.holds Try.pinned (OpenSpec.ofChange fnExactCheapestInputWrong)

/-- 'laws.FnExactAskOf': WHATEVER THE INPUT: true; the input reads as it did. -/
def fnExactAskOfSpec : ChangeSpec := { name := "fnExactAskOf", fn := fun _ => fun
  | [d1, d2, d3] => { results := [.lit (.bool true)], args := [d1, d2, d3] }
  | _ => none }
def fnExactAskOfRow : OpenClaim := { program := "ytbbkahnfnjlajaa", sum := "7aac0aa52c0af3ea9863ffbcb9a981671e427bd6cb6a9da4c062c0178fe33856", func := "loop.example/g00832/laws.FnExactAskOf", spec := "fnExactAskOf", apart := false }
def FnExactAskOfSaid : Prop := fnExactAskOfRow.holds Try.pinned (OpenSpec.ofChange fnExactAskOfSpec)

/-- ITS FALSE NEIGHBOUR: 'it returns false'. Refute it at one input. -/
def fnExactAskOfWrong : ChangeSpec := { name := "fnExactAskOf", fn := fun _ => fun
  | [d1, d2, d3] => { results := [.lit (.bool false)], args := [d1, d2, d3] }
  | _ => none }
def FnExactAskOfWrongFalsely : Prop := fnExactAskOfRow.holds Try.pinned (OpenSpec.ofChange fnExactAskOfWrong)

/-- 'laws.FnAsks': WHATEVER THE INPUT: true; the input reads as it did. -/
def fnAsksSpec : ChangeSpec := { name := "fnAsks", fn := fun _ => fun
  | [d] => { results := [.lit (.bool true)], args := [d] }
  | _ => none }
def fnAsksRow : OpenClaim := { program := "ytbbkahnfnjlajaa", sum := "7aac0aa52c0af3ea9863ffbcb9a981671e427bd6cb6a9da4c062c0178fe33856", func := "loop.example/g00832/laws.FnAsks", spec := "fnAsks", apart := false }
def FnAsksSaid : Prop := fnAsksRow.holds Try.pinned (OpenSpec.ofChange fnAsksSpec)

/-- ITS FALSE NEIGHBOUR: 'it returns false'. Refute it at one input. -/
def fnAsksWrong : ChangeSpec := { name := "fnAsks", fn := fun _ => fun
  | [d] => { results := [.lit (.bool false)], args := [d] }
  | _ => none }
def FnAsksWrongFalsely : Prop := fnAsksRow.holds Try.pinned (OpenSpec.ofChange fnAsksWrong)

/-- 'laws.FnExactRankOrder': WHATEVER THE INPUT: true; the input reads as it did. -/
def fnExactRankOrderSpec : ChangeSpec := { name := "fnExactRankOrder", fn := fun _ => fun
  | [d] => { results := [.lit (.bool true)], args := [d] }
  | _ => none }
def fnExactRankOrderRow : OpenClaim := { program := "ytbbkahnfnjlajaa", sum := "7aac0aa52c0af3ea9863ffbcb9a981671e427bd6cb6a9da4c062c0178fe33856", func := "loop.example/g00832/laws.FnExactRankOrder", spec := "fnExactRankOrder", unfollowed := true, recurses := true, apart := false }
def FnExactRankOrderSaid : Prop := fnExactRankOrderRow.holds Try.pinned (OpenSpec.ofChange fnExactRankOrderSpec)

/-- ITS FALSE NEIGHBOUR: 'it returns false'. Refute it at one input. -/
def fnExactRankOrderWrong : ChangeSpec := { name := "fnExactRankOrder", fn := fun _ => fun
  | [d] => { results := [.lit (.bool false)], args := [d] }
  | _ => none }
def FnExactRankOrderWrongFalsely : Prop := fnExactRankOrderRow.holds Try.pinned (OpenSpec.ofChange fnExactRankOrderWrong)

/-- 'laws.FnExactAllotChiller': WHATEVER THE INPUT: true; the input reads as it did. -/
def fnExactAllotChillerSpec : ChangeSpec := { name := "fnExactAllotChiller", fn := fun _ => fun
  | [d1, d2] => { results := [.lit (.bool true)], args := [d1, d2] }
  | _ => none }
def fnExactAllotChillerRow : OpenClaim := { program := "ytbbkahnfnjlajaa", sum := "7aac0aa52c0af3ea9863ffbcb9a981671e427bd6cb6a9da4c062c0178fe33856", func := "loop.example/g00832/laws.FnExactAllotChiller", spec := "fnExactAllotChiller", unfollowed := true, recurses := true, apart := false }
def FnExactAllotChillerSaid : Prop := fnExactAllotChillerRow.holds Try.pinned (OpenSpec.ofChange fnExactAllotChillerSpec)

/-- ITS FALSE NEIGHBOUR: 'it returns false'. Refute it at one input. -/
def fnExactAllotChillerWrong : ChangeSpec := { name := "fnExactAllotChiller", fn := fun _ => fun
  | [d1, d2] => { results := [.lit (.bool false)], args := [d1, d2] }
  | _ => none }
def FnExactAllotChillerWrongFalsely : Prop := fnExactAllotChillerRow.holds Try.pinned (OpenSpec.ofChange fnExactAllotChillerWrong)

/-- 'laws.FnExactCheapPeriods': WHATEVER THE INPUT: true; the input reads as it did. -/
def fnExactCheapPeriodsSpec : ChangeSpec := { name := "fnExactCheapPeriods", fn := fun _ => fun
  | [d1, d2] => { results := [.lit (.bool true)], args := [d1, d2] }
  | _ => none }
def fnExactCheapPeriodsRow : OpenClaim := { program := "ytbbkahnfnjlajaa", sum := "7aac0aa52c0af3ea9863ffbcb9a981671e427bd6cb6a9da4c062c0178fe33856", func := "loop.example/g00832/laws.FnExactCheapPeriods", spec := "fnExactCheapPeriods", unfollowed := true, recurses := true, apart := false }
def FnExactCheapPeriodsSaid : Prop := fnExactCheapPeriodsRow.holds Try.pinned (OpenSpec.ofChange fnExactCheapPeriodsSpec)

/-- ITS FALSE NEIGHBOUR: 'it returns false'. Refute it at one input. -/
def fnExactCheapPeriodsWrong : ChangeSpec := { name := "fnExactCheapPeriods", fn := fun _ => fun
  | [d1, d2] => { results := [.lit (.bool false)], args := [d1, d2] }
  | _ => none }
def FnExactCheapPeriodsWrongFalsely : Prop := fnExactCheapPeriodsRow.holds Try.pinned (OpenSpec.ofChange fnExactCheapPeriodsWrong)

/- THE SECOND FORM. 'bulk': how many values and letters a reading holds, each counted each time it is reached (what is shared counts as often as it is met; a slice's spare places count too). A statement '..UptoSaid' is the law's where the arguments, and the package variables that the reading takes, are together of bulk at most 1048576: NARROWER than '..Said'. Prove '..Said' where nothing that the law and all that it calls make is longer than what came in: it says more and counts as full. Else prove '..UptoSaid'. A law counts once. -/
mutual
def uptoBulk {H : Type} : DataW H → Nat
  | .lit (.string bytes) => bytes.length + 1
  | .lit _ => 1
  | .nil => 1
  | .ptr d => uptoBulk d + 1
  | .slice elems spare => uptoBulkAll elems + uptoBulkAll spare + 1
  | .agg parts => uptoBulkAll parts + 1
  | .iface _ d => uptoBulk d + 1
  | .map entries => uptoBulkEntries entries + 1
  | .held _ => 1
def uptoBulkAll {H : Type} : List (DataW H) → Nat
  | [] => 0
  | d :: r => uptoBulk d + uptoBulkAll r
def uptoBulkEntries {H : Type} : List (Lit × DataW H) → Nat
  | [] => 0
  | x :: r => uptoBulkEntry x + uptoBulkEntries r
def uptoBulkEntry {H : Type} : Lit × DataW H → Nat
  | (.string bytes, d) => bytes.length + uptoBulk d + 1
  | (_, d) => uptoBulk d + 1
 end
def uptoSmall : (H : Type) → List (DataW H) → Bool := fun _ ds => decide (uptoBulkAll ds ≤ 1048576)
def OpenSpec.upto (s : _root_.Go.ChangeSpec) : _root_.Go.OpenSpec := { _root_.Go.OpenSpec.ofChange s with cond := some uptoSmall }

/-- 'laws.FnExactCheapestInput', WHERE WHAT IT READS IS OF BULK AT MOST 1048576: true; the input reads as it did. -/
def fnExactCheapestInputUptoRow : OpenClaim := { program := "ytbbkahnfnjlajaa", sum := "7aac0aa52c0af3ea9863ffbcb9a981671e427bd6cb6a9da4c062c0178fe33856", func := "loop.example/g00832/laws.FnExactCheapestInput", spec := "fnExactCheapestInput", apart := false, narrowed := true }
def FnExactCheapestInputUptoSaid : Prop := fnExactCheapestInputUptoRow.holds Try.pinned (OpenSpec.upto fnExactCheapestInputSpec)

/-- 'laws.FnExactAskOf', WHERE WHAT IT READS IS OF BULK AT MOST 1048576: true; the input reads as it did. -/
def fnExactAskOfUptoRow : OpenClaim := { program := "ytbbkahnfnjlajaa", sum := "7aac0aa52c0af3ea9863ffbcb9a981671e427bd6cb6a9da4c062c0178fe33856", func := "loop.example/g00832/laws.FnExactAskOf", spec := "fnExactAskOf", apart := false, narrowed := true }
def FnExactAskOfUptoSaid : Prop := fnExactAskOfUptoRow.holds Try.pinned (OpenSpec.upto fnExactAskOfSpec)

/-- 'laws.FnAsks', WHERE WHAT IT READS IS OF BULK AT MOST 1048576: true; the input reads as it did. -/
def fnAsksUptoRow : OpenClaim := { program := "ytbbkahnfnjlajaa", sum := "7aac0aa52c0af3ea9863ffbcb9a981671e427bd6cb6a9da4c062c0178fe33856", func := "loop.example/g00832/laws.FnAsks", spec := "fnAsks", apart := false, narrowed := true }
def FnAsksUptoSaid : Prop := fnAsksUptoRow.holds Try.pinned (OpenSpec.upto fnAsksSpec)

/-- 'laws.FnExactRankOrder', WHERE WHAT IT READS IS OF BULK AT MOST 1048576: true; the input reads as it did. -/
def fnExactRankOrderUptoRow : OpenClaim := { program := "ytbbkahnfnjlajaa", sum := "7aac0aa52c0af3ea9863ffbcb9a981671e427bd6cb6a9da4c062c0178fe33856", func := "loop.example/g00832/laws.FnExactRankOrder", spec := "fnExactRankOrder", unfollowed := true, recurses := true, apart := false, narrowed := true }
def FnExactRankOrderUptoSaid : Prop := fnExactRankOrderUptoRow.holds Try.pinned (OpenSpec.upto fnExactRankOrderSpec)

/-- 'laws.FnExactAllotChiller', WHERE WHAT IT READS IS OF BULK AT MOST 1048576: true; the input reads as it did. -/
def fnExactAllotChillerUptoRow : OpenClaim := { program := "ytbbkahnfnjlajaa", sum := "7aac0aa52c0af3ea9863ffbcb9a981671e427bd6cb6a9da4c062c0178fe33856", func := "loop.example/g00832/laws.FnExactAllotChiller", spec := "fnExactAllotChiller", unfollowed := true, recurses := true, apart := false, narrowed := true }
def FnExactAllotChillerUptoSaid : Prop := fnExactAllotChillerUptoRow.holds Try.pinned (OpenSpec.upto fnExactAllotChillerSpec)

/-- 'laws.FnExactCheapPeriods', WHERE WHAT IT READS IS OF BULK AT MOST 1048576: true; the input reads as it did. -/
def fnExactCheapPeriodsUptoRow : OpenClaim := { program := "ytbbkahnfnjlajaa", sum := "7aac0aa52c0af3ea9863ffbcb9a981671e427bd6cb6a9da4c062c0178fe33856", func := "loop.example/g00832/laws.FnExactCheapPeriods", spec := "fnExactCheapPeriods", unfollowed := true, recurses := true, apart := false, narrowed := true }
def FnExactCheapPeriodsUptoSaid : Prop := fnExactCheapPeriodsUptoRow.holds Try.pinned (OpenSpec.upto fnExactCheapPeriodsSpec)

end Rows
end Go.Proofs.Ytbbkahnfnjlajaa
