/-
  No cell of these rows narrows 'for every input' (looked for: loops, veiled, ifaces, maps, wideKeys, modest, calm, conditions, laid).
  DERIVED. THE GIVEN ROWS OF THIS SEAT. 6 by the template 'for every input the law returns true; each argument reads behind the call as it read before'; 0 by the template 'total and deterministic' (their statements: YtohlmkmejiimkaaTotals.lean).
  GIVEN WITH THE SEED: the statements are not yours to turn. If you find one false, say at which input.
  Laid BY PROGRAM, IN A SANDBOX (cutbox-rows.mjs): the forced cells as the released guide's own fill.sh prints them over the translation 4925f566c9d641de… (all of the seat's roots in one cut). By AI agents, Wed Nov 11 2026. No macro, syntax, notation, axiom, sorry.
-/
import Derived.Test.YtohlmkmejiimkaaChecked
import GoSem.Claim
import GoSem.ClaimJoined
import GoSem.ClaimMapViews
import Derived.JoinedTies
import Derived.KernelRfl
namespace Go.Proofs.Ytohlmkmejiimkaa
/- THE CELL 'sum', in the pinned program and in every row, IS THE sha256 OF THE DUMP (.gsa) THAT YtohlmkmejiimkaaProg.lean LOADS. Nothing in Lean hashes anything: it is a label: what it is worth is what the hold of that sum in a sandbox is worth. -/
noncomputable def Try.pinned : Pinned := { name := "ytohlmkmejiimkaa", sum := "4925f566c9d641de0f6cc76622a3727bd7b3cb2b39a4450c5c90ca056203de1e", checked := Try.checked }
namespace Rows
def none {H : Type} : Left H := { results := [], args := [] }

/-- 'laws.FnExactBreachName': WHATEVER THE INPUT: true; the input reads as it did. -/
def fnExactBreachNameSpec : ChangeSpec := { name := "fnExactBreachName", fn := fun _ => fun
  | [d] => { results := [.lit (.bool true)], args := [d] }
  | _ => none }
def fnExactBreachNameRow : OpenClaim := { program := "ytohlmkmejiimkaa", sum := "4925f566c9d641de0f6cc76622a3727bd7b3cb2b39a4450c5c90ca056203de1e", func := "loop.example/g00832/laws.FnExactBreachName", spec := "fnExactBreachName", apart := false }
def FnExactBreachNameSaid : Prop := fnExactBreachNameRow.holds Try.pinned (OpenSpec.ofChange fnExactBreachNameSpec)

/-- ITS FALSE NEIGHBOUR: 'it returns false'. Refute it at one input. -/
def fnExactBreachNameWrong : ChangeSpec := { name := "fnExactBreachName", fn := fun _ => fun
  | [d] => { results := [.lit (.bool false)], args := [d] }
  | _ => none }
def FnExactBreachNameWrongFalsely : Prop := fnExactBreachNameRow.holds Try.pinned (OpenSpec.ofChange fnExactBreachNameWrong)

/-- 'laws.FnExactRuleOk': WHATEVER THE INPUT: true; the input reads as it did. -/
def fnExactRuleOkSpec : ChangeSpec := { name := "fnExactRuleOk", fn := fun _ => fun
  | [d] => { results := [.lit (.bool true)], args := [d] }
  | _ => none }
def fnExactRuleOkRow : OpenClaim := { program := "ytohlmkmejiimkaa", sum := "4925f566c9d641de0f6cc76622a3727bd7b3cb2b39a4450c5c90ca056203de1e", func := "loop.example/g00832/laws.FnExactRuleOk", spec := "fnExactRuleOk", apart := false }
def FnExactRuleOkSaid : Prop := fnExactRuleOkRow.holds Try.pinned (OpenSpec.ofChange fnExactRuleOkSpec)

/-- ITS FALSE NEIGHBOUR: 'it returns false'. Refute it at one input. -/
def fnExactRuleOkWrong : ChangeSpec := { name := "fnExactRuleOk", fn := fun _ => fun
  | [d] => { results := [.lit (.bool false)], args := [d] }
  | _ => none }
def FnExactRuleOkWrongFalsely : Prop := fnExactRuleOkRow.holds Try.pinned (OpenSpec.ofChange fnExactRuleOkWrong)

/-- 'laws.FnExactStricterRule': WHATEVER THE INPUT: true; the input reads as it did. -/
def fnExactStricterRuleSpec : ChangeSpec := { name := "fnExactStricterRule", fn := fun _ => fun
  | [d1, d2] => { results := [.lit (.bool true)], args := [d1, d2] }
  | _ => none }
def fnExactStricterRuleRow : OpenClaim := { program := "ytohlmkmejiimkaa", sum := "4925f566c9d641de0f6cc76622a3727bd7b3cb2b39a4450c5c90ca056203de1e", func := "loop.example/g00832/laws.FnExactStricterRule", spec := "fnExactStricterRule", apart := false }
def FnExactStricterRuleSaid : Prop := fnExactStricterRuleRow.holds Try.pinned (OpenSpec.ofChange fnExactStricterRuleSpec)

/-- ITS FALSE NEIGHBOUR: 'it returns false'. Refute it at one input. -/
def fnExactStricterRuleWrong : ChangeSpec := { name := "fnExactStricterRule", fn := fun _ => fun
  | [d1, d2] => { results := [.lit (.bool false)], args := [d1, d2] }
  | _ => none }
def FnExactStricterRuleWrongFalsely : Prop := fnExactStricterRuleRow.holds Try.pinned (OpenSpec.ofChange fnExactStricterRuleWrong)

/-- 'laws.FnExactSeriesOk': WHATEVER THE INPUT: true; the input reads as it did. -/
def fnExactSeriesOkSpec : ChangeSpec := { name := "fnExactSeriesOk", fn := fun _ => fun
  | [d] => { results := [.lit (.bool true)], args := [d] }
  | _ => none }
def fnExactSeriesOkRow : OpenClaim := { program := "ytohlmkmejiimkaa", sum := "4925f566c9d641de0f6cc76622a3727bd7b3cb2b39a4450c5c90ca056203de1e", func := "loop.example/g00832/laws.FnExactSeriesOk", spec := "fnExactSeriesOk", apart := false }
def FnExactSeriesOkSaid : Prop := fnExactSeriesOkRow.holds Try.pinned (OpenSpec.ofChange fnExactSeriesOkSpec)

/-- ITS FALSE NEIGHBOUR: 'it returns false'. Refute it at one input. -/
def fnExactSeriesOkWrong : ChangeSpec := { name := "fnExactSeriesOk", fn := fun _ => fun
  | [d] => { results := [.lit (.bool false)], args := [d] }
  | _ => none }
def FnExactSeriesOkWrongFalsely : Prop := fnExactSeriesOkRow.holds Try.pinned (OpenSpec.ofChange fnExactSeriesOkWrong)

/-- 'laws.FnExactTariffOk': WHATEVER THE INPUT: true; the input reads as it did. -/
def fnExactTariffOkSpec : ChangeSpec := { name := "fnExactTariffOk", fn := fun _ => fun
  | [d] => { results := [.lit (.bool true)], args := [d] }
  | _ => none }
def fnExactTariffOkRow : OpenClaim := { program := "ytohlmkmejiimkaa", sum := "4925f566c9d641de0f6cc76622a3727bd7b3cb2b39a4450c5c90ca056203de1e", func := "loop.example/g00832/laws.FnExactTariffOk", spec := "fnExactTariffOk", apart := false }
def FnExactTariffOkSaid : Prop := fnExactTariffOkRow.holds Try.pinned (OpenSpec.ofChange fnExactTariffOkSpec)

/-- ITS FALSE NEIGHBOUR: 'it returns false'. Refute it at one input. -/
def fnExactTariffOkWrong : ChangeSpec := { name := "fnExactTariffOk", fn := fun _ => fun
  | [d] => { results := [.lit (.bool false)], args := [d] }
  | _ => none }
def FnExactTariffOkWrongFalsely : Prop := fnExactTariffOkRow.holds Try.pinned (OpenSpec.ofChange fnExactTariffOkWrong)

/-- 'laws.FnExactAsksOk': WHATEVER THE INPUT: true; the input reads as it did. -/
def fnExactAsksOkSpec : ChangeSpec := { name := "fnExactAsksOk", fn := fun _ => fun
  | [d] => { results := [.lit (.bool true)], args := [d] }
  | _ => none }
def fnExactAsksOkRow : OpenClaim := { program := "ytohlmkmejiimkaa", sum := "4925f566c9d641de0f6cc76622a3727bd7b3cb2b39a4450c5c90ca056203de1e", func := "loop.example/g00832/laws.FnExactAsksOk", spec := "fnExactAsksOk", apart := false }
def FnExactAsksOkSaid : Prop := fnExactAsksOkRow.holds Try.pinned (OpenSpec.ofChange fnExactAsksOkSpec)

/-- ITS FALSE NEIGHBOUR: 'it returns false'. Refute it at one input. -/
def fnExactAsksOkWrong : ChangeSpec := { name := "fnExactAsksOk", fn := fun _ => fun
  | [d] => { results := [.lit (.bool false)], args := [d] }
  | _ => none }
def FnExactAsksOkWrongFalsely : Prop := fnExactAsksOkRow.holds Try.pinned (OpenSpec.ofChange fnExactAsksOkWrong)

/- THE SECOND FORM. 'bulk': how many values and letters a reading holds, each counted each time it is reached (what is shared counts as often as it is met; a slice's spare places count too). A statement '..UptoSaid' is the law's where the arguments, and the package variables that the reading takes, are together of bulk at most 1048576: NARROWER than '..Said'. Prove '..Said' where nothing that the law and all that it calls make is longer than what came in: it says more and counts as full. Else prove '..UptoSaid'. A law counts once. -/
mutual
def uptoBulk {H : Type} : DataW H → Nat
  | .lit (.string bytes) => bytes.length + 1
  | .lit _ => 1
  | .nil => 1
  | .ptr d => uptoBulk d + 1
  | .slice elems spare => uptoBulkAll elems + uptoBulkAll spare + 1
  | .agg parts => uptoBulkAll parts + 1
  | .iface _ d => uptoBulk d + 1
  | .map entries => uptoBulkEntries entries + 1
  | .held _ => 1
def uptoBulkAll {H : Type} : List (DataW H) → Nat
  | [] => 0
  | d :: r => uptoBulk d + uptoBulkAll r
def uptoBulkEntries {H : Type} : List (Lit × DataW H) → Nat
  | [] => 0
  | x :: r => uptoBulkEntry x + uptoBulkEntries r
def uptoBulkEntry {H : Type} : Lit × DataW H → Nat
  | (.string bytes, d) => bytes.length + uptoBulk d + 1
  | (_, d) => uptoBulk d + 1
 end
def uptoSmall : (H : Type) → List (DataW H) → Bool := fun _ ds => decide (uptoBulkAll ds ≤ 1048576)
def OpenSpec.upto (s : _root_.Go.ChangeSpec) : _root_.Go.OpenSpec := { _root_.Go.OpenSpec.ofChange s with cond := some uptoSmall }

/-- 'laws.FnExactBreachName', WHERE WHAT IT READS IS OF BULK AT MOST 1048576: true; the input reads as it did. -/
def fnExactBreachNameUptoRow : OpenClaim := { program := "ytohlmkmejiimkaa", sum := "4925f566c9d641de0f6cc76622a3727bd7b3cb2b39a4450c5c90ca056203de1e", func := "loop.example/g00832/laws.FnExactBreachName", spec := "fnExactBreachName", apart := false, narrowed := true }
def FnExactBreachNameUptoSaid : Prop := fnExactBreachNameUptoRow.holds Try.pinned (OpenSpec.upto fnExactBreachNameSpec)

/-- 'laws.FnExactRuleOk', WHERE WHAT IT READS IS OF BULK AT MOST 1048576: true; the input reads as it did. -/
def fnExactRuleOkUptoRow : OpenClaim := { program := "ytohlmkmejiimkaa", sum := "4925f566c9d641de0f6cc76622a3727bd7b3cb2b39a4450c5c90ca056203de1e", func := "loop.example/g00832/laws.FnExactRuleOk", spec := "fnExactRuleOk", apart := false, narrowed := true }
def FnExactRuleOkUptoSaid : Prop := fnExactRuleOkUptoRow.holds Try.pinned (OpenSpec.upto fnExactRuleOkSpec)

/-- 'laws.FnExactStricterRule', WHERE WHAT IT READS IS OF BULK AT MOST 1048576: true; the input reads as it did. -/
def fnExactStricterRuleUptoRow : OpenClaim := { program := "ytohlmkmejiimkaa", sum := "4925f566c9d641de0f6cc76622a3727bd7b3cb2b39a4450c5c90ca056203de1e", func := "loop.example/g00832/laws.FnExactStricterRule", spec := "fnExactStricterRule", apart := false, narrowed := true }
def FnExactStricterRuleUptoSaid : Prop := fnExactStricterRuleUptoRow.holds Try.pinned (OpenSpec.upto fnExactStricterRuleSpec)

/-- 'laws.FnExactSeriesOk', WHERE WHAT IT READS IS OF BULK AT MOST 1048576: true; the input reads as it did. -/
def fnExactSeriesOkUptoRow : OpenClaim := { program := "ytohlmkmejiimkaa", sum := "4925f566c9d641de0f6cc76622a3727bd7b3cb2b39a4450c5c90ca056203de1e", func := "loop.example/g00832/laws.FnExactSeriesOk", spec := "fnExactSeriesOk", apart := false, narrowed := true }
def FnExactSeriesOkUptoSaid : Prop := fnExactSeriesOkUptoRow.holds Try.pinned (OpenSpec.upto fnExactSeriesOkSpec)

/-- 'laws.FnExactTariffOk', WHERE WHAT IT READS IS OF BULK AT MOST 1048576: true; the input reads as it did. -/
def fnExactTariffOkUptoRow : OpenClaim := { program := "ytohlmkmejiimkaa", sum := "4925f566c9d641de0f6cc76622a3727bd7b3cb2b39a4450c5c90ca056203de1e", func := "loop.example/g00832/laws.FnExactTariffOk", spec := "fnExactTariffOk", apart := false, narrowed := true }
def FnExactTariffOkUptoSaid : Prop := fnExactTariffOkUptoRow.holds Try.pinned (OpenSpec.upto fnExactTariffOkSpec)

/-- 'laws.FnExactAsksOk', WHERE WHAT IT READS IS OF BULK AT MOST 1048576: true; the input reads as it did. -/
def fnExactAsksOkUptoRow : OpenClaim := { program := "ytohlmkmejiimkaa", sum := "4925f566c9d641de0f6cc76622a3727bd7b3cb2b39a4450c5c90ca056203de1e", func := "loop.example/g00832/laws.FnExactAsksOk", spec := "fnExactAsksOk", apart := false, narrowed := true }
def FnExactAsksOkUptoSaid : Prop := fnExactAsksOkUptoRow.holds Try.pinned (OpenSpec.upto fnExactAsksOkSpec)

end Rows
end Go.Proofs.Ytohlmkmejiimkaa
