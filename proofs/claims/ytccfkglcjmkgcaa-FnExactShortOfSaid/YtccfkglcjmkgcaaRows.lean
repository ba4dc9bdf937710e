/-
  No cell of these rows narrows 'for every input' (looked for: loops, veiled, ifaces, maps, wideKeys, modest, calm, conditions, laid).
  DERIVED. THE GIVEN ROWS OF THIS SEAT. 12 by the template 'for every input the law returns true; each argument reads behind the call as it read before'; 0 by the template 'total and deterministic' (their statements: YtccfkglcjmkgcaaTotals.lean).
  GIVEN WITH THE SEED: the statements are not yours to turn. If you find one false, say at which input.
  Laid BY PROGRAM, IN A SANDBOX (cutbox-rows.mjs): the forced cells as the released guide's own fill.sh prints them over the translation 36c3ef6a7c707273… (all of the seat's roots in one cut). By AI agents, Wed Nov 11 2026. No macro, syntax, notation, axiom, sorry.
-/
import Derived.Test.YtccfkglcjmkgcaaChecked
import GoSem.Claim
import GoSem.ClaimJoined
import GoSem.ClaimMapViews
import Derived.JoinedTies
import Derived.KernelRfl
namespace Go.Proofs.Ytccfkglcjmkgcaa
/- THE CELL 'sum', in the pinned program and in every row, IS THE sha256 OF THE DUMP (.gsa) THAT YtccfkglcjmkgcaaProg.lean LOADS. Nothing in Lean hashes anything: it is a label: what it is worth is what the hold of that sum in a sandbox is worth. -/
noncomputable def Try.pinned : Pinned := { name := "ytccfkglcjmkgcaa", sum := "36c3ef6a7c7072736e8e157b61867d5eb478c3bba6af5277dd5c2bdf0434ac01", checked := Try.checked }
namespace Rows
def none {H : Type} : Left H := { results := [], args := [] }

/-- 'laws.FnExactPriceAt': WHATEVER THE INPUT: true; the input reads as it did. -/
def fnExactPriceAtSpec : ChangeSpec := { name := "fnExactPriceAt", fn := fun _ => fun
  | [d1, d2] => { results := [.lit (.bool true)], args := [d1, d2] }
  | _ => none }
def fnExactPriceAtRow : OpenClaim := { program := "ytccfkglcjmkgcaa", sum := "36c3ef6a7c7072736e8e157b61867d5eb478c3bba6af5277dd5c2bdf0434ac01", func := "loop.example/g00832/laws.FnExactPriceAt", spec := "fnExactPriceAt", apart := false }
def FnExactPriceAtSaid : Prop := fnExactPriceAtRow.holds Try.pinned (OpenSpec.ofChange fnExactPriceAtSpec)

/-- ITS FALSE NEIGHBOUR: 'it returns false'. Refute it at one input. -/
def fnExactPriceAtWrong : ChangeSpec := { name := "fnExactPriceAt", fn := fun _ => fun
  | [d1, d2] => { results := [.lit (.bool false)], args := [d1, d2] }
  | _ => none }
def FnExactPriceAtWrongFalsely : Prop := fnExactPriceAtRow.holds Try.pinned (OpenSpec.ofChange fnExactPriceAtWrong)

/-- 'laws.FnExactFullCap': WHATEVER THE INPUT: true; the input reads as it did. -/
def fnExactFullCapSpec : ChangeSpec := { name := "fnExactFullCap", fn := fun _ => fun
  | [d] => { results := [.lit (.bool true)], args := [d] }
  | _ => none }
def fnExactFullCapRow : OpenClaim := { program := "ytccfkglcjmkgcaa", sum := "36c3ef6a7c7072736e8e157b61867d5eb478c3bba6af5277dd5c2bdf0434ac01", func := "loop.example/g00832/laws.FnExactFullCap", spec := "fnExactFullCap", apart := false }
def FnExactFullCapSaid : Prop := fnExactFullCapRow.holds Try.pinned (OpenSpec.ofChange fnExactFullCapSpec)

/-- ITS FALSE NEIGHBOUR: 'it returns false'. Refute it at one input. -/
def fnExactFullCapWrong : ChangeSpec := { name := "fnExactFullCap", fn := fun _ => fun
  | [d] => { results := [.lit (.bool false)], args := [d] }
  | _ => none }
def FnExactFullCapWrongFalsely : Prop := fnExactFullCapRow.holds Try.pinned (OpenSpec.ofChange fnExactFullCapWrong)

/-- 'laws.FnExactLeastCap': WHATEVER THE INPUT: true; the input reads as it did. -/
def fnExactLeastCapSpec : ChangeSpec := { name := "fnExactLeastCap", fn := fun _ => fun
  | [d] => { results := [.lit (.bool true)], args := [d] }
  | _ => none }
def fnExactLeastCapRow : OpenClaim := { program := "ytccfkglcjmkgcaa", sum := "36c3ef6a7c7072736e8e157b61867d5eb478c3bba6af5277dd5c2bdf0434ac01", func := "loop.example/g00832/laws.FnExactLeastCap", spec := "fnExactLeastCap", apart := false }
def FnExactLeastCapSaid : Prop := fnExactLeastCapRow.holds Try.pinned (OpenSpec.ofChange fnExactLeastCapSpec)

/-- ITS FALSE NEIGHBOUR: 'it returns false'. Refute it at one input. -/
def fnExactLeastCapWrong : ChangeSpec := { name := "fnExactLeastCap", fn := fun _ => fun
  | [d] => { results := [.lit (.bool false)], args := [d] }
  | _ => none }
def FnExactLeastCapWrongFalsely : Prop := fnExactLeastCapRow.holds Try.pinned (OpenSpec.ofChange fnExactLeastCapWrong)

/-- 'laws.FnExactCostOfInputs': WHATEVER THE INPUT: true; the input reads as it did. -/
def fnExactCostOfInputsSpec : ChangeSpec := { name := "fnExactCostOfInputs", fn := fun _ => fun
  | [d1, d2] => { results := [.lit (.bool true)], args := [d1, d2] }
  | _ => none }
def fnExactCostOfInputsRow : OpenClaim := { program := "ytccfkglcjmkgcaa", sum := "36c3ef6a7c7072736e8e157b61867d5eb478c3bba6af5277dd5c2bdf0434ac01", func := "loop.example/g00832/laws.FnExactCostOfInputs", spec := "fnExactCostOfInputs", apart := false }
def FnExactCostOfInputsSaid : Prop := fnExactCostOfInputsRow.holds Try.pinned (OpenSpec.ofChange fnExactCostOfInputsSpec)

/-- ITS FALSE NEIGHBOUR: 'it returns false'. Refute it at one input. -/
def fnExactCostOfInputsWrong : ChangeSpec := { name := "fnExactCostOfInputs", fn := fun _ => fun
  | [d1, d2] => { results := [.lit (.bool false)], args := [d1, d2] }
  | _ => none }
def FnExactCostOfInputsWrongFalsely : Prop := fnExactCostOfInputsRow.holds Try.pinned (OpenSpec.ofChange fnExactCostOfInputsWrong)

/-- 'laws.FnExactJoinRules': WHATEVER THE INPUT: true; the input reads as it did. -/
def fnExactJoinRulesSpec : ChangeSpec := { name := "fnExactJoinRules", fn := fun _ => fun
  | [d] => { results := [.lit (.bool true)], args := [d] }
  | _ => none }
def fnExactJoinRulesRow : OpenClaim := { program := "ytccfkglcjmkgcaa", sum := "36c3ef6a7c7072736e8e157b61867d5eb478c3bba6af5277dd5c2bdf0434ac01", func := "loop.example/g00832/laws.FnExactJoinRules", spec := "fnExactJoinRules", apart := false }
def FnExactJoinRulesSaid : Prop := fnExactJoinRulesRow.holds Try.pinned (OpenSpec.ofChange fnExactJoinRulesSpec)

/-- ITS FALSE NEIGHBOUR: 'it returns false'. Refute it at one input. -/
def fnExactJoinRulesWrong : ChangeSpec := { name := "fnExactJoinRules", fn := fun _ => fun
  | [d] => { results := [.lit (.bool false)], args := [d] }
  | _ => none }
def FnExactJoinRulesWrongFalsely : Prop := fnExactJoinRulesRow.holds Try.pinned (OpenSpec.ofChange fnExactJoinRulesWrong)

/-- 'laws.FnExactIsAllotment': WHATEVER THE INPUT: true; the input reads as it did. -/
def fnExactIsAllotmentSpec : ChangeSpec := { name := "fnExactIsAllotment", fn := fun _ => fun
  | [d1, d2, d3] => { results := [.lit (.bool true)], args := [d1, d2, d3] }
  | _ => none }
def fnExactIsAllotmentRow : OpenClaim := { program := "ytccfkglcjmkgcaa", sum := "36c3ef6a7c7072736e8e157b61867d5eb478c3bba6af5277dd5c2bdf0434ac01", func := "loop.example/g00832/laws.FnExactIsAllotment", spec := "fnExactIsAllotment", apart := false }
def FnExactIsAllotmentSaid : Prop := fnExactIsAllotmentRow.holds Try.pinned (OpenSpec.ofChange fnExactIsAllotmentSpec)

/-- ITS FALSE NEIGHBOUR: 'it returns false'. Refute it at one input. -/
def fnExactIsAllotmentWrong : ChangeSpec := { name := "fnExactIsAllotment", fn := fun _ => fun
  | [d1, d2, d3] => { results := [.lit (.bool false)], args := [d1, d2, d3] }
  | _ => none }
def FnExactIsAllotmentWrongFalsely : Prop := fnExactIsAllotmentRow.holds Try.pinned (OpenSpec.ofChange fnExactIsAllotmentWrong)

/-- 'laws.FnExactFirstBreach': WHATEVER THE INPUT: true; the input reads as it did. -/
def fnExactFirstBreachSpec : ChangeSpec := { name := "fnExactFirstBreach", fn := fun _ => fun
  | [d1, d2] => { results := [.lit (.bool true)], args := [d1, d2] }
  | _ => none }
def fnExactFirstBreachRow : OpenClaim := { program := "ytccfkglcjmkgcaa", sum := "36c3ef6a7c7072736e8e157b61867d5eb478c3bba6af5277dd5c2bdf0434ac01", func := "loop.example/g00832/laws.FnExactFirstBreach", spec := "fnExactFirstBreach", apart := false }
def FnExactFirstBreachSaid : Prop := fnExactFirstBreachRow.holds Try.pinned (OpenSpec.ofChange fnExactFirstBreachSpec)

/-- ITS FALSE NEIGHBOUR: 'it returns false'. Refute it at one input. -/
def fnExactFirstBreachWrong : ChangeSpec := { name := "fnExactFirstBreach", fn := fun _ => fun
  | [d1, d2] => { results := [.lit (.bool false)], args := [d1, d2] }
  | _ => none }
def FnExactFirstBreachWrongFalsely : Prop := fnExactFirstBreachRow.holds Try.pinned (OpenSpec.ofChange fnExactFirstBreachWrong)

/-- 'laws.FnExactUnusedOf': WHATEVER THE INPUT: true; the input reads as it did. -/
def fnExactUnusedOfSpec : ChangeSpec := { name := "fnExactUnusedOf", fn := fun _ => fun
  | [d1, d2, d3] => { results := [.lit (.bool true)], args := [d1, d2, d3] }
  | _ => none }
def fnExactUnusedOfRow : OpenClaim := { program := "ytccfkglcjmkgcaa", sum := "36c3ef6a7c7072736e8e157b61867d5eb478c3bba6af5277dd5c2bdf0434ac01", func := "loop.example/g00832/laws.FnExactUnusedOf", spec := "fnExactUnusedOf", apart := false }
def FnExactUnusedOfSaid : Prop := fnExactUnusedOfRow.holds Try.pinned (OpenSpec.ofChange fnExactUnusedOfSpec)

/-- ITS FALSE NEIGHBOUR: 'it returns false'. Refute it at one input. -/
def fnExactUnusedOfWrong : ChangeSpec := { name := "fnExactUnusedOf", fn := fun _ => fun
  | [d1, d2, d3] => { results := [.lit (.bool false)], args := [d1, d2, d3] }
  | _ => none }
def FnExactUnusedOfWrongFalsely : Prop := fnExactUnusedOfRow.holds Try.pinned (OpenSpec.ofChange fnExactUnusedOfWrong)

/-- 'laws.FnExactIsConserved': WHATEVER THE INPUT: true; the input reads as it did. -/
def fnExactIsConservedSpec : ChangeSpec := { name := "fnExactIsConserved", fn := fun _ => fun
  | [d1, d2] => { results := [.lit (.bool true)], args := [d1, d2] }
  | _ => none }
def fnExactIsConservedRow : OpenClaim := { program := "ytccfkglcjmkgcaa", sum := "36c3ef6a7c7072736e8e157b61867d5eb478c3bba6af5277dd5c2bdf0434ac01", func := "loop.example/g00832/laws.FnExactIsConserved", spec := "fnExactIsConserved", apart := false }
def FnExactIsConservedSaid : Prop := fnExactIsConservedRow.holds Try.pinned (OpenSpec.ofChange fnExactIsConservedSpec)

/-- ITS FALSE NEIGHBOUR: 'it returns false'. Refute it at one input. -/
def fnExactIsConservedWrong : ChangeSpec := { name := "fnExactIsConserved", fn := fun _ => fun
  | [d1, d2] => { results := [.lit (.bool false)], args := [d1, d2] }
  | _ => none }
def FnExactIsConservedWrongFalsely : Prop := fnExactIsConservedRow.holds Try.pinned (OpenSpec.ofChange fnExactIsConservedWrong)

/-- 'laws.FnExactShortOf': WHATEVER THE INPUT: true; the input reads as it did. -/
def fnExactShortOfSpec : ChangeSpec := { name := "fnExactShortOf", fn := fun _ => fun
  | [d1, d2] => { results := [.lit (.bool true)], args := [d1, d2] }
  | _ => none }
def fnExactShortOfRow : OpenClaim := { program := "ytccfkglcjmkgcaa", sum := "36c3ef6a7c7072736e8e157b61867d5eb478c3bba6af5277dd5c2bdf0434ac01", func := "loop.example/g00832/laws.FnExactShortOf", spec := "fnExactShortOf", apart := false }
def FnExactShortOfSaid : Prop := fnExactShortOfRow.holds Try.pinned (OpenSpec.ofChange fnExactShortOfSpec)

/-- ITS FALSE NEIGHBOUR: 'it returns false'. Refute it at one input. -/
def fnExactShortOfWrong : ChangeSpec := { name := "fnExactShortOf", fn := fun _ => fun
  | [d1, d2] => { results := [.lit (.bool false)], args := [d1, d2] }
  | _ => none }
def FnExactShortOfWrongFalsely : Prop := fnExactShortOfRow.holds Try.pinned (OpenSpec.ofChange fnExactShortOfWrong)

/-- 'laws.FnExactLongestGood': WHATEVER THE INPUT: true; the input reads as it did. -/
def fnExactLongestGoodSpec : ChangeSpec := { name := "fnExactLongestGood", fn := fun _ => fun
  | [d1, d2] => { results := [.lit (.bool true)], args := [d1, d2] }
  | _ => none }
def fnExactLongestGoodRow : OpenClaim := { program := "ytccfkglcjmkgcaa", sum := "36c3ef6a7c7072736e8e157b61867d5eb478c3bba6af5277dd5c2bdf0434ac01", func := "loop.example/g00832/laws.FnExactLongestGood", spec := "fnExactLongestGood", apart := false }
def FnExactLongestGoodSaid : Prop := fnExactLongestGoodRow.holds Try.pinned (OpenSpec.ofChange fnExactLongestGoodSpec)

/-- ITS FALSE NEIGHBOUR: 'it returns false'. Refute it at one input. -/
def fnExactLongestGoodWrong : ChangeSpec := { name := "fnExactLongestGood", fn := fun _ => fun
  | [d1, d2] => { results := [.lit (.bool false)], args := [d1, d2] }
  | _ => none }
def FnExactLongestGoodWrongFalsely : Prop := fnExactLongestGoodRow.holds Try.pinned (OpenSpec.ofChange fnExactLongestGoodWrong)

/-- 'laws.FnExactKeepsAll': WHATEVER THE INPUT: true; the input reads as it did. -/
def fnExactKeepsAllSpec : ChangeSpec := { name := "fnExactKeepsAll", fn := fun _ => fun
  | [d1, d2] => { results := [.lit (.bool true)], args := [d1, d2] }
  | _ => none }
def fnExactKeepsAllRow : OpenClaim := { program := "ytccfkglcjmkgcaa", sum := "36c3ef6a7c7072736e8e157b61867d5eb478c3bba6af5277dd5c2bdf0434ac01", func := "loop.example/g00832/laws.FnExactKeepsAll", spec := "fnExactKeepsAll", apart := false }
def FnExactKeepsAllSaid : Prop := fnExactKeepsAllRow.holds Try.pinned (OpenSpec.ofChange fnExactKeepsAllSpec)

/-- ITS FALSE NEIGHBOUR: 'it returns false'. Refute it at one input. -/
def fnExactKeepsAllWrong : ChangeSpec := { name := "fnExactKeepsAll", fn := fun _ => fun
  | [d1, d2] => { results := [.lit (.bool false)], args := [d1, d2] }
  | _ => none }
def FnExactKeepsAllWrongFalsely : Prop := fnExactKeepsAllRow.holds Try.pinned (OpenSpec.ofChange fnExactKeepsAllWrong)

/- THE SECOND FORM. 'bulk': how many values and letters a reading holds, each counted each time it is reached (what is shared counts as often as it is met; a slice's spare places count too). A statement '..UptoSaid' is the law's where the arguments, and the package variables that the reading takes, are together of bulk at most 1048576: NARROWER than '..Said'. Prove '..Said' where nothing that the law and all that it calls make is longer than what came in: it says more and counts as full. Else prove '..UptoSaid'. A law counts once. -/
mutual
def uptoBulk {H : Type} : DataW H → Nat
  | .lit (.string bytes) => bytes.length + 1
  | .lit _ => 1
  | .nil => 1
  | .ptr d => uptoBulk d + 1
  | .slice elems spare => uptoBulkAll elems + uptoBulkAll spare + 1
  | .agg parts => uptoBulkAll parts + 1
  | .iface _ d => uptoBulk d + 1
  | .map entries => uptoBulkEntries entries + 1
  | .held _ => 1
def uptoBulkAll {H : Type} : List (DataW H) → Nat
  | [] => 0
  | d :: r => uptoBulk d + uptoBulkAll r
def uptoBulkEntries {H : Type} : List (Lit × DataW H) → Nat
  | [] => 0
  | x :: r => uptoBulkEntry x + uptoBulkEntries r
def uptoBulkEntry {H : Type} : Lit × DataW H → Nat
  | (.string bytes, d) => bytes.length + uptoBulk d + 1
  | (_, d) => uptoBulk d + 1
 end
def uptoSmall : (H : Type) → List (DataW H) → Bool := fun _ ds => decide (uptoBulkAll ds ≤ 1048576)
def OpenSpec.upto (s : _root_.Go.ChangeSpec) : _root_.Go.OpenSpec := { _root_.Go.OpenSpec.ofChange s with cond := some uptoSmall }

/-- 'laws.FnExactPriceAt', WHERE WHAT IT READS IS OF BULK AT MOST 1048576: true; the input reads as it did. -/
def fnExactPriceAtUptoRow : OpenClaim := { program := "ytccfkglcjmkgcaa", sum := "36c3ef6a7c7072736e8e157b61867d5eb478c3bba6af5277dd5c2bdf0434ac01", func := "loop.example/g00832/laws.FnExactPriceAt", spec := "fnExactPriceAt", apart := false, narrowed := true }
def FnExactPriceAtUptoSaid : Prop := fnExactPriceAtUptoRow.holds Try.pinned (OpenSpec.upto fnExactPriceAtSpec)

/-- 'laws.FnExactFullCap', WHERE WHAT IT READS IS OF BULK AT MOST 1048576: true; the input reads as it did. -/
def fnExactFullCapUptoRow : OpenClaim := { program := "ytccfkglcjmkgcaa", sum := "36c3ef6a7c7072736e8e157b61867d5eb478c3bba6af5277dd5c2bdf0434ac01", func := "loop.example/g00832/laws.FnExactFullCap", spec := "fnExactFullCap", apart := false, narrowed := true }
def FnExactFullCapUptoSaid : Prop := fnExactFullCapUptoRow.holds Try.pinned (OpenSpec.upto fnExactFullCapSpec)

/-- 'laws.FnExactLeastCap', WHERE WHAT IT READS IS OF BULK AT MOST 1048576: true; the input reads as it did. -/
def fnExactLeastCapUptoRow : OpenClaim := { program := "ytccfkglcjmkgcaa", sum := "36c3ef6a7c7072736e8e157b61867d5eb478c3bba6af5277dd5c2bdf0434ac01", func := "loop.example/g00832/laws.FnExactLeastCap", spec := "fnExactLeastCap", apart := false, narrowed := true }
def FnExactLeastCapUptoSaid : Prop := fnExactLeastCapUptoRow.holds Try.pinned (OpenSpec.upto fnExactLeastCapSpec)

/-- 'laws.FnExactCostOfInputs', WHERE WHAT IT READS IS OF BULK AT MOST 1048576: true; the input reads as it did. -/
def fnExactCostOfInputsUptoRow : OpenClaim := { program := "ytccfkglcjmkgcaa", sum := "36c3ef6a7c7072736e8e157b61867d5eb478c3bba6af5277dd5c2bdf0434ac01", func := "loop.example/g00832/laws.FnExactCostOfInputs", spec := "fnExactCostOfInputs", apart := false, narrowed := true }
def FnExactCostOfInputsUptoSaid : Prop := fnExactCostOfInputsUptoRow.holds Try.pinned (OpenSpec.upto fnExactCostOfInputsSpec)

/-- 'laws.FnExactJoinRules', WHERE WHAT IT READS IS OF BULK AT MOST 1048576: true; the input reads as it did. -/
def fnExactJoinRulesUptoRow : OpenClaim := { program := "ytccfkglcjmkgcaa", sum := "36c3ef6a7c7072736e8e157b61867d5eb478c3bba6af5277dd5c2bdf0434ac01", func := "loop.example/g00832/laws.FnExactJoinRules", spec := "fnExactJoinRules", apart := false, narrowed := true }
def FnExactJoinRulesUptoSaid : Prop := fnExactJoinRulesUptoRow.holds Try.pinned (OpenSpec.upto fnExactJoinRulesSpec)

/-- 'laws.FnExactIsAllotment', WHERE WHAT IT READS IS OF BULK AT MOST 1048576: true; the input reads as it did. -/
def fnExactIsAllotmentUptoRow : OpenClaim := { program := "ytccfkglcjmkgcaa", sum := "36c3ef6a7c7072736e8e157b61867d5eb478c3bba6af5277dd5c2bdf0434ac01", func := "loop.example/g00832/laws.FnExactIsAllotment", spec := "fnExactIsAllotment", apart := false, narrowed := true }
def FnExactIsAllotmentUptoSaid : Prop := fnExactIsAllotmentUptoRow.holds Try.pinned (OpenSpec.upto fnExactIsAllotmentSpec)

/-- 'laws.FnExactFirstBreach', WHERE WHAT IT READS IS OF BULK AT MOST 1048576: true; the input reads as it did. -/
def fnExactFirstBreachUptoRow : OpenClaim := { program := "ytccfkglcjmkgcaa", sum := "36c3ef6a7c7072736e8e157b61867d5eb478c3bba6af5277dd5c2bdf0434ac01", func := "loop.example/g00832/laws.FnExactFirstBreach", spec := "fnExactFirstBreach", apart := false, narrowed := true }
def FnExactFirstBreachUptoSaid : Prop := fnExactFirstBreachUptoRow.holds Try.pinned (OpenSpec.upto fnExactFirstBreachSpec)

/-- 'laws.FnExactUnusedOf', WHERE WHAT IT READS IS OF BULK AT MOST 1048576: true; the input reads as it did. -/
def fnExactUnusedOfUptoRow : OpenClaim := { program := "ytccfkglcjmkgcaa", sum := "36c3ef6a7c7072736e8e157b61867d5eb478c3bba6af5277dd5c2bdf0434ac01", func := "loop.example/g00832/laws.FnExactUnusedOf", spec := "fnExactUnusedOf", apart := false, narrowed := true }
def FnExactUnusedOfUptoSaid : Prop := fnExactUnusedOfUptoRow.holds Try.pinned (OpenSpec.upto fnExactUnusedOfSpec)

/-- 'laws.FnExactIsConserved', WHERE WHAT IT READS IS OF BULK AT MOST 1048576: true; the input reads as it did. -/
def fnExactIsConservedUptoRow : OpenClaim := { program := "ytccfkglcjmkgcaa", sum := "36c3ef6a7c7072736e8e157b61867d5eb478c3bba6af5277dd5c2bdf0434ac01", func := "loop.example/g00832/laws.FnExactIsConserved", spec := "fnExactIsConserved", apart := false, narrowed := true }
def FnExactIsConservedUptoSaid : Prop := fnExactIsConservedUptoRow.holds Try.pinned (OpenSpec.upto fnExactIsConservedSpec)

/-- 'laws.FnExactShortOf', WHERE WHAT IT READS IS OF BULK AT MOST 1048576: true; the input reads as it did. -/
def fnExactShortOfUptoRow : OpenClaim := { program := "ytccfkglcjmkgcaa", sum := "36c3ef6a7c7072736e8e157b61867d5eb478c3bba6af5277dd5c2bdf0434ac01", func := "loop.example/g00832/laws.FnExactShortOf", spec := "fnExactShortOf", apart := false, narrowed := true }
def FnExactShortOfUptoSaid : Prop := fnExactShortOfUptoRow.holds Try.pinned (OpenSpec.upto fnExactShortOfSpec)

/-- 'laws.FnExactLongestGood', WHERE WHAT IT READS IS OF BULK AT MOST 1048576: true; the input reads as it did. -/
def fnExactLongestGoodUptoRow : OpenClaim := { program := "ytccfkglcjmkgcaa", sum := "36c3ef6a7c7072736e8e157b61867d5eb478c3bba6af5277dd5c2bdf0434ac01", func := "loop.example/g00832/laws.FnExactLongestGood", spec := "fnExactLongestGood", apart := false, narrowed := true }
def FnExactLongestGoodUptoSaid : Prop := fnExactLongestGoodUptoRow.holds Try.pinned (OpenSpec.upto fnExactLongestGoodSpec)

/-- 'laws.FnExactKeepsAll', WHERE WHAT IT READS IS OF BULK AT MOST 1048576: true; the input reads as it did. -/
def fnExactKeepsAllUptoRow : OpenClaim := { program := "ytccfkglcjmkgcaa", sum := "36c3ef6a7c7072736e8e157b61867d5eb478c3bba6af5277dd5c2bdf0434ac01", func := "loop.example/g00832/laws.FnExactKeepsAll", spec := "fnExactKeepsAll", apart := false, narrowed := true }
def FnExactKeepsAllUptoSaid : Prop := fnExactKeepsAllUptoRow.holds Try.pinned (OpenSpec.upto fnExactKeepsAllSpec)

end Rows
end Go.Proofs.Ytccfkglcjmkgcaa
