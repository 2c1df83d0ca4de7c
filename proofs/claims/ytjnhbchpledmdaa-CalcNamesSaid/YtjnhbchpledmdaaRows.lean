/-
  No cell of these rows narrows 'for every input' (looked for: loops, veiled, ifaces, maps, wideKeys, modest, calm, conditions, laid).
  DERIVED. THE GIVEN ROWS OF THIS SEAT. 6 by the template 'for every input the law returns true; each argument reads behind the call as it read before'; 0 by the template 'total and deterministic' (their statements: YtjnhbchpledmdaaTotals.lean).
  GIVEN WITH THE SEED: the statements are not yours to turn. If you find one false, say at which input.
  Laid BY PROGRAM, IN A SANDBOX (cutbox-rows.mjs): the forced cells as the released guide's own fill.sh prints them over the translation 7a03b774349e6219… (all of the seat's roots in one cut). By AI agents, Wed Nov 11 2026. No macro, syntax, notation, axiom, sorry.
-/
import Derived.Test.YtjnhbchpledmdaaChecked
import GoSem.Claim
import GoSem.ClaimJoined
import GoSem.ClaimMapViews
import Derived.JoinedTies
import Derived.KernelRfl
namespace Go.Proofs.Ytjnhbchpledmdaa
/- THE CELL 'sum', in the pinned program and in every row, IS THE sha256 OF THE DUMP (.gsa) THAT YtjnhbchpledmdaaProg.lean LOADS. Nothing in Lean hashes anything: it is a label: what it is worth is what the hold of that sum in a sandbox is worth. -/
noncomputable def Try.pinned : Pinned := { name := "ytjnhbchpledmdaa", sum := "7a03b774349e6219de131c885067ad17852676f91b2bf9a2cbf32e38bdcc8fd4", checked := Try.checked }
namespace Rows
def none {H : Type} : Left H := { results := [], args := [] }

/-- 'fescuelaw13.CalcTells': WHATEVER THE INPUT: true; the input reads as it did. -/
def calcTellsSpec : ChangeSpec := { name := "calcTells", fn := fun _ => fun
  | [d1, d2] => { results := [.lit (.bool true)], args := [d1, d2] }
  | _ => none }
def calcTellsRow : OpenClaim := { program := "ytjnhbchpledmdaa", sum := "7a03b774349e6219de131c885067ad17852676f91b2bf9a2cbf32e38bdcc8fd4", func := "fescue/fescuelaw13.CalcTells", spec := "calcTells", apart := false }
def CalcTellsSaid : Prop := calcTellsRow.holds Try.pinned (OpenSpec.ofChange calcTellsSpec)

/-- ITS FALSE NEIGHBOUR: 'it returns false'. Refute it at one input. -/
def calcTellsWrong : ChangeSpec := { name := "calcTells", fn := fun _ => fun
  | [d1, d2] => { results := [.lit (.bool false)], args := [d1, d2] }
  | _ => none }
def CalcTellsWrongFalsely : Prop := calcTellsRow.holds Try.pinned (OpenSpec.ofChange calcTellsWrong)

/-- 'fescuelaw13.CalcDoes': WHATEVER THE INPUT: true; the input reads as it did. -/
def calcDoesSpec : ChangeSpec := { name := "calcDoes", fn := fun _ => fun
  | [d1, d2, d3] => { results := [.lit (.bool true)], args := [d1, d2, d3] }
  | _ => none }
def calcDoesRow : OpenClaim := { program := "ytjnhbchpledmdaa", sum := "7a03b774349e6219de131c885067ad17852676f91b2bf9a2cbf32e38bdcc8fd4", func := "fescue/fescuelaw13.CalcDoes", spec := "calcDoes", apart := false }
def CalcDoesSaid : Prop := calcDoesRow.holds Try.pinned (OpenSpec.ofChange calcDoesSpec)

/-- ITS FALSE NEIGHBOUR: 'it returns false'. Refute it at one input. -/
def calcDoesWrong : ChangeSpec := { name := "calcDoes", fn := fun _ => fun
  | [d1, d2, d3] => { results := [.lit (.bool false)], args := [d1, d2, d3] }
  | _ => none }
def CalcDoesWrongFalsely : Prop := calcDoesRow.holds Try.pinned (OpenSpec.ofChange calcDoesWrong)

/-- 'fescuelaw13.CalcRing': WHATEVER THE INPUT: true; the input reads as it did. -/
def calcRingSpec : ChangeSpec := { name := "calcRing", fn := fun _ => fun
  | [d1, d2, d3] => { results := [.lit (.bool true)], args := [d1, d2, d3] }
  | _ => none }
def calcRingRow : OpenClaim := { program := "ytjnhbchpledmdaa", sum := "7a03b774349e6219de131c885067ad17852676f91b2bf9a2cbf32e38bdcc8fd4", func := "fescue/fescuelaw13.CalcRing", spec := "calcRing", apart := false }
def CalcRingSaid : Prop := calcRingRow.holds Try.pinned (OpenSpec.ofChange calcRingSpec)

/-- ITS FALSE NEIGHBOUR: 'it returns false'. Refute it at one input. -/
def calcRingWrong : ChangeSpec := { name := "calcRing", fn := fun _ => fun
  | [d1, d2, d3] => { results := [.lit (.bool false)], args := [d1, d2, d3] }
  | _ => none }
def CalcRingWrongFalsely : Prop := calcRingRow.holds Try.pinned (OpenSpec.ofChange calcRingWrong)

/-- 'fescuelaw13.CalcDiv': WHATEVER THE INPUT: true; the input reads as it did. -/
def calcDivSpec : ChangeSpec := { name := "calcDiv", fn := fun _ => fun
  | [d1, d2] => { results := [.lit (.bool true)], args := [d1, d2] }
  | _ => none }
def calcDivRow : OpenClaim := { program := "ytjnhbchpledmdaa", sum := "7a03b774349e6219de131c885067ad17852676f91b2bf9a2cbf32e38bdcc8fd4", func := "fescue/fescuelaw13.CalcDiv", spec := "calcDiv", apart := false }
def CalcDivSaid : Prop := calcDivRow.holds Try.pinned (OpenSpec.ofChange calcDivSpec)

/-- ITS FALSE NEIGHBOUR: 'it returns false'. Refute it at one input. -/
def calcDivWrong : ChangeSpec := { name := "calcDiv", fn := fun _ => fun
  | [d1, d2] => { results := [.lit (.bool false)], args := [d1, d2] }
  | _ => none }
def CalcDivWrongFalsely : Prop := calcDivRow.holds Try.pinned (OpenSpec.ofChange calcDivWrong)

/-- 'fescuelaw13.CalcOrder': WHATEVER THE INPUT: true; the input reads as it did. -/
def calcOrderSpec : ChangeSpec := { name := "calcOrder", fn := fun _ => fun
  | [d1, d2, d3] => { results := [.lit (.bool true)], args := [d1, d2, d3] }
  | _ => none }
def calcOrderRow : OpenClaim := { program := "ytjnhbchpledmdaa", sum := "7a03b774349e6219de131c885067ad17852676f91b2bf9a2cbf32e38bdcc8fd4", func := "fescue/fescuelaw13.CalcOrder", spec := "calcOrder", apart := false }
def CalcOrderSaid : Prop := calcOrderRow.holds Try.pinned (OpenSpec.ofChange calcOrderSpec)

/-- ITS FALSE NEIGHBOUR: 'it returns false'. Refute it at one input. -/
def calcOrderWrong : ChangeSpec := { name := "calcOrder", fn := fun _ => fun
  | [d1, d2, d3] => { results := [.lit (.bool false)], args := [d1, d2, d3] }
  | _ => none }
def CalcOrderWrongFalsely : Prop := calcOrderRow.holds Try.pinned (OpenSpec.ofChange calcOrderWrong)

/-- 'fescuelaw13.CalcNames': WHATEVER THE INPUT: true; the input reads as it did. -/
def calcNamesSpec : ChangeSpec := { name := "calcNames", fn := fun _ => fun
  | [] => { results := [.lit (.bool true)], args := [] }
  | _ => none }
def calcNamesRow : OpenClaim := { program := "ytjnhbchpledmdaa", sum := "7a03b774349e6219de131c885067ad17852676f91b2bf9a2cbf32e38bdcc8fd4", func := "fescue/fescuelaw13.CalcNames", spec := "calcNames", apart := false }
def CalcNamesSaid : Prop := calcNamesRow.holds Try.pinned (OpenSpec.ofChange calcNamesSpec)

/-- ITS FALSE NEIGHBOUR: 'it returns false'. Refute it at one input. -/
def calcNamesWrong : ChangeSpec := { name := "calcNames", fn := fun _ => fun
  | [] => { results := [.lit (.bool false)], args := [] }
  | _ => none }
def CalcNamesWrongFalsely : Prop := calcNamesRow.holds Try.pinned (OpenSpec.ofChange calcNamesWrong)

/- THE SECOND FORM. 'bulk': how many values and letters a reading holds, each counted each time it is reached (what is shared counts as often as it is met; a slice's spare places count too). A statement '..UptoSaid' is the law's where the arguments, and the package variables that the reading takes, are together of bulk at most 1048576: NARROWER than '..Said'. Prove '..Said' where nothing that the law and all that it calls make is longer than what came in: it says more and counts as full. Else prove '..UptoSaid'. A law counts once. -/
mutual
def uptoBulk {H : Type} : DataW H → Nat
  | .lit (.string bytes) => bytes.length + 1
  | .lit _ => 1
  | .nil => 1
  | .ptr d => uptoBulk d + 1
  | .slice elems spare => uptoBulkAll elems + uptoBulkAll spare + 1
  | .agg parts => uptoBulkAll parts + 1
  | .iface _ d => uptoBulk d + 1
  | .map entries => uptoBulkEntries entries + 1
  | .held _ => 1
def uptoBulkAll {H : Type} : List (DataW H) → Nat
  | [] => 0
  | d :: r => uptoBulk d + uptoBulkAll r
def uptoBulkEntries {H : Type} : List (Lit × DataW H) → Nat
  | [] => 0
  | x :: r => uptoBulkEntry x + uptoBulkEntries r
def uptoBulkEntry {H : Type} : Lit × DataW H → Nat
  | (.string bytes, d) => bytes.length + uptoBulk d + 1
  | (_, d) => uptoBulk d + 1
 end
def uptoSmall : (H : Type) → List (DataW H) → Bool := fun _ ds => decide (uptoBulkAll ds ≤ 1048576)
def OpenSpec.upto (s : _root_.Go.ChangeSpec) : _root_.Go.OpenSpec := { _root_.Go.OpenSpec.ofChange s with cond := some uptoSmall }

/-- 'fescuelaw13.CalcTells', WHERE WHAT IT READS IS OF BULK AT MOST 1048576: true; the input reads as it did. -/
def calcTellsUptoRow : OpenClaim := { program := "ytjnhbchpledmdaa", sum := "7a03b774349e6219de131c885067ad17852676f91b2bf9a2cbf32e38bdcc8fd4", func := "fescue/fescuelaw13.CalcTells", spec := "calcTells", apart := false, narrowed := true }
def CalcTellsUptoSaid : Prop := calcTellsUptoRow.holds Try.pinned (OpenSpec.upto calcTellsSpec)

/-- 'fescuelaw13.CalcDoes', WHERE WHAT IT READS IS OF BULK AT MOST 1048576: true; the input reads as it did. -/
def calcDoesUptoRow : OpenClaim := { program := "ytjnhbchpledmdaa", sum := "7a03b774349e6219de131c885067ad17852676f91b2bf9a2cbf32e38bdcc8fd4", func := "fescue/fescuelaw13.CalcDoes", spec := "calcDoes", apart := false, narrowed := true }
def CalcDoesUptoSaid : Prop := calcDoesUptoRow.holds Try.pinned (OpenSpec.upto calcDoesSpec)

/-- 'fescuelaw13.CalcRing', WHERE WHAT IT READS IS OF BULK AT MOST 1048576: true; the input reads as it did. -/
def calcRingUptoRow : OpenClaim := { program := "ytjnhbchpledmdaa", sum := "7a03b774349e6219de131c885067ad17852676f91b2bf9a2cbf32e38bdcc8fd4", func := "fescue/fescuelaw13.CalcRing", spec := "calcRing", apart := false, narrowed := true }
def CalcRingUptoSaid : Prop := calcRingUptoRow.holds Try.pinned (OpenSpec.upto calcRingSpec)

/-- 'fescuelaw13.CalcDiv', WHERE WHAT IT READS IS OF BULK AT MOST 1048576: true; the input reads as it did. -/
def calcDivUptoRow : OpenClaim := { program := "ytjnhbchpledmdaa", sum := "7a03b774349e6219de131c885067ad17852676f91b2bf9a2cbf32e38bdcc8fd4", func := "fescue/fescuelaw13.CalcDiv", spec := "calcDiv", apart := false, narrowed := true }
def CalcDivUptoSaid : Prop := calcDivUptoRow.holds Try.pinned (OpenSpec.upto calcDivSpec)

/-- 'fescuelaw13.CalcOrder', WHERE WHAT IT READS IS OF BULK AT MOST 1048576: true; the input reads as it did. -/
def calcOrderUptoRow : OpenClaim := { program := "ytjnhbchpledmdaa", sum := "7a03b774349e6219de131c885067ad17852676f91b2bf9a2cbf32e38bdcc8fd4", func := "fescue/fescuelaw13.CalcOrder", spec := "calcOrder", apart := false, narrowed := true }
def CalcOrderUptoSaid : Prop := calcOrderUptoRow.holds Try.pinned (OpenSpec.upto calcOrderSpec)

/-- 'fescuelaw13.CalcNames', WHERE WHAT IT READS IS OF BULK AT MOST 1048576: true; the input reads as it did. -/
def calcNamesUptoRow : OpenClaim := { program := "ytjnhbchpledmdaa", sum := "7a03b774349e6219de131c885067ad17852676f91b2bf9a2cbf32e38bdcc8fd4", func := "fescue/fescuelaw13.CalcNames", spec := "calcNames", apart := false, narrowed := true }
def CalcNamesUptoSaid : Prop := calcNamesUptoRow.holds Try.pinned (OpenSpec.upto calcNamesSpec)

end Rows
end Go.Proofs.Ytjnhbchpledmdaa
