/-
  No cell of these rows narrows 'for every input' (looked for: loops, veiled, ifaces, maps, wideKeys, modest, calm, conditions, laid).
  DERIVED. THE GIVEN ROWS OF THIS SEAT. 8 by the template 'for every input the law returns true; each argument reads behind the call as it read before'; 0 by the template 'total and deterministic' (their statements: YtmelamlngjflkaaTotals.lean).
  GIVEN WITH THE SEED: the statements are not yours to turn. If you find one false, say at which input.
  Laid BY PROGRAM, IN A SANDBOX (cutbox-rows.mjs): the forced cells as the released guide's own fill.sh prints them over the translation 3fb99f890bbc531e… (all of the seat's roots in one cut). By AI agents, Wed Nov 11 2026. No macro, syntax, notation, axiom, sorry.
-/
import Derived.Test.YtmelamlngjflkaaChecked
import GoSem.Claim
import GoSem.ClaimJoined
import GoSem.ClaimMapViews
import Derived.JoinedTies
import Derived.KernelRfl
namespace Go.Proofs.Ytmelamlngjflkaa
/- THE CELL 'sum', in the pinned program and in every row, IS THE sha256 OF THE DUMP (.gsa) THAT YtmelamlngjflkaaProg.lean LOADS. Nothing in Lean hashes anything: it is a label: what it is worth is what the hold of that sum in a sandbox is worth. -/
noncomputable def Try.pinned : Pinned := { name := "ytmelamlngjflkaa", sum := "3fb99f890bbc531e9a4f36ee2829bfede66e9d68308ea1c2435b77f27c941f5a", checked := Try.checked }
namespace Rows
def none {H : Type} : Left H := { results := [], args := [] }

/-- 'fescuelaw14.MemLife': WHATEVER THE INPUT: true; the input reads as it did. -/
def memLifeSpec : ChangeSpec := { name := "memLife", fn := fun _ => fun
  | [d1, d2, d3, d4] => { results := [.lit (.bool true)], args := [d1, d2, d3, d4] }
  | _ => none }
def memLifeRow : OpenClaim := { program := "ytmelamlngjflkaa", sum := "3fb99f890bbc531e9a4f36ee2829bfede66e9d68308ea1c2435b77f27c941f5a", func := "fescue/fescuelaw14.MemLife", spec := "memLife", unfollowed := true, recurses := true, apart := false }
def MemLifeSaid : Prop := memLifeRow.holds Try.pinned (OpenSpec.ofChange memLifeSpec)

/-- ITS FALSE NEIGHBOUR: 'it returns false'. Refute it at one input. -/
def memLifeWrong : ChangeSpec := { name := "memLife", fn := fun _ => fun
  | [d1, d2, d3, d4] => { results := [.lit (.bool false)], args := [d1, d2, d3, d4] }
  | _ => none }
def MemLifeWrongFalsely : Prop := memLifeRow.holds Try.pinned (OpenSpec.ofChange memLifeWrong)

/-- 'fescuelaw14.MemNames': WHATEVER THE INPUT: true; the input reads as it did. -/
def memNamesSpec : ChangeSpec := { name := "memNames", fn := fun _ => fun
  | [] => { results := [.lit (.bool true)], args := [] }
  | _ => none }
def memNamesRow : OpenClaim := { program := "ytmelamlngjflkaa", sum := "3fb99f890bbc531e9a4f36ee2829bfede66e9d68308ea1c2435b77f27c941f5a", func := "fescue/fescuelaw14.MemNames", spec := "memNames", unfollowed := true, recurses := true, apart := false }
def MemNamesSaid : Prop := memNamesRow.holds Try.pinned (OpenSpec.ofChange memNamesSpec)

/-- ITS FALSE NEIGHBOUR: 'it returns false'. Refute it at one input. -/
def memNamesWrong : ChangeSpec := { name := "memNames", fn := fun _ => fun
  | [] => { results := [.lit (.bool false)], args := [] }
  | _ => none }
def MemNamesWrongFalsely : Prop := memNamesRow.holds Try.pinned (OpenSpec.ofChange memNamesWrong)

/-- 'fescuelaw14.MemMakes': WHATEVER THE INPUT: true; the input reads as it did. -/
def memMakesSpec : ChangeSpec := { name := "memMakes", fn := fun _ => fun
  | [d1, d2, d3] => { results := [.lit (.bool true)], args := [d1, d2, d3] }
  | _ => none }
def memMakesRow : OpenClaim := { program := "ytmelamlngjflkaa", sum := "3fb99f890bbc531e9a4f36ee2829bfede66e9d68308ea1c2435b77f27c941f5a", func := "fescue/fescuelaw14.MemMakes", spec := "memMakes", unfollowed := true, recurses := true, apart := false }
def MemMakesSaid : Prop := memMakesRow.holds Try.pinned (OpenSpec.ofChange memMakesSpec)

/-- ITS FALSE NEIGHBOUR: 'it returns false'. Refute it at one input. -/
def memMakesWrong : ChangeSpec := { name := "memMakes", fn := fun _ => fun
  | [d1, d2, d3] => { results := [.lit (.bool false)], args := [d1, d2, d3] }
  | _ => none }
def MemMakesWrongFalsely : Prop := memMakesRow.holds Try.pinned (OpenSpec.ofChange memMakesWrong)

/-- 'fescuelaw14.MemTells': WHATEVER THE INPUT: true; the input reads as it did. -/
def memTellsSpec : ChangeSpec := { name := "memTells", fn := fun _ => fun
  | [d1, d2, d3] => { results := [.lit (.bool true)], args := [d1, d2, d3] }
  | _ => none }
def memTellsRow : OpenClaim := { program := "ytmelamlngjflkaa", sum := "3fb99f890bbc531e9a4f36ee2829bfede66e9d68308ea1c2435b77f27c941f5a", func := "fescue/fescuelaw14.MemTells", spec := "memTells", unfollowed := true, recurses := true, apart := false }
def MemTellsSaid : Prop := memTellsRow.holds Try.pinned (OpenSpec.ofChange memTellsSpec)

/-- ITS FALSE NEIGHBOUR: 'it returns false'. Refute it at one input. -/
def memTellsWrong : ChangeSpec := { name := "memTells", fn := fun _ => fun
  | [d1, d2, d3] => { results := [.lit (.bool false)], args := [d1, d2, d3] }
  | _ => none }
def MemTellsWrongFalsely : Prop := memTellsRow.holds Try.pinned (OpenSpec.ofChange memTellsWrong)

/-- 'fescuelaw14.MemDoes': WHATEVER THE INPUT: true; the input reads as it did. -/
def memDoesSpec : ChangeSpec := { name := "memDoes", fn := fun _ => fun
  | [d1, d2, d3, d4] => { results := [.lit (.bool true)], args := [d1, d2, d3, d4] }
  | _ => none }
def memDoesRow : OpenClaim := { program := "ytmelamlngjflkaa", sum := "3fb99f890bbc531e9a4f36ee2829bfede66e9d68308ea1c2435b77f27c941f5a", func := "fescue/fescuelaw14.MemDoes", spec := "memDoes", unfollowed := true, recurses := true, apart := false }
def MemDoesSaid : Prop := memDoesRow.holds Try.pinned (OpenSpec.ofChange memDoesSpec)

/-- ITS FALSE NEIGHBOUR: 'it returns false'. Refute it at one input. -/
def memDoesWrong : ChangeSpec := { name := "memDoes", fn := fun _ => fun
  | [d1, d2, d3, d4] => { results := [.lit (.bool false)], args := [d1, d2, d3, d4] }
  | _ => none }
def MemDoesWrongFalsely : Prop := memDoesRow.holds Try.pinned (OpenSpec.ofChange memDoesWrong)

/-- 'fescuelaw14.MemBack': WHATEVER THE INPUT: true; the input reads as it did. -/
def memBackSpec : ChangeSpec := { name := "memBack", fn := fun _ => fun
  | [d1, d2, d3, d4] => { results := [.lit (.bool true)], args := [d1, d2, d3, d4] }
  | _ => none }
def memBackRow : OpenClaim := { program := "ytmelamlngjflkaa", sum := "3fb99f890bbc531e9a4f36ee2829bfede66e9d68308ea1c2435b77f27c941f5a", func := "fescue/fescuelaw14.MemBack", spec := "memBack", unfollowed := true, recurses := true, apart := false }
def MemBackSaid : Prop := memBackRow.holds Try.pinned (OpenSpec.ofChange memBackSpec)

/-- ITS FALSE NEIGHBOUR: 'it returns false'. Refute it at one input. -/
def memBackWrong : ChangeSpec := { name := "memBack", fn := fun _ => fun
  | [d1, d2, d3, d4] => { results := [.lit (.bool false)], args := [d1, d2, d3, d4] }
  | _ => none }
def MemBackWrongFalsely : Prop := memBackRow.holds Try.pinned (OpenSpec.ofChange memBackWrong)

/-- 'fescuelaw14.MemFreed': WHATEVER THE INPUT: true; the input reads as it did. -/
def memFreedSpec : ChangeSpec := { name := "memFreed", fn := fun _ => fun
  | [d1, d2, d3] => { results := [.lit (.bool true)], args := [d1, d2, d3] }
  | _ => none }
def memFreedRow : OpenClaim := { program := "ytmelamlngjflkaa", sum := "3fb99f890bbc531e9a4f36ee2829bfede66e9d68308ea1c2435b77f27c941f5a", func := "fescue/fescuelaw14.MemFreed", spec := "memFreed", unfollowed := true, recurses := true, apart := false }
def MemFreedSaid : Prop := memFreedRow.holds Try.pinned (OpenSpec.ofChange memFreedSpec)

/-- ITS FALSE NEIGHBOUR: 'it returns false'. Refute it at one input. -/
def memFreedWrong : ChangeSpec := { name := "memFreed", fn := fun _ => fun
  | [d1, d2, d3] => { results := [.lit (.bool false)], args := [d1, d2, d3] }
  | _ => none }
def MemFreedWrongFalsely : Prop := memFreedRow.holds Try.pinned (OpenSpec.ofChange memFreedWrong)

/-- 'fescuelaw14.MemFresh': WHATEVER THE INPUT: true; the input reads as it did. -/
def memFreshSpec : ChangeSpec := { name := "memFresh", fn := fun _ => fun
  | [d1, d2, d3] => { results := [.lit (.bool true)], args := [d1, d2, d3] }
  | _ => none }
def memFreshRow : OpenClaim := { program := "ytmelamlngjflkaa", sum := "3fb99f890bbc531e9a4f36ee2829bfede66e9d68308ea1c2435b77f27c941f5a", func := "fescue/fescuelaw14.MemFresh", spec := "memFresh", unfollowed := true, recurses := true, apart := false }
def MemFreshSaid : Prop := memFreshRow.holds Try.pinned (OpenSpec.ofChange memFreshSpec)

/-- ITS FALSE NEIGHBOUR: 'it returns false'. Refute it at one input. -/
def memFreshWrong : ChangeSpec := { name := "memFresh", fn := fun _ => fun
  | [d1, d2, d3] => { results := [.lit (.bool false)], args := [d1, d2, d3] }
  | _ => none }
def MemFreshWrongFalsely : Prop := memFreshRow.holds Try.pinned (OpenSpec.ofChange memFreshWrong)

/- THE SECOND FORM. 'bulk': how many values and letters a reading holds, each counted each time it is reached (what is shared counts as often as it is met; a slice's spare places count too). A statement '..UptoSaid' is the law's where the arguments, and the package variables that the reading takes, are together of bulk at most 1048576: NARROWER than '..Said'. Prove '..Said' where nothing that the law and all that it calls make is longer than what came in: it says more and counts as full. Else prove '..UptoSaid'. A law counts once. -/
mutual
def uptoBulk {H : Type} : DataW H → Nat
  | .lit (.string bytes) => bytes.length + 1
  | .lit _ => 1
  | .nil => 1
  | .ptr d => uptoBulk d + 1
  | .slice elems spare => uptoBulkAll elems + uptoBulkAll spare + 1
  | .agg parts => uptoBulkAll parts + 1
  | .iface _ d => uptoBulk d + 1
  | .map entries => uptoBulkEntries entries + 1
  | .held _ => 1
def uptoBulkAll {H : Type} : List (DataW H) → Nat
  | [] => 0
  | d :: r => uptoBulk d + uptoBulkAll r
def uptoBulkEntries {H : Type} : List (Lit × DataW H) → Nat
  | [] => 0
  | x :: r => uptoBulkEntry x + uptoBulkEntries r
def uptoBulkEntry {H : Type} : Lit × DataW H → Nat
  | (.string bytes, d) => bytes.length + uptoBulk d + 1
  | (_, d) => uptoBulk d + 1
 end
def uptoSmall : (H : Type) → List (DataW H) → Bool := fun _ ds => decide (uptoBulkAll ds ≤ 1048576)
def OpenSpec.upto (s : _root_.Go.ChangeSpec) : _root_.Go.OpenSpec := { _root_.Go.OpenSpec.ofChange s with cond := some uptoSmall }

/-- 'fescuelaw14.MemLife', WHERE WHAT IT READS IS OF BULK AT MOST 1048576: true; the input reads as it did. -/
def memLifeUptoRow : OpenClaim := { program := "ytmelamlngjflkaa", sum := "3fb99f890bbc531e9a4f36ee2829bfede66e9d68308ea1c2435b77f27c941f5a", func := "fescue/fescuelaw14.MemLife", spec := "memLife", unfollowed := true, recurses := true, apart := false, narrowed := true }
def MemLifeUptoSaid : Prop := memLifeUptoRow.holds Try.pinned (OpenSpec.upto memLifeSpec)

/-- 'fescuelaw14.MemNames', WHERE WHAT IT READS IS OF BULK AT MOST 1048576: true; the input reads as it did. -/
def memNamesUptoRow : OpenClaim := { program := "ytmelamlngjflkaa", sum := "3fb99f890bbc531e9a4f36ee2829bfede66e9d68308ea1c2435b77f27c941f5a", func := "fescue/fescuelaw14.MemNames", spec := "memNames", unfollowed := true, recurses := true, apart := false, narrowed := true }
def MemNamesUptoSaid : Prop := memNamesUptoRow.holds Try.pinned (OpenSpec.upto memNamesSpec)

/-- 'fescuelaw14.MemMakes', WHERE WHAT IT READS IS OF BULK AT MOST 1048576: true; the input reads as it did. -/
def memMakesUptoRow : OpenClaim := { program := "ytmelamlngjflkaa", sum := "3fb99f890bbc531e9a4f36ee2829bfede66e9d68308ea1c2435b77f27c941f5a", func := "fescue/fescuelaw14.MemMakes", spec := "memMakes", unfollowed := true, recurses := true, apart := false, narrowed := true }
def MemMakesUptoSaid : Prop := memMakesUptoRow.holds Try.pinned (OpenSpec.upto memMakesSpec)

/-- 'fescuelaw14.MemTells', WHERE WHAT IT READS IS OF BULK AT MOST 1048576: true; the input reads as it did. -/
def memTellsUptoRow : OpenClaim := { program := "ytmelamlngjflkaa", sum := "3fb99f890bbc531e9a4f36ee2829bfede66e9d68308ea1c2435b77f27c941f5a", func := "fescue/fescuelaw14.MemTells", spec := "memTells", unfollowed := true, recurses := true, apart := false, narrowed := true }
def MemTellsUptoSaid : Prop := memTellsUptoRow.holds Try.pinned (OpenSpec.upto memTellsSpec)

/-- 'fescuelaw14.MemDoes', WHERE WHAT IT READS IS OF BULK AT MOST 1048576: true; the input reads as it did. -/
def memDoesUptoRow : OpenClaim := { program := "ytmelamlngjflkaa", sum := "3fb99f890bbc531e9a4f36ee2829bfede66e9d68308ea1c2435b77f27c941f5a", func := "fescue/fescuelaw14.MemDoes", spec := "memDoes", unfollowed := true, recurses := true, apart := false, narrowed := true }
def MemDoesUptoSaid : Prop := memDoesUptoRow.holds Try.pinned (OpenSpec.upto memDoesSpec)

/-- 'fescuelaw14.MemBack', WHERE WHAT IT READS IS OF BULK AT MOST 1048576: true; the input reads as it did. -/
def memBackUptoRow : OpenClaim := { program := "ytmelamlngjflkaa", sum := "3fb99f890bbc531e9a4f36ee2829bfede66e9d68308ea1c2435b77f27c941f5a", func := "fescue/fescuelaw14.MemBack", spec := "memBack", unfollowed := true, recurses := true, apart := false, narrowed := true }
def MemBackUptoSaid : Prop := memBackUptoRow.holds Try.pinned (OpenSpec.upto memBackSpec)

/-- 'fescuelaw14.MemFreed', WHERE WHAT IT READS IS OF BULK AT MOST 1048576: true; the input reads as it did. -/
def memFreedUptoRow : OpenClaim := { program := "ytmelamlngjflkaa", sum := "3fb99f890bbc531e9a4f36ee2829bfede66e9d68308ea1c2435b77f27c941f5a", func := "fescue/fescuelaw14.MemFreed", spec := "memFreed", unfollowed := true, recurses := true, apart := false, narrowed := true }
def MemFreedUptoSaid : Prop := memFreedUptoRow.holds Try.pinned (OpenSpec.upto memFreedSpec)

/-- 'fescuelaw14.MemFresh', WHERE WHAT IT READS IS OF BULK AT MOST 1048576: true; the input reads as it did. -/
def memFreshUptoRow : OpenClaim := { program := "ytmelamlngjflkaa", sum := "3fb99f890bbc531e9a4f36ee2829bfede66e9d68308ea1c2435b77f27c941f5a", func := "fescue/fescuelaw14.MemFresh", spec := "memFresh", unfollowed := true, recurses := true, apart := false, narrowed := true }
def MemFreshUptoSaid : Prop := memFreshUptoRow.holds Try.pinned (OpenSpec.upto memFreshSpec)

end Rows
end Go.Proofs.Ytmelamlngjflkaa
