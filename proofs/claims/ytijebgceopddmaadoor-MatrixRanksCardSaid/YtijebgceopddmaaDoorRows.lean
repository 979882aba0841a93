/-
  NARROWER THAN 'FOR EVERY INPUT', by the rows' own cells (each row's printed sentence says how): MatrixReducesAsSpecified: laid · MatrixSolvesAsSpecified: laid · MatrixProductsAsSpecified: laid · MatrixSolutionsAreAll: laid · MatrixInverts: laid · MatrixExpresses: laid · MatrixRanks: laid.
  DERIVED. THE GIVEN ROWS OF THIS SEAT. 7 by the template 'for every input the law returns true; each argument reads behind the call as it read before'; 0 by the template 'total and deterministic' (their statements: YtijebgceopddmaaDoorTotals.lean).
  GIVEN WITH THE SEED: the statements are not yours to turn. If you find one false, say at which input.
  Laid BY PROGRAM, IN A SANDBOX (cutbox-rows.mjs): the forced cells as the released guide's own fill.sh prints them over the translation 62a7630d7d99527f… (all of the seat's roots in one cut). By AI agents, Wed Nov 11 2026. No macro, syntax, notation, axiom, sorry.
-/
import Derived.Test.YtijebgceopddmaaDoorChecked
import GoSem.Claim
import GoSem.ClaimJoined
import GoSem.ClaimMapViews
import Derived.JoinedTies
import Derived.KernelRfl
namespace Go.Proofs.YtijebgceopddmaaDoor
/- THE CELL 'sum', in the pinned program and in every row, IS THE sha256 OF THE DUMP (.gsa) THAT YtijebgceopddmaaDoorProg.lean LOADS. Nothing in Lean hashes anything: it is a label: what it is worth is what the hold of that sum in a sandbox is worth. -/
noncomputable def Tryd.pinned : Pinned := { name := "ytijebgceopddmaadoor", sum := "62a7630d7d99527fc83e5a887c41b233edad67ed20f5af66b9f50c0285a79c0d", checked := Tryd.checked }
namespace Rows
def none {H : Type} : Left H := { results := [], args := [] }

/- WHAT THE LISTED PACKAGE-LEVEL VARIABLES READ AS WHEN THE CALL BEGINS. Each datum BY PROGRAM (the guide's laid-datum.mjs) off the statement by which the dump's own 'gosem.cut.vars' lays the variable. In a bare row this is a premise. The card (YtijebgceopddmaaDoorCards.lean) ties it to the program's text. -/
def laid_quietus_gf_high {H : Type} : DataW H := .agg [.lit (.int .u8 0), .lit (.int .u8 29), .lit (.int .u8 58), .lit (.int .u8 39), .lit (.int .u8 116), .lit (.int .u8 105), .lit (.int .u8 78), .lit (.int .u8 83), .lit (.int .u8 232), .lit (.int .u8 245), .lit (.int .u8 210), .lit (.int .u8 207), .lit (.int .u8 156), .lit (.int .u8 129), .lit (.int .u8 166), .lit (.int .u8 187)]

/-- 'quietuslaw05.MatrixReducesAsSpecified': WHATEVER THE INPUT: true; the input reads as it did. -/
def matrixReducesAsSpecifiedSpec : ChangeSpec := { name := "matrixReducesAsSpecified", fn := fun _ => fun
  | [d] => { results := [.lit (.bool true)], args := [d] }
  | _ => none }
def matrixReducesAsSpecifiedRow : OpenClaim := { program := "ytijebgceopddmaadoor", sum := "62a7630d7d99527fc83e5a887c41b233edad67ed20f5af66b9f50c0285a79c0d", func := "quietus/quietuslaw05.MatrixReducesAsSpecified", spec := "matrixReducesAsSpecified", unfollowed := true, recurses := true, named := ["quietus/gf.high"], apart := false, laid := [("quietus/gf.high", laid_quietus_gf_high)] }
def MatrixReducesAsSpecifiedSaid : Prop := matrixReducesAsSpecifiedRow.holds Tryd.pinned (OpenSpec.ofChange matrixReducesAsSpecifiedSpec)

/-- ITS FALSE NEIGHBOUR: 'it returns false'. Refute it at one input. -/
def matrixReducesAsSpecifiedWrong : ChangeSpec := { name := "matrixReducesAsSpecified", fn := fun _ => fun
  | [d] => { results := [.lit (.bool false)], args := [d] }
  | _ => none }
def MatrixReducesAsSpecifiedWrongFalsely : Prop := matrixReducesAsSpecifiedRow.holds Tryd.pinned (OpenSpec.ofChange matrixReducesAsSpecifiedWrong)

/-- 'quietuslaw05.MatrixSolvesAsSpecified': WHATEVER THE INPUT: true; the input reads as it did. -/
def matrixSolvesAsSpecifiedSpec : ChangeSpec := { name := "matrixSolvesAsSpecified", fn := fun _ => fun
  | [d1, d2] => { results := [.lit (.bool true)], args := [d1, d2] }
  | _ => none }
def matrixSolvesAsSpecifiedRow : OpenClaim := { program := "ytijebgceopddmaadoor", sum := "62a7630d7d99527fc83e5a887c41b233edad67ed20f5af66b9f50c0285a79c0d", func := "quietus/quietuslaw05.MatrixSolvesAsSpecified", spec := "matrixSolvesAsSpecified", unfollowed := true, recurses := true, named := ["quietus/gf.high"], apart := false, laid := [("quietus/gf.high", laid_quietus_gf_high)] }
def MatrixSolvesAsSpecifiedSaid : Prop := matrixSolvesAsSpecifiedRow.holds Tryd.pinned (OpenSpec.ofChange matrixSolvesAsSpecifiedSpec)

/-- ITS FALSE NEIGHBOUR: 'it returns false'. Refute it at one input. -/
def matrixSolvesAsSpecifiedWrong : ChangeSpec := { name := "matrixSolvesAsSpecified", fn := fun _ => fun
  | [d1, d2] => { results := [.lit (.bool false)], args := [d1, d2] }
  | _ => none }
def MatrixSolvesAsSpecifiedWrongFalsely : Prop := matrixSolvesAsSpecifiedRow.holds Tryd.pinned (OpenSpec.ofChange matrixSolvesAsSpecifiedWrong)

/-- 'quietuslaw05.MatrixProductsAsSpecified': WHATEVER THE INPUT: true; the input reads as it did. -/
def matrixProductsAsSpecifiedSpec : ChangeSpec := { name := "matrixProductsAsSpecified", fn := fun _ => fun
  | [d1, d2, d3] => { results := [.lit (.bool true)], args := [d1, d2, d3] }
  | _ => none }
def matrixProductsAsSpecifiedRow : OpenClaim := { program := "ytijebgceopddmaadoor", sum := "62a7630d7d99527fc83e5a887c41b233edad67ed20f5af66b9f50c0285a79c0d", func := "quietus/quietuslaw05.MatrixProductsAsSpecified", spec := "matrixProductsAsSpecified", unfollowed := true, recurses := true, named := ["quietus/gf.high"], apart := false, laid := [("quietus/gf.high", laid_quietus_gf_high)] }
def MatrixProductsAsSpecifiedSaid : Prop := matrixProductsAsSpecifiedRow.holds Tryd.pinned (OpenSpec.ofChange matrixProductsAsSpecifiedSpec)

/-- ITS FALSE NEIGHBOUR: 'it returns false'. Refute it at one input. -/
def matrixProductsAsSpecifiedWrong : ChangeSpec := { name := "matrixProductsAsSpecified", fn := fun _ => fun
  | [d1, d2, d3] => { results := [.lit (.bool false)], args := [d1, d2, d3] }
  | _ => none }
def MatrixProductsAsSpecifiedWrongFalsely : Prop := matrixProductsAsSpecifiedRow.holds Tryd.pinned (OpenSpec.ofChange matrixProductsAsSpecifiedWrong)

/-- 'quietuslaw05.MatrixSolutionsAreAll': WHATEVER THE INPUT: true; the input reads as it did. -/
def matrixSolutionsAreAllSpec : ChangeSpec := { name := "matrixSolutionsAreAll", fn := fun _ => fun
  | [d1, d2] => { results := [.lit (.bool true)], args := [d1, d2] }
  | _ => none }
def matrixSolutionsAreAllRow : OpenClaim := { program := "ytijebgceopddmaadoor", sum := "62a7630d7d99527fc83e5a887c41b233edad67ed20f5af66b9f50c0285a79c0d", func := "quietus/quietuslaw05.MatrixSolutionsAreAll", spec := "matrixSolutionsAreAll", unfollowed := true, recurses := true, named := ["quietus/gf.high"], apart := false, laid := [("quietus/gf.high", laid_quietus_gf_high)] }
def MatrixSolutionsAreAllSaid : Prop := matrixSolutionsAreAllRow.holds Tryd.pinned (OpenSpec.ofChange matrixSolutionsAreAllSpec)

/-- ITS FALSE NEIGHBOUR: 'it returns false'. Refute it at one input. -/
def matrixSolutionsAreAllWrong : ChangeSpec := { name := "matrixSolutionsAreAll", fn := fun _ => fun
  | [d1, d2] => { results := [.lit (.bool false)], args := [d1, d2] }
  | _ => none }
def MatrixSolutionsAreAllWrongFalsely : Prop := matrixSolutionsAreAllRow.holds Tryd.pinned (OpenSpec.ofChange matrixSolutionsAreAllWrong)

/-- 'quietuslaw05.MatrixInverts': WHATEVER THE INPUT: true; the input reads as it did. -/
def matrixInvertsSpec : ChangeSpec := { name := "matrixInverts", fn := fun _ => fun
  | [d1, d2] => { results := [.lit (.bool true)], args := [d1, d2] }
  | _ => none }
def matrixInvertsRow : OpenClaim := { program := "ytijebgceopddmaadoor", sum := "62a7630d7d99527fc83e5a887c41b233edad67ed20f5af66b9f50c0285a79c0d", func := "quietus/quietuslaw05.MatrixInverts", spec := "matrixInverts", unfollowed := true, recurses := true, named := ["quietus/gf.high"], apart := false, laid := [("quietus/gf.high", laid_quietus_gf_high)] }
def MatrixInvertsSaid : Prop := matrixInvertsRow.holds Tryd.pinned (OpenSpec.ofChange matrixInvertsSpec)

/-- ITS FALSE NEIGHBOUR: 'it returns false'. Refute it at one input. -/
def matrixInvertsWrong : ChangeSpec := { name := "matrixInverts", fn := fun _ => fun
  | [d1, d2] => { results := [.lit (.bool false)], args := [d1, d2] }
  | _ => none }
def MatrixInvertsWrongFalsely : Prop := matrixInvertsRow.holds Tryd.pinned (OpenSpec.ofChange matrixInvertsWrong)

/-- 'quietuslaw05.MatrixExpresses': WHATEVER THE INPUT: true; the input reads as it did. -/
def matrixExpressesSpec : ChangeSpec := { name := "matrixExpresses", fn := fun _ => fun
  | [d1, d2] => { results := [.lit (.bool true)], args := [d1, d2] }
  | _ => none }
def matrixExpressesRow : OpenClaim := { program := "ytijebgceopddmaadoor", sum := "62a7630d7d99527fc83e5a887c41b233edad67ed20f5af66b9f50c0285a79c0d", func := "quietus/quietuslaw05.MatrixExpresses", spec := "matrixExpresses", unfollowed := true, recurses := true, named := ["quietus/gf.high"], apart := false, laid := [("quietus/gf.high", laid_quietus_gf_high)] }
def MatrixExpressesSaid : Prop := matrixExpressesRow.holds Tryd.pinned (OpenSpec.ofChange matrixExpressesSpec)

/-- ITS FALSE NEIGHBOUR: 'it returns false'. Refute it at one input. -/
def matrixExpressesWrong : ChangeSpec := { name := "matrixExpresses", fn := fun _ => fun
  | [d1, d2] => { results := [.lit (.bool false)], args := [d1, d2] }
  | _ => none }
def MatrixExpressesWrongFalsely : Prop := matrixExpressesRow.holds Tryd.pinned (OpenSpec.ofChange matrixExpressesWrong)

/-- 'quietuslaw05.MatrixRanks': WHATEVER THE INPUT: true; the input reads as it did. -/
def matrixRanksSpec : ChangeSpec := { name := "matrixRanks", fn := fun _ => fun
  | [d1, d2] => { results := [.lit (.bool true)], args := [d1, d2] }
  | _ => none }
def matrixRanksRow : OpenClaim := { program := "ytijebgceopddmaadoor", sum := "62a7630d7d99527fc83e5a887c41b233edad67ed20f5af66b9f50c0285a79c0d", func := "quietus/quietuslaw05.MatrixRanks", spec := "matrixRanks", unfollowed := true, recurses := true, named := ["quietus/gf.high"], apart := false, laid := [("quietus/gf.high", laid_quietus_gf_high)] }
def MatrixRanksSaid : Prop := matrixRanksRow.holds Tryd.pinned (OpenSpec.ofChange matrixRanksSpec)

/-- ITS FALSE NEIGHBOUR: 'it returns false'. Refute it at one input. -/
def matrixRanksWrong : ChangeSpec := { name := "matrixRanks", fn := fun _ => fun
  | [d1, d2] => { results := [.lit (.bool false)], args := [d1, d2] }
  | _ => none }
def MatrixRanksWrongFalsely : Prop := matrixRanksRow.holds Tryd.pinned (OpenSpec.ofChange matrixRanksWrong)

/- THE SECOND FORM. 'bulk': how many values and letters a reading holds, each counted each time it is reached (what is shared counts as often as it is met; a slice's spare places count too). A statement '..UptoSaid' is the law's where the arguments, and the package variables that the reading takes, are together of bulk at most 1048576: NARROWER than '..Said'. Prove '..Said' where nothing that the law and all that it calls make is longer than what came in: it says more and counts as full. Else prove '..UptoSaid'. A law counts once. -/
mutual
def uptoBulk {H : Type} : DataW H → Nat
  | .lit (.string bytes) => bytes.length + 1
  | .lit _ => 1
  | .nil => 1
  | .ptr d => uptoBulk d + 1
  | .slice elems spare => uptoBulkAll elems + uptoBulkAll spare + 1
  | .agg parts => uptoBulkAll parts + 1
  | .iface _ d => uptoBulk d + 1
  | .map entries => uptoBulkEntries entries + 1
  | .held _ => 1
def uptoBulkAll {H : Type} : List (DataW H) → Nat
  | [] => 0
  | d :: r => uptoBulk d + uptoBulkAll r
def uptoBulkEntries {H : Type} : List (Lit × DataW H) → Nat
  | [] => 0
  | x :: r => uptoBulkEntry x + uptoBulkEntries r
def uptoBulkEntry {H : Type} : Lit × DataW H → Nat
  | (.string bytes, d) => bytes.length + uptoBulk d + 1
  | (_, d) => uptoBulk d + 1
 end
def uptoSmall : (H : Type) → List (DataW H) → Bool := fun _ ds => decide (uptoBulkAll ds ≤ 1048576)
def OpenSpec.upto (s : _root_.Go.ChangeSpec) : _root_.Go.OpenSpec := { _root_.Go.OpenSpec.ofChange s with cond := some uptoSmall }

/-- 'quietuslaw05.MatrixReducesAsSpecified', WHERE WHAT IT READS IS OF BULK AT MOST 1048576: true; the input reads as it did. -/
def matrixReducesAsSpecifiedUptoRow : OpenClaim := { program := "ytijebgceopddmaadoor", sum := "62a7630d7d99527fc83e5a887c41b233edad67ed20f5af66b9f50c0285a79c0d", func := "quietus/quietuslaw05.MatrixReducesAsSpecified", spec := "matrixReducesAsSpecified", unfollowed := true, recurses := true, named := ["quietus/gf.high"], apart := false, laid := [("quietus/gf.high", laid_quietus_gf_high)], narrowed := true }
def MatrixReducesAsSpecifiedUptoSaid : Prop := matrixReducesAsSpecifiedUptoRow.holds Tryd.pinned (OpenSpec.upto matrixReducesAsSpecifiedSpec)

/-- 'quietuslaw05.MatrixSolvesAsSpecified', WHERE WHAT IT READS IS OF BULK AT MOST 1048576: true; the input reads as it did. -/
def matrixSolvesAsSpecifiedUptoRow : OpenClaim := { program := "ytijebgceopddmaadoor", sum := "62a7630d7d99527fc83e5a887c41b233edad67ed20f5af66b9f50c0285a79c0d", func := "quietus/quietuslaw05.MatrixSolvesAsSpecified", spec := "matrixSolvesAsSpecified", unfollowed := true, recurses := true, named := ["quietus/gf.high"], apart := false, laid := [("quietus/gf.high", laid_quietus_gf_high)], narrowed := true }
def MatrixSolvesAsSpecifiedUptoSaid : Prop := matrixSolvesAsSpecifiedUptoRow.holds Tryd.pinned (OpenSpec.upto matrixSolvesAsSpecifiedSpec)

/-- 'quietuslaw05.MatrixProductsAsSpecified', WHERE WHAT IT READS IS OF BULK AT MOST 1048576: true; the input reads as it did. -/
def matrixProductsAsSpecifiedUptoRow : OpenClaim := { program := "ytijebgceopddmaadoor", sum := "62a7630d7d99527fc83e5a887c41b233edad67ed20f5af66b9f50c0285a79c0d", func := "quietus/quietuslaw05.MatrixProductsAsSpecified", spec := "matrixProductsAsSpecified", unfollowed := true, recurses := true, named := ["quietus/gf.high"], apart := false, laid := [("quietus/gf.high", laid_quietus_gf_high)], narrowed := true }
def MatrixProductsAsSpecifiedUptoSaid : Prop := matrixProductsAsSpecifiedUptoRow.holds Tryd.pinned (OpenSpec.upto matrixProductsAsSpecifiedSpec)

/-- 'quietuslaw05.MatrixSolutionsAreAll', WHERE WHAT IT READS IS OF BULK AT MOST 1048576: true; the input reads as it did. -/
def matrixSolutionsAreAllUptoRow : OpenClaim := { program := "ytijebgceopddmaadoor", sum := "62a7630d7d99527fc83e5a887c41b233edad67ed20f5af66b9f50c0285a79c0d", func := "quietus/quietuslaw05.MatrixSolutionsAreAll", spec := "matrixSolutionsAreAll", unfollowed := true, recurses := true, named := ["quietus/gf.high"], apart := false, laid := [("quietus/gf.high", laid_quietus_gf_high)], narrowed := true }
def MatrixSolutionsAreAllUptoSaid : Prop := matrixSolutionsAreAllUptoRow.holds Tryd.pinned (OpenSpec.upto matrixSolutionsAreAllSpec)

/-- 'quietuslaw05.MatrixInverts', WHERE WHAT IT READS IS OF BULK AT MOST 1048576: true; the input reads as it did. -/
def matrixInvertsUptoRow : OpenClaim := { program := "ytijebgceopddmaadoor", sum := "62a7630d7d99527fc83e5a887c41b233edad67ed20f5af66b9f50c0285a79c0d", func := "quietus/quietuslaw05.MatrixInverts", spec := "matrixInverts", unfollowed := true, recurses := true, named := ["quietus/gf.high"], apart := false, laid := [("quietus/gf.high", laid_quietus_gf_high)], narrowed := true }
def MatrixInvertsUptoSaid : Prop := matrixInvertsUptoRow.holds Tryd.pinned (OpenSpec.upto matrixInvertsSpec)

/-- 'quietuslaw05.MatrixExpresses', WHERE WHAT IT READS IS OF BULK AT MOST 1048576: true; the input reads as it did. -/
def matrixExpressesUptoRow : OpenClaim := { program := "ytijebgceopddmaadoor", sum := "62a7630d7d99527fc83e5a887c41b233edad67ed20f5af66b9f50c0285a79c0d", func := "quietus/quietuslaw05.MatrixExpresses", spec := "matrixExpresses", unfollowed := true, recurses := true, named := ["quietus/gf.high"], apart := false, laid := [("quietus/gf.high", laid_quietus_gf_high)], narrowed := true }
def MatrixExpressesUptoSaid : Prop := matrixExpressesUptoRow.holds Tryd.pinned (OpenSpec.upto matrixExpressesSpec)

/-- 'quietuslaw05.MatrixRanks', WHERE WHAT IT READS IS OF BULK AT MOST 1048576: true; the input reads as it did. -/
def matrixRanksUptoRow : OpenClaim := { program := "ytijebgceopddmaadoor", sum := "62a7630d7d99527fc83e5a887c41b233edad67ed20f5af66b9f50c0285a79c0d", func := "quietus/quietuslaw05.MatrixRanks", spec := "matrixRanks", unfollowed := true, recurses := true, named := ["quietus/gf.high"], apart := false, laid := [("quietus/gf.high", laid_quietus_gf_high)], narrowed := true }
def MatrixRanksUptoSaid : Prop := matrixRanksUptoRow.holds Tryd.pinned (OpenSpec.upto matrixRanksSpec)

end Rows
end Go.Proofs.YtijebgceopddmaaDoor
