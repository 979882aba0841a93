/-
  DERIVED. GIVEN WITH THE SEED: THE CARDS: each row of YtijebgceopddmaaDoorRows.lean that lists a variable, with what it lists TIED to the program's text (the seventh form; the later family's looks); each row that meets fmt, with fmt's text TOLD by the authors' own Lean function (tested against real Go, not proved from fmt's source: count such statements apart). THE CARD IS WHAT COUNTS. Prove the row's statement (the work); the ties are given (YtijebgceopddmaaDoorTie.lean); close each card by the builder's one call (the guide's Derived/Test/ToyasCard.lean, 'card_holds'). Laid BY PROGRAM, IN A SANDBOX (cutbox-door.mjs). By AI agents, Wed Nov 11 2026. No macro, syntax, notation, axiom, sorry.
-/
import Derived.Test.YtijebgceopddmaaDoorRows
import GoSem.ClaimSeven
namespace Go.Proofs.YtijebgceopddmaaDoor
namespace Rows

/-- THE TIED CARD OF 'quietuslaw05.MatrixReducesAsSpecified'. -/
def matrixReducesAsSpecifiedCard : Claim7 := { stood := { row := matrixReducesAsSpecifiedRow, standIns := [], harness := (true, "0c132d380c744db80062390ed1dbca7464d5ac2180740eee984a23453e027eaa"), looks := false }, kinds := [], alts := [], laidByText := true, laidKinds := [.data], laidTests := true, laidLooks := .later }
def MatrixReducesAsSpecifiedCardSaid : Prop := Claim7.holds Tryd.pinned (.plain (OpenSpec.ofChange matrixReducesAsSpecifiedSpec)) matrixReducesAsSpecifiedCard

/-- THE TIED CARD OF 'quietuslaw05.MatrixSolvesAsSpecified'. -/
def matrixSolvesAsSpecifiedCard : Claim7 := { stood := { row := matrixSolvesAsSpecifiedRow, standIns := [], harness := (true, "0c132d380c744db80062390ed1dbca7464d5ac2180740eee984a23453e027eaa"), looks := false }, kinds := [], alts := [], laidByText := true, laidKinds := [.data], laidTests := true, laidLooks := .later }
def MatrixSolvesAsSpecifiedCardSaid : Prop := Claim7.holds Tryd.pinned (.plain (OpenSpec.ofChange matrixSolvesAsSpecifiedSpec)) matrixSolvesAsSpecifiedCard

/-- THE TIED CARD OF 'quietuslaw05.MatrixProductsAsSpecified'. -/
def matrixProductsAsSpecifiedCard : Claim7 := { stood := { row := matrixProductsAsSpecifiedRow, standIns := [], harness := (true, "0c132d380c744db80062390ed1dbca7464d5ac2180740eee984a23453e027eaa"), looks := false }, kinds := [], alts := [], laidByText := true, laidKinds := [.data], laidTests := true, laidLooks := .later }
def MatrixProductsAsSpecifiedCardSaid : Prop := Claim7.holds Tryd.pinned (.plain (OpenSpec.ofChange matrixProductsAsSpecifiedSpec)) matrixProductsAsSpecifiedCard

/-- THE TIED CARD OF 'quietuslaw05.MatrixSolutionsAreAll'. -/
def matrixSolutionsAreAllCard : Claim7 := { stood := { row := matrixSolutionsAreAllRow, standIns := [], harness := (true, "0c132d380c744db80062390ed1dbca7464d5ac2180740eee984a23453e027eaa"), looks := false }, kinds := [], alts := [], laidByText := true, laidKinds := [.data], laidTests := true, laidLooks := .later }
def MatrixSolutionsAreAllCardSaid : Prop := Claim7.holds Tryd.pinned (.plain (OpenSpec.ofChange matrixSolutionsAreAllSpec)) matrixSolutionsAreAllCard

/-- THE TIED CARD OF 'quietuslaw05.MatrixInverts'. -/
def matrixInvertsCard : Claim7 := { stood := { row := matrixInvertsRow, standIns := [], harness := (true, "0c132d380c744db80062390ed1dbca7464d5ac2180740eee984a23453e027eaa"), looks := false }, kinds := [], alts := [], laidByText := true, laidKinds := [.data], laidTests := true, laidLooks := .later }
def MatrixInvertsCardSaid : Prop := Claim7.holds Tryd.pinned (.plain (OpenSpec.ofChange matrixInvertsSpec)) matrixInvertsCard

/-- THE TIED CARD OF 'quietuslaw05.MatrixExpresses'. -/
def matrixExpressesCard : Claim7 := { stood := { row := matrixExpressesRow, standIns := [], harness := (true, "0c132d380c744db80062390ed1dbca7464d5ac2180740eee984a23453e027eaa"), looks := false }, kinds := [], alts := [], laidByText := true, laidKinds := [.data], laidTests := true, laidLooks := .later }
def MatrixExpressesCardSaid : Prop := Claim7.holds Tryd.pinned (.plain (OpenSpec.ofChange matrixExpressesSpec)) matrixExpressesCard

/-- THE TIED CARD OF 'quietuslaw05.MatrixRanks'. -/
def matrixRanksCard : Claim7 := { stood := { row := matrixRanksRow, standIns := [], harness := (true, "0c132d380c744db80062390ed1dbca7464d5ac2180740eee984a23453e027eaa"), looks := false }, kinds := [], alts := [], laidByText := true, laidKinds := [.data], laidTests := true, laidLooks := .later }
def MatrixRanksCardSaid : Prop := Claim7.holds Tryd.pinned (.plain (OpenSpec.ofChange matrixRanksSpec)) matrixRanksCard

/-- THE SECOND FORM's CARD OF 'quietuslaw05.MatrixReducesAsSpecified'. -/
def matrixReducesAsSpecifiedUptoCard : Claim7 := { stood := { row := matrixReducesAsSpecifiedUptoRow, standIns := [], harness := (true, "0c132d380c744db80062390ed1dbca7464d5ac2180740eee984a23453e027eaa"), looks := false }, kinds := [], alts := [], laidByText := true, laidKinds := [.data], laidTests := true, laidLooks := .later }
def MatrixReducesAsSpecifiedUptoCardSaid : Prop := Claim7.holds Tryd.pinned (.plain (OpenSpec.upto matrixReducesAsSpecifiedSpec)) matrixReducesAsSpecifiedUptoCard

/-- THE SECOND FORM's CARD OF 'quietuslaw05.MatrixSolvesAsSpecified'. -/
def matrixSolvesAsSpecifiedUptoCard : Claim7 := { stood := { row := matrixSolvesAsSpecifiedUptoRow, standIns := [], harness := (true, "0c132d380c744db80062390ed1dbca7464d5ac2180740eee984a23453e027eaa"), looks := false }, kinds := [], alts := [], laidByText := true, laidKinds := [.data], laidTests := true, laidLooks := .later }
def MatrixSolvesAsSpecifiedUptoCardSaid : Prop := Claim7.holds Tryd.pinned (.plain (OpenSpec.upto matrixSolvesAsSpecifiedSpec)) matrixSolvesAsSpecifiedUptoCard

/-- THE SECOND FORM's CARD OF 'quietuslaw05.MatrixProductsAsSpecified'. -/
def matrixProductsAsSpecifiedUptoCard : Claim7 := { stood := { row := matrixProductsAsSpecifiedUptoRow, standIns := [], harness := (true, "0c132d380c744db80062390ed1dbca7464d5ac2180740eee984a23453e027eaa"), looks := false }, kinds := [], alts := [], laidByText := true, laidKinds := [.data], laidTests := true, laidLooks := .later }
def MatrixProductsAsSpecifiedUptoCardSaid : Prop := Claim7.holds Tryd.pinned (.plain (OpenSpec.upto matrixProductsAsSpecifiedSpec)) matrixProductsAsSpecifiedUptoCard

/-- THE SECOND FORM's CARD OF 'quietuslaw05.MatrixSolutionsAreAll'. -/
def matrixSolutionsAreAllUptoCard : Claim7 := { stood := { row := matrixSolutionsAreAllUptoRow, standIns := [], harness := (true, "0c132d380c744db80062390ed1dbca7464d5ac2180740eee984a23453e027eaa"), looks := false }, kinds := [], alts := [], laidByText := true, laidKinds := [.data], laidTests := true, laidLooks := .later }
def MatrixSolutionsAreAllUptoCardSaid : Prop := Claim7.holds Tryd.pinned (.plain (OpenSpec.upto matrixSolutionsAreAllSpec)) matrixSolutionsAreAllUptoCard

/-- THE SECOND FORM's CARD OF 'quietuslaw05.MatrixInverts'. -/
def matrixInvertsUptoCard : Claim7 := { stood := { row := matrixInvertsUptoRow, standIns := [], harness := (true, "0c132d380c744db80062390ed1dbca7464d5ac2180740eee984a23453e027eaa"), looks := false }, kinds := [], alts := [], laidByText := true, laidKinds := [.data], laidTests := true, laidLooks := .later }
def MatrixInvertsUptoCardSaid : Prop := Claim7.holds Tryd.pinned (.plain (OpenSpec.upto matrixInvertsSpec)) matrixInvertsUptoCard

/-- THE SECOND FORM's CARD OF 'quietuslaw05.MatrixExpresses'. -/
def matrixExpressesUptoCard : Claim7 := { stood := { row := matrixExpressesUptoRow, standIns := [], harness := (true, "0c132d380c744db80062390ed1dbca7464d5ac2180740eee984a23453e027eaa"), looks := false }, kinds := [], alts := [], laidByText := true, laidKinds := [.data], laidTests := true, laidLooks := .later }
def MatrixExpressesUptoCardSaid : Prop := Claim7.holds Tryd.pinned (.plain (OpenSpec.upto matrixExpressesSpec)) matrixExpressesUptoCard

/-- THE SECOND FORM's CARD OF 'quietuslaw05.MatrixRanks'. -/
def matrixRanksUptoCard : Claim7 := { stood := { row := matrixRanksUptoRow, standIns := [], harness := (true, "0c132d380c744db80062390ed1dbca7464d5ac2180740eee984a23453e027eaa"), looks := false }, kinds := [], alts := [], laidByText := true, laidKinds := [.data], laidTests := true, laidLooks := .later }
def MatrixRanksUptoCardSaid : Prop := Claim7.holds Tryd.pinned (.plain (OpenSpec.upto matrixRanksSpec)) matrixRanksUptoCard
end Rows
end Go.Proofs.YtijebgceopddmaaDoor
