/-
  No cell of these rows narrows 'for every input' (looked for: loops, veiled, ifaces, maps, wideKeys, modest, calm, conditions, laid).
  DERIVED. THE GIVEN ROWS OF THIS SEAT. 9 by the template 'for every input the law returns true; each argument reads behind the call as it read before'; 0 by the template 'total and deterministic' (their statements: YtincemkjdgbnnaaTotals.lean).
  GIVEN WITH THE SEED: the statements are not yours to turn. If you find one false, say at which input.
  Laid BY PROGRAM, IN A SANDBOX (cutbox-rows.mjs): the forced cells as the released guide's own fill.sh prints them over the translation a58cd7ddc0490de8… (all of the seat's roots in one cut). By AI agents, Wed Nov 11 2026. No macro, syntax, notation, axiom, sorry.
-/
import Derived.Test.YtincemkjdgbnnaaChecked
import GoSem.Claim
import GoSem.ClaimJoined
import GoSem.ClaimMapViews
import Derived.JoinedTies
import Derived.KernelRfl
namespace Go.Proofs.Ytincemkjdgbnnaa
/- THE CELL 'sum', in the pinned program and in every row, IS THE sha256 OF THE DUMP (.gsa) THAT YtincemkjdgbnnaaProg.lean LOADS. Nothing in Lean hashes anything: it is a label: what it is worth is what the hold of that sum in a sandbox is worth. -/
noncomputable def Try.pinned : Pinned := { name := "ytincemkjdgbnnaa", sum := "a58cd7ddc0490de87f70655dd216225c33572224aa959f774f41365b17f1db7f", checked := Try.checked }
namespace Rows
def none {H : Type} : Left H := { results := [], args := [] }

/-- 'quarrylaw06.FieldFermat': WHATEVER THE INPUT: true; the input reads as it did. -/
def fieldFermatSpec : ChangeSpec := { name := "fieldFermat", fn := fun _ => fun
  | [d] => { results := [.lit (.bool true)], args := [d] }
  | _ => none }
def fieldFermatRow : OpenClaim := { program := "ytincemkjdgbnnaa", sum := "a58cd7ddc0490de87f70655dd216225c33572224aa959f774f41365b17f1db7f", func := "quarry/quarrylaw06.FieldFermat", spec := "fieldFermat", inPlace := ["math/bits.Add64", "math/bits.Sub64"], named := ["math/bits.divideError", "math/bits.overflowError"], apart := false }
def FieldFermatSaid : Prop := fieldFermatRow.holds Try.pinned (OpenSpec.ofChange fieldFermatSpec)

/-- ITS FALSE NEIGHBOUR: 'it returns false'. Refute it at one input. -/
def fieldFermatWrong : ChangeSpec := { name := "fieldFermat", fn := fun _ => fun
  | [d] => { results := [.lit (.bool false)], args := [d] }
  | _ => none }
def FieldFermatWrongFalsely : Prop := fieldFermatRow.holds Try.pinned (OpenSpec.ofChange fieldFermatWrong)

/-- 'quarrylaw06.FieldCodes': WHATEVER THE INPUT: true; the input reads as it did. -/
def fieldCodesSpec : ChangeSpec := { name := "fieldCodes", fn := fun _ => fun
  | [d1, d2] => { results := [.lit (.bool true)], args := [d1, d2] }
  | _ => none }
def fieldCodesRow : OpenClaim := { program := "ytincemkjdgbnnaa", sum := "a58cd7ddc0490de87f70655dd216225c33572224aa959f774f41365b17f1db7f", func := "quarry/quarrylaw06.FieldCodes", spec := "fieldCodes", inPlace := ["math/bits.Add64", "math/bits.Sub64"], named := ["math/bits.divideError", "math/bits.overflowError"], apart := false }
def FieldCodesSaid : Prop := fieldCodesRow.holds Try.pinned (OpenSpec.ofChange fieldCodesSpec)

/-- ITS FALSE NEIGHBOUR: 'it returns false'. Refute it at one input. -/
def fieldCodesWrong : ChangeSpec := { name := "fieldCodes", fn := fun _ => fun
  | [d1, d2] => { results := [.lit (.bool false)], args := [d1, d2] }
  | _ => none }
def FieldCodesWrongFalsely : Prop := fieldCodesRow.holds Try.pinned (OpenSpec.ofChange fieldCodesWrong)

/-- 'quarrylaw06.FieldInverse': WHATEVER THE INPUT: true; the input reads as it did. -/
def fieldInverseSpec : ChangeSpec := { name := "fieldInverse", fn := fun _ => fun
  | [d] => { results := [.lit (.bool true)], args := [d] }
  | _ => none }
def fieldInverseRow : OpenClaim := { program := "ytincemkjdgbnnaa", sum := "a58cd7ddc0490de87f70655dd216225c33572224aa959f774f41365b17f1db7f", func := "quarry/quarrylaw06.FieldInverse", spec := "fieldInverse", inPlace := ["math/bits.Add64", "math/bits.Sub64"], named := ["math/bits.divideError", "math/bits.overflowError"], apart := false }
def FieldInverseSaid : Prop := fieldInverseRow.holds Try.pinned (OpenSpec.ofChange fieldInverseSpec)

/-- ITS FALSE NEIGHBOUR: 'it returns false'. Refute it at one input. -/
def fieldInverseWrong : ChangeSpec := { name := "fieldInverse", fn := fun _ => fun
  | [d] => { results := [.lit (.bool false)], args := [d] }
  | _ => none }
def FieldInverseWrongFalsely : Prop := fieldInverseRow.holds Try.pinned (OpenSpec.ofChange fieldInverseWrong)

/-- 'quarrylaw06.FieldSums': WHATEVER THE INPUT: true; the input reads as it did. -/
def fieldSumsSpec : ChangeSpec := { name := "fieldSums", fn := fun _ => fun
  | [d] => { results := [.lit (.bool true)], args := [d] }
  | _ => none }
def fieldSumsRow : OpenClaim := { program := "ytincemkjdgbnnaa", sum := "a58cd7ddc0490de87f70655dd216225c33572224aa959f774f41365b17f1db7f", func := "quarry/quarrylaw06.FieldSums", spec := "fieldSums", inPlace := ["math/bits.Add64", "math/bits.Sub64"], named := ["math/bits.divideError", "math/bits.overflowError"], apart := false }
def FieldSumsSaid : Prop := fieldSumsRow.holds Try.pinned (OpenSpec.ofChange fieldSumsSpec)

/-- ITS FALSE NEIGHBOUR: 'it returns false'. Refute it at one input. -/
def fieldSumsWrong : ChangeSpec := { name := "fieldSums", fn := fun _ => fun
  | [d] => { results := [.lit (.bool false)], args := [d] }
  | _ => none }
def FieldSumsWrongFalsely : Prop := fieldSumsRow.holds Try.pinned (OpenSpec.ofChange fieldSumsWrong)

/-- 'quarrylaw06.FieldLaws': WHATEVER THE INPUT: true; the input reads as it did. -/
def fieldLawsSpec : ChangeSpec := { name := "fieldLaws", fn := fun _ => fun
  | [d] => { results := [.lit (.bool true)], args := [d] }
  | _ => none }
def fieldLawsRow : OpenClaim := { program := "ytincemkjdgbnnaa", sum := "a58cd7ddc0490de87f70655dd216225c33572224aa959f774f41365b17f1db7f", func := "quarry/quarrylaw06.FieldLaws", spec := "fieldLaws", inPlace := ["math/bits.Add64", "math/bits.Sub64"], named := ["math/bits.divideError", "math/bits.overflowError"], apart := false }
def FieldLawsSaid : Prop := fieldLawsRow.holds Try.pinned (OpenSpec.ofChange fieldLawsSpec)

/-- ITS FALSE NEIGHBOUR: 'it returns false'. Refute it at one input. -/
def fieldLawsWrong : ChangeSpec := { name := "fieldLaws", fn := fun _ => fun
  | [d] => { results := [.lit (.bool false)], args := [d] }
  | _ => none }
def FieldLawsWrongFalsely : Prop := fieldLawsRow.holds Try.pinned (OpenSpec.ofChange fieldLawsWrong)

/-- 'quarrylaw06.FieldRoot': WHATEVER THE INPUT: true; the input reads as it did. -/
def fieldRootSpec : ChangeSpec := { name := "fieldRoot", fn := fun _ => fun
  | [d] => { results := [.lit (.bool true)], args := [d] }
  | _ => none }
def fieldRootRow : OpenClaim := { program := "ytincemkjdgbnnaa", sum := "a58cd7ddc0490de87f70655dd216225c33572224aa959f774f41365b17f1db7f", func := "quarry/quarrylaw06.FieldRoot", spec := "fieldRoot", inPlace := ["math/bits.Add64", "math/bits.Sub64"], named := ["math/bits.divideError", "math/bits.overflowError"], apart := false }
def FieldRootSaid : Prop := fieldRootRow.holds Try.pinned (OpenSpec.ofChange fieldRootSpec)

/-- ITS FALSE NEIGHBOUR: 'it returns false'. Refute it at one input. -/
def fieldRootWrong : ChangeSpec := { name := "fieldRoot", fn := fun _ => fun
  | [d] => { results := [.lit (.bool false)], args := [d] }
  | _ => none }
def FieldRootWrongFalsely : Prop := fieldRootRow.holds Try.pinned (OpenSpec.ofChange fieldRootWrong)

/-- 'quarrylaw07.TowerProducts': WHATEVER THE INPUT: true; the input reads as it did. -/
def towerProductsSpec : ChangeSpec := { name := "towerProducts", fn := fun _ => fun
  | [d] => { results := [.lit (.bool true)], args := [d] }
  | _ => none }
def towerProductsRow : OpenClaim := { program := "ytincemkjdgbnnaa", sum := "a58cd7ddc0490de87f70655dd216225c33572224aa959f774f41365b17f1db7f", func := "quarry/quarrylaw07.TowerProducts", spec := "towerProducts", inPlace := ["math/bits.Add64", "math/bits.Sub64"], unfollowed := true, recurses := true, named := ["math/bits.divideError", "math/bits.overflowError"], apart := false }
def TowerProductsSaid : Prop := towerProductsRow.holds Try.pinned (OpenSpec.ofChange towerProductsSpec)

/-- ITS FALSE NEIGHBOUR: 'it returns false'. Refute it at one input. -/
def towerProductsWrong : ChangeSpec := { name := "towerProducts", fn := fun _ => fun
  | [d] => { results := [.lit (.bool false)], args := [d] }
  | _ => none }
def TowerProductsWrongFalsely : Prop := towerProductsRow.holds Try.pinned (OpenSpec.ofChange towerProductsWrong)

/-- 'quarrylaw07.TowerLaws': WHATEVER THE INPUT: true; the input reads as it did. -/
def towerLawsSpec : ChangeSpec := { name := "towerLaws", fn := fun _ => fun
  | [d] => { results := [.lit (.bool true)], args := [d] }
  | _ => none }
def towerLawsRow : OpenClaim := { program := "ytincemkjdgbnnaa", sum := "a58cd7ddc0490de87f70655dd216225c33572224aa959f774f41365b17f1db7f", func := "quarry/quarrylaw07.TowerLaws", spec := "towerLaws", inPlace := ["math/bits.Add64", "math/bits.Sub64"], unfollowed := true, recurses := true, named := ["math/bits.divideError", "math/bits.overflowError"], apart := false }
def TowerLawsSaid : Prop := towerLawsRow.holds Try.pinned (OpenSpec.ofChange towerLawsSpec)

/-- ITS FALSE NEIGHBOUR: 'it returns false'. Refute it at one input. -/
def towerLawsWrong : ChangeSpec := { name := "towerLaws", fn := fun _ => fun
  | [d] => { results := [.lit (.bool false)], args := [d] }
  | _ => none }
def TowerLawsWrongFalsely : Prop := towerLawsRow.holds Try.pinned (OpenSpec.ofChange towerLawsWrong)

/-- 'quarrylaw07.TowerPowers': WHATEVER THE INPUT: true; the input reads as it did. -/
def towerPowersSpec : ChangeSpec := { name := "towerPowers", fn := fun _ => fun
  | [d] => { results := [.lit (.bool true)], args := [d] }
  | _ => none }
def towerPowersRow : OpenClaim := { program := "ytincemkjdgbnnaa", sum := "a58cd7ddc0490de87f70655dd216225c33572224aa959f774f41365b17f1db7f", func := "quarry/quarrylaw07.TowerPowers", spec := "towerPowers", inPlace := ["math/bits.Add64", "math/bits.Sub64"], unfollowed := true, recurses := true, named := ["math/bits.divideError", "math/bits.overflowError"], apart := false }
def TowerPowersSaid : Prop := towerPowersRow.holds Try.pinned (OpenSpec.ofChange towerPowersSpec)

/-- ITS FALSE NEIGHBOUR: 'it returns false'. Refute it at one input. -/
def towerPowersWrong : ChangeSpec := { name := "towerPowers", fn := fun _ => fun
  | [d] => { results := [.lit (.bool false)], args := [d] }
  | _ => none }
def TowerPowersWrongFalsely : Prop := towerPowersRow.holds Try.pinned (OpenSpec.ofChange towerPowersWrong)

/- THE SECOND FORM. 'bulk': how many values and letters a reading holds, each counted each time it is reached (what is shared counts as often as it is met; a slice's spare places count too). A statement '..UptoSaid' is the law's where the arguments, and the package variables that the reading takes, are together of bulk at most 1048576: NARROWER than '..Said'. Prove '..Said' where nothing that the law and all that it calls make is longer than what came in: it says more and counts as full. Else prove '..UptoSaid'. A law counts once. -/
mutual
def uptoBulk {H : Type} : DataW H → Nat
  | .lit (.string bytes) => bytes.length + 1
  | .lit _ => 1
  | .nil => 1
  | .ptr d => uptoBulk d + 1
  | .slice elems spare => uptoBulkAll elems + uptoBulkAll spare + 1
  | .agg parts => uptoBulkAll parts + 1
  | .iface _ d => uptoBulk d + 1
  | .map entries => uptoBulkEntries entries + 1
  | .held _ => 1
def uptoBulkAll {H : Type} : List (DataW H) → Nat
  | [] => 0
  | d :: r => uptoBulk d + uptoBulkAll r
def uptoBulkEntries {H : Type} : List (Lit × DataW H) → Nat
  | [] => 0
  | x :: r => uptoBulkEntry x + uptoBulkEntries r
def uptoBulkEntry {H : Type} : Lit × DataW H → Nat
  | (.string bytes, d) => bytes.length + uptoBulk d + 1
  | (_, d) => uptoBulk d + 1
 end
def uptoSmall : (H : Type) → List (DataW H) → Bool := fun _ ds => decide (uptoBulkAll ds ≤ 1048576)
def OpenSpec.upto (s : _root_.Go.ChangeSpec) : _root_.Go.OpenSpec := { _root_.Go.OpenSpec.ofChange s with cond := some uptoSmall }

/-- 'quarrylaw06.FieldFermat', WHERE WHAT IT READS IS OF BULK AT MOST 1048576: true; the input reads as it did. -/
def fieldFermatUptoRow : OpenClaim := { program := "ytincemkjdgbnnaa", sum := "a58cd7ddc0490de87f70655dd216225c33572224aa959f774f41365b17f1db7f", func := "quarry/quarrylaw06.FieldFermat", spec := "fieldFermat", inPlace := ["math/bits.Add64", "math/bits.Sub64"], named := ["math/bits.divideError", "math/bits.overflowError"], apart := false, narrowed := true }
def FieldFermatUptoSaid : Prop := fieldFermatUptoRow.holds Try.pinned (OpenSpec.upto fieldFermatSpec)

/-- 'quarrylaw06.FieldCodes', WHERE WHAT IT READS IS OF BULK AT MOST 1048576: true; the input reads as it did. -/
def fieldCodesUptoRow : OpenClaim := { program := "ytincemkjdgbnnaa", sum := "a58cd7ddc0490de87f70655dd216225c33572224aa959f774f41365b17f1db7f", func := "quarry/quarrylaw06.FieldCodes", spec := "fieldCodes", inPlace := ["math/bits.Add64", "math/bits.Sub64"], named := ["math/bits.divideError", "math/bits.overflowError"], apart := false, narrowed := true }
def FieldCodesUptoSaid : Prop := fieldCodesUptoRow.holds Try.pinned (OpenSpec.upto fieldCodesSpec)

/-- 'quarrylaw06.FieldInverse', WHERE WHAT IT READS IS OF BULK AT MOST 1048576: true; the input reads as it did. -/
def fieldInverseUptoRow : OpenClaim := { program := "ytincemkjdgbnnaa", sum := "a58cd7ddc0490de87f70655dd216225c33572224aa959f774f41365b17f1db7f", func := "quarry/quarrylaw06.FieldInverse", spec := "fieldInverse", inPlace := ["math/bits.Add64", "math/bits.Sub64"], named := ["math/bits.divideError", "math/bits.overflowError"], apart := false, narrowed := true }
def FieldInverseUptoSaid : Prop := fieldInverseUptoRow.holds Try.pinned (OpenSpec.upto fieldInverseSpec)

/-- 'quarrylaw06.FieldSums', WHERE WHAT IT READS IS OF BULK AT MOST 1048576: true; the input reads as it did. -/
def fieldSumsUptoRow : OpenClaim := { program := "ytincemkjdgbnnaa", sum := "a58cd7ddc0490de87f70655dd216225c33572224aa959f774f41365b17f1db7f", func := "quarry/quarrylaw06.FieldSums", spec := "fieldSums", inPlace := ["math/bits.Add64", "math/bits.Sub64"], named := ["math/bits.divideError", "math/bits.overflowError"], apart := false, narrowed := true }
def FieldSumsUptoSaid : Prop := fieldSumsUptoRow.holds Try.pinned (OpenSpec.upto fieldSumsSpec)

/-- 'quarrylaw06.FieldLaws', WHERE WHAT IT READS IS OF BULK AT MOST 1048576: true; the input reads as it did. -/
def fieldLawsUptoRow : OpenClaim := { program := "ytincemkjdgbnnaa", sum := "a58cd7ddc0490de87f70655dd216225c33572224aa959f774f41365b17f1db7f", func := "quarry/quarrylaw06.FieldLaws", spec := "fieldLaws", inPlace := ["math/bits.Add64", "math/bits.Sub64"], named := ["math/bits.divideError", "math/bits.overflowError"], apart := false, narrowed := true }
def FieldLawsUptoSaid : Prop := fieldLawsUptoRow.holds Try.pinned (OpenSpec.upto fieldLawsSpec)

/-- 'quarrylaw06.FieldRoot', WHERE WHAT IT READS IS OF BULK AT MOST 1048576: true; the input reads as it did. -/
def fieldRootUptoRow : OpenClaim := { program := "ytincemkjdgbnnaa", sum := "a58cd7ddc0490de87f70655dd216225c33572224aa959f774f41365b17f1db7f", func := "quarry/quarrylaw06.FieldRoot", spec := "fieldRoot", inPlace := ["math/bits.Add64", "math/bits.Sub64"], named := ["math/bits.divideError", "math/bits.overflowError"], apart := false, narrowed := true }
def FieldRootUptoSaid : Prop := fieldRootUptoRow.holds Try.pinned (OpenSpec.upto fieldRootSpec)

/-- 'quarrylaw07.TowerProducts', WHERE WHAT IT READS IS OF BULK AT MOST 1048576: true; the input reads as it did. -/
def towerProductsUptoRow : OpenClaim := { program := "ytincemkjdgbnnaa", sum := "a58cd7ddc0490de87f70655dd216225c33572224aa959f774f41365b17f1db7f", func := "quarry/quarrylaw07.TowerProducts", spec := "towerProducts", inPlace := ["math/bits.Add64", "math/bits.Sub64"], unfollowed := true, recurses := true, named := ["math/bits.divideError", "math/bits.overflowError"], apart := false, narrowed := true }
def TowerProductsUptoSaid : Prop := towerProductsUptoRow.holds Try.pinned (OpenSpec.upto towerProductsSpec)

/-- 'quarrylaw07.TowerLaws', WHERE WHAT IT READS IS OF BULK AT MOST 1048576: true; the input reads as it did. -/
def towerLawsUptoRow : OpenClaim := { program := "ytincemkjdgbnnaa", sum := "a58cd7ddc0490de87f70655dd216225c33572224aa959f774f41365b17f1db7f", func := "quarry/quarrylaw07.TowerLaws", spec := "towerLaws", inPlace := ["math/bits.Add64", "math/bits.Sub64"], unfollowed := true, recurses := true, named := ["math/bits.divideError", "math/bits.overflowError"], apart := false, narrowed := true }
def TowerLawsUptoSaid : Prop := towerLawsUptoRow.holds Try.pinned (OpenSpec.upto towerLawsSpec)

/-- 'quarrylaw07.TowerPowers', WHERE WHAT IT READS IS OF BULK AT MOST 1048576: true; the input reads as it did. -/
def towerPowersUptoRow : OpenClaim := { program := "ytincemkjdgbnnaa", sum := "a58cd7ddc0490de87f70655dd216225c33572224aa959f774f41365b17f1db7f", func := "quarry/quarrylaw07.TowerPowers", spec := "towerPowers", inPlace := ["math/bits.Add64", "math/bits.Sub64"], unfollowed := true, recurses := true, named := ["math/bits.divideError", "math/bits.overflowError"], apart := false, narrowed := true }
def TowerPowersUptoSaid : Prop := towerPowersUptoRow.holds Try.pinned (OpenSpec.upto towerPowersSpec)

end Rows
end Go.Proofs.Ytincemkjdgbnnaa
