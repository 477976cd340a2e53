/-
  No cell of these rows narrows 'for every input' (looked for: loops, veiled, ifaces, maps, wideKeys, modest, calm, conditions, laid).
  DERIVED. THE GIVEN ROWS OF THIS SEAT. 14 by the template 'for every input the law returns true; each argument reads behind the call as it read before'; 0 by the template 'total and deterministic' (their statements: YthglackkhajapaaTotals.lean).
  GIVEN WITH THE SEED: the statements are not yours to turn. If you find one false, say at which input.
  Laid BY PROGRAM, IN A SANDBOX (cutbox-rows.mjs): the forced cells as the released guide's own fill.sh prints them over the translation 9762d4df307002f3… (all of the seat's roots in one cut). By AI agents, Wed Nov 11 2026. No macro, syntax, notation, axiom, sorry.
-/
import Derived.Test.YthglackkhajapaaChecked
import GoSem.Claim
import GoSem.ClaimJoined
import GoSem.ClaimMapViews
import Derived.JoinedTies
import Derived.KernelRfl
namespace Go.Proofs.Ythglackkhajapaa
/- THE CELL 'sum', in the pinned program and in every row, IS THE sha256 OF THE DUMP (.gsa) THAT YthglackkhajapaaProg.lean LOADS. Nothing in Lean hashes anything: it is a label: what it is worth is what the hold of that sum in a sandbox is worth. -/
noncomputable def Try.pinned : Pinned := { name := "ythglackkhajapaa", sum := "9762d4df307002f384111b43283626567cb22a6dea9f8c6482cf02a5e06ac674", checked := Try.checked }
namespace Rows
def none {H : Type} : Left H := { results := [], args := [] }

/-- 'ossuarylaw0.OssuaryNames': WHATEVER THE INPUT: true; the input reads as it did. -/
def ossuaryNamesSpec : ChangeSpec := { name := "ossuaryNames", fn := fun _ => fun
  | [] => { results := [.lit (.bool true)], args := [] }
  | _ => none }
def ossuaryNamesRow : OpenClaim := { program := "ythglackkhajapaa", sum := "9762d4df307002f384111b43283626567cb22a6dea9f8c6482cf02a5e06ac674", func := "ossuary/ossuarylaw0.OssuaryNames", spec := "ossuaryNames", apart := false }
def OssuaryNamesSaid : Prop := ossuaryNamesRow.holds Try.pinned (OpenSpec.ofChange ossuaryNamesSpec)

/-- ITS FALSE NEIGHBOUR: 'it returns false'. Refute it at one input. -/
def ossuaryNamesWrong : ChangeSpec := { name := "ossuaryNames", fn := fun _ => fun
  | [] => { results := [.lit (.bool false)], args := [] }
  | _ => none }
def OssuaryNamesWrongFalsely : Prop := ossuaryNamesRow.holds Try.pinned (OpenSpec.ofChange ossuaryNamesWrong)

/-- 'ossuarylaw16.Places': WHATEVER THE INPUT: true; the input reads as it did. -/
def placesSpec : ChangeSpec := { name := "places", fn := fun _ => fun
  | [d1, d2, d3, d4, d5] => { results := [.lit (.bool true)], args := [d1, d2, d3, d4, d5] }
  | _ => none }
def placesRow : OpenClaim := { program := "ythglackkhajapaa", sum := "9762d4df307002f384111b43283626567cb22a6dea9f8c6482cf02a5e06ac674", func := "ossuary/ossuarylaw16.Places", spec := "places", apart := false }
def PlacesSaid : Prop := placesRow.holds Try.pinned (OpenSpec.ofChange placesSpec)

/-- ITS FALSE NEIGHBOUR: 'it returns false'. Refute it at one input. -/
def placesWrong : ChangeSpec := { name := "places", fn := fun _ => fun
  | [d1, d2, d3, d4, d5] => { results := [.lit (.bool false)], args := [d1, d2, d3, d4, d5] }
  | _ => none }
def PlacesWrongFalsely : Prop := placesRow.holds Try.pinned (OpenSpec.ofChange placesWrong)

/-- 'ossuarylaw16.PlaceApart': WHATEVER THE INPUT: true; the input reads as it did. -/
def placeApartSpec : ChangeSpec := { name := "placeApart", fn := fun _ => fun
  | [d1, d2, d3, d4] => { results := [.lit (.bool true)], args := [d1, d2, d3, d4] }
  | _ => none }
def placeApartRow : OpenClaim := { program := "ythglackkhajapaa", sum := "9762d4df307002f384111b43283626567cb22a6dea9f8c6482cf02a5e06ac674", func := "ossuary/ossuarylaw16.PlaceApart", spec := "placeApart", apart := false }
def PlaceApartSaid : Prop := placeApartRow.holds Try.pinned (OpenSpec.ofChange placeApartSpec)

/-- ITS FALSE NEIGHBOUR: 'it returns false'. Refute it at one input. -/
def placeApartWrong : ChangeSpec := { name := "placeApart", fn := fun _ => fun
  | [d1, d2, d3, d4] => { results := [.lit (.bool false)], args := [d1, d2, d3, d4] }
  | _ => none }
def PlaceApartWrongFalsely : Prop := placeApartRow.holds Try.pinned (OpenSpec.ofChange placeApartWrong)

/-- 'ossuarylaw16.PlaceForms': WHATEVER THE INPUT: true; the input reads as it did. -/
def placeFormsSpec : ChangeSpec := { name := "placeForms", fn := fun _ => fun
  | [d] => { results := [.lit (.bool true)], args := [d] }
  | _ => none }
def placeFormsRow : OpenClaim := { program := "ythglackkhajapaa", sum := "9762d4df307002f384111b43283626567cb22a6dea9f8c6482cf02a5e06ac674", func := "ossuary/ossuarylaw16.PlaceForms", spec := "placeForms", apart := false }
def PlaceFormsSaid : Prop := placeFormsRow.holds Try.pinned (OpenSpec.ofChange placeFormsSpec)

/-- ITS FALSE NEIGHBOUR: 'it returns false'. Refute it at one input. -/
def placeFormsWrong : ChangeSpec := { name := "placeForms", fn := fun _ => fun
  | [d] => { results := [.lit (.bool false)], args := [d] }
  | _ => none }
def PlaceFormsWrongFalsely : Prop := placeFormsRow.holds Try.pinned (OpenSpec.ofChange placeFormsWrong)

/-- 'ossuarylaw16.PlaceRound': WHATEVER THE INPUT: true; the input reads as it did. -/
def placeRoundSpec : ChangeSpec := { name := "placeRound", fn := fun _ => fun
  | [d1, d2, d3, d4] => { results := [.lit (.bool true)], args := [d1, d2, d3, d4] }
  | _ => none }
def placeRoundRow : OpenClaim := { program := "ythglackkhajapaa", sum := "9762d4df307002f384111b43283626567cb22a6dea9f8c6482cf02a5e06ac674", func := "ossuary/ossuarylaw16.PlaceRound", spec := "placeRound", apart := false }
def PlaceRoundSaid : Prop := placeRoundRow.holds Try.pinned (OpenSpec.ofChange placeRoundSpec)

/-- ITS FALSE NEIGHBOUR: 'it returns false'. Refute it at one input. -/
def placeRoundWrong : ChangeSpec := { name := "placeRound", fn := fun _ => fun
  | [d1, d2, d3, d4] => { results := [.lit (.bool false)], args := [d1, d2, d3, d4] }
  | _ => none }
def PlaceRoundWrongFalsely : Prop := placeRoundRow.holds Try.pinned (OpenSpec.ofChange placeRoundWrong)

/-- 'ossuarylaw2.Combines': WHATEVER THE INPUT: true; the input reads as it did. -/
def combinesSpec : ChangeSpec := { name := "combines", fn := fun _ => fun
  | [d1, d2] => { results := [.lit (.bool true)], args := [d1, d2] }
  | _ => none }
def combinesRow : OpenClaim := { program := "ythglackkhajapaa", sum := "9762d4df307002f384111b43283626567cb22a6dea9f8c6482cf02a5e06ac674", func := "ossuary/ossuarylaw2.Combines", spec := "combines", apart := false }
def CombinesSaid : Prop := combinesRow.holds Try.pinned (OpenSpec.ofChange combinesSpec)

/-- ITS FALSE NEIGHBOUR: 'it returns false'. Refute it at one input. -/
def combinesWrong : ChangeSpec := { name := "combines", fn := fun _ => fun
  | [d1, d2] => { results := [.lit (.bool false)], args := [d1, d2] }
  | _ => none }
def CombinesWrongFalsely : Prop := combinesRow.holds Try.pinned (OpenSpec.ofChange combinesWrong)

/-- 'ossuarylaw2.CombineLinear': WHATEVER THE INPUT: true; the input reads as it did. -/
def combineLinearSpec : ChangeSpec := { name := "combineLinear", fn := fun _ => fun
  | [d1, d2, d3, d4] => { results := [.lit (.bool true)], args := [d1, d2, d3, d4] }
  | _ => none }
def combineLinearRow : OpenClaim := { program := "ythglackkhajapaa", sum := "9762d4df307002f384111b43283626567cb22a6dea9f8c6482cf02a5e06ac674", func := "ossuary/ossuarylaw2.CombineLinear", spec := "combineLinear", apart := false }
def CombineLinearSaid : Prop := combineLinearRow.holds Try.pinned (OpenSpec.ofChange combineLinearSpec)

/-- ITS FALSE NEIGHBOUR: 'it returns false'. Refute it at one input. -/
def combineLinearWrong : ChangeSpec := { name := "combineLinear", fn := fun _ => fun
  | [d1, d2, d3, d4] => { results := [.lit (.bool false)], args := [d1, d2, d3, d4] }
  | _ => none }
def CombineLinearWrongFalsely : Prop := combineLinearRow.holds Try.pinned (OpenSpec.ofChange combineLinearWrong)

/-- 'ossuarylaw2.CombineForms': WHATEVER THE INPUT: true; the input reads as it did. -/
def combineFormsSpec : ChangeSpec := { name := "combineForms", fn := fun _ => fun
  | [d1, d2] => { results := [.lit (.bool true)], args := [d1, d2] }
  | _ => none }
def combineFormsRow : OpenClaim := { program := "ythglackkhajapaa", sum := "9762d4df307002f384111b43283626567cb22a6dea9f8c6482cf02a5e06ac674", func := "ossuary/ossuarylaw2.CombineForms", spec := "combineForms", apart := false }
def CombineFormsSaid : Prop := combineFormsRow.holds Try.pinned (OpenSpec.ofChange combineFormsSpec)

/-- ITS FALSE NEIGHBOUR: 'it returns false'. Refute it at one input. -/
def combineFormsWrong : ChangeSpec := { name := "combineForms", fn := fun _ => fun
  | [d1, d2] => { results := [.lit (.bool false)], args := [d1, d2] }
  | _ => none }
def CombineFormsWrongFalsely : Prop := combineFormsRow.holds Try.pinned (OpenSpec.ofChange combineFormsWrong)

/-- 'ossuarylaw2.CombineParts': WHATEVER THE INPUT: true; the input reads as it did. -/
def combinePartsSpec : ChangeSpec := { name := "combineParts", fn := fun _ => fun
  | [d1, d2, d3] => { results := [.lit (.bool true)], args := [d1, d2, d3] }
  | _ => none }
def combinePartsRow : OpenClaim := { program := "ythglackkhajapaa", sum := "9762d4df307002f384111b43283626567cb22a6dea9f8c6482cf02a5e06ac674", func := "ossuary/ossuarylaw2.CombineParts", spec := "combineParts", apart := false }
def CombinePartsSaid : Prop := combinePartsRow.holds Try.pinned (OpenSpec.ofChange combinePartsSpec)

/-- ITS FALSE NEIGHBOUR: 'it returns false'. Refute it at one input. -/
def combinePartsWrong : ChangeSpec := { name := "combineParts", fn := fun _ => fun
  | [d1, d2, d3] => { results := [.lit (.bool false)], args := [d1, d2, d3] }
  | _ => none }
def CombinePartsWrongFalsely : Prop := combinePartsRow.holds Try.pinned (OpenSpec.ofChange combinePartsWrong)

/-- 'ossuarylaw1.Fields': WHATEVER THE INPUT: true; the input reads as it did. -/
def fieldsSpec : ChangeSpec := { name := "fields", fn := fun _ => fun
  | [d1, d2, d3] => { results := [.lit (.bool true)], args := [d1, d2, d3] }
  | _ => none }
def fieldsRow : OpenClaim := { program := "ythglackkhajapaa", sum := "9762d4df307002f384111b43283626567cb22a6dea9f8c6482cf02a5e06ac674", func := "ossuary/ossuarylaw1.Fields", spec := "fields", apart := false }
def FieldsSaid : Prop := fieldsRow.holds Try.pinned (OpenSpec.ofChange fieldsSpec)

/-- ITS FALSE NEIGHBOUR: 'it returns false'. Refute it at one input. -/
def fieldsWrong : ChangeSpec := { name := "fields", fn := fun _ => fun
  | [d1, d2, d3] => { results := [.lit (.bool false)], args := [d1, d2, d3] }
  | _ => none }
def FieldsWrongFalsely : Prop := fieldsRow.holds Try.pinned (OpenSpec.ofChange fieldsWrong)

/-- 'ossuarylaw1.FieldLaws': WHATEVER THE INPUT: true; the input reads as it did. -/
def fieldLawsSpec : ChangeSpec := { name := "fieldLaws", fn := fun _ => fun
  | [d1, d2, d3] => { results := [.lit (.bool true)], args := [d1, d2, d3] }
  | _ => none }
def fieldLawsRow : OpenClaim := { program := "ythglackkhajapaa", sum := "9762d4df307002f384111b43283626567cb22a6dea9f8c6482cf02a5e06ac674", func := "ossuary/ossuarylaw1.FieldLaws", spec := "fieldLaws", apart := false }
def FieldLawsSaid : Prop := fieldLawsRow.holds Try.pinned (OpenSpec.ofChange fieldLawsSpec)

/-- ITS FALSE NEIGHBOUR: 'it returns false'. Refute it at one input. -/
def fieldLawsWrong : ChangeSpec := { name := "fieldLaws", fn := fun _ => fun
  | [d1, d2, d3] => { results := [.lit (.bool false)], args := [d1, d2, d3] }
  | _ => none }
def FieldLawsWrongFalsely : Prop := fieldLawsRow.holds Try.pinned (OpenSpec.ofChange fieldLawsWrong)

/-- 'ossuarylaw1.FieldPowers': WHATEVER THE INPUT: true; the input reads as it did. -/
def fieldPowersSpec : ChangeSpec := { name := "fieldPowers", fn := fun _ => fun
  | [d1, d2] => { results := [.lit (.bool true)], args := [d1, d2] }
  | _ => none }
def fieldPowersRow : OpenClaim := { program := "ythglackkhajapaa", sum := "9762d4df307002f384111b43283626567cb22a6dea9f8c6482cf02a5e06ac674", func := "ossuary/ossuarylaw1.FieldPowers", spec := "fieldPowers", apart := false }
def FieldPowersSaid : Prop := fieldPowersRow.holds Try.pinned (OpenSpec.ofChange fieldPowersSpec)

/-- ITS FALSE NEIGHBOUR: 'it returns false'. Refute it at one input. -/
def fieldPowersWrong : ChangeSpec := { name := "fieldPowers", fn := fun _ => fun
  | [d1, d2] => { results := [.lit (.bool false)], args := [d1, d2] }
  | _ => none }
def FieldPowersWrongFalsely : Prop := fieldPowersRow.holds Try.pinned (OpenSpec.ofChange fieldPowersWrong)

/-- 'ossuarylaw1.FieldSquares': WHATEVER THE INPUT: true; the input reads as it did. -/
def fieldSquaresSpec : ChangeSpec := { name := "fieldSquares", fn := fun _ => fun
  | [d1, d2] => { results := [.lit (.bool true)], args := [d1, d2] }
  | _ => none }
def fieldSquaresRow : OpenClaim := { program := "ythglackkhajapaa", sum := "9762d4df307002f384111b43283626567cb22a6dea9f8c6482cf02a5e06ac674", func := "ossuary/ossuarylaw1.FieldSquares", spec := "fieldSquares", apart := false }
def FieldSquaresSaid : Prop := fieldSquaresRow.holds Try.pinned (OpenSpec.ofChange fieldSquaresSpec)

/-- ITS FALSE NEIGHBOUR: 'it returns false'. Refute it at one input. -/
def fieldSquaresWrong : ChangeSpec := { name := "fieldSquares", fn := fun _ => fun
  | [d1, d2] => { results := [.lit (.bool false)], args := [d1, d2] }
  | _ => none }
def FieldSquaresWrongFalsely : Prop := fieldSquaresRow.holds Try.pinned (OpenSpec.ofChange fieldSquaresWrong)

/-- 'ossuarylaw1.FieldForms': WHATEVER THE INPUT: true; the input reads as it did. -/
def fieldFormsSpec : ChangeSpec := { name := "fieldForms", fn := fun _ => fun
  | [d] => { results := [.lit (.bool true)], args := [d] }
  | _ => none }
def fieldFormsRow : OpenClaim := { program := "ythglackkhajapaa", sum := "9762d4df307002f384111b43283626567cb22a6dea9f8c6482cf02a5e06ac674", func := "ossuary/ossuarylaw1.FieldForms", spec := "fieldForms", apart := false }
def FieldFormsSaid : Prop := fieldFormsRow.holds Try.pinned (OpenSpec.ofChange fieldFormsSpec)

/-- ITS FALSE NEIGHBOUR: 'it returns false'. Refute it at one input. -/
def fieldFormsWrong : ChangeSpec := { name := "fieldForms", fn := fun _ => fun
  | [d] => { results := [.lit (.bool false)], args := [d] }
  | _ => none }
def FieldFormsWrongFalsely : Prop := fieldFormsRow.holds Try.pinned (OpenSpec.ofChange fieldFormsWrong)

/- THE SECOND FORM. 'bulk': how many values and letters a reading holds, each counted each time it is reached (what is shared counts as often as it is met; a slice's spare places count too). A statement '..UptoSaid' is the law's where the arguments, and the package variables that the reading takes, are together of bulk at most 1048576: NARROWER than '..Said'. Prove '..Said' where nothing that the law and all that it calls make is longer than what came in: it says more and counts as full. Else prove '..UptoSaid'. A law counts once. -/
mutual
def uptoBulk {H : Type} : DataW H → Nat
  | .lit (.string bytes) => bytes.length + 1
  | .lit _ => 1
  | .nil => 1
  | .ptr d => uptoBulk d + 1
  | .slice elems spare => uptoBulkAll elems + uptoBulkAll spare + 1
  | .agg parts => uptoBulkAll parts + 1
  | .iface _ d => uptoBulk d + 1
  | .map entries => uptoBulkEntries entries + 1
  | .held _ => 1
def uptoBulkAll {H : Type} : List (DataW H) → Nat
  | [] => 0
  | d :: r => uptoBulk d + uptoBulkAll r
def uptoBulkEntries {H : Type} : List (Lit × DataW H) → Nat
  | [] => 0
  | x :: r => uptoBulkEntry x + uptoBulkEntries r
def uptoBulkEntry {H : Type} : Lit × DataW H → Nat
  | (.string bytes, d) => bytes.length + uptoBulk d + 1
  | (_, d) => uptoBulk d + 1
 end
def uptoSmall : (H : Type) → List (DataW H) → Bool := fun _ ds => decide (uptoBulkAll ds ≤ 1048576)
def OpenSpec.upto (s : _root_.Go.ChangeSpec) : _root_.Go.OpenSpec := { _root_.Go.OpenSpec.ofChange s with cond := some uptoSmall }

/-- 'ossuarylaw0.OssuaryNames', WHERE WHAT IT READS IS OF BULK AT MOST 1048576: true; the input reads as it did. -/
def ossuaryNamesUptoRow : OpenClaim := { program := "ythglackkhajapaa", sum := "9762d4df307002f384111b43283626567cb22a6dea9f8c6482cf02a5e06ac674", func := "ossuary/ossuarylaw0.OssuaryNames", spec := "ossuaryNames", apart := false, narrowed := true }
def OssuaryNamesUptoSaid : Prop := ossuaryNamesUptoRow.holds Try.pinned (OpenSpec.upto ossuaryNamesSpec)

/-- 'ossuarylaw16.Places', WHERE WHAT IT READS IS OF BULK AT MOST 1048576: true; the input reads as it did. -/
def placesUptoRow : OpenClaim := { program := "ythglackkhajapaa", sum := "9762d4df307002f384111b43283626567cb22a6dea9f8c6482cf02a5e06ac674", func := "ossuary/ossuarylaw16.Places", spec := "places", apart := false, narrowed := true }
def PlacesUptoSaid : Prop := placesUptoRow.holds Try.pinned (OpenSpec.upto placesSpec)

/-- 'ossuarylaw16.PlaceApart', WHERE WHAT IT READS IS OF BULK AT MOST 1048576: true; the input reads as it did. -/
def placeApartUptoRow : OpenClaim := { program := "ythglackkhajapaa", sum := "9762d4df307002f384111b43283626567cb22a6dea9f8c6482cf02a5e06ac674", func := "ossuary/ossuarylaw16.PlaceApart", spec := "placeApart", apart := false, narrowed := true }
def PlaceApartUptoSaid : Prop := placeApartUptoRow.holds Try.pinned (OpenSpec.upto placeApartSpec)

/-- 'ossuarylaw16.PlaceForms', WHERE WHAT IT READS IS OF BULK AT MOST 1048576: true; the input reads as it did. -/
def placeFormsUptoRow : OpenClaim := { program := "ythglackkhajapaa", sum := "9762d4df307002f384111b43283626567cb22a6dea9f8c6482cf02a5e06ac674", func := "ossuary/ossuarylaw16.PlaceForms", spec := "placeForms", apart := false, narrowed := true }
def PlaceFormsUptoSaid : Prop := placeFormsUptoRow.holds Try.pinned (OpenSpec.upto placeFormsSpec)

/-- 'ossuarylaw16.PlaceRound', WHERE WHAT IT READS IS OF BULK AT MOST 1048576: true; the input reads as it did. -/
def placeRoundUptoRow : OpenClaim := { program := "ythglackkhajapaa", sum := "9762d4df307002f384111b43283626567cb22a6dea9f8c6482cf02a5e06ac674", func := "ossuary/ossuarylaw16.PlaceRound", spec := "placeRound", apart := false, narrowed := true }
def PlaceRoundUptoSaid : Prop := placeRoundUptoRow.holds Try.pinned (OpenSpec.upto placeRoundSpec)

/-- 'ossuarylaw2.Combines', WHERE WHAT IT READS IS OF BULK AT MOST 1048576: true; the input reads as it did. -/
def combinesUptoRow : OpenClaim := { program := "ythglackkhajapaa", sum := "9762d4df307002f384111b43283626567cb22a6dea9f8c6482cf02a5e06ac674", func := "ossuary/ossuarylaw2.Combines", spec := "combines", apart := false, narrowed := true }
def CombinesUptoSaid : Prop := combinesUptoRow.holds Try.pinned (OpenSpec.upto combinesSpec)

/-- 'ossuarylaw2.CombineLinear', WHERE WHAT IT READS IS OF BULK AT MOST 1048576: true; the input reads as it did. -/
def combineLinearUptoRow : OpenClaim := { program := "ythglackkhajapaa", sum := "9762d4df307002f384111b43283626567cb22a6dea9f8c6482cf02a5e06ac674", func := "ossuary/ossuarylaw2.CombineLinear", spec := "combineLinear", apart := false, narrowed := true }
def CombineLinearUptoSaid : Prop := combineLinearUptoRow.holds Try.pinned (OpenSpec.upto combineLinearSpec)

/-- 'ossuarylaw2.CombineForms', WHERE WHAT IT READS IS OF BULK AT MOST 1048576: true; the input reads as it did. -/
def combineFormsUptoRow : OpenClaim := { program := "ythglackkhajapaa", sum := "9762d4df307002f384111b43283626567cb22a6dea9f8c6482cf02a5e06ac674", func := "ossuary/ossuarylaw2.CombineForms", spec := "combineForms", apart := false, narrowed := true }
def CombineFormsUptoSaid : Prop := combineFormsUptoRow.holds Try.pinned (OpenSpec.upto combineFormsSpec)

/-- 'ossuarylaw2.CombineParts', WHERE WHAT IT READS IS OF BULK AT MOST 1048576: true; the input reads as it did. -/
def combinePartsUptoRow : OpenClaim := { program := "ythglackkhajapaa", sum := "9762d4df307002f384111b43283626567cb22a6dea9f8c6482cf02a5e06ac674", func := "ossuary/ossuarylaw2.CombineParts", spec := "combineParts", apart := false, narrowed := true }
def CombinePartsUptoSaid : Prop := combinePartsUptoRow.holds Try.pinned (OpenSpec.upto combinePartsSpec)

/-- 'ossuarylaw1.Fields', WHERE WHAT IT READS IS OF BULK AT MOST 1048576: true; the input reads as it did. -/
def fieldsUptoRow : OpenClaim := { program := "ythglackkhajapaa", sum := "9762d4df307002f384111b43283626567cb22a6dea9f8c6482cf02a5e06ac674", func := "ossuary/ossuarylaw1.Fields", spec := "fields", apart := false, narrowed := true }
def FieldsUptoSaid : Prop := fieldsUptoRow.holds Try.pinned (OpenSpec.upto fieldsSpec)

/-- 'ossuarylaw1.FieldLaws', WHERE WHAT IT READS IS OF BULK AT MOST 1048576: true; the input reads as it did. -/
def fieldLawsUptoRow : OpenClaim := { program := "ythglackkhajapaa", sum := "9762d4df307002f384111b43283626567cb22a6dea9f8c6482cf02a5e06ac674", func := "ossuary/ossuarylaw1.FieldLaws", spec := "fieldLaws", apart := false, narrowed := true }
def FieldLawsUptoSaid : Prop := fieldLawsUptoRow.holds Try.pinned (OpenSpec.upto fieldLawsSpec)

/-- 'ossuarylaw1.FieldPowers', WHERE WHAT IT READS IS OF BULK AT MOST 1048576: true; the input reads as it did. -/
def fieldPowersUptoRow : OpenClaim := { program := "ythglackkhajapaa", sum := "9762d4df307002f384111b43283626567cb22a6dea9f8c6482cf02a5e06ac674", func := "ossuary/ossuarylaw1.FieldPowers", spec := "fieldPowers", apart := false, narrowed := true }
def FieldPowersUptoSaid : Prop := fieldPowersUptoRow.holds Try.pinned (OpenSpec.upto fieldPowersSpec)

/-- 'ossuarylaw1.FieldSquares', WHERE WHAT IT READS IS OF BULK AT MOST 1048576: true; the input reads as it did. -/
def fieldSquaresUptoRow : OpenClaim := { program := "ythglackkhajapaa", sum := "9762d4df307002f384111b43283626567cb22a6dea9f8c6482cf02a5e06ac674", func := "ossuary/ossuarylaw1.FieldSquares", spec := "fieldSquares", apart := false, narrowed := true }
def FieldSquaresUptoSaid : Prop := fieldSquaresUptoRow.holds Try.pinned (OpenSpec.upto fieldSquaresSpec)

/-- 'ossuarylaw1.FieldForms', WHERE WHAT IT READS IS OF BULK AT MOST 1048576: true; the input reads as it did. -/
def fieldFormsUptoRow : OpenClaim := { program := "ythglackkhajapaa", sum := "9762d4df307002f384111b43283626567cb22a6dea9f8c6482cf02a5e06ac674", func := "ossuary/ossuarylaw1.FieldForms", spec := "fieldForms", apart := false, narrowed := true }
def FieldFormsUptoSaid : Prop := fieldFormsUptoRow.holds Try.pinned (OpenSpec.upto fieldFormsSpec)

end Rows
end Go.Proofs.Ythglackkhajapaa
