/-
  No cell of these rows narrows 'for every input' (looked for: loops, veiled, ifaces, maps, wideKeys, modest, calm, conditions, laid).
  DERIVED. THE GIVEN ROWS OF THIS SEAT. 24 by the template 'for every input the law returns true; each argument reads behind the call as it read before'; 0 by the template 'total and deterministic' (their statements: YtaahnicjjpddjaaTotals.lean).
  GIVEN WITH THE SEED: the statements are not yours to turn. If you find one false, say at which input.
  Laid BY PROGRAM, IN A SANDBOX (cutbox-rows.mjs): the forced cells as the released guide's own fill.sh prints them over the translation 9f3543e195068383… (all of the seat's roots in one cut). By AI agents, Wed Nov 11 2026. No macro, syntax, notation, axiom, sorry.
-/
import Derived.Test.YtaahnicjjpddjaaChecked
import GoSem.Claim
import GoSem.ClaimJoined
import GoSem.ClaimMapViews
import Derived.JoinedTies
import Derived.KernelRfl
namespace Go.Proofs.Ytaahnicjjpddjaa
/- THE CELL 'sum', in the pinned program and in every row, IS THE sha256 OF THE DUMP (.gsa) THAT YtaahnicjjpddjaaProg.lean LOADS. Nothing in Lean hashes anything: it is a label: what it is worth is what the hold of that sum in a sandbox is worth. -/
noncomputable def Try.pinned : Pinned := { name := "ytaahnicjjpddjaa", sum := "9f3543e1950683839d4dd3b8572128e5c62983013a3be7b2cfdf0b79acd28e08", checked := Try.checked }
namespace Rows
def none {H : Type} : Left H := { results := [], args := [] }

/-- 'ossuarylaw3.Matrices': WHATEVER THE INPUT: true; the input reads as it did. -/
def matricesSpec : ChangeSpec := { name := "matrices", fn := fun _ => fun
  | [d1, d2, d3, d4] => { results := [.lit (.bool true)], args := [d1, d2, d3, d4] }
  | _ => none }
def matricesRow : OpenClaim := { program := "ytaahnicjjpddjaa", sum := "9f3543e1950683839d4dd3b8572128e5c62983013a3be7b2cfdf0b79acd28e08", func := "ossuary/ossuarylaw3.Matrices", spec := "matrices", unfollowed := true, recurses := true, apart := false }
def MatricesSaid : Prop := matricesRow.holds Try.pinned (OpenSpec.ofChange matricesSpec)

/-- ITS FALSE NEIGHBOUR: 'it returns false'. Refute it at one input. -/
def matricesWrong : ChangeSpec := { name := "matrices", fn := fun _ => fun
  | [d1, d2, d3, d4] => { results := [.lit (.bool false)], args := [d1, d2, d3, d4] }
  | _ => none }
def MatricesWrongFalsely : Prop := matricesRow.holds Try.pinned (OpenSpec.ofChange matricesWrong)

/-- 'ossuarylaw3.MatrixThree': WHATEVER THE INPUT: true; the input reads as it did. -/
def matrixThreeSpec : ChangeSpec := { name := "matrixThree", fn := fun _ => fun
  | [d1, d2, d3] => { results := [.lit (.bool true)], args := [d1, d2, d3] }
  | _ => none }
def matrixThreeRow : OpenClaim := { program := "ytaahnicjjpddjaa", sum := "9f3543e1950683839d4dd3b8572128e5c62983013a3be7b2cfdf0b79acd28e08", func := "ossuary/ossuarylaw3.MatrixThree", spec := "matrixThree", unfollowed := true, recurses := true, apart := false }
def MatrixThreeSaid : Prop := matrixThreeRow.holds Try.pinned (OpenSpec.ofChange matrixThreeSpec)

/-- ITS FALSE NEIGHBOUR: 'it returns false'. Refute it at one input. -/
def matrixThreeWrong : ChangeSpec := { name := "matrixThree", fn := fun _ => fun
  | [d1, d2, d3] => { results := [.lit (.bool false)], args := [d1, d2, d3] }
  | _ => none }
def MatrixThreeWrongFalsely : Prop := matrixThreeRow.holds Try.pinned (OpenSpec.ofChange matrixThreeWrong)

/-- 'ossuarylaw3.MatrixForms': WHATEVER THE INPUT: true; the input reads as it did. -/
def matrixFormsSpec : ChangeSpec := { name := "matrixForms", fn := fun _ => fun
  | [d1, d2] => { results := [.lit (.bool true)], args := [d1, d2] }
  | _ => none }
def matrixFormsRow : OpenClaim := { program := "ytaahnicjjpddjaa", sum := "9f3543e1950683839d4dd3b8572128e5c62983013a3be7b2cfdf0b79acd28e08", func := "ossuary/ossuarylaw3.MatrixForms", spec := "matrixForms", unfollowed := true, recurses := true, apart := false }
def MatrixFormsSaid : Prop := matrixFormsRow.holds Try.pinned (OpenSpec.ofChange matrixFormsSpec)

/-- ITS FALSE NEIGHBOUR: 'it returns false'. Refute it at one input. -/
def matrixFormsWrong : ChangeSpec := { name := "matrixForms", fn := fun _ => fun
  | [d1, d2] => { results := [.lit (.bool false)], args := [d1, d2] }
  | _ => none }
def MatrixFormsWrongFalsely : Prop := matrixFormsRow.holds Try.pinned (OpenSpec.ofChange matrixFormsWrong)

/-- 'ossuarylaw3.MatrixPicks': WHATEVER THE INPUT: true; the input reads as it did. -/
def matrixPicksSpec : ChangeSpec := { name := "matrixPicks", fn := fun _ => fun
  | [d1, d2, d3] => { results := [.lit (.bool true)], args := [d1, d2, d3] }
  | _ => none }
def matrixPicksRow : OpenClaim := { program := "ytaahnicjjpddjaa", sum := "9f3543e1950683839d4dd3b8572128e5c62983013a3be7b2cfdf0b79acd28e08", func := "ossuary/ossuarylaw3.MatrixPicks", spec := "matrixPicks", unfollowed := true, recurses := true, apart := false }
def MatrixPicksSaid : Prop := matrixPicksRow.holds Try.pinned (OpenSpec.ofChange matrixPicksSpec)

/-- ITS FALSE NEIGHBOUR: 'it returns false'. Refute it at one input. -/
def matrixPicksWrong : ChangeSpec := { name := "matrixPicks", fn := fun _ => fun
  | [d1, d2, d3] => { results := [.lit (.bool false)], args := [d1, d2, d3] }
  | _ => none }
def MatrixPicksWrongFalsely : Prop := matrixPicksRow.holds Try.pinned (OpenSpec.ofChange matrixPicksWrong)

/-- 'ossuarylaw4.Inverts': WHATEVER THE INPUT: true; the input reads as it did. -/
def invertsSpec : ChangeSpec := { name := "inverts", fn := fun _ => fun
  | [d] => { results := [.lit (.bool true)], args := [d] }
  | _ => none }
def invertsRow : OpenClaim := { program := "ytaahnicjjpddjaa", sum := "9f3543e1950683839d4dd3b8572128e5c62983013a3be7b2cfdf0b79acd28e08", func := "ossuary/ossuarylaw4.Inverts", spec := "inverts", unfollowed := true, recurses := true, apart := false }
def InvertsSaid : Prop := invertsRow.holds Try.pinned (OpenSpec.ofChange invertsSpec)

/-- ITS FALSE NEIGHBOUR: 'it returns false'. Refute it at one input. -/
def invertsWrong : ChangeSpec := { name := "inverts", fn := fun _ => fun
  | [d] => { results := [.lit (.bool false)], args := [d] }
  | _ => none }
def InvertsWrongFalsely : Prop := invertsRow.holds Try.pinned (OpenSpec.ofChange invertsWrong)

/-- 'ossuarylaw4.InvertBack': WHATEVER THE INPUT: true; the input reads as it did. -/
def invertBackSpec : ChangeSpec := { name := "invertBack", fn := fun _ => fun
  | [d] => { results := [.lit (.bool true)], args := [d] }
  | _ => none }
def invertBackRow : OpenClaim := { program := "ytaahnicjjpddjaa", sum := "9f3543e1950683839d4dd3b8572128e5c62983013a3be7b2cfdf0b79acd28e08", func := "ossuary/ossuarylaw4.InvertBack", spec := "invertBack", unfollowed := true, recurses := true, apart := false }
def InvertBackSaid : Prop := invertBackRow.holds Try.pinned (OpenSpec.ofChange invertBackSpec)

/-- ITS FALSE NEIGHBOUR: 'it returns false'. Refute it at one input. -/
def invertBackWrong : ChangeSpec := { name := "invertBack", fn := fun _ => fun
  | [d] => { results := [.lit (.bool false)], args := [d] }
  | _ => none }
def InvertBackWrongFalsely : Prop := invertBackRow.holds Try.pinned (OpenSpec.ofChange invertBackWrong)

/-- 'ossuarylaw4.InvertDiagonal': WHATEVER THE INPUT: true; the input reads as it did. -/
def invertDiagonalSpec : ChangeSpec := { name := "invertDiagonal", fn := fun _ => fun
  | [d] => { results := [.lit (.bool true)], args := [d] }
  | _ => none }
def invertDiagonalRow : OpenClaim := { program := "ytaahnicjjpddjaa", sum := "9f3543e1950683839d4dd3b8572128e5c62983013a3be7b2cfdf0b79acd28e08", func := "ossuary/ossuarylaw4.InvertDiagonal", spec := "invertDiagonal", unfollowed := true, recurses := true, apart := false }
def InvertDiagonalSaid : Prop := invertDiagonalRow.holds Try.pinned (OpenSpec.ofChange invertDiagonalSpec)

/-- ITS FALSE NEIGHBOUR: 'it returns false'. Refute it at one input. -/
def invertDiagonalWrong : ChangeSpec := { name := "invertDiagonal", fn := fun _ => fun
  | [d] => { results := [.lit (.bool false)], args := [d] }
  | _ => none }
def InvertDiagonalWrongFalsely : Prop := invertDiagonalRow.holds Try.pinned (OpenSpec.ofChange invertDiagonalWrong)

/-- 'ossuarylaw4.InvertProduct': WHATEVER THE INPUT: true; the input reads as it did. -/
def invertProductSpec : ChangeSpec := { name := "invertProduct", fn := fun _ => fun
  | [d1, d2] => { results := [.lit (.bool true)], args := [d1, d2] }
  | _ => none }
def invertProductRow : OpenClaim := { program := "ytaahnicjjpddjaa", sum := "9f3543e1950683839d4dd3b8572128e5c62983013a3be7b2cfdf0b79acd28e08", func := "ossuary/ossuarylaw4.InvertProduct", spec := "invertProduct", unfollowed := true, recurses := true, apart := false }
def InvertProductSaid : Prop := invertProductRow.holds Try.pinned (OpenSpec.ofChange invertProductSpec)

/-- ITS FALSE NEIGHBOUR: 'it returns false'. Refute it at one input. -/
def invertProductWrong : ChangeSpec := { name := "invertProduct", fn := fun _ => fun
  | [d1, d2] => { results := [.lit (.bool false)], args := [d1, d2] }
  | _ => none }
def InvertProductWrongFalsely : Prop := invertProductRow.holds Try.pinned (OpenSpec.ofChange invertProductWrong)

/-- 'ossuarylaw5.Gens': WHATEVER THE INPUT: true; the input reads as it did. -/
def gensSpec : ChangeSpec := { name := "gens", fn := fun _ => fun
  | [d] => { results := [.lit (.bool true)], args := [d] }
  | _ => none }
def gensRow : OpenClaim := { program := "ytaahnicjjpddjaa", sum := "9f3543e1950683839d4dd3b8572128e5c62983013a3be7b2cfdf0b79acd28e08", func := "ossuary/ossuarylaw5.Gens", spec := "gens", unfollowed := true, recurses := true, apart := false }
def GensSaid : Prop := gensRow.holds Try.pinned (OpenSpec.ofChange gensSpec)

/-- ITS FALSE NEIGHBOUR: 'it returns false'. Refute it at one input. -/
def gensWrong : ChangeSpec := { name := "gens", fn := fun _ => fun
  | [d] => { results := [.lit (.bool false)], args := [d] }
  | _ => none }
def GensWrongFalsely : Prop := gensRow.holds Try.pinned (OpenSpec.ofChange gensWrong)

/-- 'ossuarylaw5.GenTable': WHATEVER THE INPUT: true; the input reads as it did. -/
def genTableSpec : ChangeSpec := { name := "genTable", fn := fun _ => fun
  | [d] => { results := [.lit (.bool true)], args := [d] }
  | _ => none }
def genTableRow : OpenClaim := { program := "ytaahnicjjpddjaa", sum := "9f3543e1950683839d4dd3b8572128e5c62983013a3be7b2cfdf0b79acd28e08", func := "ossuary/ossuarylaw5.GenTable", spec := "genTable", unfollowed := true, recurses := true, apart := false }
def GenTableSaid : Prop := genTableRow.holds Try.pinned (OpenSpec.ofChange genTableSpec)

/-- ITS FALSE NEIGHBOUR: 'it returns false'. Refute it at one input. -/
def genTableWrong : ChangeSpec := { name := "genTable", fn := fun _ => fun
  | [d] => { results := [.lit (.bool false)], args := [d] }
  | _ => none }
def GenTableWrongFalsely : Prop := genTableRow.holds Try.pinned (OpenSpec.ofChange genTableWrong)

/-- 'ossuarylaw5.GenForms': WHATEVER THE INPUT: true; the input reads as it did. -/
def genFormsSpec : ChangeSpec := { name := "genForms", fn := fun _ => fun
  | [d1, d2] => { results := [.lit (.bool true)], args := [d1, d2] }
  | _ => none }
def genFormsRow : OpenClaim := { program := "ytaahnicjjpddjaa", sum := "9f3543e1950683839d4dd3b8572128e5c62983013a3be7b2cfdf0b79acd28e08", func := "ossuary/ossuarylaw5.GenForms", spec := "genForms", unfollowed := true, recurses := true, apart := false }
def GenFormsSaid : Prop := genFormsRow.holds Try.pinned (OpenSpec.ofChange genFormsSpec)

/-- ITS FALSE NEIGHBOUR: 'it returns false'. Refute it at one input. -/
def genFormsWrong : ChangeSpec := { name := "genForms", fn := fun _ => fun
  | [d1, d2] => { results := [.lit (.bool false)], args := [d1, d2] }
  | _ => none }
def GenFormsWrongFalsely : Prop := genFormsRow.holds Try.pinned (OpenSpec.ofChange genFormsWrong)

/-- 'ossuarylaw5.GenAny': WHATEVER THE INPUT: true; the input reads as it did. -/
def genAnySpec : ChangeSpec := { name := "genAny", fn := fun _ => fun
  | [d1, d2, d3] => { results := [.lit (.bool true)], args := [d1, d2, d3] }
  | _ => none }
def genAnyRow : OpenClaim := { program := "ytaahnicjjpddjaa", sum := "9f3543e1950683839d4dd3b8572128e5c62983013a3be7b2cfdf0b79acd28e08", func := "ossuary/ossuarylaw5.GenAny", spec := "genAny", unfollowed := true, recurses := true, apart := false }
def GenAnySaid : Prop := genAnyRow.holds Try.pinned (OpenSpec.ofChange genAnySpec)

/-- ITS FALSE NEIGHBOUR: 'it returns false'. Refute it at one input. -/
def genAnyWrong : ChangeSpec := { name := "genAny", fn := fun _ => fun
  | [d1, d2, d3] => { results := [.lit (.bool false)], args := [d1, d2, d3] }
  | _ => none }
def GenAnyWrongFalsely : Prop := genAnyRow.holds Try.pinned (OpenSpec.ofChange genAnyWrong)

/-- 'ossuarylaw5.GenMore': WHATEVER THE INPUT: true; the input reads as it did. -/
def genMoreSpec : ChangeSpec := { name := "genMore", fn := fun _ => fun
  | [d1, d2] => { results := [.lit (.bool true)], args := [d1, d2] }
  | _ => none }
def genMoreRow : OpenClaim := { program := "ytaahnicjjpddjaa", sum := "9f3543e1950683839d4dd3b8572128e5c62983013a3be7b2cfdf0b79acd28e08", func := "ossuary/ossuarylaw5.GenMore", spec := "genMore", unfollowed := true, recurses := true, apart := false }
def GenMoreSaid : Prop := genMoreRow.holds Try.pinned (OpenSpec.ofChange genMoreSpec)

/-- ITS FALSE NEIGHBOUR: 'it returns false'. Refute it at one input. -/
def genMoreWrong : ChangeSpec := { name := "genMore", fn := fun _ => fun
  | [d1, d2] => { results := [.lit (.bool false)], args := [d1, d2] }
  | _ => none }
def GenMoreWrongFalsely : Prop := genMoreRow.holds Try.pinned (OpenSpec.ofChange genMoreWrong)

/-- 'ossuarylaw6.Encodes': WHATEVER THE INPUT: true; the input reads as it did. -/
def encodesSpec : ChangeSpec := { name := "encodes", fn := fun _ => fun
  | [d1, d2] => { results := [.lit (.bool true)], args := [d1, d2] }
  | _ => none }
def encodesRow : OpenClaim := { program := "ytaahnicjjpddjaa", sum := "9f3543e1950683839d4dd3b8572128e5c62983013a3be7b2cfdf0b79acd28e08", func := "ossuary/ossuarylaw6.Encodes", spec := "encodes", unfollowed := true, recurses := true, apart := false }
def EncodesSaid : Prop := encodesRow.holds Try.pinned (OpenSpec.ofChange encodesSpec)

/-- ITS FALSE NEIGHBOUR: 'it returns false'. Refute it at one input. -/
def encodesWrong : ChangeSpec := { name := "encodes", fn := fun _ => fun
  | [d1, d2] => { results := [.lit (.bool false)], args := [d1, d2] }
  | _ => none }
def EncodesWrongFalsely : Prop := encodesRow.holds Try.pinned (OpenSpec.ofChange encodesWrong)

/-- 'ossuarylaw6.EncodeForms': WHATEVER THE INPUT: true; the input reads as it did. -/
def encodeFormsSpec : ChangeSpec := { name := "encodeForms", fn := fun _ => fun
  | [d1, d2] => { results := [.lit (.bool true)], args := [d1, d2] }
  | _ => none }
def encodeFormsRow : OpenClaim := { program := "ytaahnicjjpddjaa", sum := "9f3543e1950683839d4dd3b8572128e5c62983013a3be7b2cfdf0b79acd28e08", func := "ossuary/ossuarylaw6.EncodeForms", spec := "encodeForms", unfollowed := true, recurses := true, apart := false }
def EncodeFormsSaid : Prop := encodeFormsRow.holds Try.pinned (OpenSpec.ofChange encodeFormsSpec)

/-- ITS FALSE NEIGHBOUR: 'it returns false'. Refute it at one input. -/
def encodeFormsWrong : ChangeSpec := { name := "encodeForms", fn := fun _ => fun
  | [d1, d2] => { results := [.lit (.bool false)], args := [d1, d2] }
  | _ => none }
def EncodeFormsWrongFalsely : Prop := encodeFormsRow.holds Try.pinned (OpenSpec.ofChange encodeFormsWrong)

/-- 'ossuarylaw7.Decodes': WHATEVER THE INPUT: true; the input reads as it did. -/
def decodesSpec : ChangeSpec := { name := "decodes", fn := fun _ => fun
  | [d1, d2, d3] => { results := [.lit (.bool true)], args := [d1, d2, d3] }
  | _ => none }
def decodesRow : OpenClaim := { program := "ytaahnicjjpddjaa", sum := "9f3543e1950683839d4dd3b8572128e5c62983013a3be7b2cfdf0b79acd28e08", func := "ossuary/ossuarylaw7.Decodes", spec := "decodes", unfollowed := true, recurses := true, apart := false }
def DecodesSaid : Prop := decodesRow.holds Try.pinned (OpenSpec.ofChange decodesSpec)

/-- ITS FALSE NEIGHBOUR: 'it returns false'. Refute it at one input. -/
def decodesWrong : ChangeSpec := { name := "decodes", fn := fun _ => fun
  | [d1, d2, d3] => { results := [.lit (.bool false)], args := [d1, d2, d3] }
  | _ => none }
def DecodesWrongFalsely : Prop := decodesRow.holds Try.pinned (OpenSpec.ofChange decodesWrong)

/-- 'ossuarylaw7.DecodeForms': WHATEVER THE INPUT: true; the input reads as it did. -/
def decodeFormsSpec : ChangeSpec := { name := "decodeForms", fn := fun _ => fun
  | [d1, d2] => { results := [.lit (.bool true)], args := [d1, d2] }
  | _ => none }
def decodeFormsRow : OpenClaim := { program := "ytaahnicjjpddjaa", sum := "9f3543e1950683839d4dd3b8572128e5c62983013a3be7b2cfdf0b79acd28e08", func := "ossuary/ossuarylaw7.DecodeForms", spec := "decodeForms", unfollowed := true, recurses := true, apart := false }
def DecodeFormsSaid : Prop := decodeFormsRow.holds Try.pinned (OpenSpec.ofChange decodeFormsSpec)

/-- ITS FALSE NEIGHBOUR: 'it returns false'. Refute it at one input. -/
def decodeFormsWrong : ChangeSpec := { name := "decodeForms", fn := fun _ => fun
  | [d1, d2] => { results := [.lit (.bool false)], args := [d1, d2] }
  | _ => none }
def DecodeFormsWrongFalsely : Prop := decodeFormsRow.holds Try.pinned (OpenSpec.ofChange decodeFormsWrong)

/-- 'ossuarylaw7.DecodeFirst': WHATEVER THE INPUT: true; the input reads as it did. -/
def decodeFirstSpec : ChangeSpec := { name := "decodeFirst", fn := fun _ => fun
  | [d1, d2, d3, d4] => { results := [.lit (.bool true)], args := [d1, d2, d3, d4] }
  | _ => none }
def decodeFirstRow : OpenClaim := { program := "ytaahnicjjpddjaa", sum := "9f3543e1950683839d4dd3b8572128e5c62983013a3be7b2cfdf0b79acd28e08", func := "ossuary/ossuarylaw7.DecodeFirst", spec := "decodeFirst", unfollowed := true, recurses := true, apart := false }
def DecodeFirstSaid : Prop := decodeFirstRow.holds Try.pinned (OpenSpec.ofChange decodeFirstSpec)

/-- ITS FALSE NEIGHBOUR: 'it returns false'. Refute it at one input. -/
def decodeFirstWrong : ChangeSpec := { name := "decodeFirst", fn := fun _ => fun
  | [d1, d2, d3, d4] => { results := [.lit (.bool false)], args := [d1, d2, d3, d4] }
  | _ => none }
def DecodeFirstWrongFalsely : Prop := decodeFirstRow.holds Try.pinned (OpenSpec.ofChange decodeFirstWrong)

/-- 'ossuarylaw7.DecodeSums': WHATEVER THE INPUT: true; the input reads as it did. -/
def decodeSumsSpec : ChangeSpec := { name := "decodeSums", fn := fun _ => fun
  | [d1, d2, d3, d4] => { results := [.lit (.bool true)], args := [d1, d2, d3, d4] }
  | _ => none }
def decodeSumsRow : OpenClaim := { program := "ytaahnicjjpddjaa", sum := "9f3543e1950683839d4dd3b8572128e5c62983013a3be7b2cfdf0b79acd28e08", func := "ossuary/ossuarylaw7.DecodeSums", spec := "decodeSums", unfollowed := true, recurses := true, apart := false }
def DecodeSumsSaid : Prop := decodeSumsRow.holds Try.pinned (OpenSpec.ofChange decodeSumsSpec)

/-- ITS FALSE NEIGHBOUR: 'it returns false'. Refute it at one input. -/
def decodeSumsWrong : ChangeSpec := { name := "decodeSums", fn := fun _ => fun
  | [d1, d2, d3, d4] => { results := [.lit (.bool false)], args := [d1, d2, d3, d4] }
  | _ => none }
def DecodeSumsWrongFalsely : Prop := decodeSumsRow.holds Try.pinned (OpenSpec.ofChange decodeSumsWrong)

/-- 'ossuarylaw8.Rebuilds': WHATEVER THE INPUT: true; the input reads as it did. -/
def rebuildsSpec : ChangeSpec := { name := "rebuilds", fn := fun _ => fun
  | [d1, d2, d3] => { results := [.lit (.bool true)], args := [d1, d2, d3] }
  | _ => none }
def rebuildsRow : OpenClaim := { program := "ytaahnicjjpddjaa", sum := "9f3543e1950683839d4dd3b8572128e5c62983013a3be7b2cfdf0b79acd28e08", func := "ossuary/ossuarylaw8.Rebuilds", spec := "rebuilds", unfollowed := true, recurses := true, apart := false }
def RebuildsSaid : Prop := rebuildsRow.holds Try.pinned (OpenSpec.ofChange rebuildsSpec)

/-- ITS FALSE NEIGHBOUR: 'it returns false'. Refute it at one input. -/
def rebuildsWrong : ChangeSpec := { name := "rebuilds", fn := fun _ => fun
  | [d1, d2, d3] => { results := [.lit (.bool false)], args := [d1, d2, d3] }
  | _ => none }
def RebuildsWrongFalsely : Prop := rebuildsRow.holds Try.pinned (OpenSpec.ofChange rebuildsWrong)

/-- 'ossuarylaw8.RebuildAll': WHATEVER THE INPUT: true; the input reads as it did. -/
def rebuildAllSpec : ChangeSpec := { name := "rebuildAll", fn := fun _ => fun
  | [d1, d2, d3, d4] => { results := [.lit (.bool true)], args := [d1, d2, d3, d4] }
  | _ => none }
def rebuildAllRow : OpenClaim := { program := "ytaahnicjjpddjaa", sum := "9f3543e1950683839d4dd3b8572128e5c62983013a3be7b2cfdf0b79acd28e08", func := "ossuary/ossuarylaw8.RebuildAll", spec := "rebuildAll", unfollowed := true, recurses := true, apart := false }
def RebuildAllSaid : Prop := rebuildAllRow.holds Try.pinned (OpenSpec.ofChange rebuildAllSpec)

/-- ITS FALSE NEIGHBOUR: 'it returns false'. Refute it at one input. -/
def rebuildAllWrong : ChangeSpec := { name := "rebuildAll", fn := fun _ => fun
  | [d1, d2, d3, d4] => { results := [.lit (.bool false)], args := [d1, d2, d3, d4] }
  | _ => none }
def RebuildAllWrongFalsely : Prop := rebuildAllRow.holds Try.pinned (OpenSpec.ofChange rebuildAllWrong)

/-- 'ossuarylaw8.RebuildMends': WHATEVER THE INPUT: true; the input reads as it did. -/
def rebuildMendsSpec : ChangeSpec := { name := "rebuildMends", fn := fun _ => fun
  | [d1, d2, d3, d4] => { results := [.lit (.bool true)], args := [d1, d2, d3, d4] }
  | _ => none }
def rebuildMendsRow : OpenClaim := { program := "ytaahnicjjpddjaa", sum := "9f3543e1950683839d4dd3b8572128e5c62983013a3be7b2cfdf0b79acd28e08", func := "ossuary/ossuarylaw8.RebuildMends", spec := "rebuildMends", unfollowed := true, recurses := true, apart := false }
def RebuildMendsSaid : Prop := rebuildMendsRow.holds Try.pinned (OpenSpec.ofChange rebuildMendsSpec)

/-- ITS FALSE NEIGHBOUR: 'it returns false'. Refute it at one input. -/
def rebuildMendsWrong : ChangeSpec := { name := "rebuildMends", fn := fun _ => fun
  | [d1, d2, d3, d4] => { results := [.lit (.bool false)], args := [d1, d2, d3, d4] }
  | _ => none }
def RebuildMendsWrongFalsely : Prop := rebuildMendsRow.holds Try.pinned (OpenSpec.ofChange rebuildMendsWrong)

/-- 'ossuarylaw8.RebuildForms': WHATEVER THE INPUT: true; the input reads as it did. -/
def rebuildFormsSpec : ChangeSpec := { name := "rebuildForms", fn := fun _ => fun
  | [d1, d2] => { results := [.lit (.bool true)], args := [d1, d2] }
  | _ => none }
def rebuildFormsRow : OpenClaim := { program := "ytaahnicjjpddjaa", sum := "9f3543e1950683839d4dd3b8572128e5c62983013a3be7b2cfdf0b79acd28e08", func := "ossuary/ossuarylaw8.RebuildForms", spec := "rebuildForms", unfollowed := true, recurses := true, apart := false }
def RebuildFormsSaid : Prop := rebuildFormsRow.holds Try.pinned (OpenSpec.ofChange rebuildFormsSpec)

/-- ITS FALSE NEIGHBOUR: 'it returns false'. Refute it at one input. -/
def rebuildFormsWrong : ChangeSpec := { name := "rebuildForms", fn := fun _ => fun
  | [d1, d2] => { results := [.lit (.bool false)], args := [d1, d2] }
  | _ => none }
def RebuildFormsWrongFalsely : Prop := rebuildFormsRow.holds Try.pinned (OpenSpec.ofChange rebuildFormsWrong)

/-- 'ossuarylaw8.RebuildCode': WHATEVER THE INPUT: true; the input reads as it did. -/
def rebuildCodeSpec : ChangeSpec := { name := "rebuildCode", fn := fun _ => fun
  | [d1, d2, d3, d4] => { results := [.lit (.bool true)], args := [d1, d2, d3, d4] }
  | _ => none }
def rebuildCodeRow : OpenClaim := { program := "ytaahnicjjpddjaa", sum := "9f3543e1950683839d4dd3b8572128e5c62983013a3be7b2cfdf0b79acd28e08", func := "ossuary/ossuarylaw8.RebuildCode", spec := "rebuildCode", unfollowed := true, recurses := true, apart := false }
def RebuildCodeSaid : Prop := rebuildCodeRow.holds Try.pinned (OpenSpec.ofChange rebuildCodeSpec)

/-- ITS FALSE NEIGHBOUR: 'it returns false'. Refute it at one input. -/
def rebuildCodeWrong : ChangeSpec := { name := "rebuildCode", fn := fun _ => fun
  | [d1, d2, d3, d4] => { results := [.lit (.bool false)], args := [d1, d2, d3, d4] }
  | _ => none }
def RebuildCodeWrongFalsely : Prop := rebuildCodeRow.holds Try.pinned (OpenSpec.ofChange rebuildCodeWrong)

/- THE SECOND FORM. 'bulk': how many values and letters a reading holds, each counted each time it is reached (what is shared counts as often as it is met; a slice's spare places count too). A statement '..UptoSaid' is the law's where the arguments, and the package variables that the reading takes, are together of bulk at most 1048576: NARROWER than '..Said'. Prove '..Said' where nothing that the law and all that it calls make is longer than what came in: it says more and counts as full. Else prove '..UptoSaid'. A law counts once. -/
mutual
def uptoBulk {H : Type} : DataW H → Nat
  | .lit (.string bytes) => bytes.length + 1
  | .lit _ => 1
  | .nil => 1
  | .ptr d => uptoBulk d + 1
  | .slice elems spare => uptoBulkAll elems + uptoBulkAll spare + 1
  | .agg parts => uptoBulkAll parts + 1
  | .iface _ d => uptoBulk d + 1
  | .map entries => uptoBulkEntries entries + 1
  | .held _ => 1
def uptoBulkAll {H : Type} : List (DataW H) → Nat
  | [] => 0
  | d :: r => uptoBulk d + uptoBulkAll r
def uptoBulkEntries {H : Type} : List (Lit × DataW H) → Nat
  | [] => 0
  | x :: r => uptoBulkEntry x + uptoBulkEntries r
def uptoBulkEntry {H : Type} : Lit × DataW H → Nat
  | (.string bytes, d) => bytes.length + uptoBulk d + 1
  | (_, d) => uptoBulk d + 1
 end
def uptoSmall : (H : Type) → List (DataW H) → Bool := fun _ ds => decide (uptoBulkAll ds ≤ 1048576)
def OpenSpec.upto (s : _root_.Go.ChangeSpec) : _root_.Go.OpenSpec := { _root_.Go.OpenSpec.ofChange s with cond := some uptoSmall }

/-- 'ossuarylaw3.Matrices', WHERE WHAT IT READS IS OF BULK AT MOST 1048576: true; the input reads as it did. -/
def matricesUptoRow : OpenClaim := { program := "ytaahnicjjpddjaa", sum := "9f3543e1950683839d4dd3b8572128e5c62983013a3be7b2cfdf0b79acd28e08", func := "ossuary/ossuarylaw3.Matrices", spec := "matrices", unfollowed := true, recurses := true, apart := false, narrowed := true }
def MatricesUptoSaid : Prop := matricesUptoRow.holds Try.pinned (OpenSpec.upto matricesSpec)

/-- 'ossuarylaw3.MatrixThree', WHERE WHAT IT READS IS OF BULK AT MOST 1048576: true; the input reads as it did. -/
def matrixThreeUptoRow : OpenClaim := { program := "ytaahnicjjpddjaa", sum := "9f3543e1950683839d4dd3b8572128e5c62983013a3be7b2cfdf0b79acd28e08", func := "ossuary/ossuarylaw3.MatrixThree", spec := "matrixThree", unfollowed := true, recurses := true, apart := false, narrowed := true }
def MatrixThreeUptoSaid : Prop := matrixThreeUptoRow.holds Try.pinned (OpenSpec.upto matrixThreeSpec)

/-- 'ossuarylaw3.MatrixForms', WHERE WHAT IT READS IS OF BULK AT MOST 1048576: true; the input reads as it did. -/
def matrixFormsUptoRow : OpenClaim := { program := "ytaahnicjjpddjaa", sum := "9f3543e1950683839d4dd3b8572128e5c62983013a3be7b2cfdf0b79acd28e08", func := "ossuary/ossuarylaw3.MatrixForms", spec := "matrixForms", unfollowed := true, recurses := true, apart := false, narrowed := true }
def MatrixFormsUptoSaid : Prop := matrixFormsUptoRow.holds Try.pinned (OpenSpec.upto matrixFormsSpec)

/-- 'ossuarylaw3.MatrixPicks', WHERE WHAT IT READS IS OF BULK AT MOST 1048576: true; the input reads as it did. -/
def matrixPicksUptoRow : OpenClaim := { program := "ytaahnicjjpddjaa", sum := "9f3543e1950683839d4dd3b8572128e5c62983013a3be7b2cfdf0b79acd28e08", func := "ossuary/ossuarylaw3.MatrixPicks", spec := "matrixPicks", unfollowed := true, recurses := true, apart := false, narrowed := true }
def MatrixPicksUptoSaid : Prop := matrixPicksUptoRow.holds Try.pinned (OpenSpec.upto matrixPicksSpec)

/-- 'ossuarylaw4.Inverts', WHERE WHAT IT READS IS OF BULK AT MOST 1048576: true; the input reads as it did. -/
def invertsUptoRow : OpenClaim := { program := "ytaahnicjjpddjaa", sum := "9f3543e1950683839d4dd3b8572128e5c62983013a3be7b2cfdf0b79acd28e08", func := "ossuary/ossuarylaw4.Inverts", spec := "inverts", unfollowed := true, recurses := true, apart := false, narrowed := true }
def InvertsUptoSaid : Prop := invertsUptoRow.holds Try.pinned (OpenSpec.upto invertsSpec)

/-- 'ossuarylaw4.InvertBack', WHERE WHAT IT READS IS OF BULK AT MOST 1048576: true; the input reads as it did. -/
def invertBackUptoRow : OpenClaim := { program := "ytaahnicjjpddjaa", sum := "9f3543e1950683839d4dd3b8572128e5c62983013a3be7b2cfdf0b79acd28e08", func := "ossuary/ossuarylaw4.InvertBack", spec := "invertBack", unfollowed := true, recurses := true, apart := false, narrowed := true }
def InvertBackUptoSaid : Prop := invertBackUptoRow.holds Try.pinned (OpenSpec.upto invertBackSpec)

/-- 'ossuarylaw4.InvertDiagonal', WHERE WHAT IT READS IS OF BULK AT MOST 1048576: true; the input reads as it did. -/
def invertDiagonalUptoRow : OpenClaim := { program := "ytaahnicjjpddjaa", sum := "9f3543e1950683839d4dd3b8572128e5c62983013a3be7b2cfdf0b79acd28e08", func := "ossuary/ossuarylaw4.InvertDiagonal", spec := "invertDiagonal", unfollowed := true, recurses := true, apart := false, narrowed := true }
def InvertDiagonalUptoSaid : Prop := invertDiagonalUptoRow.holds Try.pinned (OpenSpec.upto invertDiagonalSpec)

/-- 'ossuarylaw4.InvertProduct', WHERE WHAT IT READS IS OF BULK AT MOST 1048576: true; the input reads as it did. -/
def invertProductUptoRow : OpenClaim := { program := "ytaahnicjjpddjaa", sum := "9f3543e1950683839d4dd3b8572128e5c62983013a3be7b2cfdf0b79acd28e08", func := "ossuary/ossuarylaw4.InvertProduct", spec := "invertProduct", unfollowed := true, recurses := true, apart := false, narrowed := true }
def InvertProductUptoSaid : Prop := invertProductUptoRow.holds Try.pinned (OpenSpec.upto invertProductSpec)

/-- 'ossuarylaw5.Gens', WHERE WHAT IT READS IS OF BULK AT MOST 1048576: true; the input reads as it did. -/
def gensUptoRow : OpenClaim := { program := "ytaahnicjjpddjaa", sum := "9f3543e1950683839d4dd3b8572128e5c62983013a3be7b2cfdf0b79acd28e08", func := "ossuary/ossuarylaw5.Gens", spec := "gens", unfollowed := true, recurses := true, apart := false, narrowed := true }
def GensUptoSaid : Prop := gensUptoRow.holds Try.pinned (OpenSpec.upto gensSpec)

/-- 'ossuarylaw5.GenTable', WHERE WHAT IT READS IS OF BULK AT MOST 1048576: true; the input reads as it did. -/
def genTableUptoRow : OpenClaim := { program := "ytaahnicjjpddjaa", sum := "9f3543e1950683839d4dd3b8572128e5c62983013a3be7b2cfdf0b79acd28e08", func := "ossuary/ossuarylaw5.GenTable", spec := "genTable", unfollowed := true, recurses := true, apart := false, narrowed := true }
def GenTableUptoSaid : Prop := genTableUptoRow.holds Try.pinned (OpenSpec.upto genTableSpec)

/-- 'ossuarylaw5.GenForms', WHERE WHAT IT READS IS OF BULK AT MOST 1048576: true; the input reads as it did. -/
def genFormsUptoRow : OpenClaim := { program := "ytaahnicjjpddjaa", sum := "9f3543e1950683839d4dd3b8572128e5c62983013a3be7b2cfdf0b79acd28e08", func := "ossuary/ossuarylaw5.GenForms", spec := "genForms", unfollowed := true, recurses := true, apart := false, narrowed := true }
def GenFormsUptoSaid : Prop := genFormsUptoRow.holds Try.pinned (OpenSpec.upto genFormsSpec)

/-- 'ossuarylaw5.GenAny', WHERE WHAT IT READS IS OF BULK AT MOST 1048576: true; the input reads as it did. -/
def genAnyUptoRow : OpenClaim := { program := "ytaahnicjjpddjaa", sum := "9f3543e1950683839d4dd3b8572128e5c62983013a3be7b2cfdf0b79acd28e08", func := "ossuary/ossuarylaw5.GenAny", spec := "genAny", unfollowed := true, recurses := true, apart := false, narrowed := true }
def GenAnyUptoSaid : Prop := genAnyUptoRow.holds Try.pinned (OpenSpec.upto genAnySpec)

/-- 'ossuarylaw5.GenMore', WHERE WHAT IT READS IS OF BULK AT MOST 1048576: true; the input reads as it did. -/
def genMoreUptoRow : OpenClaim := { program := "ytaahnicjjpddjaa", sum := "9f3543e1950683839d4dd3b8572128e5c62983013a3be7b2cfdf0b79acd28e08", func := "ossuary/ossuarylaw5.GenMore", spec := "genMore", unfollowed := true, recurses := true, apart := false, narrowed := true }
def GenMoreUptoSaid : Prop := genMoreUptoRow.holds Try.pinned (OpenSpec.upto genMoreSpec)

/-- 'ossuarylaw6.Encodes', WHERE WHAT IT READS IS OF BULK AT MOST 1048576: true; the input reads as it did. -/
def encodesUptoRow : OpenClaim := { program := "ytaahnicjjpddjaa", sum := "9f3543e1950683839d4dd3b8572128e5c62983013a3be7b2cfdf0b79acd28e08", func := "ossuary/ossuarylaw6.Encodes", spec := "encodes", unfollowed := true, recurses := true, apart := false, narrowed := true }
def EncodesUptoSaid : Prop := encodesUptoRow.holds Try.pinned (OpenSpec.upto encodesSpec)

/-- 'ossuarylaw6.EncodeForms', WHERE WHAT IT READS IS OF BULK AT MOST 1048576: true; the input reads as it did. -/
def encodeFormsUptoRow : OpenClaim := { program := "ytaahnicjjpddjaa", sum := "9f3543e1950683839d4dd3b8572128e5c62983013a3be7b2cfdf0b79acd28e08", func := "ossuary/ossuarylaw6.EncodeForms", spec := "encodeForms", unfollowed := true, recurses := true, apart := false, narrowed := true }
def EncodeFormsUptoSaid : Prop := encodeFormsUptoRow.holds Try.pinned (OpenSpec.upto encodeFormsSpec)

/-- 'ossuarylaw7.Decodes', WHERE WHAT IT READS IS OF BULK AT MOST 1048576: true; the input reads as it did. -/
def decodesUptoRow : OpenClaim := { program := "ytaahnicjjpddjaa", sum := "9f3543e1950683839d4dd3b8572128e5c62983013a3be7b2cfdf0b79acd28e08", func := "ossuary/ossuarylaw7.Decodes", spec := "decodes", unfollowed := true, recurses := true, apart := false, narrowed := true }
def DecodesUptoSaid : Prop := decodesUptoRow.holds Try.pinned (OpenSpec.upto decodesSpec)

/-- 'ossuarylaw7.DecodeForms', WHERE WHAT IT READS IS OF BULK AT MOST 1048576: true; the input reads as it did. -/
def decodeFormsUptoRow : OpenClaim := { program := "ytaahnicjjpddjaa", sum := "9f3543e1950683839d4dd3b8572128e5c62983013a3be7b2cfdf0b79acd28e08", func := "ossuary/ossuarylaw7.DecodeForms", spec := "decodeForms", unfollowed := true, recurses := true, apart := false, narrowed := true }
def DecodeFormsUptoSaid : Prop := decodeFormsUptoRow.holds Try.pinned (OpenSpec.upto decodeFormsSpec)

/-- 'ossuarylaw7.DecodeFirst', WHERE WHAT IT READS IS OF BULK AT MOST 1048576: true; the input reads as it did. -/
def decodeFirstUptoRow : OpenClaim := { program := "ytaahnicjjpddjaa", sum := "9f3543e1950683839d4dd3b8572128e5c62983013a3be7b2cfdf0b79acd28e08", func := "ossuary/ossuarylaw7.DecodeFirst", spec := "decodeFirst", unfollowed := true, recurses := true, apart := false, narrowed := true }
def DecodeFirstUptoSaid : Prop := decodeFirstUptoRow.holds Try.pinned (OpenSpec.upto decodeFirstSpec)

/-- 'ossuarylaw7.DecodeSums', WHERE WHAT IT READS IS OF BULK AT MOST 1048576: true; the input reads as it did. -/
def decodeSumsUptoRow : OpenClaim := { program := "ytaahnicjjpddjaa", sum := "9f3543e1950683839d4dd3b8572128e5c62983013a3be7b2cfdf0b79acd28e08", func := "ossuary/ossuarylaw7.DecodeSums", spec := "decodeSums", unfollowed := true, recurses := true, apart := false, narrowed := true }
def DecodeSumsUptoSaid : Prop := decodeSumsUptoRow.holds Try.pinned (OpenSpec.upto decodeSumsSpec)

/-- 'ossuarylaw8.Rebuilds', WHERE WHAT IT READS IS OF BULK AT MOST 1048576: true; the input reads as it did. -/
def rebuildsUptoRow : OpenClaim := { program := "ytaahnicjjpddjaa", sum := "9f3543e1950683839d4dd3b8572128e5c62983013a3be7b2cfdf0b79acd28e08", func := "ossuary/ossuarylaw8.Rebuilds", spec := "rebuilds", unfollowed := true, recurses := true, apart := false, narrowed := true }
def RebuildsUptoSaid : Prop := rebuildsUptoRow.holds Try.pinned (OpenSpec.upto rebuildsSpec)

/-- 'ossuarylaw8.RebuildAll', WHERE WHAT IT READS IS OF BULK AT MOST 1048576: true; the input reads as it did. -/
def rebuildAllUptoRow : OpenClaim := { program := "ytaahnicjjpddjaa", sum := "9f3543e1950683839d4dd3b8572128e5c62983013a3be7b2cfdf0b79acd28e08", func := "ossuary/ossuarylaw8.RebuildAll", spec := "rebuildAll", unfollowed := true, recurses := true, apart := false, narrowed := true }
def RebuildAllUptoSaid : Prop := rebuildAllUptoRow.holds Try.pinned (OpenSpec.upto rebuildAllSpec)

/-- 'ossuarylaw8.RebuildMends', WHERE WHAT IT READS IS OF BULK AT MOST 1048576: true; the input reads as it did. -/
def rebuildMendsUptoRow : OpenClaim := { program := "ytaahnicjjpddjaa", sum := "9f3543e1950683839d4dd3b8572128e5c62983013a3be7b2cfdf0b79acd28e08", func := "ossuary/ossuarylaw8.RebuildMends", spec := "rebuildMends", unfollowed := true, recurses := true, apart := false, narrowed := true }
def RebuildMendsUptoSaid : Prop := rebuildMendsUptoRow.holds Try.pinned (OpenSpec.upto rebuildMendsSpec)

/-- 'ossuarylaw8.RebuildForms', WHERE WHAT IT READS IS OF BULK AT MOST 1048576: true; the input reads as it did. -/
def rebuildFormsUptoRow : OpenClaim := { program := "ytaahnicjjpddjaa", sum := "9f3543e1950683839d4dd3b8572128e5c62983013a3be7b2cfdf0b79acd28e08", func := "ossuary/ossuarylaw8.RebuildForms", spec := "rebuildForms", unfollowed := true, recurses := true, apart := false, narrowed := true }
def RebuildFormsUptoSaid : Prop := rebuildFormsUptoRow.holds Try.pinned (OpenSpec.upto rebuildFormsSpec)

/-- 'ossuarylaw8.RebuildCode', WHERE WHAT IT READS IS OF BULK AT MOST 1048576: true; the input reads as it did. -/
def rebuildCodeUptoRow : OpenClaim := { program := "ytaahnicjjpddjaa", sum := "9f3543e1950683839d4dd3b8572128e5c62983013a3be7b2cfdf0b79acd28e08", func := "ossuary/ossuarylaw8.RebuildCode", spec := "rebuildCode", unfollowed := true, recurses := true, apart := false, narrowed := true }
def RebuildCodeUptoSaid : Prop := rebuildCodeUptoRow.holds Try.pinned (OpenSpec.upto rebuildCodeSpec)

end Rows
end Go.Proofs.Ytaahnicjjpddjaa
