/-
  NARROWER THAN 'FOR EVERY INPUT', by the rows' own cells (each row's printed sentence says how): NamesFar: laid · NamesDistance: laid · NamesFolds: laid · NamesCuts: laid · NamesWords: laid · NamesRaised: laid · NamesSorts: laid · NamesOrder: laid · NamesPowers: laid · NamesNear: laid.
  DERIVED. THE GIVEN ROWS OF THIS SEAT. 10 by the template 'for every input the law returns true; each argument reads behind the call as it read before'; 0 by the template 'total and deterministic' (their statements: YtmgjmjhnhgnfcaaDoorTotals.lean).
  GIVEN WITH THE SEED: the statements are not yours to turn. If you find one false, say at which input.
  Laid BY PROGRAM, IN A SANDBOX (cutbox-rows.mjs): the forced cells as the released guide's own fill.sh prints them over the translation 1694f88877a21754… (all of the seat's roots in one cut). By AI agents, Wed Nov 11 2026. No macro, syntax, notation, axiom, sorry.
-/
import Derived.Test.YtmgjmjhnhgnfcaaDoorChecked
import GoSem.PinnedTables
import GoSem.Claim
import GoSem.ClaimJoined
import GoSem.ClaimMapViews
import Derived.JoinedTies
import Derived.KernelRfl
namespace Go.Proofs.YtmgjmjhnhgnfcaaDoor
/- THE CELL 'sum', in the pinned program and in every row, IS THE sha256 OF THE DUMP (.gsa) THAT YtmgjmjhnhgnfcaaDoorProg.lean LOADS. Nothing in Lean hashes anything: it is a label: what it is worth is what the hold of that sum in a sandbox is worth. -/
noncomputable def Tryd.pinned : Pinned := { name := "ytmgjmjhnhgnfcaadoor", sum := "1694f88877a21754848cc95a1ed4a44654a93fd289363177ac4d0b599c6dd623", checked := Tryd.checked }
namespace Rows
def none {H : Type} : Left H := { results := [], args := [] }

/- WHAT THE LISTED PACKAGE-LEVEL VARIABLES READ AS WHEN THE CALL BEGINS. Each datum BY PROGRAM (the guide's laid-datum.mjs) off the statement by which the dump's own 'gosem.cut.vars' lays the variable. In a bare row this is a premise. The card (YtmgjmjhnhgnfcaaDoorCards.lean) ties it to the program's text. -/
def laid_unicode_utf8_acceptRanges {H : Type} : DataW H := .agg [.agg [.lit (.int .u8 128), .lit (.int .u8 191)], .agg [.lit (.int .u8 160), .lit (.int .u8 191)], .agg [.lit (.int .u8 128), .lit (.int .u8 159)], .agg [.lit (.int .u8 144), .lit (.int .u8 191)], .agg [.lit (.int .u8 128), .lit (.int .u8 143)], .agg [.lit (.int .u8 0), .lit (.int .u8 0)], .agg [.lit (.int .u8 0), .lit (.int .u8 0)], .agg [.lit (.int .u8 0), .lit (.int .u8 0)], .agg [.lit (.int .u8 0), .lit (.int .u8 0)], .agg [.lit (.int .u8 0), .lit (.int .u8 0)], .agg [.lit (.int .u8 0), .lit (.int .u8 0)], .agg [.lit (.int .u8 0), .lit (.int .u8 0)], .agg [.lit (.int .u8 0), .lit (.int .u8 0)], .agg [.lit (.int .u8 0), .lit (.int .u8 0)], .agg [.lit (.int .u8 0), .lit (.int .u8 0)], .agg [.lit (.int .u8 0), .lit (.int .u8 0)]]
/-- One of Go's own tables, pinned by name: the form's constant. -/
def laid_unicode_utf8_first : DataW Unit := Go.Pinned.utf8First
def laid_math_bits_deBruijn32tab {H : Type} : DataW H := .agg [.lit (.int .u8 0), .lit (.int .u8 1), .lit (.int .u8 28), .lit (.int .u8 2), .lit (.int .u8 29), .lit (.int .u8 14), .lit (.int .u8 24), .lit (.int .u8 3), .lit (.int .u8 30), .lit (.int .u8 22), .lit (.int .u8 20), .lit (.int .u8 15), .lit (.int .u8 25), .lit (.int .u8 17), .lit (.int .u8 4), .lit (.int .u8 8), .lit (.int .u8 31), .lit (.int .u8 27), .lit (.int .u8 13), .lit (.int .u8 23), .lit (.int .u8 21), .lit (.int .u8 19), .lit (.int .u8 16), .lit (.int .u8 7), .lit (.int .u8 26), .lit (.int .u8 12), .lit (.int .u8 18), .lit (.int .u8 6), .lit (.int .u8 11), .lit (.int .u8 5), .lit (.int .u8 10), .lit (.int .u8 9)]
def laid_math_bits_deBruijn64tab {H : Type} : DataW H := .agg [.lit (.int .u8 0), .lit (.int .u8 1), .lit (.int .u8 56), .lit (.int .u8 2), .lit (.int .u8 57), .lit (.int .u8 49), .lit (.int .u8 28), .lit (.int .u8 3), .lit (.int .u8 61), .lit (.int .u8 58), .lit (.int .u8 42), .lit (.int .u8 50), .lit (.int .u8 38), .lit (.int .u8 29), .lit (.int .u8 17), .lit (.int .u8 4), .lit (.int .u8 62), .lit (.int .u8 47), .lit (.int .u8 59), .lit (.int .u8 36), .lit (.int .u8 45), .lit (.int .u8 43), .lit (.int .u8 51), .lit (.int .u8 22), .lit (.int .u8 53), .lit (.int .u8 39), .lit (.int .u8 33), .lit (.int .u8 30), .lit (.int .u8 24), .lit (.int .u8 18), .lit (.int .u8 12), .lit (.int .u8 5), .lit (.int .u8 63), .lit (.int .u8 55), .lit (.int .u8 48), .lit (.int .u8 27), .lit (.int .u8 60), .lit (.int .u8 41), .lit (.int .u8 37), .lit (.int .u8 16), .lit (.int .u8 46), .lit (.int .u8 35), .lit (.int .u8 44), .lit (.int .u8 21), .lit (.int .u8 52), .lit (.int .u8 32), .lit (.int .u8 23), .lit (.int .u8 11), .lit (.int .u8 54), .lit (.int .u8 26), .lit (.int .u8 40), .lit (.int .u8 15), .lit (.int .u8 34), .lit (.int .u8 20), .lit (.int .u8 31), .lit (.int .u8 10), .lit (.int .u8 25), .lit (.int .u8 14), .lit (.int .u8 19), .lit (.int .u8 9), .lit (.int .u8 13), .lit (.int .u8 8), .lit (.int .u8 7), .lit (.int .u8 6)]
def laid_internal_strconv_uint64pow10 {H : Type} : DataW H := .agg [.lit (.int .u64 1), .lit (.int .u64 10), .lit (.int .u64 100), .lit (.int .u64 1000), .lit (.int .u64 10000), .lit (.int .u64 100000), .lit (.int .u64 1000000), .lit (.int .u64 10000000), .lit (.int .u64 100000000), .lit (.int .u64 1000000000), .lit (.int .u64 10000000000), .lit (.int .u64 100000000000), .lit (.int .u64 1000000000000), .lit (.int .u64 10000000000000), .lit (.int .u64 100000000000000), .lit (.int .u64 1000000000000000), .lit (.int .u64 10000000000000000), .lit (.int .u64 100000000000000000), .lit (.int .u64 1000000000000000000), .lit (.int .u64 10000000000000000000)]

/-- 'cubitlaw06.NamesFar': WHATEVER THE INPUT: true; the input reads as it did. -/
def namesFarSpec : ChangeSpec := { name := "namesFar", fn := fun _ => fun
  | [d1, d2] => { results := [.lit (.bool true)], args := [d1, d2] }
  | _ => none }
def namesFarRow : OpenClaim := { program := "ytmgjmjhnhgnfcaadoor", sum := "1694f88877a21754848cc95a1ed4a44654a93fd289363177ac4d0b599c6dd623", func := "cubit/cubitlaw06.NamesFar", spec := "namesFar", inPlace := ["internal/abi.NoEscape"], unfollowed := true, recurses := true, named := ["unicode/utf8.first", "unicode/utf8.acceptRanges"], apart := false, laid := [("unicode/utf8.acceptRanges", laid_unicode_utf8_acceptRanges), ("unicode/utf8.first", laid_unicode_utf8_first)] }
def NamesFarSaid : Prop := namesFarRow.holds Tryd.pinned (OpenSpec.ofChange namesFarSpec)

/-- ITS FALSE NEIGHBOUR: 'it returns false'. Refute it at one input. -/
def namesFarWrong : ChangeSpec := { name := "namesFar", fn := fun _ => fun
  | [d1, d2] => { results := [.lit (.bool false)], args := [d1, d2] }
  | _ => none }
def NamesFarWrongFalsely : Prop := namesFarRow.holds Tryd.pinned (OpenSpec.ofChange namesFarWrong)

/-- 'cubitlaw06.NamesDistance': WHATEVER THE INPUT: true; the input reads as it did. -/
def namesDistanceSpec : ChangeSpec := { name := "namesDistance", fn := fun _ => fun
  | [d1, d2, d3] => { results := [.lit (.bool true)], args := [d1, d2, d3] }
  | _ => none }
def namesDistanceRow : OpenClaim := { program := "ytmgjmjhnhgnfcaadoor", sum := "1694f88877a21754848cc95a1ed4a44654a93fd289363177ac4d0b599c6dd623", func := "cubit/cubitlaw06.NamesDistance", spec := "namesDistance", inPlace := ["internal/abi.NoEscape"], unfollowed := true, recurses := true, named := ["unicode/utf8.first", "unicode/utf8.acceptRanges"], apart := false, laid := [("unicode/utf8.acceptRanges", laid_unicode_utf8_acceptRanges), ("unicode/utf8.first", laid_unicode_utf8_first)] }
def NamesDistanceSaid : Prop := namesDistanceRow.holds Tryd.pinned (OpenSpec.ofChange namesDistanceSpec)

/-- ITS FALSE NEIGHBOUR: 'it returns false'. Refute it at one input. -/
def namesDistanceWrong : ChangeSpec := { name := "namesDistance", fn := fun _ => fun
  | [d1, d2, d3] => { results := [.lit (.bool false)], args := [d1, d2, d3] }
  | _ => none }
def NamesDistanceWrongFalsely : Prop := namesDistanceRow.holds Tryd.pinned (OpenSpec.ofChange namesDistanceWrong)

/-- 'cubitlaw06.NamesFolds': WHATEVER THE INPUT: true; the input reads as it did. -/
def namesFoldsSpec : ChangeSpec := { name := "namesFolds", fn := fun _ => fun
  | [d1, d2] => { results := [.lit (.bool true)], args := [d1, d2] }
  | _ => none }
def namesFoldsRow : OpenClaim := { program := "ytmgjmjhnhgnfcaadoor", sum := "1694f88877a21754848cc95a1ed4a44654a93fd289363177ac4d0b599c6dd623", func := "cubit/cubitlaw06.NamesFolds", spec := "namesFolds", inPlace := ["internal/abi.NoEscape"], unfollowed := true, recurses := true, named := ["unicode/utf8.first", "unicode/utf8.acceptRanges"], apart := false, laid := [("unicode/utf8.acceptRanges", laid_unicode_utf8_acceptRanges), ("unicode/utf8.first", laid_unicode_utf8_first)] }
def NamesFoldsSaid : Prop := namesFoldsRow.holds Tryd.pinned (OpenSpec.ofChange namesFoldsSpec)

/-- ITS FALSE NEIGHBOUR: 'it returns false'. Refute it at one input. -/
def namesFoldsWrong : ChangeSpec := { name := "namesFolds", fn := fun _ => fun
  | [d1, d2] => { results := [.lit (.bool false)], args := [d1, d2] }
  | _ => none }
def NamesFoldsWrongFalsely : Prop := namesFoldsRow.holds Tryd.pinned (OpenSpec.ofChange namesFoldsWrong)

/-- 'cubitlaw06.NamesCuts': WHATEVER THE INPUT: true; the input reads as it did. -/
def namesCutsSpec : ChangeSpec := { name := "namesCuts", fn := fun _ => fun
  | [d1, d2] => { results := [.lit (.bool true)], args := [d1, d2] }
  | _ => none }
def namesCutsRow : OpenClaim := { program := "ytmgjmjhnhgnfcaadoor", sum := "1694f88877a21754848cc95a1ed4a44654a93fd289363177ac4d0b599c6dd623", func := "cubit/cubitlaw06.NamesCuts", spec := "namesCuts", inPlace := ["internal/abi.NoEscape"], unfollowed := true, recurses := true, named := ["unicode/utf8.first", "unicode/utf8.acceptRanges"], apart := false, laid := [("unicode/utf8.acceptRanges", laid_unicode_utf8_acceptRanges), ("unicode/utf8.first", laid_unicode_utf8_first)] }
def NamesCutsSaid : Prop := namesCutsRow.holds Tryd.pinned (OpenSpec.ofChange namesCutsSpec)

/-- ITS FALSE NEIGHBOUR: 'it returns false'. Refute it at one input. -/
def namesCutsWrong : ChangeSpec := { name := "namesCuts", fn := fun _ => fun
  | [d1, d2] => { results := [.lit (.bool false)], args := [d1, d2] }
  | _ => none }
def NamesCutsWrongFalsely : Prop := namesCutsRow.holds Tryd.pinned (OpenSpec.ofChange namesCutsWrong)

/-- 'cubitlaw06.NamesWords': WHATEVER THE INPUT: true; the input reads as it did. -/
def namesWordsSpec : ChangeSpec := { name := "namesWords", fn := fun _ => fun
  | [d1, d2] => { results := [.lit (.bool true)], args := [d1, d2] }
  | _ => none }
def namesWordsRow : OpenClaim := { program := "ytmgjmjhnhgnfcaadoor", sum := "1694f88877a21754848cc95a1ed4a44654a93fd289363177ac4d0b599c6dd623", func := "cubit/cubitlaw06.NamesWords", spec := "namesWords", inPlace := ["internal/abi.NoEscape"], unfollowed := true, recurses := true, named := ["unicode/utf8.first", "unicode/utf8.acceptRanges"], apart := false, laid := [("unicode/utf8.acceptRanges", laid_unicode_utf8_acceptRanges), ("unicode/utf8.first", laid_unicode_utf8_first)] }
def NamesWordsSaid : Prop := namesWordsRow.holds Tryd.pinned (OpenSpec.ofChange namesWordsSpec)

/-- ITS FALSE NEIGHBOUR: 'it returns false'. Refute it at one input. -/
def namesWordsWrong : ChangeSpec := { name := "namesWords", fn := fun _ => fun
  | [d1, d2] => { results := [.lit (.bool false)], args := [d1, d2] }
  | _ => none }
def NamesWordsWrongFalsely : Prop := namesWordsRow.holds Tryd.pinned (OpenSpec.ofChange namesWordsWrong)

/-- 'cubitlaw06.NamesRaised': WHATEVER THE INPUT: true; the input reads as it did. -/
def namesRaisedSpec : ChangeSpec := { name := "namesRaised", fn := fun _ => fun
  | [d1, d2] => { results := [.lit (.bool true)], args := [d1, d2] }
  | _ => none }
def namesRaisedRow : OpenClaim := { program := "ytmgjmjhnhgnfcaadoor", sum := "1694f88877a21754848cc95a1ed4a44654a93fd289363177ac4d0b599c6dd623", func := "cubit/cubitlaw06.NamesRaised", spec := "namesRaised", inPlace := ["internal/abi.NoEscape"], unfollowed := true, recurses := true, named := ["unicode/utf8.first", "unicode/utf8.acceptRanges"], apart := false, laid := [("unicode/utf8.acceptRanges", laid_unicode_utf8_acceptRanges), ("unicode/utf8.first", laid_unicode_utf8_first)] }
def NamesRaisedSaid : Prop := namesRaisedRow.holds Tryd.pinned (OpenSpec.ofChange namesRaisedSpec)

/-- ITS FALSE NEIGHBOUR: 'it returns false'. Refute it at one input. -/
def namesRaisedWrong : ChangeSpec := { name := "namesRaised", fn := fun _ => fun
  | [d1, d2] => { results := [.lit (.bool false)], args := [d1, d2] }
  | _ => none }
def NamesRaisedWrongFalsely : Prop := namesRaisedRow.holds Tryd.pinned (OpenSpec.ofChange namesRaisedWrong)

/-- 'cubitlaw06.NamesSorts': WHATEVER THE INPUT: true; the input reads as it did. -/
def namesSortsSpec : ChangeSpec := { name := "namesSorts", fn := fun _ => fun
  | [d] => { results := [.lit (.bool true)], args := [d] }
  | _ => none }
def namesSortsRow : OpenClaim := { program := "ytmgjmjhnhgnfcaadoor", sum := "1694f88877a21754848cc95a1ed4a44654a93fd289363177ac4d0b599c6dd623", func := "cubit/cubitlaw06.NamesSorts", spec := "namesSorts", inPlace := ["internal/bytealg.abigen_runtime_cmpstring", "internal/abi.NoEscape"], unfollowed := true, recurses := true, named := ["unicode/utf8.first", "unicode/utf8.acceptRanges"], apart := false, laid := [("unicode/utf8.acceptRanges", laid_unicode_utf8_acceptRanges), ("unicode/utf8.first", laid_unicode_utf8_first)] }
def NamesSortsSaid : Prop := namesSortsRow.holds Tryd.pinned (OpenSpec.ofChange namesSortsSpec)

/-- ITS FALSE NEIGHBOUR: 'it returns false'. Refute it at one input. -/
def namesSortsWrong : ChangeSpec := { name := "namesSorts", fn := fun _ => fun
  | [d] => { results := [.lit (.bool false)], args := [d] }
  | _ => none }
def NamesSortsWrongFalsely : Prop := namesSortsRow.holds Tryd.pinned (OpenSpec.ofChange namesSortsWrong)

/-- 'cubitlaw06.NamesOrder': WHATEVER THE INPUT: true; the input reads as it did. -/
def namesOrderSpec : ChangeSpec := { name := "namesOrder", fn := fun _ => fun
  | [d] => { results := [.lit (.bool true)], args := [d] }
  | _ => none }
def namesOrderRow : OpenClaim := { program := "ytmgjmjhnhgnfcaadoor", sum := "1694f88877a21754848cc95a1ed4a44654a93fd289363177ac4d0b599c6dd623", func := "cubit/cubitlaw06.NamesOrder", spec := "namesOrder", inPlace := ["internal/bytealg.abigen_runtime_cmpstring", "internal/abi.NoEscape"], unfollowed := true, recurses := true, named := ["unicode/utf8.first", "unicode/utf8.acceptRanges"], apart := false, laid := [("unicode/utf8.acceptRanges", laid_unicode_utf8_acceptRanges), ("unicode/utf8.first", laid_unicode_utf8_first)] }
def NamesOrderSaid : Prop := namesOrderRow.holds Tryd.pinned (OpenSpec.ofChange namesOrderSpec)

/-- ITS FALSE NEIGHBOUR: 'it returns false'. Refute it at one input. -/
def namesOrderWrong : ChangeSpec := { name := "namesOrder", fn := fun _ => fun
  | [d] => { results := [.lit (.bool false)], args := [d] }
  | _ => none }
def NamesOrderWrongFalsely : Prop := namesOrderRow.holds Tryd.pinned (OpenSpec.ofChange namesOrderWrong)

/-- 'cubitlaw06.NamesPowers': WHATEVER THE INPUT: true; the input reads as it did. -/
def namesPowersSpec : ChangeSpec := { name := "namesPowers", fn := fun _ => fun
  | [d1, d2, d3] => { results := [.lit (.bool true)], args := [d1, d2, d3] }
  | _ => none }
def namesPowersRow : OpenClaim := { program := "ytmgjmjhnhgnfcaadoor", sum := "1694f88877a21754848cc95a1ed4a44654a93fd289363177ac4d0b599c6dd623", func := "cubit/cubitlaw06.NamesPowers", spec := "namesPowers", inPlace := ["internal/abi.NoEscape"], unfollowed := true, recurses := true, named := ["unicode/utf8.first", "unicode/utf8.acceptRanges", "internal/strconv.uint64pow10", "math/bits.deBruijn32tab", "math/bits.deBruijn64tab"], apart := false, laid := [("math/bits.deBruijn32tab", laid_math_bits_deBruijn32tab), ("math/bits.deBruijn64tab", laid_math_bits_deBruijn64tab), ("internal/strconv.uint64pow10", laid_internal_strconv_uint64pow10), ("unicode/utf8.acceptRanges", laid_unicode_utf8_acceptRanges), ("unicode/utf8.first", laid_unicode_utf8_first)] }
def NamesPowersSaid : Prop := namesPowersRow.holds Tryd.pinned (OpenSpec.ofChange namesPowersSpec)

/-- ITS FALSE NEIGHBOUR: 'it returns false'. Refute it at one input. -/
def namesPowersWrong : ChangeSpec := { name := "namesPowers", fn := fun _ => fun
  | [d1, d2, d3] => { results := [.lit (.bool false)], args := [d1, d2, d3] }
  | _ => none }
def NamesPowersWrongFalsely : Prop := namesPowersRow.holds Tryd.pinned (OpenSpec.ofChange namesPowersWrong)

/-- 'cubitlaw06.NamesNear': WHATEVER THE INPUT: true; the input reads as it did. -/
def namesNearSpec : ChangeSpec := { name := "namesNear", fn := fun _ => fun
  | [d1, d2, d3] => { results := [.lit (.bool true)], args := [d1, d2, d3] }
  | _ => none }
def namesNearRow : OpenClaim := { program := "ytmgjmjhnhgnfcaadoor", sum := "1694f88877a21754848cc95a1ed4a44654a93fd289363177ac4d0b599c6dd623", func := "cubit/cubitlaw06.NamesNear", spec := "namesNear", inPlace := ["internal/bytealg.abigen_runtime_cmpstring", "internal/abi.NoEscape"], unfollowed := true, recurses := true, named := ["unicode/utf8.first", "unicode/utf8.acceptRanges"], apart := false, laid := [("unicode/utf8.acceptRanges", laid_unicode_utf8_acceptRanges), ("unicode/utf8.first", laid_unicode_utf8_first)] }
def NamesNearSaid : Prop := namesNearRow.holds Tryd.pinned (OpenSpec.ofChange namesNearSpec)

/-- ITS FALSE NEIGHBOUR: 'it returns false'. Refute it at one input. -/
def namesNearWrong : ChangeSpec := { name := "namesNear", fn := fun _ => fun
  | [d1, d2, d3] => { results := [.lit (.bool false)], args := [d1, d2, d3] }
  | _ => none }
def NamesNearWrongFalsely : Prop := namesNearRow.holds Tryd.pinned (OpenSpec.ofChange namesNearWrong)

/- THE SECOND FORM. 'bulk': how many values and letters a reading holds, each counted each time it is reached (what is shared counts as often as it is met; a slice's spare places count too). A statement '..UptoSaid' is the law's where the arguments, and the package variables that the reading takes, are together of bulk at most 1048576: NARROWER than '..Said'. Prove '..Said' where nothing that the law and all that it calls make is longer than what came in: it says more and counts as full. Else prove '..UptoSaid'. A law counts once. -/
mutual
def uptoBulk {H : Type} : DataW H → Nat
  | .lit (.string bytes) => bytes.length + 1
  | .lit _ => 1
  | .nil => 1
  | .ptr d => uptoBulk d + 1
  | .slice elems spare => uptoBulkAll elems + uptoBulkAll spare + 1
  | .agg parts => uptoBulkAll parts + 1
  | .iface _ d => uptoBulk d + 1
  | .map entries => uptoBulkEntries entries + 1
  | .held _ => 1
def uptoBulkAll {H : Type} : List (DataW H) → Nat
  | [] => 0
  | d :: r => uptoBulk d + uptoBulkAll r
def uptoBulkEntries {H : Type} : List (Lit × DataW H) → Nat
  | [] => 0
  | x :: r => uptoBulkEntry x + uptoBulkEntries r
def uptoBulkEntry {H : Type} : Lit × DataW H → Nat
  | (.string bytes, d) => bytes.length + uptoBulk d + 1
  | (_, d) => uptoBulk d + 1
 end
def uptoSmall : (H : Type) → List (DataW H) → Bool := fun _ ds => decide (uptoBulkAll ds ≤ 1048576)
def OpenSpec.upto (s : _root_.Go.ChangeSpec) : _root_.Go.OpenSpec := { _root_.Go.OpenSpec.ofChange s with cond := some uptoSmall }

/-- 'cubitlaw06.NamesFar', WHERE WHAT IT READS IS OF BULK AT MOST 1048576: true; the input reads as it did. -/
def namesFarUptoRow : OpenClaim := { program := "ytmgjmjhnhgnfcaadoor", sum := "1694f88877a21754848cc95a1ed4a44654a93fd289363177ac4d0b599c6dd623", func := "cubit/cubitlaw06.NamesFar", spec := "namesFar", inPlace := ["internal/abi.NoEscape"], unfollowed := true, recurses := true, named := ["unicode/utf8.first", "unicode/utf8.acceptRanges"], apart := false, laid := [("unicode/utf8.acceptRanges", laid_unicode_utf8_acceptRanges), ("unicode/utf8.first", laid_unicode_utf8_first)], narrowed := true }
def NamesFarUptoSaid : Prop := namesFarUptoRow.holds Tryd.pinned (OpenSpec.upto namesFarSpec)

/-- 'cubitlaw06.NamesDistance', WHERE WHAT IT READS IS OF BULK AT MOST 1048576: true; the input reads as it did. -/
def namesDistanceUptoRow : OpenClaim := { program := "ytmgjmjhnhgnfcaadoor", sum := "1694f88877a21754848cc95a1ed4a44654a93fd289363177ac4d0b599c6dd623", func := "cubit/cubitlaw06.NamesDistance", spec := "namesDistance", inPlace := ["internal/abi.NoEscape"], unfollowed := true, recurses := true, named := ["unicode/utf8.first", "unicode/utf8.acceptRanges"], apart := false, laid := [("unicode/utf8.acceptRanges", laid_unicode_utf8_acceptRanges), ("unicode/utf8.first", laid_unicode_utf8_first)], narrowed := true }
def NamesDistanceUptoSaid : Prop := namesDistanceUptoRow.holds Tryd.pinned (OpenSpec.upto namesDistanceSpec)

/-- 'cubitlaw06.NamesFolds', WHERE WHAT IT READS IS OF BULK AT MOST 1048576: true; the input reads as it did. -/
def namesFoldsUptoRow : OpenClaim := { program := "ytmgjmjhnhgnfcaadoor", sum := "1694f88877a21754848cc95a1ed4a44654a93fd289363177ac4d0b599c6dd623", func := "cubit/cubitlaw06.NamesFolds", spec := "namesFolds", inPlace := ["internal/abi.NoEscape"], unfollowed := true, recurses := true, named := ["unicode/utf8.first", "unicode/utf8.acceptRanges"], apart := false, laid := [("unicode/utf8.acceptRanges", laid_unicode_utf8_acceptRanges), ("unicode/utf8.first", laid_unicode_utf8_first)], narrowed := true }
def NamesFoldsUptoSaid : Prop := namesFoldsUptoRow.holds Tryd.pinned (OpenSpec.upto namesFoldsSpec)

/-- 'cubitlaw06.NamesCuts', WHERE WHAT IT READS IS OF BULK AT MOST 1048576: true; the input reads as it did. -/
def namesCutsUptoRow : OpenClaim := { program := "ytmgjmjhnhgnfcaadoor", sum := "1694f88877a21754848cc95a1ed4a44654a93fd289363177ac4d0b599c6dd623", func := "cubit/cubitlaw06.NamesCuts", spec := "namesCuts", inPlace := ["internal/abi.NoEscape"], unfollowed := true, recurses := true, named := ["unicode/utf8.first", "unicode/utf8.acceptRanges"], apart := false, laid := [("unicode/utf8.acceptRanges", laid_unicode_utf8_acceptRanges), ("unicode/utf8.first", laid_unicode_utf8_first)], narrowed := true }
def NamesCutsUptoSaid : Prop := namesCutsUptoRow.holds Tryd.pinned (OpenSpec.upto namesCutsSpec)

/-- 'cubitlaw06.NamesWords', WHERE WHAT IT READS IS OF BULK AT MOST 1048576: true; the input reads as it did. -/
def namesWordsUptoRow : OpenClaim := { program := "ytmgjmjhnhgnfcaadoor", sum := "1694f88877a21754848cc95a1ed4a44654a93fd289363177ac4d0b599c6dd623", func := "cubit/cubitlaw06.NamesWords", spec := "namesWords", inPlace := ["internal/abi.NoEscape"], unfollowed := true, recurses := true, named := ["unicode/utf8.first", "unicode/utf8.acceptRanges"], apart := false, laid := [("unicode/utf8.acceptRanges", laid_unicode_utf8_acceptRanges), ("unicode/utf8.first", laid_unicode_utf8_first)], narrowed := true }
def NamesWordsUptoSaid : Prop := namesWordsUptoRow.holds Tryd.pinned (OpenSpec.upto namesWordsSpec)

/-- 'cubitlaw06.NamesRaised', WHERE WHAT IT READS IS OF BULK AT MOST 1048576: true; the input reads as it did. -/
def namesRaisedUptoRow : OpenClaim := { program := "ytmgjmjhnhgnfcaadoor", sum := "1694f88877a21754848cc95a1ed4a44654a93fd289363177ac4d0b599c6dd623", func := "cubit/cubitlaw06.NamesRaised", spec := "namesRaised", inPlace := ["internal/abi.NoEscape"], unfollowed := true, recurses := true, named := ["unicode/utf8.first", "unicode/utf8.acceptRanges"], apart := false, laid := [("unicode/utf8.acceptRanges", laid_unicode_utf8_acceptRanges), ("unicode/utf8.first", laid_unicode_utf8_first)], narrowed := true }
def NamesRaisedUptoSaid : Prop := namesRaisedUptoRow.holds Tryd.pinned (OpenSpec.upto namesRaisedSpec)

/-- 'cubitlaw06.NamesSorts', WHERE WHAT IT READS IS OF BULK AT MOST 1048576: true; the input reads as it did. -/
def namesSortsUptoRow : OpenClaim := { program := "ytmgjmjhnhgnfcaadoor", sum := "1694f88877a21754848cc95a1ed4a44654a93fd289363177ac4d0b599c6dd623", func := "cubit/cubitlaw06.NamesSorts", spec := "namesSorts", inPlace := ["internal/bytealg.abigen_runtime_cmpstring", "internal/abi.NoEscape"], unfollowed := true, recurses := true, named := ["unicode/utf8.first", "unicode/utf8.acceptRanges"], apart := false, laid := [("unicode/utf8.acceptRanges", laid_unicode_utf8_acceptRanges), ("unicode/utf8.first", laid_unicode_utf8_first)], narrowed := true }
def NamesSortsUptoSaid : Prop := namesSortsUptoRow.holds Tryd.pinned (OpenSpec.upto namesSortsSpec)

/-- 'cubitlaw06.NamesOrder', WHERE WHAT IT READS IS OF BULK AT MOST 1048576: true; the input reads as it did. -/
def namesOrderUptoRow : OpenClaim := { program := "ytmgjmjhnhgnfcaadoor", sum := "1694f88877a21754848cc95a1ed4a44654a93fd289363177ac4d0b599c6dd623", func := "cubit/cubitlaw06.NamesOrder", spec := "namesOrder", inPlace := ["internal/bytealg.abigen_runtime_cmpstring", "internal/abi.NoEscape"], unfollowed := true, recurses := true, named := ["unicode/utf8.first", "unicode/utf8.acceptRanges"], apart := false, laid := [("unicode/utf8.acceptRanges", laid_unicode_utf8_acceptRanges), ("unicode/utf8.first", laid_unicode_utf8_first)], narrowed := true }
def NamesOrderUptoSaid : Prop := namesOrderUptoRow.holds Tryd.pinned (OpenSpec.upto namesOrderSpec)

/-- 'cubitlaw06.NamesPowers', WHERE WHAT IT READS IS OF BULK AT MOST 1048576: true; the input reads as it did. -/
def namesPowersUptoRow : OpenClaim := { program := "ytmgjmjhnhgnfcaadoor", sum := "1694f88877a21754848cc95a1ed4a44654a93fd289363177ac4d0b599c6dd623", func := "cubit/cubitlaw06.NamesPowers", spec := "namesPowers", inPlace := ["internal/abi.NoEscape"], unfollowed := true, recurses := true, named := ["unicode/utf8.first", "unicode/utf8.acceptRanges", "internal/strconv.uint64pow10", "math/bits.deBruijn32tab", "math/bits.deBruijn64tab"], apart := false, laid := [("math/bits.deBruijn32tab", laid_math_bits_deBruijn32tab), ("math/bits.deBruijn64tab", laid_math_bits_deBruijn64tab), ("internal/strconv.uint64pow10", laid_internal_strconv_uint64pow10), ("unicode/utf8.acceptRanges", laid_unicode_utf8_acceptRanges), ("unicode/utf8.first", laid_unicode_utf8_first)], narrowed := true }
def NamesPowersUptoSaid : Prop := namesPowersUptoRow.holds Tryd.pinned (OpenSpec.upto namesPowersSpec)

/-- 'cubitlaw06.NamesNear', WHERE WHAT IT READS IS OF BULK AT MOST 1048576: true; the input reads as it did. -/
def namesNearUptoRow : OpenClaim := { program := "ytmgjmjhnhgnfcaadoor", sum := "1694f88877a21754848cc95a1ed4a44654a93fd289363177ac4d0b599c6dd623", func := "cubit/cubitlaw06.NamesNear", spec := "namesNear", inPlace := ["internal/bytealg.abigen_runtime_cmpstring", "internal/abi.NoEscape"], unfollowed := true, recurses := true, named := ["unicode/utf8.first", "unicode/utf8.acceptRanges"], apart := false, laid := [("unicode/utf8.acceptRanges", laid_unicode_utf8_acceptRanges), ("unicode/utf8.first", laid_unicode_utf8_first)], narrowed := true }
def NamesNearUptoSaid : Prop := namesNearUptoRow.holds Tryd.pinned (OpenSpec.upto namesNearSpec)

end Rows
end Go.Proofs.YtmgjmjhnhgnfcaaDoor
