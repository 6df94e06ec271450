/-
  No cell of these rows narrows 'for every input' (looked for: loops, veiled, ifaces, maps, wideKeys, modest, calm, conditions, laid).
  DERIVED. THE GIVEN ROWS OF THIS SEAT. 4 by the template 'for every input the law returns true; each argument reads behind the call as it read before'; 0 by the template 'total and deterministic' (their statements: YtnhbipachchlgaaTotals.lean).
  GIVEN WITH THE SEED: the statements are not yours to turn. If you find one false, say at which input.
  Laid BY PROGRAM, IN A SANDBOX (cutbox-rows.mjs): the forced cells as the released guide's own fill.sh prints them over the translation 52bbccd66164b5cd… (all of the seat's roots in one cut). By AI agents, Wed Nov 11 2026. No macro, syntax, notation, axiom, sorry.
-/
import Derived.Test.YtnhbipachchlgaaChecked
import GoSem.Claim
import GoSem.ClaimJoined
import GoSem.ClaimMapViews
import Derived.JoinedTies
import Derived.KernelRfl
namespace Go.Proofs.Ytnhbipachchlgaa
/- THE CELL 'sum', in the pinned program and in every row, IS THE sha256 OF THE DUMP (.gsa) THAT YtnhbipachchlgaaProg.lean LOADS. Nothing in Lean hashes anything: it is a label: what it is worth is what the hold of that sum in a sandbox is worth. -/
noncomputable def Try.pinned : Pinned := { name := "ytnhbipachchlgaa", sum := "52bbccd66164b5cd30a0f56376ca9e280e6f06c208ff71cb7e1d99e65dfed0ae", checked := Try.checked }
namespace Rows
def none {H : Type} : Left H := { results := [], args := [] }

/-- 'cubitlaw07.PrefixStands': WHATEVER THE INPUT: true; the input reads as it did. -/
def prefixStandsSpec : ChangeSpec := { name := "prefixStands", fn := fun _ => fun
  | [] => { results := [.lit (.bool true)], args := [] }
  | _ => none }
def prefixStandsRow : OpenClaim := { program := "ytnhbipachchlgaa", sum := "52bbccd66164b5cd30a0f56376ca9e280e6f06c208ff71cb7e1d99e65dfed0ae", func := "cubit/cubitlaw07.PrefixStands", spec := "prefixStands", unfollowed := true, recurses := true, apart := false }
def PrefixStandsSaid : Prop := prefixStandsRow.holds Try.pinned (OpenSpec.ofChange prefixStandsSpec)

/-- ITS FALSE NEIGHBOUR: 'it returns false'. Refute it at one input. -/
def prefixStandsWrong : ChangeSpec := { name := "prefixStands", fn := fun _ => fun
  | [] => { results := [.lit (.bool false)], args := [] }
  | _ => none }
def PrefixStandsWrongFalsely : Prop := prefixStandsRow.holds Try.pinned (OpenSpec.ofChange prefixStandsWrong)

/-- 'cubitlaw07.PrefixFinds': WHATEVER THE INPUT: true; the input reads as it did. -/
def prefixFindsSpec : ChangeSpec := { name := "prefixFinds", fn := fun _ => fun
  | [d] => { results := [.lit (.bool true)], args := [d] }
  | _ => none }
def prefixFindsRow : OpenClaim := { program := "ytnhbipachchlgaa", sum := "52bbccd66164b5cd30a0f56376ca9e280e6f06c208ff71cb7e1d99e65dfed0ae", func := "cubit/cubitlaw07.PrefixFinds", spec := "prefixFinds", unfollowed := true, recurses := true, apart := false }
def PrefixFindsSaid : Prop := prefixFindsRow.holds Try.pinned (OpenSpec.ofChange prefixFindsSpec)

/-- ITS FALSE NEIGHBOUR: 'it returns false'. Refute it at one input. -/
def prefixFindsWrong : ChangeSpec := { name := "prefixFinds", fn := fun _ => fun
  | [d] => { results := [.lit (.bool false)], args := [d] }
  | _ => none }
def PrefixFindsWrongFalsely : Prop := prefixFindsRow.holds Try.pinned (OpenSpec.ofChange prefixFindsWrong)

/-- 'cubitlaw07.PrefixPowers': WHATEVER THE INPUT: true; the input reads as it did. -/
def prefixPowersSpec : ChangeSpec := { name := "prefixPowers", fn := fun _ => fun
  | [] => { results := [.lit (.bool true)], args := [] }
  | _ => none }
def prefixPowersRow : OpenClaim := { program := "ytnhbipachchlgaa", sum := "52bbccd66164b5cd30a0f56376ca9e280e6f06c208ff71cb7e1d99e65dfed0ae", func := "cubit/cubitlaw07.PrefixPowers", spec := "prefixPowers", unfollowed := true, recurses := true, apart := false }
def PrefixPowersSaid : Prop := prefixPowersRow.holds Try.pinned (OpenSpec.ofChange prefixPowersSpec)

/-- ITS FALSE NEIGHBOUR: 'it returns false'. Refute it at one input. -/
def prefixPowersWrong : ChangeSpec := { name := "prefixPowers", fn := fun _ => fun
  | [] => { results := [.lit (.bool false)], args := [] }
  | _ => none }
def PrefixPowersWrongFalsely : Prop := prefixPowersRow.holds Try.pinned (OpenSpec.ofChange prefixPowersWrong)

/-- 'cubitlaw07.PrefixReads': WHATEVER THE INPUT: true; the input reads as it did. -/
def prefixReadsSpec : ChangeSpec := { name := "prefixReads", fn := fun _ => fun
  | [d1, d2] => { results := [.lit (.bool true)], args := [d1, d2] }
  | _ => none }
def prefixReadsRow : OpenClaim := { program := "ytnhbipachchlgaa", sum := "52bbccd66164b5cd30a0f56376ca9e280e6f06c208ff71cb7e1d99e65dfed0ae", func := "cubit/cubitlaw07.PrefixReads", spec := "prefixReads", unfollowed := true, recurses := true, apart := false }
def PrefixReadsSaid : Prop := prefixReadsRow.holds Try.pinned (OpenSpec.ofChange prefixReadsSpec)

/-- ITS FALSE NEIGHBOUR: 'it returns false'. Refute it at one input. -/
def prefixReadsWrong : ChangeSpec := { name := "prefixReads", fn := fun _ => fun
  | [d1, d2] => { results := [.lit (.bool false)], args := [d1, d2] }
  | _ => none }
def PrefixReadsWrongFalsely : Prop := prefixReadsRow.holds Try.pinned (OpenSpec.ofChange prefixReadsWrong)

/- THE SECOND FORM. 'bulk': how many values and letters a reading holds, each counted each time it is reached (what is shared counts as often as it is met; a slice's spare places count too). A statement '..UptoSaid' is the law's where the arguments, and the package variables that the reading takes, are together of bulk at most 1048576: NARROWER than '..Said'. Prove '..Said' where nothing that the law and all that it calls make is longer than what came in: it says more and counts as full. Else prove '..UptoSaid'. A law counts once. -/
mutual
def uptoBulk {H : Type} : DataW H → Nat
  | .lit (.string bytes) => bytes.length + 1
  | .lit _ => 1
  | .nil => 1
  | .ptr d => uptoBulk d + 1
  | .slice elems spare => uptoBulkAll elems + uptoBulkAll spare + 1
  | .agg parts => uptoBulkAll parts + 1
  | .iface _ d => uptoBulk d + 1
  | .map entries => uptoBulkEntries entries + 1
  | .held _ => 1
def uptoBulkAll {H : Type} : List (DataW H) → Nat
  | [] => 0
  | d :: r => uptoBulk d + uptoBulkAll r
def uptoBulkEntries {H : Type} : List (Lit × DataW H) → Nat
  | [] => 0
  | x :: r => uptoBulkEntry x + uptoBulkEntries r
def uptoBulkEntry {H : Type} : Lit × DataW H → Nat
  | (.string bytes, d) => bytes.length + uptoBulk d + 1
  | (_, d) => uptoBulk d + 1
 end
def uptoSmall : (H : Type) → List (DataW H) → Bool := fun _ ds => decide (uptoBulkAll ds ≤ 1048576)
def OpenSpec.upto (s : _root_.Go.ChangeSpec) : _root_.Go.OpenSpec := { _root_.Go.OpenSpec.ofChange s with cond := some uptoSmall }

/-- 'cubitlaw07.PrefixStands', WHERE WHAT IT READS IS OF BULK AT MOST 1048576: true; the input reads as it did. -/
def prefixStandsUptoRow : OpenClaim := { program := "ytnhbipachchlgaa", sum := "52bbccd66164b5cd30a0f56376ca9e280e6f06c208ff71cb7e1d99e65dfed0ae", func := "cubit/cubitlaw07.PrefixStands", spec := "prefixStands", unfollowed := true, recurses := true, apart := false, narrowed := true }
def PrefixStandsUptoSaid : Prop := prefixStandsUptoRow.holds Try.pinned (OpenSpec.upto prefixStandsSpec)

/-- 'cubitlaw07.PrefixFinds', WHERE WHAT IT READS IS OF BULK AT MOST 1048576: true; the input reads as it did. -/
def prefixFindsUptoRow : OpenClaim := { program := "ytnhbipachchlgaa", sum := "52bbccd66164b5cd30a0f56376ca9e280e6f06c208ff71cb7e1d99e65dfed0ae", func := "cubit/cubitlaw07.PrefixFinds", spec := "prefixFinds", unfollowed := true, recurses := true, apart := false, narrowed := true }
def PrefixFindsUptoSaid : Prop := prefixFindsUptoRow.holds Try.pinned (OpenSpec.upto prefixFindsSpec)

/-- 'cubitlaw07.PrefixPowers', WHERE WHAT IT READS IS OF BULK AT MOST 1048576: true; the input reads as it did. -/
def prefixPowersUptoRow : OpenClaim := { program := "ytnhbipachchlgaa", sum := "52bbccd66164b5cd30a0f56376ca9e280e6f06c208ff71cb7e1d99e65dfed0ae", func := "cubit/cubitlaw07.PrefixPowers", spec := "prefixPowers", unfollowed := true, recurses := true, apart := false, narrowed := true }
def PrefixPowersUptoSaid : Prop := prefixPowersUptoRow.holds Try.pinned (OpenSpec.upto prefixPowersSpec)

/-- 'cubitlaw07.PrefixReads', WHERE WHAT IT READS IS OF BULK AT MOST 1048576: true; the input reads as it did. -/
def prefixReadsUptoRow : OpenClaim := { program := "ytnhbipachchlgaa", sum := "52bbccd66164b5cd30a0f56376ca9e280e6f06c208ff71cb7e1d99e65dfed0ae", func := "cubit/cubitlaw07.PrefixReads", spec := "prefixReads", unfollowed := true, recurses := true, apart := false, narrowed := true }
def PrefixReadsUptoSaid : Prop := prefixReadsUptoRow.holds Try.pinned (OpenSpec.upto prefixReadsSpec)

end Rows
end Go.Proofs.Ytnhbipachchlgaa
