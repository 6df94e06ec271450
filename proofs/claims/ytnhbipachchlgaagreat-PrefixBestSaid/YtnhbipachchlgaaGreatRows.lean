/-
  No cell of these rows narrows 'for every input' (looked for: loops, veiled, ifaces, maps, wideKeys, modest, calm, conditions, laid).
  DERIVED. THE GIVEN ROWS OF THIS SEAT. 3 by the template 'for every input the law returns true; each argument reads behind the call as it read before'; 0 by the template 'total and deterministic' (their statements: YtnhbipachchlgaaGreatTotals.lean).
  GIVEN WITH THE SEED: the statements are not yours to turn. If you find one false, say at which input.
  Laid BY PROGRAM, IN A SANDBOX (cutbox-rows.mjs): the forced cells as the released guide's own fill.sh prints them over the translation fb613275c6cafae0… (all of the seat's roots in one cut). By AI agents, Wed Nov 11 2026. No macro, syntax, notation, axiom, sorry.
-/
import Derived.Test.YtnhbipachchlgaaGreatChecked
import GoSem.Claim
import GoSem.ClaimJoined
import GoSem.ClaimMapViews
import Derived.JoinedTies
import Derived.KernelRfl
namespace Go.Proofs.YtnhbipachchlgaaGreat
/- THE CELL 'sum', in the pinned program and in every row, IS THE sha256 OF THE DUMP (.gsa) THAT YtnhbipachchlgaaGreatProg.lean LOADS. Nothing in Lean hashes anything: it is a label: what it is worth is what the hold of that sum in a sandbox is worth. -/
noncomputable def Tryz.pinned : Pinned := { name := "ytnhbipachchlgaagreat", sum := "fb613275c6cafae071b4fa5b4aa885bae917741e03fb40aa23f60d660266489b", checked := Tryz.checked }
namespace Rows
def none {H : Type} : Left H := { results := [], args := [] }

/-- 'cubitlaw07.PrefixSplits': WHATEVER THE INPUT: true; the input reads as it did. -/
def prefixSplitsSpec : ChangeSpec := { name := "prefixSplits", fn := fun _ => fun
  | [d1, d2] => { results := [.lit (.bool true)], args := [d1, d2] }
  | _ => none }
def prefixSplitsRow : OpenClaim := { program := "ytnhbipachchlgaagreat", sum := "fb613275c6cafae071b4fa5b4aa885bae917741e03fb40aa23f60d660266489b", func := "cubit/cubitlaw07.PrefixSplits", spec := "prefixSplits", unfollowed := true, recurses := true, apart := false }
def PrefixSplitsSaid : Prop := prefixSplitsRow.holds Tryz.pinned (OpenSpec.ofChange prefixSplitsSpec)

/-- ITS FALSE NEIGHBOUR: 'it returns false'. Refute it at one input. -/
def prefixSplitsWrong : ChangeSpec := { name := "prefixSplits", fn := fun _ => fun
  | [d1, d2] => { results := [.lit (.bool false)], args := [d1, d2] }
  | _ => none }
def PrefixSplitsWrongFalsely : Prop := prefixSplitsRow.holds Tryz.pinned (OpenSpec.ofChange prefixSplitsWrong)

/-- 'cubitlaw07.PrefixScales': WHATEVER THE INPUT: true; the input reads as it did. -/
def prefixScalesSpec : ChangeSpec := { name := "prefixScales", fn := fun _ => fun
  | [d1, d2] => { results := [.lit (.bool true)], args := [d1, d2] }
  | _ => none }
def prefixScalesRow : OpenClaim := { program := "ytnhbipachchlgaagreat", sum := "fb613275c6cafae071b4fa5b4aa885bae917741e03fb40aa23f60d660266489b", func := "cubit/cubitlaw07.PrefixScales", spec := "prefixScales", unfollowed := true, recurses := true, apart := false }
def PrefixScalesSaid : Prop := prefixScalesRow.holds Tryz.pinned (OpenSpec.ofChange prefixScalesSpec)

/-- ITS FALSE NEIGHBOUR: 'it returns false'. Refute it at one input. -/
def prefixScalesWrong : ChangeSpec := { name := "prefixScales", fn := fun _ => fun
  | [d1, d2] => { results := [.lit (.bool false)], args := [d1, d2] }
  | _ => none }
def PrefixScalesWrongFalsely : Prop := prefixScalesRow.holds Tryz.pinned (OpenSpec.ofChange prefixScalesWrong)

/-- 'cubitlaw07.PrefixBest': WHATEVER THE INPUT: true; the input reads as it did. -/
def prefixBestSpec : ChangeSpec := { name := "prefixBest", fn := fun _ => fun
  | [d1, d2] => { results := [.lit (.bool true)], args := [d1, d2] }
  | _ => none }
def prefixBestRow : OpenClaim := { program := "ytnhbipachchlgaagreat", sum := "fb613275c6cafae071b4fa5b4aa885bae917741e03fb40aa23f60d660266489b", func := "cubit/cubitlaw07.PrefixBest", spec := "prefixBest", inPlace := ["math.Float64frombits"], unfollowed := true, recurses := true, apart := false }
def PrefixBestSaid : Prop := prefixBestRow.holds Tryz.pinned (OpenSpec.ofChange prefixBestSpec)

/-- ITS FALSE NEIGHBOUR: 'it returns false'. Refute it at one input. -/
def prefixBestWrong : ChangeSpec := { name := "prefixBest", fn := fun _ => fun
  | [d1, d2] => { results := [.lit (.bool false)], args := [d1, d2] }
  | _ => none }
def PrefixBestWrongFalsely : Prop := prefixBestRow.holds Tryz.pinned (OpenSpec.ofChange prefixBestWrong)

/- THE SECOND FORM. 'bulk': how many values and letters a reading holds, each counted each time it is reached (what is shared counts as often as it is met; a slice's spare places count too). A statement '..UptoSaid' is the law's where the arguments, and the package variables that the reading takes, are together of bulk at most 1048576: NARROWER than '..Said'. Prove '..Said' where nothing that the law and all that it calls make is longer than what came in: it says more and counts as full. Else prove '..UptoSaid'. A law counts once. -/
mutual
def uptoBulk {H : Type} : DataW H → Nat
  | .lit (.string bytes) => bytes.length + 1
  | .lit _ => 1
  | .nil => 1
  | .ptr d => uptoBulk d + 1
  | .slice elems spare => uptoBulkAll elems + uptoBulkAll spare + 1
  | .agg parts => uptoBulkAll parts + 1
  | .iface _ d => uptoBulk d + 1
  | .map entries => uptoBulkEntries entries + 1
  | .held _ => 1
def uptoBulkAll {H : Type} : List (DataW H) → Nat
  | [] => 0
  | d :: r => uptoBulk d + uptoBulkAll r
def uptoBulkEntries {H : Type} : List (Lit × DataW H) → Nat
  | [] => 0
  | x :: r => uptoBulkEntry x + uptoBulkEntries r
def uptoBulkEntry {H : Type} : Lit × DataW H → Nat
  | (.string bytes, d) => bytes.length + uptoBulk d + 1
  | (_, d) => uptoBulk d + 1
 end
def uptoSmall : (H : Type) → List (DataW H) → Bool := fun _ ds => decide (uptoBulkAll ds ≤ 1048576)
def OpenSpec.upto (s : _root_.Go.ChangeSpec) : _root_.Go.OpenSpec := { _root_.Go.OpenSpec.ofChange s with cond := some uptoSmall }

/-- 'cubitlaw07.PrefixSplits', WHERE WHAT IT READS IS OF BULK AT MOST 1048576: true; the input reads as it did. -/
def prefixSplitsUptoRow : OpenClaim := { program := "ytnhbipachchlgaagreat", sum := "fb613275c6cafae071b4fa5b4aa885bae917741e03fb40aa23f60d660266489b", func := "cubit/cubitlaw07.PrefixSplits", spec := "prefixSplits", unfollowed := true, recurses := true, apart := false, narrowed := true }
def PrefixSplitsUptoSaid : Prop := prefixSplitsUptoRow.holds Tryz.pinned (OpenSpec.upto prefixSplitsSpec)

/-- 'cubitlaw07.PrefixScales', WHERE WHAT IT READS IS OF BULK AT MOST 1048576: true; the input reads as it did. -/
def prefixScalesUptoRow : OpenClaim := { program := "ytnhbipachchlgaagreat", sum := "fb613275c6cafae071b4fa5b4aa885bae917741e03fb40aa23f60d660266489b", func := "cubit/cubitlaw07.PrefixScales", spec := "prefixScales", unfollowed := true, recurses := true, apart := false, narrowed := true }
def PrefixScalesUptoSaid : Prop := prefixScalesUptoRow.holds Tryz.pinned (OpenSpec.upto prefixScalesSpec)

/-- 'cubitlaw07.PrefixBest', WHERE WHAT IT READS IS OF BULK AT MOST 1048576: true; the input reads as it did. -/
def prefixBestUptoRow : OpenClaim := { program := "ytnhbipachchlgaagreat", sum := "fb613275c6cafae071b4fa5b4aa885bae917741e03fb40aa23f60d660266489b", func := "cubit/cubitlaw07.PrefixBest", spec := "prefixBest", inPlace := ["math.Float64frombits"], unfollowed := true, recurses := true, apart := false, narrowed := true }
def PrefixBestUptoSaid : Prop := prefixBestUptoRow.holds Tryz.pinned (OpenSpec.upto prefixBestSpec)

end Rows
end Go.Proofs.YtnhbipachchlgaaGreat
