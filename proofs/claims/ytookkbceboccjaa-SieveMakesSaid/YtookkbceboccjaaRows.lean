/-
  No cell of these rows narrows 'for every input' (looked for: loops, veiled, ifaces, maps, wideKeys, modest, calm, conditions, laid).
  DERIVED. THE GIVEN ROWS OF THIS SEAT. 6 by the template 'for every input the law returns true; each argument reads behind the call as it read before'; 0 by the template 'total and deterministic' (their statements: YtookkbceboccjaaTotals.lean).
  GIVEN WITH THE SEED: the statements are not yours to turn. If you find one false, say at which input.
  Laid BY PROGRAM, IN A SANDBOX (cutbox-rows.mjs): the forced cells as the released guide's own fill.sh prints them over the translation df4b4fd25d3e5687… (all of the seat's roots in one cut). By AI agents, Wed Nov 11 2026. No macro, syntax, notation, axiom, sorry.
-/
import Derived.Test.YtookkbceboccjaaChecked
import GoSem.Claim
import GoSem.ClaimJoined
import GoSem.ClaimMapViews
import Derived.JoinedTies
import Derived.KernelRfl
namespace Go.Proofs.Ytookkbceboccjaa
/- THE CELL 'sum', in the pinned program and in every row, IS THE sha256 OF THE DUMP (.gsa) THAT YtookkbceboccjaaProg.lean LOADS. Nothing in Lean hashes anything: it is a label: what it is worth is what the hold of that sum in a sandbox is worth. -/
noncomputable def Try.pinned : Pinned := { name := "ytookkbceboccjaa", sum := "df4b4fd25d3e568789aa380224fd1d62f3130f366f97226f28cd363ad265f703", checked := Try.checked }
namespace Rows
def none {H : Type} : Left H := { results := [], args := [] }

/-- 'docketlaw07.SieveNames': WHATEVER THE INPUT: true; the input reads as it did. -/
def sieveNamesSpec : ChangeSpec := { name := "sieveNames", fn := fun _ => fun
  | [] => { results := [.lit (.bool true)], args := [] }
  | _ => none }
def sieveNamesRow : OpenClaim := { program := "ytookkbceboccjaa", sum := "df4b4fd25d3e568789aa380224fd1d62f3130f366f97226f28cd363ad265f703", func := "docket/docketlaw07.SieveNames", spec := "sieveNames", unfollowed := true, recurses := true, apart := false }
def SieveNamesSaid : Prop := sieveNamesRow.holds Try.pinned (OpenSpec.ofChange sieveNamesSpec)

/-- ITS FALSE NEIGHBOUR: 'it returns false'. Refute it at one input. -/
def sieveNamesWrong : ChangeSpec := { name := "sieveNames", fn := fun _ => fun
  | [] => { results := [.lit (.bool false)], args := [] }
  | _ => none }
def SieveNamesWrongFalsely : Prop := sieveNamesRow.holds Try.pinned (OpenSpec.ofChange sieveNamesWrong)

/-- 'docketlaw07.SieveMakes': WHATEVER THE INPUT: true; the input reads as it did. -/
def sieveMakesSpec : ChangeSpec := { name := "sieveMakes", fn := fun _ => fun
  | [d1, d2, d3, d4] => { results := [.lit (.bool true)], args := [d1, d2, d3, d4] }
  | _ => none }
def sieveMakesRow : OpenClaim := { program := "ytookkbceboccjaa", sum := "df4b4fd25d3e568789aa380224fd1d62f3130f366f97226f28cd363ad265f703", func := "docket/docketlaw07.SieveMakes", spec := "sieveMakes", unfollowed := true, recurses := true, apart := false }
def SieveMakesSaid : Prop := sieveMakesRow.holds Try.pinned (OpenSpec.ofChange sieveMakesSpec)

/-- ITS FALSE NEIGHBOUR: 'it returns false'. Refute it at one input. -/
def sieveMakesWrong : ChangeSpec := { name := "sieveMakes", fn := fun _ => fun
  | [d1, d2, d3, d4] => { results := [.lit (.bool false)], args := [d1, d2, d3, d4] }
  | _ => none }
def SieveMakesWrongFalsely : Prop := sieveMakesRow.holds Try.pinned (OpenSpec.ofChange sieveMakesWrong)

/-- 'docketlaw07.SieveNever': WHATEVER THE INPUT: true; the input reads as it did. -/
def sieveNeverSpec : ChangeSpec := { name := "sieveNever", fn := fun _ => fun
  | [d1, d2] => { results := [.lit (.bool true)], args := [d1, d2] }
  | _ => none }
def sieveNeverRow : OpenClaim := { program := "ytookkbceboccjaa", sum := "df4b4fd25d3e568789aa380224fd1d62f3130f366f97226f28cd363ad265f703", func := "docket/docketlaw07.SieveNever", spec := "sieveNever", unfollowed := true, recurses := true, apart := false }
def SieveNeverSaid : Prop := sieveNeverRow.holds Try.pinned (OpenSpec.ofChange sieveNeverSpec)

/-- ITS FALSE NEIGHBOUR: 'it returns false'. Refute it at one input. -/
def sieveNeverWrong : ChangeSpec := { name := "sieveNever", fn := fun _ => fun
  | [d1, d2] => { results := [.lit (.bool false)], args := [d1, d2] }
  | _ => none }
def SieveNeverWrongFalsely : Prop := sieveNeverRow.holds Try.pinned (OpenSpec.ofChange sieveNeverWrong)

/-- 'docketlaw07.SieveMore': WHATEVER THE INPUT: true; the input reads as it did. -/
def sieveMoreSpec : ChangeSpec := { name := "sieveMore", fn := fun _ => fun
  | [d1, d2, d3] => { results := [.lit (.bool true)], args := [d1, d2, d3] }
  | _ => none }
def sieveMoreRow : OpenClaim := { program := "ytookkbceboccjaa", sum := "df4b4fd25d3e568789aa380224fd1d62f3130f366f97226f28cd363ad265f703", func := "docket/docketlaw07.SieveMore", spec := "sieveMore", unfollowed := true, recurses := true, apart := false }
def SieveMoreSaid : Prop := sieveMoreRow.holds Try.pinned (OpenSpec.ofChange sieveMoreSpec)

/-- ITS FALSE NEIGHBOUR: 'it returns false'. Refute it at one input. -/
def sieveMoreWrong : ChangeSpec := { name := "sieveMore", fn := fun _ => fun
  | [d1, d2, d3] => { results := [.lit (.bool false)], args := [d1, d2, d3] }
  | _ => none }
def SieveMoreWrongFalsely : Prop := sieveMoreRow.holds Try.pinned (OpenSpec.ofChange sieveMoreWrong)

/-- 'docketlaw07.SieveBits': WHATEVER THE INPUT: true; the input reads as it did. -/
def sieveBitsSpec : ChangeSpec := { name := "sieveBits", fn := fun _ => fun
  | [d1, d2, d3] => { results := [.lit (.bool true)], args := [d1, d2, d3] }
  | _ => none }
def sieveBitsRow : OpenClaim := { program := "ytookkbceboccjaa", sum := "df4b4fd25d3e568789aa380224fd1d62f3130f366f97226f28cd363ad265f703", func := "docket/docketlaw07.SieveBits", spec := "sieveBits", unfollowed := true, recurses := true, apart := false }
def SieveBitsSaid : Prop := sieveBitsRow.holds Try.pinned (OpenSpec.ofChange sieveBitsSpec)

/-- ITS FALSE NEIGHBOUR: 'it returns false'. Refute it at one input. -/
def sieveBitsWrong : ChangeSpec := { name := "sieveBits", fn := fun _ => fun
  | [d1, d2, d3] => { results := [.lit (.bool false)], args := [d1, d2, d3] }
  | _ => none }
def SieveBitsWrongFalsely : Prop := sieveBitsRow.holds Try.pinned (OpenSpec.ofChange sieveBitsWrong)

/-- 'docketlaw07.SieveMarks': WHATEVER THE INPUT: true; the input reads as it did. -/
def sieveMarksSpec : ChangeSpec := { name := "sieveMarks", fn := fun _ => fun
  | [d1, d2] => { results := [.lit (.bool true)], args := [d1, d2] }
  | _ => none }
def sieveMarksRow : OpenClaim := { program := "ytookkbceboccjaa", sum := "df4b4fd25d3e568789aa380224fd1d62f3130f366f97226f28cd363ad265f703", func := "docket/docketlaw07.SieveMarks", spec := "sieveMarks", unfollowed := true, recurses := true, apart := false }
def SieveMarksSaid : Prop := sieveMarksRow.holds Try.pinned (OpenSpec.ofChange sieveMarksSpec)

/-- ITS FALSE NEIGHBOUR: 'it returns false'. Refute it at one input. -/
def sieveMarksWrong : ChangeSpec := { name := "sieveMarks", fn := fun _ => fun
  | [d1, d2] => { results := [.lit (.bool false)], args := [d1, d2] }
  | _ => none }
def SieveMarksWrongFalsely : Prop := sieveMarksRow.holds Try.pinned (OpenSpec.ofChange sieveMarksWrong)

/- THE SECOND FORM. 'bulk': how many values and letters a reading holds, each counted each time it is reached (what is shared counts as often as it is met; a slice's spare places count too). A statement '..UptoSaid' is the law's where the arguments, and the package variables that the reading takes, are together of bulk at most 1048576: NARROWER than '..Said'. Prove '..Said' where nothing that the law and all that it calls make is longer than what came in: it says more and counts as full. Else prove '..UptoSaid'. A law counts once. -/
mutual
def uptoBulk {H : Type} : DataW H → Nat
  | .lit (.string bytes) => bytes.length + 1
  | .lit _ => 1
  | .nil => 1
  | .ptr d => uptoBulk d + 1
  | .slice elems spare => uptoBulkAll elems + uptoBulkAll spare + 1
  | .agg parts => uptoBulkAll parts + 1
  | .iface _ d => uptoBulk d + 1
  | .map entries => uptoBulkEntries entries + 1
  | .held _ => 1
def uptoBulkAll {H : Type} : List (DataW H) → Nat
  | [] => 0
  | d :: r => uptoBulk d + uptoBulkAll r
def uptoBulkEntries {H : Type} : List (Lit × DataW H) → Nat
  | [] => 0
  | x :: r => uptoBulkEntry x + uptoBulkEntries r
def uptoBulkEntry {H : Type} : Lit × DataW H → Nat
  | (.string bytes, d) => bytes.length + uptoBulk d + 1
  | (_, d) => uptoBulk d + 1
 end
def uptoSmall : (H : Type) → List (DataW H) → Bool := fun _ ds => decide (uptoBulkAll ds ≤ 1048576)
def OpenSpec.upto (s : _root_.Go.ChangeSpec) : _root_.Go.OpenSpec := { _root_.Go.OpenSpec.ofChange s with cond := some uptoSmall }

/-- 'docketlaw07.SieveNames', WHERE WHAT IT READS IS OF BULK AT MOST 1048576: true; the input reads as it did. -/
def sieveNamesUptoRow : OpenClaim := { program := "ytookkbceboccjaa", sum := "df4b4fd25d3e568789aa380224fd1d62f3130f366f97226f28cd363ad265f703", func := "docket/docketlaw07.SieveNames", spec := "sieveNames", unfollowed := true, recurses := true, apart := false, narrowed := true }
def SieveNamesUptoSaid : Prop := sieveNamesUptoRow.holds Try.pinned (OpenSpec.upto sieveNamesSpec)

/-- 'docketlaw07.SieveMakes', WHERE WHAT IT READS IS OF BULK AT MOST 1048576: true; the input reads as it did. -/
def sieveMakesUptoRow : OpenClaim := { program := "ytookkbceboccjaa", sum := "df4b4fd25d3e568789aa380224fd1d62f3130f366f97226f28cd363ad265f703", func := "docket/docketlaw07.SieveMakes", spec := "sieveMakes", unfollowed := true, recurses := true, apart := false, narrowed := true }
def SieveMakesUptoSaid : Prop := sieveMakesUptoRow.holds Try.pinned (OpenSpec.upto sieveMakesSpec)

/-- 'docketlaw07.SieveNever', WHERE WHAT IT READS IS OF BULK AT MOST 1048576: true; the input reads as it did. -/
def sieveNeverUptoRow : OpenClaim := { program := "ytookkbceboccjaa", sum := "df4b4fd25d3e568789aa380224fd1d62f3130f366f97226f28cd363ad265f703", func := "docket/docketlaw07.SieveNever", spec := "sieveNever", unfollowed := true, recurses := true, apart := false, narrowed := true }
def SieveNeverUptoSaid : Prop := sieveNeverUptoRow.holds Try.pinned (OpenSpec.upto sieveNeverSpec)

/-- 'docketlaw07.SieveMore', WHERE WHAT IT READS IS OF BULK AT MOST 1048576: true; the input reads as it did. -/
def sieveMoreUptoRow : OpenClaim := { program := "ytookkbceboccjaa", sum := "df4b4fd25d3e568789aa380224fd1d62f3130f366f97226f28cd363ad265f703", func := "docket/docketlaw07.SieveMore", spec := "sieveMore", unfollowed := true, recurses := true, apart := false, narrowed := true }
def SieveMoreUptoSaid : Prop := sieveMoreUptoRow.holds Try.pinned (OpenSpec.upto sieveMoreSpec)

/-- 'docketlaw07.SieveBits', WHERE WHAT IT READS IS OF BULK AT MOST 1048576: true; the input reads as it did. -/
def sieveBitsUptoRow : OpenClaim := { program := "ytookkbceboccjaa", sum := "df4b4fd25d3e568789aa380224fd1d62f3130f366f97226f28cd363ad265f703", func := "docket/docketlaw07.SieveBits", spec := "sieveBits", unfollowed := true, recurses := true, apart := false, narrowed := true }
def SieveBitsUptoSaid : Prop := sieveBitsUptoRow.holds Try.pinned (OpenSpec.upto sieveBitsSpec)

/-- 'docketlaw07.SieveMarks', WHERE WHAT IT READS IS OF BULK AT MOST 1048576: true; the input reads as it did. -/
def sieveMarksUptoRow : OpenClaim := { program := "ytookkbceboccjaa", sum := "df4b4fd25d3e568789aa380224fd1d62f3130f366f97226f28cd363ad265f703", func := "docket/docketlaw07.SieveMarks", spec := "sieveMarks", unfollowed := true, recurses := true, apart := false, narrowed := true }
def SieveMarksUptoSaid : Prop := sieveMarksUptoRow.holds Try.pinned (OpenSpec.upto sieveMarksSpec)

end Rows
end Go.Proofs.Ytookkbceboccjaa
