/-
  No cell of these rows narrows 'for every input' (looked for: loops, veiled, ifaces, maps, wideKeys, modest, calm, conditions, laid).
  DERIVED. THE GIVEN ROWS OF THIS SEAT. 6 by the template 'for every input the law returns true; each argument reads behind the call as it read before'; 0 by the template 'total and deterministic' (their statements: YtpjnphonanbopaaTotals.lean).
  GIVEN WITH THE SEED: the statements are not yours to turn. If you find one false, say at which input.
  Laid BY PROGRAM, IN A SANDBOX (cutbox-rows.mjs): the forced cells as the released guide's own fill.sh prints them over the translation 5a79b10b0674847e… (all of the seat's roots in one cut). By AI agents, Wed Nov 11 2026. No macro, syntax, notation, axiom, sorry.
-/
import Derived.Test.YtpjnphonanbopaaChecked
import GoSem.Claim
import GoSem.ClaimJoined
import GoSem.ClaimMapViews
import Derived.JoinedTies
import Derived.KernelRfl
namespace Go.Proofs.Ytpjnphonanbopaa
/- THE CELL 'sum', in the pinned program and in every row, IS THE sha256 OF THE DUMP (.gsa) THAT YtpjnphonanbopaaProg.lean LOADS. Nothing in Lean hashes anything: it is a label: what it is worth is what the hold of that sum in a sandbox is worth. -/
noncomputable def Try.pinned : Pinned := { name := "ytpjnphonanbopaa", sum := "5a79b10b0674847e33eeec6db660acaf6e1f2d5b1ccc355f000451f6a3589971", checked := Try.checked }
namespace Rows
def none {H : Type} : Left H := { results := [], args := [] }

/-- 'scriptoriumlaw7.TinyStepMatchesSpec': WHATEVER THE INPUT: true; the input reads as it did. -/
def tinyStepMatchesSpecSpec : ChangeSpec := { name := "tinyStepMatchesSpec", fn := fun _ => fun
  | [d1, d2] => { results := [.lit (.bool true)], args := [d1, d2] }
  | _ => none }
def tinyStepMatchesSpecRow : OpenClaim := { program := "ytpjnphonanbopaa", sum := "5a79b10b0674847e33eeec6db660acaf6e1f2d5b1ccc355f000451f6a3589971", func := "scriptorium/scriptoriumlaw7.TinyStepMatchesSpec", spec := "tinyStepMatchesSpec", unfollowed := true, recurses := true, apart := false }
def TinyStepMatchesSpecSaid : Prop := tinyStepMatchesSpecRow.holds Try.pinned (OpenSpec.ofChange tinyStepMatchesSpecSpec)

/-- ITS FALSE NEIGHBOUR: 'it returns false'. Refute it at one input. -/
def tinyStepMatchesSpecWrong : ChangeSpec := { name := "tinyStepMatchesSpec", fn := fun _ => fun
  | [d1, d2] => { results := [.lit (.bool false)], args := [d1, d2] }
  | _ => none }
def TinyStepMatchesSpecWrongFalsely : Prop := tinyStepMatchesSpecRow.holds Try.pinned (OpenSpec.ofChange tinyStepMatchesSpecWrong)

/-- 'scriptoriumlaw7.TinyRunMatchesSpec': WHATEVER THE INPUT: true; the input reads as it did. -/
def tinyRunMatchesSpecSpec : ChangeSpec := { name := "tinyRunMatchesSpec", fn := fun _ => fun
  | [d1, d2, d3] => { results := [.lit (.bool true)], args := [d1, d2, d3] }
  | _ => none }
def tinyRunMatchesSpecRow : OpenClaim := { program := "ytpjnphonanbopaa", sum := "5a79b10b0674847e33eeec6db660acaf6e1f2d5b1ccc355f000451f6a3589971", func := "scriptorium/scriptoriumlaw7.TinyRunMatchesSpec", spec := "tinyRunMatchesSpec", unfollowed := true, recurses := true, apart := false }
def TinyRunMatchesSpecSaid : Prop := tinyRunMatchesSpecRow.holds Try.pinned (OpenSpec.ofChange tinyRunMatchesSpecSpec)

/-- ITS FALSE NEIGHBOUR: 'it returns false'. Refute it at one input. -/
def tinyRunMatchesSpecWrong : ChangeSpec := { name := "tinyRunMatchesSpec", fn := fun _ => fun
  | [d1, d2, d3] => { results := [.lit (.bool false)], args := [d1, d2, d3] }
  | _ => none }
def TinyRunMatchesSpecWrongFalsely : Prop := tinyRunMatchesSpecRow.holds Try.pinned (OpenSpec.ofChange tinyRunMatchesSpecWrong)

/-- 'scriptoriumlaw7.TinyExecuteMatchesSpec': WHATEVER THE INPUT: true; the input reads as it did. -/
def tinyExecuteMatchesSpecSpec : ChangeSpec := { name := "tinyExecuteMatchesSpec", fn := fun _ => fun
  | [d1, d2, d3, d4] => { results := [.lit (.bool true)], args := [d1, d2, d3, d4] }
  | _ => none }
def tinyExecuteMatchesSpecRow : OpenClaim := { program := "ytpjnphonanbopaa", sum := "5a79b10b0674847e33eeec6db660acaf6e1f2d5b1ccc355f000451f6a3589971", func := "scriptorium/scriptoriumlaw7.TinyExecuteMatchesSpec", spec := "tinyExecuteMatchesSpec", unfollowed := true, recurses := true, apart := false }
def TinyExecuteMatchesSpecSaid : Prop := tinyExecuteMatchesSpecRow.holds Try.pinned (OpenSpec.ofChange tinyExecuteMatchesSpecSpec)

/-- ITS FALSE NEIGHBOUR: 'it returns false'. Refute it at one input. -/
def tinyExecuteMatchesSpecWrong : ChangeSpec := { name := "tinyExecuteMatchesSpec", fn := fun _ => fun
  | [d1, d2, d3, d4] => { results := [.lit (.bool false)], args := [d1, d2, d3, d4] }
  | _ => none }
def TinyExecuteMatchesSpecWrongFalsely : Prop := tinyExecuteMatchesSpecRow.holds Try.pinned (OpenSpec.ofChange tinyExecuteMatchesSpecWrong)

/-- 'scriptoriumlaw7.TinyRunsAddUp': WHATEVER THE INPUT: true; the input reads as it did. -/
def tinyRunsAddUpSpec : ChangeSpec := { name := "tinyRunsAddUp", fn := fun _ => fun
  | [d1, d2, d3, d4] => { results := [.lit (.bool true)], args := [d1, d2, d3, d4] }
  | _ => none }
def tinyRunsAddUpRow : OpenClaim := { program := "ytpjnphonanbopaa", sum := "5a79b10b0674847e33eeec6db660acaf6e1f2d5b1ccc355f000451f6a3589971", func := "scriptorium/scriptoriumlaw7.TinyRunsAddUp", spec := "tinyRunsAddUp", unfollowed := true, recurses := true, apart := false }
def TinyRunsAddUpSaid : Prop := tinyRunsAddUpRow.holds Try.pinned (OpenSpec.ofChange tinyRunsAddUpSpec)

/-- ITS FALSE NEIGHBOUR: 'it returns false'. Refute it at one input. -/
def tinyRunsAddUpWrong : ChangeSpec := { name := "tinyRunsAddUp", fn := fun _ => fun
  | [d1, d2, d3, d4] => { results := [.lit (.bool false)], args := [d1, d2, d3, d4] }
  | _ => none }
def TinyRunsAddUpWrongFalsely : Prop := tinyRunsAddUpRow.holds Try.pinned (OpenSpec.ofChange tinyRunsAddUpWrong)

/-- 'scriptoriumlaw7.TinyNamesDoNotMatter': WHATEVER THE INPUT: true; the input reads as it did. -/
def tinyNamesDoNotMatterSpec : ChangeSpec := { name := "tinyNamesDoNotMatter", fn := fun _ => fun
  | [d1, d2, d3, d4] => { results := [.lit (.bool true)], args := [d1, d2, d3, d4] }
  | _ => none }
def tinyNamesDoNotMatterRow : OpenClaim := { program := "ytpjnphonanbopaa", sum := "5a79b10b0674847e33eeec6db660acaf6e1f2d5b1ccc355f000451f6a3589971", func := "scriptorium/scriptoriumlaw7.TinyNamesDoNotMatter", spec := "tinyNamesDoNotMatter", unfollowed := true, recurses := true, apart := false }
def TinyNamesDoNotMatterSaid : Prop := tinyNamesDoNotMatterRow.holds Try.pinned (OpenSpec.ofChange tinyNamesDoNotMatterSpec)

/-- ITS FALSE NEIGHBOUR: 'it returns false'. Refute it at one input. -/
def tinyNamesDoNotMatterWrong : ChangeSpec := { name := "tinyNamesDoNotMatter", fn := fun _ => fun
  | [d1, d2, d3, d4] => { results := [.lit (.bool false)], args := [d1, d2, d3, d4] }
  | _ => none }
def TinyNamesDoNotMatterWrongFalsely : Prop := tinyNamesDoNotMatterRow.holds Try.pinned (OpenSpec.ofChange tinyNamesDoNotMatterWrong)

/-- 'scriptoriumlaw7.TinyTablesMatchSpec': WHATEVER THE INPUT: true; the input reads as it did. -/
def tinyTablesMatchSpecSpec : ChangeSpec := { name := "tinyTablesMatchSpec", fn := fun _ => fun
  | [d1, d2] => { results := [.lit (.bool true)], args := [d1, d2] }
  | _ => none }
def tinyTablesMatchSpecRow : OpenClaim := { program := "ytpjnphonanbopaa", sum := "5a79b10b0674847e33eeec6db660acaf6e1f2d5b1ccc355f000451f6a3589971", func := "scriptorium/scriptoriumlaw7.TinyTablesMatchSpec", spec := "tinyTablesMatchSpec", unfollowed := true, recurses := true, apart := false }
def TinyTablesMatchSpecSaid : Prop := tinyTablesMatchSpecRow.holds Try.pinned (OpenSpec.ofChange tinyTablesMatchSpecSpec)

/-- ITS FALSE NEIGHBOUR: 'it returns false'. Refute it at one input. -/
def tinyTablesMatchSpecWrong : ChangeSpec := { name := "tinyTablesMatchSpec", fn := fun _ => fun
  | [d1, d2] => { results := [.lit (.bool false)], args := [d1, d2] }
  | _ => none }
def TinyTablesMatchSpecWrongFalsely : Prop := tinyTablesMatchSpecRow.holds Try.pinned (OpenSpec.ofChange tinyTablesMatchSpecWrong)

/- THE SECOND FORM. 'bulk': how many values and letters a reading holds, each counted each time it is reached (what is shared counts as often as it is met; a slice's spare places count too). A statement '..UptoSaid' is the law's where the arguments, and the package variables that the reading takes, are together of bulk at most 1048576: NARROWER than '..Said'. Prove '..Said' where nothing that the law and all that it calls make is longer than what came in: it says more and counts as full. Else prove '..UptoSaid'. A law counts once. -/
mutual
def uptoBulk {H : Type} : DataW H → Nat
  | .lit (.string bytes) => bytes.length + 1
  | .lit _ => 1
  | .nil => 1
  | .ptr d => uptoBulk d + 1
  | .slice elems spare => uptoBulkAll elems + uptoBulkAll spare + 1
  | .agg parts => uptoBulkAll parts + 1
  | .iface _ d => uptoBulk d + 1
  | .map entries => uptoBulkEntries entries + 1
  | .held _ => 1
def uptoBulkAll {H : Type} : List (DataW H) → Nat
  | [] => 0
  | d :: r => uptoBulk d + uptoBulkAll r
def uptoBulkEntries {H : Type} : List (Lit × DataW H) → Nat
  | [] => 0
  | x :: r => uptoBulkEntry x + uptoBulkEntries r
def uptoBulkEntry {H : Type} : Lit × DataW H → Nat
  | (.string bytes, d) => bytes.length + uptoBulk d + 1
  | (_, d) => uptoBulk d + 1
 end
def uptoSmall : (H : Type) → List (DataW H) → Bool := fun _ ds => decide (uptoBulkAll ds ≤ 1048576)
def OpenSpec.upto (s : _root_.Go.ChangeSpec) : _root_.Go.OpenSpec := { _root_.Go.OpenSpec.ofChange s with cond := some uptoSmall }

/-- 'scriptoriumlaw7.TinyStepMatchesSpec', WHERE WHAT IT READS IS OF BULK AT MOST 1048576: true; the input reads as it did. -/
def tinyStepMatchesSpecUptoRow : OpenClaim := { program := "ytpjnphonanbopaa", sum := "5a79b10b0674847e33eeec6db660acaf6e1f2d5b1ccc355f000451f6a3589971", func := "scriptorium/scriptoriumlaw7.TinyStepMatchesSpec", spec := "tinyStepMatchesSpec", unfollowed := true, recurses := true, apart := false, narrowed := true }
def TinyStepMatchesSpecUptoSaid : Prop := tinyStepMatchesSpecUptoRow.holds Try.pinned (OpenSpec.upto tinyStepMatchesSpecSpec)

/-- 'scriptoriumlaw7.TinyRunMatchesSpec', WHERE WHAT IT READS IS OF BULK AT MOST 1048576: true; the input reads as it did. -/
def tinyRunMatchesSpecUptoRow : OpenClaim := { program := "ytpjnphonanbopaa", sum := "5a79b10b0674847e33eeec6db660acaf6e1f2d5b1ccc355f000451f6a3589971", func := "scriptorium/scriptoriumlaw7.TinyRunMatchesSpec", spec := "tinyRunMatchesSpec", unfollowed := true, recurses := true, apart := false, narrowed := true }
def TinyRunMatchesSpecUptoSaid : Prop := tinyRunMatchesSpecUptoRow.holds Try.pinned (OpenSpec.upto tinyRunMatchesSpecSpec)

/-- 'scriptoriumlaw7.TinyExecuteMatchesSpec', WHERE WHAT IT READS IS OF BULK AT MOST 1048576: true; the input reads as it did. -/
def tinyExecuteMatchesSpecUptoRow : OpenClaim := { program := "ytpjnphonanbopaa", sum := "5a79b10b0674847e33eeec6db660acaf6e1f2d5b1ccc355f000451f6a3589971", func := "scriptorium/scriptoriumlaw7.TinyExecuteMatchesSpec", spec := "tinyExecuteMatchesSpec", unfollowed := true, recurses := true, apart := false, narrowed := true }
def TinyExecuteMatchesSpecUptoSaid : Prop := tinyExecuteMatchesSpecUptoRow.holds Try.pinned (OpenSpec.upto tinyExecuteMatchesSpecSpec)

/-- 'scriptoriumlaw7.TinyRunsAddUp', WHERE WHAT IT READS IS OF BULK AT MOST 1048576: true; the input reads as it did. -/
def tinyRunsAddUpUptoRow : OpenClaim := { program := "ytpjnphonanbopaa", sum := "5a79b10b0674847e33eeec6db660acaf6e1f2d5b1ccc355f000451f6a3589971", func := "scriptorium/scriptoriumlaw7.TinyRunsAddUp", spec := "tinyRunsAddUp", unfollowed := true, recurses := true, apart := false, narrowed := true }
def TinyRunsAddUpUptoSaid : Prop := tinyRunsAddUpUptoRow.holds Try.pinned (OpenSpec.upto tinyRunsAddUpSpec)

/-- 'scriptoriumlaw7.TinyNamesDoNotMatter', WHERE WHAT IT READS IS OF BULK AT MOST 1048576: true; the input reads as it did. -/
def tinyNamesDoNotMatterUptoRow : OpenClaim := { program := "ytpjnphonanbopaa", sum := "5a79b10b0674847e33eeec6db660acaf6e1f2d5b1ccc355f000451f6a3589971", func := "scriptorium/scriptoriumlaw7.TinyNamesDoNotMatter", spec := "tinyNamesDoNotMatter", unfollowed := true, recurses := true, apart := false, narrowed := true }
def TinyNamesDoNotMatterUptoSaid : Prop := tinyNamesDoNotMatterUptoRow.holds Try.pinned (OpenSpec.upto tinyNamesDoNotMatterSpec)

/-- 'scriptoriumlaw7.TinyTablesMatchSpec', WHERE WHAT IT READS IS OF BULK AT MOST 1048576: true; the input reads as it did. -/
def tinyTablesMatchSpecUptoRow : OpenClaim := { program := "ytpjnphonanbopaa", sum := "5a79b10b0674847e33eeec6db660acaf6e1f2d5b1ccc355f000451f6a3589971", func := "scriptorium/scriptoriumlaw7.TinyTablesMatchSpec", spec := "tinyTablesMatchSpec", unfollowed := true, recurses := true, apart := false, narrowed := true }
def TinyTablesMatchSpecUptoSaid : Prop := tinyTablesMatchSpecUptoRow.holds Try.pinned (OpenSpec.upto tinyTablesMatchSpecSpec)

end Rows
end Go.Proofs.Ytpjnphonanbopaa
