/-
  No cell of these rows narrows 'for every input' (looked for: loops, veiled, ifaces, maps, wideKeys, modest, calm, conditions, laid).
  DERIVED. THE GIVEN ROWS OF THIS SEAT. 6 by the template 'for every input the law returns true; each argument reads behind the call as it read before'; 0 by the template 'total and deterministic' (their statements: YtabioinmpjfflaaTotals.lean).
  GIVEN WITH THE SEED: the statements are not yours to turn. If you find one false, say at which input.
  Laid BY PROGRAM, IN A SANDBOX (cutbox-rows.mjs): the forced cells as the released guide's own fill.sh prints them over the translation 823a9a4c51515040… (all of the seat's roots in one cut). By AI agents, Wed Nov 11 2026. No macro, syntax, notation, axiom, sorry.
-/
import Derived.Test.YtabioinmpjfflaaChecked
import GoSem.Claim
import GoSem.ClaimJoined
import GoSem.ClaimMapViews
import Derived.JoinedTies
import Derived.KernelRfl
namespace Go.Proofs.Ytabioinmpjfflaa
/- THE CELL 'sum', in the pinned program and in every row, IS THE sha256 OF THE DUMP (.gsa) THAT YtabioinmpjfflaaProg.lean LOADS. Nothing in Lean hashes anything: it is a label: what it is worth is what the hold of that sum in a sandbox is worth. -/
noncomputable def Try.pinned : Pinned := { name := "ytabioinmpjfflaa", sum := "823a9a4c51515040f3c1a59cc5ab83e75b1c1ea9d17d99c07d470b83cf5d345f", checked := Try.checked }
namespace Rows
def none {H : Type} : Left H := { results := [], args := [] }

/-- 'laws.FnSceneBehind': WHATEVER THE INPUT: true; the input reads as it did. -/
def fnSceneBehindSpec : ChangeSpec := { name := "fnSceneBehind", fn := fun _ => fun
  | [d] => { results := [.lit (.bool true)], args := [d] }
  | _ => none }
def fnSceneBehindRow : OpenClaim := { program := "ytabioinmpjfflaa", sum := "823a9a4c51515040f3c1a59cc5ab83e75b1c1ea9d17d99c07d470b83cf5d345f", func := "loop.example/homeconsole/laws.FnSceneBehind", spec := "fnSceneBehind", apart := false }
def FnSceneBehindSaid : Prop := fnSceneBehindRow.holds Try.pinned (OpenSpec.ofChange fnSceneBehindSpec)

/-- ITS FALSE NEIGHBOUR: 'it returns false'. Refute it at one input. -/
def fnSceneBehindWrong : ChangeSpec := { name := "fnSceneBehind", fn := fun _ => fun
  | [d] => { results := [.lit (.bool false)], args := [d] }
  | _ => none }
def FnSceneBehindWrongFalsely : Prop := fnSceneBehindRow.holds Try.pinned (OpenSpec.ofChange fnSceneBehindWrong)

/-- 'laws.FnScenePixel': WHATEVER THE INPUT: true; the input reads as it did. -/
def fnScenePixelSpec : ChangeSpec := { name := "fnScenePixel", fn := fun _ => fun
  | [d] => { results := [.lit (.bool true)], args := [d] }
  | _ => none }
def fnScenePixelRow : OpenClaim := { program := "ytabioinmpjfflaa", sum := "823a9a4c51515040f3c1a59cc5ab83e75b1c1ea9d17d99c07d470b83cf5d345f", func := "loop.example/homeconsole/laws.FnScenePixel", spec := "fnScenePixel", apart := false }
def FnScenePixelSaid : Prop := fnScenePixelRow.holds Try.pinned (OpenSpec.ofChange fnScenePixelSpec)

/-- ITS FALSE NEIGHBOUR: 'it returns false'. Refute it at one input. -/
def fnScenePixelWrong : ChangeSpec := { name := "fnScenePixel", fn := fun _ => fun
  | [d] => { results := [.lit (.bool false)], args := [d] }
  | _ => none }
def FnScenePixelWrongFalsely : Prop := fnScenePixelRow.holds Try.pinned (OpenSpec.ofChange fnScenePixelWrong)

/-- 'laws.FnSceneLine': WHATEVER THE INPUT: true; the input reads as it did. -/
def fnSceneLineSpec : ChangeSpec := { name := "fnSceneLine", fn := fun _ => fun
  | [d] => { results := [.lit (.bool true)], args := [d] }
  | _ => none }
def fnSceneLineRow : OpenClaim := { program := "ytabioinmpjfflaa", sum := "823a9a4c51515040f3c1a59cc5ab83e75b1c1ea9d17d99c07d470b83cf5d345f", func := "loop.example/homeconsole/laws.FnSceneLine", spec := "fnSceneLine", apart := false }
def FnSceneLineSaid : Prop := fnSceneLineRow.holds Try.pinned (OpenSpec.ofChange fnSceneLineSpec)

/-- ITS FALSE NEIGHBOUR: 'it returns false'. Refute it at one input. -/
def fnSceneLineWrong : ChangeSpec := { name := "fnSceneLine", fn := fun _ => fun
  | [d] => { results := [.lit (.bool false)], args := [d] }
  | _ => none }
def FnSceneLineWrongFalsely : Prop := fnSceneLineRow.holds Try.pinned (OpenSpec.ofChange fnSceneLineWrong)

/-- 'laws.FnSceneValid': WHATEVER THE INPUT: true; the input reads as it did. -/
def fnSceneValidSpec : ChangeSpec := { name := "fnSceneValid", fn := fun _ => fun
  | [d] => { results := [.lit (.bool true)], args := [d] }
  | _ => none }
def fnSceneValidRow : OpenClaim := { program := "ytabioinmpjfflaa", sum := "823a9a4c51515040f3c1a59cc5ab83e75b1c1ea9d17d99c07d470b83cf5d345f", func := "loop.example/homeconsole/laws.FnSceneValid", spec := "fnSceneValid", apart := false }
def FnSceneValidSaid : Prop := fnSceneValidRow.holds Try.pinned (OpenSpec.ofChange fnSceneValidSpec)

/-- ITS FALSE NEIGHBOUR: 'it returns false'. Refute it at one input. -/
def fnSceneValidWrong : ChangeSpec := { name := "fnSceneValid", fn := fun _ => fun
  | [d] => { results := [.lit (.bool false)], args := [d] }
  | _ => none }
def FnSceneValidWrongFalsely : Prop := fnSceneValidRow.holds Try.pinned (OpenSpec.ofChange fnSceneValidWrong)

/-- 'laws.FnExactSceneValid': WHATEVER THE INPUT: true; the input reads as it did. -/
def fnExactSceneValidSpec : ChangeSpec := { name := "fnExactSceneValid", fn := fun _ => fun
  | [d] => { results := [.lit (.bool true)], args := [d] }
  | _ => none }
def fnExactSceneValidRow : OpenClaim := { program := "ytabioinmpjfflaa", sum := "823a9a4c51515040f3c1a59cc5ab83e75b1c1ea9d17d99c07d470b83cf5d345f", func := "loop.example/homeconsole/laws.FnExactSceneValid", spec := "fnExactSceneValid", apart := false }
def FnExactSceneValidSaid : Prop := fnExactSceneValidRow.holds Try.pinned (OpenSpec.ofChange fnExactSceneValidSpec)

/-- ITS FALSE NEIGHBOUR: 'it returns false'. Refute it at one input. -/
def fnExactSceneValidWrong : ChangeSpec := { name := "fnExactSceneValid", fn := fun _ => fun
  | [d] => { results := [.lit (.bool false)], args := [d] }
  | _ => none }
def FnExactSceneValidWrongFalsely : Prop := fnExactSceneValidRow.holds Try.pinned (OpenSpec.ofChange fnExactSceneValidWrong)

/-- 'laws.FnFirstTouch': WHATEVER THE INPUT: true; the input reads as it did. -/
def fnFirstTouchSpec : ChangeSpec := { name := "fnFirstTouch", fn := fun _ => fun
  | [d] => { results := [.lit (.bool true)], args := [d] }
  | _ => none }
def fnFirstTouchRow : OpenClaim := { program := "ytabioinmpjfflaa", sum := "823a9a4c51515040f3c1a59cc5ab83e75b1c1ea9d17d99c07d470b83cf5d345f", func := "loop.example/homeconsole/laws.FnFirstTouch", spec := "fnFirstTouch", apart := false }
def FnFirstTouchSaid : Prop := fnFirstTouchRow.holds Try.pinned (OpenSpec.ofChange fnFirstTouchSpec)

/-- ITS FALSE NEIGHBOUR: 'it returns false'. Refute it at one input. -/
def fnFirstTouchWrong : ChangeSpec := { name := "fnFirstTouch", fn := fun _ => fun
  | [d] => { results := [.lit (.bool false)], args := [d] }
  | _ => none }
def FnFirstTouchWrongFalsely : Prop := fnFirstTouchRow.holds Try.pinned (OpenSpec.ofChange fnFirstTouchWrong)

/- THE SECOND FORM. 'bulk': how many values and letters a reading holds, each counted each time it is reached (what is shared counts as often as it is met; a slice's spare places count too). A statement '..UptoSaid' is the law's where the arguments, and the package variables that the reading takes, are together of bulk at most 1048576: NARROWER than '..Said'. Prove '..Said' where nothing that the law and all that it calls make is longer than what came in: it says more and counts as full. Else prove '..UptoSaid'. A law counts once. -/
mutual
def uptoBulk {H : Type} : DataW H → Nat
  | .lit (.string bytes) => bytes.length + 1
  | .lit _ => 1
  | .nil => 1
  | .ptr d => uptoBulk d + 1
  | .slice elems spare => uptoBulkAll elems + uptoBulkAll spare + 1
  | .agg parts => uptoBulkAll parts + 1
  | .iface _ d => uptoBulk d + 1
  | .map entries => uptoBulkEntries entries + 1
  | .held _ => 1
def uptoBulkAll {H : Type} : List (DataW H) → Nat
  | [] => 0
  | d :: r => uptoBulk d + uptoBulkAll r
def uptoBulkEntries {H : Type} : List (Lit × DataW H) → Nat
  | [] => 0
  | x :: r => uptoBulkEntry x + uptoBulkEntries r
def uptoBulkEntry {H : Type} : Lit × DataW H → Nat
  | (.string bytes, d) => bytes.length + uptoBulk d + 1
  | (_, d) => uptoBulk d + 1
 end
def uptoSmall : (H : Type) → List (DataW H) → Bool := fun _ ds => decide (uptoBulkAll ds ≤ 1048576)
def OpenSpec.upto (s : _root_.Go.ChangeSpec) : _root_.Go.OpenSpec := { _root_.Go.OpenSpec.ofChange s with cond := some uptoSmall }

/-- 'laws.FnSceneBehind', WHERE WHAT IT READS IS OF BULK AT MOST 1048576: true; the input reads as it did. -/
def fnSceneBehindUptoRow : OpenClaim := { program := "ytabioinmpjfflaa", sum := "823a9a4c51515040f3c1a59cc5ab83e75b1c1ea9d17d99c07d470b83cf5d345f", func := "loop.example/homeconsole/laws.FnSceneBehind", spec := "fnSceneBehind", apart := false, narrowed := true }
def FnSceneBehindUptoSaid : Prop := fnSceneBehindUptoRow.holds Try.pinned (OpenSpec.upto fnSceneBehindSpec)

/-- 'laws.FnScenePixel', WHERE WHAT IT READS IS OF BULK AT MOST 1048576: true; the input reads as it did. -/
def fnScenePixelUptoRow : OpenClaim := { program := "ytabioinmpjfflaa", sum := "823a9a4c51515040f3c1a59cc5ab83e75b1c1ea9d17d99c07d470b83cf5d345f", func := "loop.example/homeconsole/laws.FnScenePixel", spec := "fnScenePixel", apart := false, narrowed := true }
def FnScenePixelUptoSaid : Prop := fnScenePixelUptoRow.holds Try.pinned (OpenSpec.upto fnScenePixelSpec)

/-- 'laws.FnSceneLine', WHERE WHAT IT READS IS OF BULK AT MOST 1048576: true; the input reads as it did. -/
def fnSceneLineUptoRow : OpenClaim := { program := "ytabioinmpjfflaa", sum := "823a9a4c51515040f3c1a59cc5ab83e75b1c1ea9d17d99c07d470b83cf5d345f", func := "loop.example/homeconsole/laws.FnSceneLine", spec := "fnSceneLine", apart := false, narrowed := true }
def FnSceneLineUptoSaid : Prop := fnSceneLineUptoRow.holds Try.pinned (OpenSpec.upto fnSceneLineSpec)

/-- 'laws.FnSceneValid', WHERE WHAT IT READS IS OF BULK AT MOST 1048576: true; the input reads as it did. -/
def fnSceneValidUptoRow : OpenClaim := { program := "ytabioinmpjfflaa", sum := "823a9a4c51515040f3c1a59cc5ab83e75b1c1ea9d17d99c07d470b83cf5d345f", func := "loop.example/homeconsole/laws.FnSceneValid", spec := "fnSceneValid", apart := false, narrowed := true }
def FnSceneValidUptoSaid : Prop := fnSceneValidUptoRow.holds Try.pinned (OpenSpec.upto fnSceneValidSpec)

/-- 'laws.FnExactSceneValid', WHERE WHAT IT READS IS OF BULK AT MOST 1048576: true; the input reads as it did. -/
def fnExactSceneValidUptoRow : OpenClaim := { program := "ytabioinmpjfflaa", sum := "823a9a4c51515040f3c1a59cc5ab83e75b1c1ea9d17d99c07d470b83cf5d345f", func := "loop.example/homeconsole/laws.FnExactSceneValid", spec := "fnExactSceneValid", apart := false, narrowed := true }
def FnExactSceneValidUptoSaid : Prop := fnExactSceneValidUptoRow.holds Try.pinned (OpenSpec.upto fnExactSceneValidSpec)

/-- 'laws.FnFirstTouch', WHERE WHAT IT READS IS OF BULK AT MOST 1048576: true; the input reads as it did. -/
def fnFirstTouchUptoRow : OpenClaim := { program := "ytabioinmpjfflaa", sum := "823a9a4c51515040f3c1a59cc5ab83e75b1c1ea9d17d99c07d470b83cf5d345f", func := "loop.example/homeconsole/laws.FnFirstTouch", spec := "fnFirstTouch", apart := false, narrowed := true }
def FnFirstTouchUptoSaid : Prop := fnFirstTouchUptoRow.holds Try.pinned (OpenSpec.upto fnFirstTouchSpec)

end Rows
end Go.Proofs.Ytabioinmpjfflaa
