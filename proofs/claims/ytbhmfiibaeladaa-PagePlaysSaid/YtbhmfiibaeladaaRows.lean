/-
  No cell of these rows narrows 'for every input' (looked for: loops, veiled, ifaces, maps, wideKeys, modest, calm, conditions, laid).
  DERIVED. THE GIVEN ROWS OF THIS SEAT. 7 by the template 'for every input the law returns true; each argument reads behind the call as it read before'; 0 by the template 'total and deterministic' (their statements: YtbhmfiibaeladaaTotals.lean).
  GIVEN WITH THE SEED: the statements are not yours to turn. If you find one false, say at which input.
  Laid BY PROGRAM, IN A SANDBOX (cutbox-rows.mjs): the forced cells as the released guide's own fill.sh prints them over the translation c1603c56929ba7d6… (all of the seat's roots in one cut). By AI agents, Wed Nov 11 2026. No macro, syntax, notation, axiom, sorry.
-/
import Derived.Test.YtbhmfiibaeladaaChecked
import GoSem.Claim
import GoSem.ClaimJoined
import GoSem.ClaimMapViews
import Derived.JoinedTies
import Derived.KernelRfl
namespace Go.Proofs.Ytbhmfiibaeladaa
/- THE CELL 'sum', in the pinned program and in every row, IS THE sha256 OF THE DUMP (.gsa) THAT YtbhmfiibaeladaaProg.lean LOADS. Nothing in Lean hashes anything: it is a label: what it is worth is what the hold of that sum in a sandbox is worth. -/
noncomputable def Try.pinned : Pinned := { name := "ytbhmfiibaeladaa", sum := "c1603c56929ba7d68889672529eb0ebc8831d214687444adf7c4d358f6d757c5", checked := Try.checked }
namespace Rows
def none {H : Type} : Left H := { results := [], args := [] }

/-- 'ostlerlaw11.PageTwice': WHATEVER THE INPUT: true; the input reads as it did. -/
def pageTwiceSpec : ChangeSpec := { name := "pageTwice", fn := fun _ => fun
  | [d1, d2] => { results := [.lit (.bool true)], args := [d1, d2] }
  | _ => none }
def pageTwiceRow : OpenClaim := { program := "ytbhmfiibaeladaa", sum := "c1603c56929ba7d68889672529eb0ebc8831d214687444adf7c4d358f6d757c5", func := "ostler/ostlerlaw11.PageTwice", spec := "pageTwice", apart := false }
def PageTwiceSaid : Prop := pageTwiceRow.holds Try.pinned (OpenSpec.ofChange pageTwiceSpec)

/-- ITS FALSE NEIGHBOUR: 'it returns false'. Refute it at one input. -/
def pageTwiceWrong : ChangeSpec := { name := "pageTwice", fn := fun _ => fun
  | [d1, d2] => { results := [.lit (.bool false)], args := [d1, d2] }
  | _ => none }
def PageTwiceWrongFalsely : Prop := pageTwiceRow.holds Try.pinned (OpenSpec.ofChange pageTwiceWrong)

/-- 'ostlerlaw11.PageErases': WHATEVER THE INPUT: true; the input reads as it did. -/
def pageErasesSpec : ChangeSpec := { name := "pageErases", fn := fun _ => fun
  | [d1, d2] => { results := [.lit (.bool true)], args := [d1, d2] }
  | _ => none }
def pageErasesRow : OpenClaim := { program := "ytbhmfiibaeladaa", sum := "c1603c56929ba7d68889672529eb0ebc8831d214687444adf7c4d358f6d757c5", func := "ostler/ostlerlaw11.PageErases", spec := "pageErases", apart := false }
def PageErasesSaid : Prop := pageErasesRow.holds Try.pinned (OpenSpec.ofChange pageErasesSpec)

/-- ITS FALSE NEIGHBOUR: 'it returns false'. Refute it at one input. -/
def pageErasesWrong : ChangeSpec := { name := "pageErases", fn := fun _ => fun
  | [d1, d2] => { results := [.lit (.bool false)], args := [d1, d2] }
  | _ => none }
def PageErasesWrongFalsely : Prop := pageErasesRow.holds Try.pinned (OpenSpec.ofChange pageErasesWrong)

/-- 'ostlerlaw11.PageFuse': WHATEVER THE INPUT: true; the input reads as it did. -/
def pageFuseSpec : ChangeSpec := { name := "pageFuse", fn := fun _ => fun
  | [d1, d2, d3] => { results := [.lit (.bool true)], args := [d1, d2, d3] }
  | _ => none }
def pageFuseRow : OpenClaim := { program := "ytbhmfiibaeladaa", sum := "c1603c56929ba7d68889672529eb0ebc8831d214687444adf7c4d358f6d757c5", func := "ostler/ostlerlaw11.PageFuse", spec := "pageFuse", apart := false }
def PageFuseSaid : Prop := pageFuseRow.holds Try.pinned (OpenSpec.ofChange pageFuseSpec)

/-- ITS FALSE NEIGHBOUR: 'it returns false'. Refute it at one input. -/
def pageFuseWrong : ChangeSpec := { name := "pageFuse", fn := fun _ => fun
  | [d1, d2, d3] => { results := [.lit (.bool false)], args := [d1, d2, d3] }
  | _ => none }
def PageFuseWrongFalsely : Prop := pageFuseRow.holds Try.pinned (OpenSpec.ofChange pageFuseWrong)

/-- 'ostlerlaw11.PagePlays': WHATEVER THE INPUT: true; the input reads as it did. -/
def pagePlaysSpec : ChangeSpec := { name := "pagePlays", fn := fun _ => fun
  | [d1, d2] => { results := [.lit (.bool true)], args := [d1, d2] }
  | _ => none }
def pagePlaysRow : OpenClaim := { program := "ytbhmfiibaeladaa", sum := "c1603c56929ba7d68889672529eb0ebc8831d214687444adf7c4d358f6d757c5", func := "ostler/ostlerlaw11.PagePlays", spec := "pagePlays", apart := false }
def PagePlaysSaid : Prop := pagePlaysRow.holds Try.pinned (OpenSpec.ofChange pagePlaysSpec)

/-- ITS FALSE NEIGHBOUR: 'it returns false'. Refute it at one input. -/
def pagePlaysWrong : ChangeSpec := { name := "pagePlays", fn := fun _ => fun
  | [d1, d2] => { results := [.lit (.bool false)], args := [d1, d2] }
  | _ => none }
def PagePlaysWrongFalsely : Prop := pagePlaysRow.holds Try.pinned (OpenSpec.ofChange pagePlaysWrong)

/-- 'ostlerlaw11.PageTears': WHATEVER THE INPUT: true; the input reads as it did. -/
def pageTearsSpec : ChangeSpec := { name := "pageTears", fn := fun _ => fun
  | [d1, d2, d3] => { results := [.lit (.bool true)], args := [d1, d2, d3] }
  | _ => none }
def pageTearsRow : OpenClaim := { program := "ytbhmfiibaeladaa", sum := "c1603c56929ba7d68889672529eb0ebc8831d214687444adf7c4d358f6d757c5", func := "ostler/ostlerlaw11.PageTears", spec := "pageTears", apart := false }
def PageTearsSaid : Prop := pageTearsRow.holds Try.pinned (OpenSpec.ofChange pageTearsSpec)

/-- ITS FALSE NEIGHBOUR: 'it returns false'. Refute it at one input. -/
def pageTearsWrong : ChangeSpec := { name := "pageTears", fn := fun _ => fun
  | [d1, d2, d3] => { results := [.lit (.bool false)], args := [d1, d2, d3] }
  | _ => none }
def PageTearsWrongFalsely : Prop := pageTearsRow.holds Try.pinned (OpenSpec.ofChange pageTearsWrong)

/-- 'ostlerlaw11.PageCopy': WHATEVER THE INPUT: true; the input reads as it did. -/
def pageCopySpec : ChangeSpec := { name := "pageCopy", fn := fun _ => fun
  | [d] => { results := [.lit (.bool true)], args := [d] }
  | _ => none }
def pageCopyRow : OpenClaim := { program := "ytbhmfiibaeladaa", sum := "c1603c56929ba7d68889672529eb0ebc8831d214687444adf7c4d358f6d757c5", func := "ostler/ostlerlaw11.PageCopy", spec := "pageCopy", apart := false }
def PageCopySaid : Prop := pageCopyRow.holds Try.pinned (OpenSpec.ofChange pageCopySpec)

/-- ITS FALSE NEIGHBOUR: 'it returns false'. Refute it at one input. -/
def pageCopyWrong : ChangeSpec := { name := "pageCopy", fn := fun _ => fun
  | [d] => { results := [.lit (.bool false)], args := [d] }
  | _ => none }
def PageCopyWrongFalsely : Prop := pageCopyRow.holds Try.pinned (OpenSpec.ofChange pageCopyWrong)

/-- 'ostlerlaw11.PageOfNothing': WHATEVER THE INPUT: true; the input reads as it did. -/
def pageOfNothingSpec : ChangeSpec := { name := "pageOfNothing", fn := fun _ => fun
  | [d1, d2] => { results := [.lit (.bool true)], args := [d1, d2] }
  | _ => none }
def pageOfNothingRow : OpenClaim := { program := "ytbhmfiibaeladaa", sum := "c1603c56929ba7d68889672529eb0ebc8831d214687444adf7c4d358f6d757c5", func := "ostler/ostlerlaw11.PageOfNothing", spec := "pageOfNothing", apart := false }
def PageOfNothingSaid : Prop := pageOfNothingRow.holds Try.pinned (OpenSpec.ofChange pageOfNothingSpec)

/-- ITS FALSE NEIGHBOUR: 'it returns false'. Refute it at one input. -/
def pageOfNothingWrong : ChangeSpec := { name := "pageOfNothing", fn := fun _ => fun
  | [d1, d2] => { results := [.lit (.bool false)], args := [d1, d2] }
  | _ => none }
def PageOfNothingWrongFalsely : Prop := pageOfNothingRow.holds Try.pinned (OpenSpec.ofChange pageOfNothingWrong)

/- THE SECOND FORM. 'bulk': how many values and letters a reading holds, each counted each time it is reached (what is shared counts as often as it is met; a slice's spare places count too). A statement '..UptoSaid' is the law's where the arguments, and the package variables that the reading takes, are together of bulk at most 1048576: NARROWER than '..Said'. Prove '..Said' where nothing that the law and all that it calls make is longer than what came in: it says more and counts as full. Else prove '..UptoSaid'. A law counts once. -/
mutual
def uptoBulk {H : Type} : DataW H → Nat
  | .lit (.string bytes) => bytes.length + 1
  | .lit _ => 1
  | .nil => 1
  | .ptr d => uptoBulk d + 1
  | .slice elems spare => uptoBulkAll elems + uptoBulkAll spare + 1
  | .agg parts => uptoBulkAll parts + 1
  | .iface _ d => uptoBulk d + 1
  | .map entries => uptoBulkEntries entries + 1
  | .held _ => 1
def uptoBulkAll {H : Type} : List (DataW H) → Nat
  | [] => 0
  | d :: r => uptoBulk d + uptoBulkAll r
def uptoBulkEntries {H : Type} : List (Lit × DataW H) → Nat
  | [] => 0
  | x :: r => uptoBulkEntry x + uptoBulkEntries r
def uptoBulkEntry {H : Type} : Lit × DataW H → Nat
  | (.string bytes, d) => bytes.length + uptoBulk d + 1
  | (_, d) => uptoBulk d + 1
 end
def uptoSmall : (H : Type) → List (DataW H) → Bool := fun _ ds => decide (uptoBulkAll ds ≤ 1048576)
def OpenSpec.upto (s : _root_.Go.ChangeSpec) : _root_.Go.OpenSpec := { _root_.Go.OpenSpec.ofChange s with cond := some uptoSmall }

/-- 'ostlerlaw11.PageTwice', WHERE WHAT IT READS IS OF BULK AT MOST 1048576: true; the input reads as it did. -/
def pageTwiceUptoRow : OpenClaim := { program := "ytbhmfiibaeladaa", sum := "c1603c56929ba7d68889672529eb0ebc8831d214687444adf7c4d358f6d757c5", func := "ostler/ostlerlaw11.PageTwice", spec := "pageTwice", apart := false, narrowed := true }
def PageTwiceUptoSaid : Prop := pageTwiceUptoRow.holds Try.pinned (OpenSpec.upto pageTwiceSpec)

/-- 'ostlerlaw11.PageErases', WHERE WHAT IT READS IS OF BULK AT MOST 1048576: true; the input reads as it did. -/
def pageErasesUptoRow : OpenClaim := { program := "ytbhmfiibaeladaa", sum := "c1603c56929ba7d68889672529eb0ebc8831d214687444adf7c4d358f6d757c5", func := "ostler/ostlerlaw11.PageErases", spec := "pageErases", apart := false, narrowed := true }
def PageErasesUptoSaid : Prop := pageErasesUptoRow.holds Try.pinned (OpenSpec.upto pageErasesSpec)

/-- 'ostlerlaw11.PageFuse', WHERE WHAT IT READS IS OF BULK AT MOST 1048576: true; the input reads as it did. -/
def pageFuseUptoRow : OpenClaim := { program := "ytbhmfiibaeladaa", sum := "c1603c56929ba7d68889672529eb0ebc8831d214687444adf7c4d358f6d757c5", func := "ostler/ostlerlaw11.PageFuse", spec := "pageFuse", apart := false, narrowed := true }
def PageFuseUptoSaid : Prop := pageFuseUptoRow.holds Try.pinned (OpenSpec.upto pageFuseSpec)

/-- 'ostlerlaw11.PagePlays', WHERE WHAT IT READS IS OF BULK AT MOST 1048576: true; the input reads as it did. -/
def pagePlaysUptoRow : OpenClaim := { program := "ytbhmfiibaeladaa", sum := "c1603c56929ba7d68889672529eb0ebc8831d214687444adf7c4d358f6d757c5", func := "ostler/ostlerlaw11.PagePlays", spec := "pagePlays", apart := false, narrowed := true }
def PagePlaysUptoSaid : Prop := pagePlaysUptoRow.holds Try.pinned (OpenSpec.upto pagePlaysSpec)

/-- 'ostlerlaw11.PageTears', WHERE WHAT IT READS IS OF BULK AT MOST 1048576: true; the input reads as it did. -/
def pageTearsUptoRow : OpenClaim := { program := "ytbhmfiibaeladaa", sum := "c1603c56929ba7d68889672529eb0ebc8831d214687444adf7c4d358f6d757c5", func := "ostler/ostlerlaw11.PageTears", spec := "pageTears", apart := false, narrowed := true }
def PageTearsUptoSaid : Prop := pageTearsUptoRow.holds Try.pinned (OpenSpec.upto pageTearsSpec)

/-- 'ostlerlaw11.PageCopy', WHERE WHAT IT READS IS OF BULK AT MOST 1048576: true; the input reads as it did. -/
def pageCopyUptoRow : OpenClaim := { program := "ytbhmfiibaeladaa", sum := "c1603c56929ba7d68889672529eb0ebc8831d214687444adf7c4d358f6d757c5", func := "ostler/ostlerlaw11.PageCopy", spec := "pageCopy", apart := false, narrowed := true }
def PageCopyUptoSaid : Prop := pageCopyUptoRow.holds Try.pinned (OpenSpec.upto pageCopySpec)

/-- 'ostlerlaw11.PageOfNothing', WHERE WHAT IT READS IS OF BULK AT MOST 1048576: true; the input reads as it did. -/
def pageOfNothingUptoRow : OpenClaim := { program := "ytbhmfiibaeladaa", sum := "c1603c56929ba7d68889672529eb0ebc8831d214687444adf7c4d358f6d757c5", func := "ostler/ostlerlaw11.PageOfNothing", spec := "pageOfNothing", apart := false, narrowed := true }
def PageOfNothingUptoSaid : Prop := pageOfNothingUptoRow.holds Try.pinned (OpenSpec.upto pageOfNothingSpec)

end Rows
end Go.Proofs.Ytbhmfiibaeladaa
