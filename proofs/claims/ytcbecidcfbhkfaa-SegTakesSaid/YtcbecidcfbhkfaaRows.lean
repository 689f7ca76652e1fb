/-
  No cell of these rows narrows 'for every input' (looked for: loops, veiled, ifaces, maps, wideKeys, modest, calm, conditions, laid).
  DERIVED. THE GIVEN ROWS OF THIS SEAT. 8 by the template 'for every input the law returns true; each argument reads behind the call as it read before'; 0 by the template 'total and deterministic' (their statements: YtcbecidcfbhkfaaTotals.lean).
  GIVEN WITH THE SEED: the statements are not yours to turn. If you find one false, say at which input.
  Laid BY PROGRAM, IN A SANDBOX (cutbox-rows.mjs): the forced cells as the released guide's own fill.sh prints them over the translation ce9c2eee5110f49e… (all of the seat's roots in one cut). By AI agents, Wed Nov 11 2026. No macro, syntax, notation, axiom, sorry.
-/
import Derived.Test.YtcbecidcfbhkfaaChecked
import GoSem.Claim
import GoSem.ClaimJoined
import GoSem.ClaimMapViews
import Derived.JoinedTies
import Derived.KernelRfl
namespace Go.Proofs.Ytcbecidcfbhkfaa
/- THE CELL 'sum', in the pinned program and in every row, IS THE sha256 OF THE DUMP (.gsa) THAT YtcbecidcfbhkfaaProg.lean LOADS. Nothing in Lean hashes anything: it is a label: what it is worth is what the hold of that sum in a sandbox is worth. -/
noncomputable def Try.pinned : Pinned := { name := "ytcbecidcfbhkfaa", sum := "ce9c2eee5110f49ef719f2035f10f4f1122974037445c7bd2093f0b71052ffef", checked := Try.checked }
namespace Rows
def none {H : Type} : Left H := { results := [], args := [] }

/-- 'ostlerlaw15.SegSplits': WHATEVER THE INPUT: true; the input reads as it did. -/
def segSplitsSpec : ChangeSpec := { name := "segSplits", fn := fun _ => fun
  | [d1, d2] => { results := [.lit (.bool true)], args := [d1, d2] }
  | _ => none }
def segSplitsRow : OpenClaim := { program := "ytcbecidcfbhkfaa", sum := "ce9c2eee5110f49ef719f2035f10f4f1122974037445c7bd2093f0b71052ffef", func := "ostler/ostlerlaw15.SegSplits", spec := "segSplits", apart := false }
def SegSplitsSaid : Prop := segSplitsRow.holds Try.pinned (OpenSpec.ofChange segSplitsSpec)

/-- ITS FALSE NEIGHBOUR: 'it returns false'. Refute it at one input. -/
def segSplitsWrong : ChangeSpec := { name := "segSplits", fn := fun _ => fun
  | [d1, d2] => { results := [.lit (.bool false)], args := [d1, d2] }
  | _ => none }
def SegSplitsWrongFalsely : Prop := segSplitsRow.holds Try.pinned (OpenSpec.ofChange segSplitsWrong)

/-- 'ostlerlaw15.SegLost': WHATEVER THE INPUT: true; the input reads as it did. -/
def segLostSpec : ChangeSpec := { name := "segLost", fn := fun _ => fun
  | [d1, d2, d3, d4] => { results := [.lit (.bool true)], args := [d1, d2, d3, d4] }
  | _ => none }
def segLostRow : OpenClaim := { program := "ytcbecidcfbhkfaa", sum := "ce9c2eee5110f49ef719f2035f10f4f1122974037445c7bd2093f0b71052ffef", func := "ostler/ostlerlaw15.SegLost", spec := "segLost", apart := false }
def SegLostSaid : Prop := segLostRow.holds Try.pinned (OpenSpec.ofChange segLostSpec)

/-- ITS FALSE NEIGHBOUR: 'it returns false'. Refute it at one input. -/
def segLostWrong : ChangeSpec := { name := "segLost", fn := fun _ => fun
  | [d1, d2, d3, d4] => { results := [.lit (.bool false)], args := [d1, d2, d3, d4] }
  | _ => none }
def SegLostWrongFalsely : Prop := segLostRow.holds Try.pinned (OpenSpec.ofChange segLostWrong)

/-- 'ostlerlaw15.SegFew': WHATEVER THE INPUT: true; the input reads as it did. -/
def segFewSpec : ChangeSpec := { name := "segFew", fn := fun _ => fun
  | [d] => { results := [.lit (.bool true)], args := [d] }
  | _ => none }
def segFewRow : OpenClaim := { program := "ytcbecidcfbhkfaa", sum := "ce9c2eee5110f49ef719f2035f10f4f1122974037445c7bd2093f0b71052ffef", func := "ostler/ostlerlaw15.SegFew", spec := "segFew", apart := false }
def SegFewSaid : Prop := segFewRow.holds Try.pinned (OpenSpec.ofChange segFewSpec)

/-- ITS FALSE NEIGHBOUR: 'it returns false'. Refute it at one input. -/
def segFewWrong : ChangeSpec := { name := "segFew", fn := fun _ => fun
  | [d] => { results := [.lit (.bool false)], args := [d] }
  | _ => none }
def SegFewWrongFalsely : Prop := segFewRow.holds Try.pinned (OpenSpec.ofChange segFewWrong)

/-- 'ostlerlaw15.SegTakes': WHATEVER THE INPUT: true; the input reads as it did. -/
def segTakesSpec : ChangeSpec := { name := "segTakes", fn := fun _ => fun
  | [d] => { results := [.lit (.bool true)], args := [d] }
  | _ => none }
def segTakesRow : OpenClaim := { program := "ytcbecidcfbhkfaa", sum := "ce9c2eee5110f49ef719f2035f10f4f1122974037445c7bd2093f0b71052ffef", func := "ostler/ostlerlaw15.SegTakes", spec := "segTakes", apart := false }
def SegTakesSaid : Prop := segTakesRow.holds Try.pinned (OpenSpec.ofChange segTakesSpec)

/-- ITS FALSE NEIGHBOUR: 'it returns false'. Refute it at one input. -/
def segTakesWrong : ChangeSpec := { name := "segTakes", fn := fun _ => fun
  | [d] => { results := [.lit (.bool false)], args := [d] }
  | _ => none }
def SegTakesWrongFalsely : Prop := segTakesRow.holds Try.pinned (OpenSpec.ofChange segTakesWrong)

/-- 'ostlerlaw15.SegBack': WHATEVER THE INPUT: true; the input reads as it did. -/
def segBackSpec : ChangeSpec := { name := "segBack", fn := fun _ => fun
  | [d1, d2, d3, d4, d5] => { results := [.lit (.bool true)], args := [d1, d2, d3, d4, d5] }
  | _ => none }
def segBackRow : OpenClaim := { program := "ytcbecidcfbhkfaa", sum := "ce9c2eee5110f49ef719f2035f10f4f1122974037445c7bd2093f0b71052ffef", func := "ostler/ostlerlaw15.SegBack", spec := "segBack", apart := false }
def SegBackSaid : Prop := segBackRow.holds Try.pinned (OpenSpec.ofChange segBackSpec)

/-- ITS FALSE NEIGHBOUR: 'it returns false'. Refute it at one input. -/
def segBackWrong : ChangeSpec := { name := "segBack", fn := fun _ => fun
  | [d1, d2, d3, d4, d5] => { results := [.lit (.bool false)], args := [d1, d2, d3, d4, d5] }
  | _ => none }
def SegBackWrongFalsely : Prop := segBackRow.holds Try.pinned (OpenSpec.ofChange segBackWrong)

/-- 'ostlerlaw15.SegOfNothing': WHATEVER THE INPUT: true; the input reads as it did. -/
def segOfNothingSpec : ChangeSpec := { name := "segOfNothing", fn := fun _ => fun
  | [d] => { results := [.lit (.bool true)], args := [d] }
  | _ => none }
def segOfNothingRow : OpenClaim := { program := "ytcbecidcfbhkfaa", sum := "ce9c2eee5110f49ef719f2035f10f4f1122974037445c7bd2093f0b71052ffef", func := "ostler/ostlerlaw15.SegOfNothing", spec := "segOfNothing", apart := false }
def SegOfNothingSaid : Prop := segOfNothingRow.holds Try.pinned (OpenSpec.ofChange segOfNothingSpec)

/-- ITS FALSE NEIGHBOUR: 'it returns false'. Refute it at one input. -/
def segOfNothingWrong : ChangeSpec := { name := "segOfNothing", fn := fun _ => fun
  | [d] => { results := [.lit (.bool false)], args := [d] }
  | _ => none }
def SegOfNothingWrongFalsely : Prop := segOfNothingRow.holds Try.pinned (OpenSpec.ofChange segOfNothingWrong)

/-- 'ostlerlaw15.SegStray': WHATEVER THE INPUT: true; the input reads as it did. -/
def segStraySpec : ChangeSpec := { name := "segStray", fn := fun _ => fun
  | [d] => { results := [.lit (.bool true)], args := [d] }
  | _ => none }
def segStrayRow : OpenClaim := { program := "ytcbecidcfbhkfaa", sum := "ce9c2eee5110f49ef719f2035f10f4f1122974037445c7bd2093f0b71052ffef", func := "ostler/ostlerlaw15.SegStray", spec := "segStray", apart := false }
def SegStraySaid : Prop := segStrayRow.holds Try.pinned (OpenSpec.ofChange segStraySpec)

/-- ITS FALSE NEIGHBOUR: 'it returns false'. Refute it at one input. -/
def segStrayWrong : ChangeSpec := { name := "segStray", fn := fun _ => fun
  | [d] => { results := [.lit (.bool false)], args := [d] }
  | _ => none }
def SegStrayWrongFalsely : Prop := segStrayRow.holds Try.pinned (OpenSpec.ofChange segStrayWrong)

/-- 'ostlerlaw15.SegOpen': WHATEVER THE INPUT: true; the input reads as it did. -/
def segOpenSpec : ChangeSpec := { name := "segOpen", fn := fun _ => fun
  | [d] => { results := [.lit (.bool true)], args := [d] }
  | _ => none }
def segOpenRow : OpenClaim := { program := "ytcbecidcfbhkfaa", sum := "ce9c2eee5110f49ef719f2035f10f4f1122974037445c7bd2093f0b71052ffef", func := "ostler/ostlerlaw15.SegOpen", spec := "segOpen", apart := false }
def SegOpenSaid : Prop := segOpenRow.holds Try.pinned (OpenSpec.ofChange segOpenSpec)

/-- ITS FALSE NEIGHBOUR: 'it returns false'. Refute it at one input. -/
def segOpenWrong : ChangeSpec := { name := "segOpen", fn := fun _ => fun
  | [d] => { results := [.lit (.bool false)], args := [d] }
  | _ => none }
def SegOpenWrongFalsely : Prop := segOpenRow.holds Try.pinned (OpenSpec.ofChange segOpenWrong)

/- THE SECOND FORM. 'bulk': how many values and letters a reading holds, each counted each time it is reached (what is shared counts as often as it is met; a slice's spare places count too). A statement '..UptoSaid' is the law's where the arguments, and the package variables that the reading takes, are together of bulk at most 1048576: NARROWER than '..Said'. Prove '..Said' where nothing that the law and all that it calls make is longer than what came in: it says more and counts as full. Else prove '..UptoSaid'. A law counts once. -/
mutual
def uptoBulk {H : Type} : DataW H → Nat
  | .lit (.string bytes) => bytes.length + 1
  | .lit _ => 1
  | .nil => 1
  | .ptr d => uptoBulk d + 1
  | .slice elems spare => uptoBulkAll elems + uptoBulkAll spare + 1
  | .agg parts => uptoBulkAll parts + 1
  | .iface _ d => uptoBulk d + 1
  | .map entries => uptoBulkEntries entries + 1
  | .held _ => 1
def uptoBulkAll {H : Type} : List (DataW H) → Nat
  | [] => 0
  | d :: r => uptoBulk d + uptoBulkAll r
def uptoBulkEntries {H : Type} : List (Lit × DataW H) → Nat
  | [] => 0
  | x :: r => uptoBulkEntry x + uptoBulkEntries r
def uptoBulkEntry {H : Type} : Lit × DataW H → Nat
  | (.string bytes, d) => bytes.length + uptoBulk d + 1
  | (_, d) => uptoBulk d + 1
 end
def uptoSmall : (H : Type) → List (DataW H) → Bool := fun _ ds => decide (uptoBulkAll ds ≤ 1048576)
def OpenSpec.upto (s : _root_.Go.ChangeSpec) : _root_.Go.OpenSpec := { _root_.Go.OpenSpec.ofChange s with cond := some uptoSmall }

/-- 'ostlerlaw15.SegSplits', WHERE WHAT IT READS IS OF BULK AT MOST 1048576: true; the input reads as it did. -/
def segSplitsUptoRow : OpenClaim := { program := "ytcbecidcfbhkfaa", sum := "ce9c2eee5110f49ef719f2035f10f4f1122974037445c7bd2093f0b71052ffef", func := "ostler/ostlerlaw15.SegSplits", spec := "segSplits", apart := false, narrowed := true }
def SegSplitsUptoSaid : Prop := segSplitsUptoRow.holds Try.pinned (OpenSpec.upto segSplitsSpec)

/-- 'ostlerlaw15.SegLost', WHERE WHAT IT READS IS OF BULK AT MOST 1048576: true; the input reads as it did. -/
def segLostUptoRow : OpenClaim := { program := "ytcbecidcfbhkfaa", sum := "ce9c2eee5110f49ef719f2035f10f4f1122974037445c7bd2093f0b71052ffef", func := "ostler/ostlerlaw15.SegLost", spec := "segLost", apart := false, narrowed := true }
def SegLostUptoSaid : Prop := segLostUptoRow.holds Try.pinned (OpenSpec.upto segLostSpec)

/-- 'ostlerlaw15.SegFew', WHERE WHAT IT READS IS OF BULK AT MOST 1048576: true; the input reads as it did. -/
def segFewUptoRow : OpenClaim := { program := "ytcbecidcfbhkfaa", sum := "ce9c2eee5110f49ef719f2035f10f4f1122974037445c7bd2093f0b71052ffef", func := "ostler/ostlerlaw15.SegFew", spec := "segFew", apart := false, narrowed := true }
def SegFewUptoSaid : Prop := segFewUptoRow.holds Try.pinned (OpenSpec.upto segFewSpec)

/-- 'ostlerlaw15.SegTakes', WHERE WHAT IT READS IS OF BULK AT MOST 1048576: true; the input reads as it did. -/
def segTakesUptoRow : OpenClaim := { program := "ytcbecidcfbhkfaa", sum := "ce9c2eee5110f49ef719f2035f10f4f1122974037445c7bd2093f0b71052ffef", func := "ostler/ostlerlaw15.SegTakes", spec := "segTakes", apart := false, narrowed := true }
def SegTakesUptoSaid : Prop := segTakesUptoRow.holds Try.pinned (OpenSpec.upto segTakesSpec)

/-- 'ostlerlaw15.SegBack', WHERE WHAT IT READS IS OF BULK AT MOST 1048576: true; the input reads as it did. -/
def segBackUptoRow : OpenClaim := { program := "ytcbecidcfbhkfaa", sum := "ce9c2eee5110f49ef719f2035f10f4f1122974037445c7bd2093f0b71052ffef", func := "ostler/ostlerlaw15.SegBack", spec := "segBack", apart := false, narrowed := true }
def SegBackUptoSaid : Prop := segBackUptoRow.holds Try.pinned (OpenSpec.upto segBackSpec)

/-- 'ostlerlaw15.SegOfNothing', WHERE WHAT IT READS IS OF BULK AT MOST 1048576: true; the input reads as it did. -/
def segOfNothingUptoRow : OpenClaim := { program := "ytcbecidcfbhkfaa", sum := "ce9c2eee5110f49ef719f2035f10f4f1122974037445c7bd2093f0b71052ffef", func := "ostler/ostlerlaw15.SegOfNothing", spec := "segOfNothing", apart := false, narrowed := true }
def SegOfNothingUptoSaid : Prop := segOfNothingUptoRow.holds Try.pinned (OpenSpec.upto segOfNothingSpec)

/-- 'ostlerlaw15.SegStray', WHERE WHAT IT READS IS OF BULK AT MOST 1048576: true; the input reads as it did. -/
def segStrayUptoRow : OpenClaim := { program := "ytcbecidcfbhkfaa", sum := "ce9c2eee5110f49ef719f2035f10f4f1122974037445c7bd2093f0b71052ffef", func := "ostler/ostlerlaw15.SegStray", spec := "segStray", apart := false, narrowed := true }
def SegStrayUptoSaid : Prop := segStrayUptoRow.holds Try.pinned (OpenSpec.upto segStraySpec)

/-- 'ostlerlaw15.SegOpen', WHERE WHAT IT READS IS OF BULK AT MOST 1048576: true; the input reads as it did. -/
def segOpenUptoRow : OpenClaim := { program := "ytcbecidcfbhkfaa", sum := "ce9c2eee5110f49ef719f2035f10f4f1122974037445c7bd2093f0b71052ffef", func := "ostler/ostlerlaw15.SegOpen", spec := "segOpen", apart := false, narrowed := true }
def SegOpenUptoSaid : Prop := segOpenUptoRow.holds Try.pinned (OpenSpec.upto segOpenSpec)

end Rows
end Go.Proofs.Ytcbecidcfbhkfaa
