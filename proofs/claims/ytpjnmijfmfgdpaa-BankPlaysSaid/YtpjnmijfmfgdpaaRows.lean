/-
  No cell of these rows narrows 'for every input' (looked for: loops, veiled, ifaces, maps, wideKeys, modest, calm, conditions, laid).
  DERIVED. THE GIVEN ROWS OF THIS SEAT. 12 by the template 'for every input the law returns true; each argument reads behind the call as it read before'; 0 by the template 'total and deterministic' (their statements: YtpjnmijfmfgdpaaTotals.lean).
  GIVEN WITH THE SEED: the statements are not yours to turn. If you find one false, say at which input.
  Laid BY PROGRAM, IN A SANDBOX (cutbox-rows.mjs): the forced cells as the released guide's own fill.sh prints them over the translation 5c21ff601d168501… (all of the seat's roots in one cut). By AI agents, Wed Nov 11 2026. No macro, syntax, notation, axiom, sorry.
-/
import Derived.Test.YtpjnmijfmfgdpaaChecked
import GoSem.Claim
import GoSem.ClaimJoined
import GoSem.ClaimMapViews
import Derived.JoinedTies
import Derived.KernelRfl
namespace Go.Proofs.Ytpjnmijfmfgdpaa
/- THE CELL 'sum', in the pinned program and in every row, IS THE sha256 OF THE DUMP (.gsa) THAT YtpjnmijfmfgdpaaProg.lean LOADS. Nothing in Lean hashes anything: it is a label: what it is worth is what the hold of that sum in a sandbox is worth. -/
noncomputable def Try.pinned : Pinned := { name := "ytpjnmijfmfgdpaa", sum := "5c21ff601d1685014322f60fab6e06505335f41fd0db05f2da4356aa1b35ea17", checked := Try.checked }
namespace Rows
def none {H : Type} : Left H := { results := [], args := [] }

/-- 'ostlerlaw12.SlotPacks': WHATEVER THE INPUT: true; the input reads as it did. -/
def slotPacksSpec : ChangeSpec := { name := "slotPacks", fn := fun _ => fun
  | [d1, d2, d3] => { results := [.lit (.bool true)], args := [d1, d2, d3] }
  | _ => none }
def slotPacksRow : OpenClaim := { program := "ytpjnmijfmfgdpaa", sum := "5c21ff601d1685014322f60fab6e06505335f41fd0db05f2da4356aa1b35ea17", func := "ostler/ostlerlaw12.SlotPacks", spec := "slotPacks", apart := false }
def SlotPacksSaid : Prop := slotPacksRow.holds Try.pinned (OpenSpec.ofChange slotPacksSpec)

/-- ITS FALSE NEIGHBOUR: 'it returns false'. Refute it at one input. -/
def slotPacksWrong : ChangeSpec := { name := "slotPacks", fn := fun _ => fun
  | [d1, d2, d3] => { results := [.lit (.bool false)], args := [d1, d2, d3] }
  | _ => none }
def SlotPacksWrongFalsely : Prop := slotPacksRow.holds Try.pinned (OpenSpec.ofChange slotPacksWrong)

/-- 'ostlerlaw12.SlotSpoilt': WHATEVER THE INPUT: true; the input reads as it did. -/
def slotSpoiltSpec : ChangeSpec := { name := "slotSpoilt", fn := fun _ => fun
  | [d1, d2, d3, d4, d5] => { results := [.lit (.bool true)], args := [d1, d2, d3, d4, d5] }
  | _ => none }
def slotSpoiltRow : OpenClaim := { program := "ytpjnmijfmfgdpaa", sum := "5c21ff601d1685014322f60fab6e06505335f41fd0db05f2da4356aa1b35ea17", func := "ostler/ostlerlaw12.SlotSpoilt", spec := "slotSpoilt", apart := false }
def SlotSpoiltSaid : Prop := slotSpoiltRow.holds Try.pinned (OpenSpec.ofChange slotSpoiltSpec)

/-- ITS FALSE NEIGHBOUR: 'it returns false'. Refute it at one input. -/
def slotSpoiltWrong : ChangeSpec := { name := "slotSpoilt", fn := fun _ => fun
  | [d1, d2, d3, d4, d5] => { results := [.lit (.bool false)], args := [d1, d2, d3, d4, d5] }
  | _ => none }
def SlotSpoiltWrongFalsely : Prop := slotSpoiltRow.holds Try.pinned (OpenSpec.ofChange slotSpoiltWrong)

/-- 'ostlerlaw12.SlotRises': WHATEVER THE INPUT: true; the input reads as it did. -/
def slotRisesSpec : ChangeSpec := { name := "slotRises", fn := fun _ => fun
  | [d] => { results := [.lit (.bool true)], args := [d] }
  | _ => none }
def slotRisesRow : OpenClaim := { program := "ytpjnmijfmfgdpaa", sum := "5c21ff601d1685014322f60fab6e06505335f41fd0db05f2da4356aa1b35ea17", func := "ostler/ostlerlaw12.SlotRises", spec := "slotRises", apart := false }
def SlotRisesSaid : Prop := slotRisesRow.holds Try.pinned (OpenSpec.ofChange slotRisesSpec)

/-- ITS FALSE NEIGHBOUR: 'it returns false'. Refute it at one input. -/
def slotRisesWrong : ChangeSpec := { name := "slotRises", fn := fun _ => fun
  | [d] => { results := [.lit (.bool false)], args := [d] }
  | _ => none }
def SlotRisesWrongFalsely : Prop := slotRisesRow.holds Try.pinned (OpenSpec.ofChange slotRisesWrong)

/-- 'ostlerlaw12.SlotSmall': WHATEVER THE INPUT: true; the input reads as it did. -/
def slotSmallSpec : ChangeSpec := { name := "slotSmall", fn := fun _ => fun
  | [d1, d2] => { results := [.lit (.bool true)], args := [d1, d2] }
  | _ => none }
def slotSmallRow : OpenClaim := { program := "ytpjnmijfmfgdpaa", sum := "5c21ff601d1685014322f60fab6e06505335f41fd0db05f2da4356aa1b35ea17", func := "ostler/ostlerlaw12.SlotSmall", spec := "slotSmall", apart := false }
def SlotSmallSaid : Prop := slotSmallRow.holds Try.pinned (OpenSpec.ofChange slotSmallSpec)

/-- ITS FALSE NEIGHBOUR: 'it returns false'. Refute it at one input. -/
def slotSmallWrong : ChangeSpec := { name := "slotSmall", fn := fun _ => fun
  | [d1, d2] => { results := [.lit (.bool false)], args := [d1, d2] }
  | _ => none }
def SlotSmallWrongFalsely : Prop := slotSmallRow.holds Try.pinned (OpenSpec.ofChange slotSmallWrong)

/-- 'ostlerlaw12.SlotPlays': WHATEVER THE INPUT: true; the input reads as it did. -/
def slotPlaysSpec : ChangeSpec := { name := "slotPlays", fn := fun _ => fun
  | [d1, d2] => { results := [.lit (.bool true)], args := [d1, d2] }
  | _ => none }
def slotPlaysRow : OpenClaim := { program := "ytpjnmijfmfgdpaa", sum := "5c21ff601d1685014322f60fab6e06505335f41fd0db05f2da4356aa1b35ea17", func := "ostler/ostlerlaw12.SlotPlays", spec := "slotPlays", apart := false }
def SlotPlaysSaid : Prop := slotPlaysRow.holds Try.pinned (OpenSpec.ofChange slotPlaysSpec)

/-- ITS FALSE NEIGHBOUR: 'it returns false'. Refute it at one input. -/
def slotPlaysWrong : ChangeSpec := { name := "slotPlays", fn := fun _ => fun
  | [d1, d2] => { results := [.lit (.bool false)], args := [d1, d2] }
  | _ => none }
def SlotPlaysWrongFalsely : Prop := slotPlaysRow.holds Try.pinned (OpenSpec.ofChange slotPlaysWrong)

/-- 'ostlerlaw12.SlotEach': WHATEVER THE INPUT: true; the input reads as it did. -/
def slotEachSpec : ChangeSpec := { name := "slotEach", fn := fun _ => fun
  | [d1, d2, d3, d4] => { results := [.lit (.bool true)], args := [d1, d2, d3, d4] }
  | _ => none }
def slotEachRow : OpenClaim := { program := "ytpjnmijfmfgdpaa", sum := "5c21ff601d1685014322f60fab6e06505335f41fd0db05f2da4356aa1b35ea17", func := "ostler/ostlerlaw12.SlotEach", spec := "slotEach", apart := false }
def SlotEachSaid : Prop := slotEachRow.holds Try.pinned (OpenSpec.ofChange slotEachSpec)

/-- ITS FALSE NEIGHBOUR: 'it returns false'. Refute it at one input. -/
def slotEachWrong : ChangeSpec := { name := "slotEach", fn := fun _ => fun
  | [d1, d2, d3, d4] => { results := [.lit (.bool false)], args := [d1, d2, d3, d4] }
  | _ => none }
def SlotEachWrongFalsely : Prop := slotEachRow.holds Try.pinned (OpenSpec.ofChange slotEachWrong)

/-- 'ostlerlaw13.BankOld': WHATEVER THE INPUT: true; the input reads as it did. -/
def bankOldSpec : ChangeSpec := { name := "bankOld", fn := fun _ => fun
  | [d1, d2, d3] => { results := [.lit (.bool true)], args := [d1, d2, d3] }
  | _ => none }
def bankOldRow : OpenClaim := { program := "ytpjnmijfmfgdpaa", sum := "5c21ff601d1685014322f60fab6e06505335f41fd0db05f2da4356aa1b35ea17", func := "ostler/ostlerlaw13.BankOld", spec := "bankOld", apart := false }
def BankOldSaid : Prop := bankOldRow.holds Try.pinned (OpenSpec.ofChange bankOldSpec)

/-- ITS FALSE NEIGHBOUR: 'it returns false'. Refute it at one input. -/
def bankOldWrong : ChangeSpec := { name := "bankOld", fn := fun _ => fun
  | [d1, d2, d3] => { results := [.lit (.bool false)], args := [d1, d2, d3] }
  | _ => none }
def BankOldWrongFalsely : Prop := bankOldRow.holds Try.pinned (OpenSpec.ofChange bankOldWrong)

/-- 'ostlerlaw13.BankTurns': WHATEVER THE INPUT: true; the input reads as it did. -/
def bankTurnsSpec : ChangeSpec := { name := "bankTurns", fn := fun _ => fun
  | [d] => { results := [.lit (.bool true)], args := [d] }
  | _ => none }
def bankTurnsRow : OpenClaim := { program := "ytpjnmijfmfgdpaa", sum := "5c21ff601d1685014322f60fab6e06505335f41fd0db05f2da4356aa1b35ea17", func := "ostler/ostlerlaw13.BankTurns", spec := "bankTurns", apart := false }
def BankTurnsSaid : Prop := bankTurnsRow.holds Try.pinned (OpenSpec.ofChange bankTurnsSpec)

/-- ITS FALSE NEIGHBOUR: 'it returns false'. Refute it at one input. -/
def bankTurnsWrong : ChangeSpec := { name := "bankTurns", fn := fun _ => fun
  | [d] => { results := [.lit (.bool false)], args := [d] }
  | _ => none }
def BankTurnsWrongFalsely : Prop := bankTurnsRow.holds Try.pinned (OpenSpec.ofChange bankTurnsWrong)

/-- 'ostlerlaw13.BankOther': WHATEVER THE INPUT: true; the input reads as it did. -/
def bankOtherSpec : ChangeSpec := { name := "bankOther", fn := fun _ => fun
  | [d1, d2, d3, d4] => { results := [.lit (.bool true)], args := [d1, d2, d3, d4] }
  | _ => none }
def bankOtherRow : OpenClaim := { program := "ytpjnmijfmfgdpaa", sum := "5c21ff601d1685014322f60fab6e06505335f41fd0db05f2da4356aa1b35ea17", func := "ostler/ostlerlaw13.BankOther", spec := "bankOther", apart := false }
def BankOtherSaid : Prop := bankOtherRow.holds Try.pinned (OpenSpec.ofChange bankOtherSpec)

/-- ITS FALSE NEIGHBOUR: 'it returns false'. Refute it at one input. -/
def bankOtherWrong : ChangeSpec := { name := "bankOther", fn := fun _ => fun
  | [d1, d2, d3, d4] => { results := [.lit (.bool false)], args := [d1, d2, d3, d4] }
  | _ => none }
def BankOtherWrongFalsely : Prop := bankOtherRow.holds Try.pinned (OpenSpec.ofChange bankOtherWrong)

/-- 'ostlerlaw13.BankKeeps': WHATEVER THE INPUT: true; the input reads as it did. -/
def bankKeepsSpec : ChangeSpec := { name := "bankKeeps", fn := fun _ => fun
  | [d1, d2, d3] => { results := [.lit (.bool true)], args := [d1, d2, d3] }
  | _ => none }
def bankKeepsRow : OpenClaim := { program := "ytpjnmijfmfgdpaa", sum := "5c21ff601d1685014322f60fab6e06505335f41fd0db05f2da4356aa1b35ea17", func := "ostler/ostlerlaw13.BankKeeps", spec := "bankKeeps", apart := false }
def BankKeepsSaid : Prop := bankKeepsRow.holds Try.pinned (OpenSpec.ofChange bankKeepsSpec)

/-- ITS FALSE NEIGHBOUR: 'it returns false'. Refute it at one input. -/
def bankKeepsWrong : ChangeSpec := { name := "bankKeeps", fn := fun _ => fun
  | [d1, d2, d3] => { results := [.lit (.bool false)], args := [d1, d2, d3] }
  | _ => none }
def BankKeepsWrongFalsely : Prop := bankKeepsRow.holds Try.pinned (OpenSpec.ofChange bankKeepsWrong)

/-- 'ostlerlaw13.BankSpoilt': WHATEVER THE INPUT: true; the input reads as it did. -/
def bankSpoiltSpec : ChangeSpec := { name := "bankSpoilt", fn := fun _ => fun
  | [d1, d2, d3] => { results := [.lit (.bool true)], args := [d1, d2, d3] }
  | _ => none }
def bankSpoiltRow : OpenClaim := { program := "ytpjnmijfmfgdpaa", sum := "5c21ff601d1685014322f60fab6e06505335f41fd0db05f2da4356aa1b35ea17", func := "ostler/ostlerlaw13.BankSpoilt", spec := "bankSpoilt", apart := false }
def BankSpoiltSaid : Prop := bankSpoiltRow.holds Try.pinned (OpenSpec.ofChange bankSpoiltSpec)

/-- ITS FALSE NEIGHBOUR: 'it returns false'. Refute it at one input. -/
def bankSpoiltWrong : ChangeSpec := { name := "bankSpoilt", fn := fun _ => fun
  | [d1, d2, d3] => { results := [.lit (.bool false)], args := [d1, d2, d3] }
  | _ => none }
def BankSpoiltWrongFalsely : Prop := bankSpoiltRow.holds Try.pinned (OpenSpec.ofChange bankSpoiltWrong)

/-- 'ostlerlaw13.BankPlays': WHATEVER THE INPUT: true; the input reads as it did. -/
def bankPlaysSpec : ChangeSpec := { name := "bankPlays", fn := fun _ => fun
  | [d1, d2] => { results := [.lit (.bool true)], args := [d1, d2] }
  | _ => none }
def bankPlaysRow : OpenClaim := { program := "ytpjnmijfmfgdpaa", sum := "5c21ff601d1685014322f60fab6e06505335f41fd0db05f2da4356aa1b35ea17", func := "ostler/ostlerlaw13.BankPlays", spec := "bankPlays", apart := false }
def BankPlaysSaid : Prop := bankPlaysRow.holds Try.pinned (OpenSpec.ofChange bankPlaysSpec)

/-- ITS FALSE NEIGHBOUR: 'it returns false'. Refute it at one input. -/
def bankPlaysWrong : ChangeSpec := { name := "bankPlays", fn := fun _ => fun
  | [d1, d2] => { results := [.lit (.bool false)], args := [d1, d2] }
  | _ => none }
def BankPlaysWrongFalsely : Prop := bankPlaysRow.holds Try.pinned (OpenSpec.ofChange bankPlaysWrong)

/- THE SECOND FORM. 'bulk': how many values and letters a reading holds, each counted each time it is reached (what is shared counts as often as it is met; a slice's spare places count too). A statement '..UptoSaid' is the law's where the arguments, and the package variables that the reading takes, are together of bulk at most 1048576: NARROWER than '..Said'. Prove '..Said' where nothing that the law and all that it calls make is longer than what came in: it says more and counts as full. Else prove '..UptoSaid'. A law counts once. -/
mutual
def uptoBulk {H : Type} : DataW H → Nat
  | .lit (.string bytes) => bytes.length + 1
  | .lit _ => 1
  | .nil => 1
  | .ptr d => uptoBulk d + 1
  | .slice elems spare => uptoBulkAll elems + uptoBulkAll spare + 1
  | .agg parts => uptoBulkAll parts + 1
  | .iface _ d => uptoBulk d + 1
  | .map entries => uptoBulkEntries entries + 1
  | .held _ => 1
def uptoBulkAll {H : Type} : List (DataW H) → Nat
  | [] => 0
  | d :: r => uptoBulk d + uptoBulkAll r
def uptoBulkEntries {H : Type} : List (Lit × DataW H) → Nat
  | [] => 0
  | x :: r => uptoBulkEntry x + uptoBulkEntries r
def uptoBulkEntry {H : Type} : Lit × DataW H → Nat
  | (.string bytes, d) => bytes.length + uptoBulk d + 1
  | (_, d) => uptoBulk d + 1
 end
def uptoSmall : (H : Type) → List (DataW H) → Bool := fun _ ds => decide (uptoBulkAll ds ≤ 1048576)
def OpenSpec.upto (s : _root_.Go.ChangeSpec) : _root_.Go.OpenSpec := { _root_.Go.OpenSpec.ofChange s with cond := some uptoSmall }

/-- 'ostlerlaw12.SlotPacks', WHERE WHAT IT READS IS OF BULK AT MOST 1048576: true; the input reads as it did. -/
def slotPacksUptoRow : OpenClaim := { program := "ytpjnmijfmfgdpaa", sum := "5c21ff601d1685014322f60fab6e06505335f41fd0db05f2da4356aa1b35ea17", func := "ostler/ostlerlaw12.SlotPacks", spec := "slotPacks", apart := false, narrowed := true }
def SlotPacksUptoSaid : Prop := slotPacksUptoRow.holds Try.pinned (OpenSpec.upto slotPacksSpec)

/-- 'ostlerlaw12.SlotSpoilt', WHERE WHAT IT READS IS OF BULK AT MOST 1048576: true; the input reads as it did. -/
def slotSpoiltUptoRow : OpenClaim := { program := "ytpjnmijfmfgdpaa", sum := "5c21ff601d1685014322f60fab6e06505335f41fd0db05f2da4356aa1b35ea17", func := "ostler/ostlerlaw12.SlotSpoilt", spec := "slotSpoilt", apart := false, narrowed := true }
def SlotSpoiltUptoSaid : Prop := slotSpoiltUptoRow.holds Try.pinned (OpenSpec.upto slotSpoiltSpec)

/-- 'ostlerlaw12.SlotRises', WHERE WHAT IT READS IS OF BULK AT MOST 1048576: true; the input reads as it did. -/
def slotRisesUptoRow : OpenClaim := { program := "ytpjnmijfmfgdpaa", sum := "5c21ff601d1685014322f60fab6e06505335f41fd0db05f2da4356aa1b35ea17", func := "ostler/ostlerlaw12.SlotRises", spec := "slotRises", apart := false, narrowed := true }
def SlotRisesUptoSaid : Prop := slotRisesUptoRow.holds Try.pinned (OpenSpec.upto slotRisesSpec)

/-- 'ostlerlaw12.SlotSmall', WHERE WHAT IT READS IS OF BULK AT MOST 1048576: true; the input reads as it did. -/
def slotSmallUptoRow : OpenClaim := { program := "ytpjnmijfmfgdpaa", sum := "5c21ff601d1685014322f60fab6e06505335f41fd0db05f2da4356aa1b35ea17", func := "ostler/ostlerlaw12.SlotSmall", spec := "slotSmall", apart := false, narrowed := true }
def SlotSmallUptoSaid : Prop := slotSmallUptoRow.holds Try.pinned (OpenSpec.upto slotSmallSpec)

/-- 'ostlerlaw12.SlotPlays', WHERE WHAT IT READS IS OF BULK AT MOST 1048576: true; the input reads as it did. -/
def slotPlaysUptoRow : OpenClaim := { program := "ytpjnmijfmfgdpaa", sum := "5c21ff601d1685014322f60fab6e06505335f41fd0db05f2da4356aa1b35ea17", func := "ostler/ostlerlaw12.SlotPlays", spec := "slotPlays", apart := false, narrowed := true }
def SlotPlaysUptoSaid : Prop := slotPlaysUptoRow.holds Try.pinned (OpenSpec.upto slotPlaysSpec)

/-- 'ostlerlaw12.SlotEach', WHERE WHAT IT READS IS OF BULK AT MOST 1048576: true; the input reads as it did. -/
def slotEachUptoRow : OpenClaim := { program := "ytpjnmijfmfgdpaa", sum := "5c21ff601d1685014322f60fab6e06505335f41fd0db05f2da4356aa1b35ea17", func := "ostler/ostlerlaw12.SlotEach", spec := "slotEach", apart := false, narrowed := true }
def SlotEachUptoSaid : Prop := slotEachUptoRow.holds Try.pinned (OpenSpec.upto slotEachSpec)

/-- 'ostlerlaw13.BankOld', WHERE WHAT IT READS IS OF BULK AT MOST 1048576: true; the input reads as it did. -/
def bankOldUptoRow : OpenClaim := { program := "ytpjnmijfmfgdpaa", sum := "5c21ff601d1685014322f60fab6e06505335f41fd0db05f2da4356aa1b35ea17", func := "ostler/ostlerlaw13.BankOld", spec := "bankOld", apart := false, narrowed := true }
def BankOldUptoSaid : Prop := bankOldUptoRow.holds Try.pinned (OpenSpec.upto bankOldSpec)

/-- 'ostlerlaw13.BankTurns', WHERE WHAT IT READS IS OF BULK AT MOST 1048576: true; the input reads as it did. -/
def bankTurnsUptoRow : OpenClaim := { program := "ytpjnmijfmfgdpaa", sum := "5c21ff601d1685014322f60fab6e06505335f41fd0db05f2da4356aa1b35ea17", func := "ostler/ostlerlaw13.BankTurns", spec := "bankTurns", apart := false, narrowed := true }
def BankTurnsUptoSaid : Prop := bankTurnsUptoRow.holds Try.pinned (OpenSpec.upto bankTurnsSpec)

/-- 'ostlerlaw13.BankOther', WHERE WHAT IT READS IS OF BULK AT MOST 1048576: true; the input reads as it did. -/
def bankOtherUptoRow : OpenClaim := { program := "ytpjnmijfmfgdpaa", sum := "5c21ff601d1685014322f60fab6e06505335f41fd0db05f2da4356aa1b35ea17", func := "ostler/ostlerlaw13.BankOther", spec := "bankOther", apart := false, narrowed := true }
def BankOtherUptoSaid : Prop := bankOtherUptoRow.holds Try.pinned (OpenSpec.upto bankOtherSpec)

/-- 'ostlerlaw13.BankKeeps', WHERE WHAT IT READS IS OF BULK AT MOST 1048576: true; the input reads as it did. -/
def bankKeepsUptoRow : OpenClaim := { program := "ytpjnmijfmfgdpaa", sum := "5c21ff601d1685014322f60fab6e06505335f41fd0db05f2da4356aa1b35ea17", func := "ostler/ostlerlaw13.BankKeeps", spec := "bankKeeps", apart := false, narrowed := true }
def BankKeepsUptoSaid : Prop := bankKeepsUptoRow.holds Try.pinned (OpenSpec.upto bankKeepsSpec)

/-- 'ostlerlaw13.BankSpoilt', WHERE WHAT IT READS IS OF BULK AT MOST 1048576: true; the input reads as it did. -/
def bankSpoiltUptoRow : OpenClaim := { program := "ytpjnmijfmfgdpaa", sum := "5c21ff601d1685014322f60fab6e06505335f41fd0db05f2da4356aa1b35ea17", func := "ostler/ostlerlaw13.BankSpoilt", spec := "bankSpoilt", apart := false, narrowed := true }
def BankSpoiltUptoSaid : Prop := bankSpoiltUptoRow.holds Try.pinned (OpenSpec.upto bankSpoiltSpec)

/-- 'ostlerlaw13.BankPlays', WHERE WHAT IT READS IS OF BULK AT MOST 1048576: true; the input reads as it did. -/
def bankPlaysUptoRow : OpenClaim := { program := "ytpjnmijfmfgdpaa", sum := "5c21ff601d1685014322f60fab6e06505335f41fd0db05f2da4356aa1b35ea17", func := "ostler/ostlerlaw13.BankPlays", spec := "bankPlays", apart := false, narrowed := true }
def BankPlaysUptoSaid : Prop := bankPlaysUptoRow.holds Try.pinned (OpenSpec.upto bankPlaysSpec)

end Rows
end Go.Proofs.Ytpjnmijfmfgdpaa
