/-
  No cell of these rows narrows 'for every input' (looked for: loops, veiled, ifaces, maps, wideKeys, modest, calm, conditions, laid).
  DERIVED. THE GIVEN ROWS OF THIS SEAT. 12 by the template 'for every input the law returns true; each argument reads behind the call as it read before'; 0 by the template 'total and deterministic' (their statements: YtdglhalkilneaaaTotals.lean).
  GIVEN WITH THE SEED: the statements are not yours to turn. If you find one false, say at which input.
  Laid BY PROGRAM, IN A SANDBOX (cutbox-rows.mjs): the forced cells as the released guide's own fill.sh prints them over the translation e64f6c401437252c… (all of the seat's roots in one cut). By AI agents, Wed Nov 11 2026. No macro, syntax, notation, axiom, sorry.
-/
import Derived.Test.YtdglhalkilneaaaChecked
import GoSem.Claim
import GoSem.ClaimJoined
import GoSem.ClaimMapViews
import Derived.JoinedTies
import Derived.KernelRfl
namespace Go.Proofs.Ytdglhalkilneaaa
/- THE CELL 'sum', in the pinned program and in every row, IS THE sha256 OF THE DUMP (.gsa) THAT YtdglhalkilneaaaProg.lean LOADS. Nothing in Lean hashes anything: it is a label: what it is worth is what the hold of that sum in a sandbox is worth. -/
noncomputable def Try.pinned : Pinned := { name := "ytdglhalkilneaaa", sum := "e64f6c401437252cba377f418da6ebd8cb1c054fb36ca9a61f66a69210b1eb8e", checked := Try.checked }
namespace Rows
def none {H : Type} : Left H := { results := [], args := [] }

/-- 'weirlaw.DoubleSays': WHATEVER THE INPUT: true; the input reads as it did. -/
def doubleSaysSpec : ChangeSpec := { name := "doubleSays", fn := fun _ => fun
  | [d] => { results := [.lit (.bool true)], args := [d] }
  | _ => none }
def doubleSaysRow : OpenClaim := { program := "ytdglhalkilneaaa", sum := "e64f6c401437252cba377f418da6ebd8cb1c054fb36ca9a61f66a69210b1eb8e", func := "weirmaster/weirlaw.DoubleSays", spec := "doubleSays", unfollowed := true, recurses := true, apart := false }
def DoubleSaysSaid : Prop := doubleSaysRow.holds Try.pinned (OpenSpec.ofChange doubleSaysSpec)

/-- ITS FALSE NEIGHBOUR: 'it returns false'. Refute it at one input. -/
def doubleSaysWrong : ChangeSpec := { name := "doubleSays", fn := fun _ => fun
  | [d] => { results := [.lit (.bool false)], args := [d] }
  | _ => none }
def DoubleSaysWrongFalsely : Prop := doubleSaysRow.holds Try.pinned (OpenSpec.ofChange doubleSaysWrong)

/-- 'weirlaw.WalkSides': WHATEVER THE INPUT: true; the input reads as it did. -/
def walkSidesSpec : ChangeSpec := { name := "walkSides", fn := fun _ => fun
  | [d] => { results := [.lit (.bool true)], args := [d] }
  | _ => none }
def walkSidesRow : OpenClaim := { program := "ytdglhalkilneaaa", sum := "e64f6c401437252cba377f418da6ebd8cb1c054fb36ca9a61f66a69210b1eb8e", func := "weirmaster/weirlaw.WalkSides", spec := "walkSides", unfollowed := true, recurses := true, apart := false }
def WalkSidesSaid : Prop := walkSidesRow.holds Try.pinned (OpenSpec.ofChange walkSidesSpec)

/-- ITS FALSE NEIGHBOUR: 'it returns false'. Refute it at one input. -/
def walkSidesWrong : ChangeSpec := { name := "walkSides", fn := fun _ => fun
  | [d] => { results := [.lit (.bool false)], args := [d] }
  | _ => none }
def WalkSidesWrongFalsely : Prop := walkSidesRow.holds Try.pinned (OpenSpec.ofChange walkSidesWrong)

/-- 'weirlaw.WalkSays': WHATEVER THE INPUT: true; the input reads as it did. -/
def walkSaysSpec : ChangeSpec := { name := "walkSays", fn := fun _ => fun
  | [d1, d2, d3] => { results := [.lit (.bool true)], args := [d1, d2, d3] }
  | _ => none }
def walkSaysRow : OpenClaim := { program := "ytdglhalkilneaaa", sum := "e64f6c401437252cba377f418da6ebd8cb1c054fb36ca9a61f66a69210b1eb8e", func := "weirmaster/weirlaw.WalkSays", spec := "walkSays", unfollowed := true, recurses := true, apart := false }
def WalkSaysSaid : Prop := walkSaysRow.holds Try.pinned (OpenSpec.ofChange walkSaysSpec)

/-- ITS FALSE NEIGHBOUR: 'it returns false'. Refute it at one input. -/
def walkSaysWrong : ChangeSpec := { name := "walkSays", fn := fun _ => fun
  | [d1, d2, d3] => { results := [.lit (.bool false)], args := [d1, d2, d3] }
  | _ => none }
def WalkSaysWrongFalsely : Prop := walkSaysRow.holds Try.pinned (OpenSpec.ofChange walkSaysWrong)

/-- 'weirlaw.PushSays': WHATEVER THE INPUT: true; the input reads as it did. -/
def pushSaysSpec : ChangeSpec := { name := "pushSays", fn := fun _ => fun
  | [d1, d2, d3, d4] => { results := [.lit (.bool true)], args := [d1, d2, d3, d4] }
  | _ => none }
def pushSaysRow : OpenClaim := { program := "ytdglhalkilneaaa", sum := "e64f6c401437252cba377f418da6ebd8cb1c054fb36ca9a61f66a69210b1eb8e", func := "weirmaster/weirlaw.PushSays", spec := "pushSays", apart := false }
def PushSaysSaid : Prop := pushSaysRow.holds Try.pinned (OpenSpec.ofChange pushSaysSpec)

/-- ITS FALSE NEIGHBOUR: 'it returns false'. Refute it at one input. -/
def pushSaysWrong : ChangeSpec := { name := "pushSays", fn := fun _ => fun
  | [d1, d2, d3, d4] => { results := [.lit (.bool false)], args := [d1, d2, d3, d4] }
  | _ => none }
def PushSaysWrongFalsely : Prop := pushSaysRow.holds Try.pinned (OpenSpec.ofChange pushSaysWrong)

/-- 'weirlaw.CutSays': WHATEVER THE INPUT: true; the input reads as it did. -/
def cutSaysSpec : ChangeSpec := { name := "cutSays", fn := fun _ => fun
  | [d1, d2] => { results := [.lit (.bool true)], args := [d1, d2] }
  | _ => none }
def cutSaysRow : OpenClaim := { program := "ytdglhalkilneaaa", sum := "e64f6c401437252cba377f418da6ebd8cb1c054fb36ca9a61f66a69210b1eb8e", func := "weirmaster/weirlaw.CutSays", spec := "cutSays", apart := false }
def CutSaysSaid : Prop := cutSaysRow.holds Try.pinned (OpenSpec.ofChange cutSaysSpec)

/-- ITS FALSE NEIGHBOUR: 'it returns false'. Refute it at one input. -/
def cutSaysWrong : ChangeSpec := { name := "cutSays", fn := fun _ => fun
  | [d1, d2] => { results := [.lit (.bool false)], args := [d1, d2] }
  | _ => none }
def CutSaysWrongFalsely : Prop := cutSaysRow.holds Try.pinned (OpenSpec.ofChange cutSaysWrong)

/-- 'weirlaw.PairsSays': WHATEVER THE INPUT: true; the input reads as it did. -/
def pairsSaysSpec : ChangeSpec := { name := "pairsSays", fn := fun _ => fun
  | [d1, d2, d3] => { results := [.lit (.bool true)], args := [d1, d2, d3] }
  | _ => none }
def pairsSaysRow : OpenClaim := { program := "ytdglhalkilneaaa", sum := "e64f6c401437252cba377f418da6ebd8cb1c054fb36ca9a61f66a69210b1eb8e", func := "weirmaster/weirlaw.PairsSays", spec := "pairsSays", apart := false }
def PairsSaysSaid : Prop := pairsSaysRow.holds Try.pinned (OpenSpec.ofChange pairsSaysSpec)

/-- ITS FALSE NEIGHBOUR: 'it returns false'. Refute it at one input. -/
def pairsSaysWrong : ChangeSpec := { name := "pairsSays", fn := fun _ => fun
  | [d1, d2, d3] => { results := [.lit (.bool false)], args := [d1, d2, d3] }
  | _ => none }
def PairsSaysWrongFalsely : Prop := pairsSaysRow.holds Try.pinned (OpenSpec.ofChange pairsSaysWrong)

/-- 'weirlaw.ProofSays': WHATEVER THE INPUT: true; the input reads as it did. -/
def proofSaysSpec : ChangeSpec := { name := "proofSays", fn := fun _ => fun
  | [d1, d2] => { results := [.lit (.bool true)], args := [d1, d2] }
  | _ => none }
def proofSaysRow : OpenClaim := { program := "ytdglhalkilneaaa", sum := "e64f6c401437252cba377f418da6ebd8cb1c054fb36ca9a61f66a69210b1eb8e", func := "weirmaster/weirlaw.ProofSays", spec := "proofSays", apart := false }
def ProofSaysSaid : Prop := proofSaysRow.holds Try.pinned (OpenSpec.ofChange proofSaysSpec)

/-- ITS FALSE NEIGHBOUR: 'it returns false'. Refute it at one input. -/
def proofSaysWrong : ChangeSpec := { name := "proofSays", fn := fun _ => fun
  | [d1, d2] => { results := [.lit (.bool false)], args := [d1, d2] }
  | _ => none }
def ProofSaysWrongFalsely : Prop := proofSaysRow.holds Try.pinned (OpenSpec.ofChange proofSaysWrong)

/-- 'weirlaw.CloseSays': WHATEVER THE INPUT: true; the input reads as it did. -/
def closeSaysSpec : ChangeSpec := { name := "closeSays", fn := fun _ => fun
  | [d1, d2] => { results := [.lit (.bool true)], args := [d1, d2] }
  | _ => none }
def closeSaysRow : OpenClaim := { program := "ytdglhalkilneaaa", sum := "e64f6c401437252cba377f418da6ebd8cb1c054fb36ca9a61f66a69210b1eb8e", func := "weirmaster/weirlaw.CloseSays", spec := "closeSays", unfollowed := true, recurses := true, apart := false }
def CloseSaysSaid : Prop := closeSaysRow.holds Try.pinned (OpenSpec.ofChange closeSaysSpec)

/-- ITS FALSE NEIGHBOUR: 'it returns false'. Refute it at one input. -/
def closeSaysWrong : ChangeSpec := { name := "closeSays", fn := fun _ => fun
  | [d1, d2] => { results := [.lit (.bool false)], args := [d1, d2] }
  | _ => none }
def CloseSaysWrongFalsely : Prop := closeSaysRow.holds Try.pinned (OpenSpec.ofChange closeSaysWrong)

/-- 'weirlaw.NeedSays': WHATEVER THE INPUT: true; the input reads as it did. -/
def needSaysSpec : ChangeSpec := { name := "needSays", fn := fun _ => fun
  | [d1, d2] => { results := [.lit (.bool true)], args := [d1, d2] }
  | _ => none }
def needSaysRow : OpenClaim := { program := "ytdglhalkilneaaa", sum := "e64f6c401437252cba377f418da6ebd8cb1c054fb36ca9a61f66a69210b1eb8e", func := "weirmaster/weirlaw.NeedSays", spec := "needSays", unfollowed := true, recurses := true, apart := false }
def NeedSaysSaid : Prop := needSaysRow.holds Try.pinned (OpenSpec.ofChange needSaysSpec)

/-- ITS FALSE NEIGHBOUR: 'it returns false'. Refute it at one input. -/
def needSaysWrong : ChangeSpec := { name := "needSays", fn := fun _ => fun
  | [d1, d2] => { results := [.lit (.bool false)], args := [d1, d2] }
  | _ => none }
def NeedSaysWrongFalsely : Prop := needSaysRow.holds Try.pinned (OpenSpec.ofChange needSaysWrong)

/-- 'weirlaw.RepairSays': WHATEVER THE INPUT: true; the input reads as it did. -/
def repairSaysSpec : ChangeSpec := { name := "repairSays", fn := fun _ => fun
  | [d1, d2, d3, d4, d5, d6, d7] => { results := [.lit (.bool true)], args := [d1, d2, d3, d4, d5, d6, d7] }
  | _ => none }
def repairSaysRow : OpenClaim := { program := "ytdglhalkilneaaa", sum := "e64f6c401437252cba377f418da6ebd8cb1c054fb36ca9a61f66a69210b1eb8e", func := "weirmaster/weirlaw.RepairSays", spec := "repairSays", unfollowed := true, recurses := true, apart := false }
def RepairSaysSaid : Prop := repairSaysRow.holds Try.pinned (OpenSpec.ofChange repairSaysSpec)

/-- ITS FALSE NEIGHBOUR: 'it returns false'. Refute it at one input. -/
def repairSaysWrong : ChangeSpec := { name := "repairSays", fn := fun _ => fun
  | [d1, d2, d3, d4, d5, d6, d7] => { results := [.lit (.bool false)], args := [d1, d2, d3, d4, d5, d6, d7] }
  | _ => none }
def RepairSaysWrongFalsely : Prop := repairSaysRow.holds Try.pinned (OpenSpec.ofChange repairSaysWrong)

/-- 'weirlaw.FlowSays': WHATEVER THE INPUT: true; the input reads as it did. -/
def flowSaysSpec : ChangeSpec := { name := "flowSays", fn := fun _ => fun
  | [d1, d2] => { results := [.lit (.bool true)], args := [d1, d2] }
  | _ => none }
def flowSaysRow : OpenClaim := { program := "ytdglhalkilneaaa", sum := "e64f6c401437252cba377f418da6ebd8cb1c054fb36ca9a61f66a69210b1eb8e", func := "weirmaster/weirlaw.FlowSays", spec := "flowSays", unfollowed := true, recurses := true, apart := false }
def FlowSaysSaid : Prop := flowSaysRow.holds Try.pinned (OpenSpec.ofChange flowSaysSpec)

/-- ITS FALSE NEIGHBOUR: 'it returns false'. Refute it at one input. -/
def flowSaysWrong : ChangeSpec := { name := "flowSays", fn := fun _ => fun
  | [d1, d2] => { results := [.lit (.bool false)], args := [d1, d2] }
  | _ => none }
def FlowSaysWrongFalsely : Prop := flowSaysRow.holds Try.pinned (OpenSpec.ofChange flowSaysWrong)

/-- 'weirlaw.PathsSays': WHATEVER THE INPUT: true; the input reads as it did. -/
def pathsSaysSpec : ChangeSpec := { name := "pathsSays", fn := fun _ => fun
  | [d] => { results := [.lit (.bool true)], args := [d] }
  | _ => none }
def pathsSaysRow : OpenClaim := { program := "ytdglhalkilneaaa", sum := "e64f6c401437252cba377f418da6ebd8cb1c054fb36ca9a61f66a69210b1eb8e", func := "weirmaster/weirlaw.PathsSays", spec := "pathsSays", unfollowed := true, recurses := true, apart := false }
def PathsSaysSaid : Prop := pathsSaysRow.holds Try.pinned (OpenSpec.ofChange pathsSaysSpec)

/-- ITS FALSE NEIGHBOUR: 'it returns false'. Refute it at one input. -/
def pathsSaysWrong : ChangeSpec := { name := "pathsSays", fn := fun _ => fun
  | [d] => { results := [.lit (.bool false)], args := [d] }
  | _ => none }
def PathsSaysWrongFalsely : Prop := pathsSaysRow.holds Try.pinned (OpenSpec.ofChange pathsSaysWrong)

/- THE SECOND FORM. 'bulk': how many values and letters a reading holds, each counted each time it is reached (what is shared counts as often as it is met; a slice's spare places count too). A statement '..UptoSaid' is the law's where the arguments, and the package variables that the reading takes, are together of bulk at most 1048576: NARROWER than '..Said'. Prove '..Said' where nothing that the law and all that it calls make is longer than what came in: it says more and counts as full. Else prove '..UptoSaid'. A law counts once. -/
mutual
def uptoBulk {H : Type} : DataW H → Nat
  | .lit (.string bytes) => bytes.length + 1
  | .lit _ => 1
  | .nil => 1
  | .ptr d => uptoBulk d + 1
  | .slice elems spare => uptoBulkAll elems + uptoBulkAll spare + 1
  | .agg parts => uptoBulkAll parts + 1
  | .iface _ d => uptoBulk d + 1
  | .map entries => uptoBulkEntries entries + 1
  | .held _ => 1
def uptoBulkAll {H : Type} : List (DataW H) → Nat
  | [] => 0
  | d :: r => uptoBulk d + uptoBulkAll r
def uptoBulkEntries {H : Type} : List (Lit × DataW H) → Nat
  | [] => 0
  | x :: r => uptoBulkEntry x + uptoBulkEntries r
def uptoBulkEntry {H : Type} : Lit × DataW H → Nat
  | (.string bytes, d) => bytes.length + uptoBulk d + 1
  | (_, d) => uptoBulk d + 1
 end
def uptoSmall : (H : Type) → List (DataW H) → Bool := fun _ ds => decide (uptoBulkAll ds ≤ 1048576)
def OpenSpec.upto (s : _root_.Go.ChangeSpec) : _root_.Go.OpenSpec := { _root_.Go.OpenSpec.ofChange s with cond := some uptoSmall }

/-- 'weirlaw.DoubleSays', WHERE WHAT IT READS IS OF BULK AT MOST 1048576: true; the input reads as it did. -/
def doubleSaysUptoRow : OpenClaim := { program := "ytdglhalkilneaaa", sum := "e64f6c401437252cba377f418da6ebd8cb1c054fb36ca9a61f66a69210b1eb8e", func := "weirmaster/weirlaw.DoubleSays", spec := "doubleSays", unfollowed := true, recurses := true, apart := false, narrowed := true }
def DoubleSaysUptoSaid : Prop := doubleSaysUptoRow.holds Try.pinned (OpenSpec.upto doubleSaysSpec)

/-- 'weirlaw.WalkSides', WHERE WHAT IT READS IS OF BULK AT MOST 1048576: true; the input reads as it did. -/
def walkSidesUptoRow : OpenClaim := { program := "ytdglhalkilneaaa", sum := "e64f6c401437252cba377f418da6ebd8cb1c054fb36ca9a61f66a69210b1eb8e", func := "weirmaster/weirlaw.WalkSides", spec := "walkSides", unfollowed := true, recurses := true, apart := false, narrowed := true }
def WalkSidesUptoSaid : Prop := walkSidesUptoRow.holds Try.pinned (OpenSpec.upto walkSidesSpec)

/-- 'weirlaw.WalkSays', WHERE WHAT IT READS IS OF BULK AT MOST 1048576: true; the input reads as it did. -/
def walkSaysUptoRow : OpenClaim := { program := "ytdglhalkilneaaa", sum := "e64f6c401437252cba377f418da6ebd8cb1c054fb36ca9a61f66a69210b1eb8e", func := "weirmaster/weirlaw.WalkSays", spec := "walkSays", unfollowed := true, recurses := true, apart := false, narrowed := true }
def WalkSaysUptoSaid : Prop := walkSaysUptoRow.holds Try.pinned (OpenSpec.upto walkSaysSpec)

/-- 'weirlaw.PushSays', WHERE WHAT IT READS IS OF BULK AT MOST 1048576: true; the input reads as it did. -/
def pushSaysUptoRow : OpenClaim := { program := "ytdglhalkilneaaa", sum := "e64f6c401437252cba377f418da6ebd8cb1c054fb36ca9a61f66a69210b1eb8e", func := "weirmaster/weirlaw.PushSays", spec := "pushSays", apart := false, narrowed := true }
def PushSaysUptoSaid : Prop := pushSaysUptoRow.holds Try.pinned (OpenSpec.upto pushSaysSpec)

/-- 'weirlaw.CutSays', WHERE WHAT IT READS IS OF BULK AT MOST 1048576: true; the input reads as it did. -/
def cutSaysUptoRow : OpenClaim := { program := "ytdglhalkilneaaa", sum := "e64f6c401437252cba377f418da6ebd8cb1c054fb36ca9a61f66a69210b1eb8e", func := "weirmaster/weirlaw.CutSays", spec := "cutSays", apart := false, narrowed := true }
def CutSaysUptoSaid : Prop := cutSaysUptoRow.holds Try.pinned (OpenSpec.upto cutSaysSpec)

/-- 'weirlaw.PairsSays', WHERE WHAT IT READS IS OF BULK AT MOST 1048576: true; the input reads as it did. -/
def pairsSaysUptoRow : OpenClaim := { program := "ytdglhalkilneaaa", sum := "e64f6c401437252cba377f418da6ebd8cb1c054fb36ca9a61f66a69210b1eb8e", func := "weirmaster/weirlaw.PairsSays", spec := "pairsSays", apart := false, narrowed := true }
def PairsSaysUptoSaid : Prop := pairsSaysUptoRow.holds Try.pinned (OpenSpec.upto pairsSaysSpec)

/-- 'weirlaw.ProofSays', WHERE WHAT IT READS IS OF BULK AT MOST 1048576: true; the input reads as it did. -/
def proofSaysUptoRow : OpenClaim := { program := "ytdglhalkilneaaa", sum := "e64f6c401437252cba377f418da6ebd8cb1c054fb36ca9a61f66a69210b1eb8e", func := "weirmaster/weirlaw.ProofSays", spec := "proofSays", apart := false, narrowed := true }
def ProofSaysUptoSaid : Prop := proofSaysUptoRow.holds Try.pinned (OpenSpec.upto proofSaysSpec)

/-- 'weirlaw.CloseSays', WHERE WHAT IT READS IS OF BULK AT MOST 1048576: true; the input reads as it did. -/
def closeSaysUptoRow : OpenClaim := { program := "ytdglhalkilneaaa", sum := "e64f6c401437252cba377f418da6ebd8cb1c054fb36ca9a61f66a69210b1eb8e", func := "weirmaster/weirlaw.CloseSays", spec := "closeSays", unfollowed := true, recurses := true, apart := false, narrowed := true }
def CloseSaysUptoSaid : Prop := closeSaysUptoRow.holds Try.pinned (OpenSpec.upto closeSaysSpec)

/-- 'weirlaw.NeedSays', WHERE WHAT IT READS IS OF BULK AT MOST 1048576: true; the input reads as it did. -/
def needSaysUptoRow : OpenClaim := { program := "ytdglhalkilneaaa", sum := "e64f6c401437252cba377f418da6ebd8cb1c054fb36ca9a61f66a69210b1eb8e", func := "weirmaster/weirlaw.NeedSays", spec := "needSays", unfollowed := true, recurses := true, apart := false, narrowed := true }
def NeedSaysUptoSaid : Prop := needSaysUptoRow.holds Try.pinned (OpenSpec.upto needSaysSpec)

/-- 'weirlaw.RepairSays', WHERE WHAT IT READS IS OF BULK AT MOST 1048576: true; the input reads as it did. -/
def repairSaysUptoRow : OpenClaim := { program := "ytdglhalkilneaaa", sum := "e64f6c401437252cba377f418da6ebd8cb1c054fb36ca9a61f66a69210b1eb8e", func := "weirmaster/weirlaw.RepairSays", spec := "repairSays", unfollowed := true, recurses := true, apart := false, narrowed := true }
def RepairSaysUptoSaid : Prop := repairSaysUptoRow.holds Try.pinned (OpenSpec.upto repairSaysSpec)

/-- 'weirlaw.FlowSays', WHERE WHAT IT READS IS OF BULK AT MOST 1048576: true; the input reads as it did. -/
def flowSaysUptoRow : OpenClaim := { program := "ytdglhalkilneaaa", sum := "e64f6c401437252cba377f418da6ebd8cb1c054fb36ca9a61f66a69210b1eb8e", func := "weirmaster/weirlaw.FlowSays", spec := "flowSays", unfollowed := true, recurses := true, apart := false, narrowed := true }
def FlowSaysUptoSaid : Prop := flowSaysUptoRow.holds Try.pinned (OpenSpec.upto flowSaysSpec)

/-- 'weirlaw.PathsSays', WHERE WHAT IT READS IS OF BULK AT MOST 1048576: true; the input reads as it did. -/
def pathsSaysUptoRow : OpenClaim := { program := "ytdglhalkilneaaa", sum := "e64f6c401437252cba377f418da6ebd8cb1c054fb36ca9a61f66a69210b1eb8e", func := "weirmaster/weirlaw.PathsSays", spec := "pathsSays", unfollowed := true, recurses := true, apart := false, narrowed := true }
def PathsSaysUptoSaid : Prop := pathsSaysUptoRow.holds Try.pinned (OpenSpec.upto pathsSaysSpec)

end Rows
end Go.Proofs.Ytdglhalkilneaaa
