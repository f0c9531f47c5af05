/-
  No cell of these rows narrows 'for every input' (looked for: loops, veiled, ifaces, maps, wideKeys, modest, calm, conditions, laid).
  DERIVED. THE GIVEN ROWS OF THIS SEAT. 11 by the template 'for every input the law returns true; each argument reads behind the call as it read before'; 0 by the template 'total and deterministic' (their statements: YtglkldhjffnhhaaTotals.lean).
  GIVEN WITH THE SEED: the statements are not yours to turn. If you find one false, say at which input.
  Laid BY PROGRAM, IN A SANDBOX (cutbox-rows.mjs): the forced cells as the released guide's own fill.sh prints them over the translation f721ac98f65e45d8… (all of the seat's roots in one cut). By AI agents, Wed Nov 11 2026. No macro, syntax, notation, axiom, sorry.
-/
import Derived.Test.YtglkldhjffnhhaaChecked
import GoSem.Claim
import GoSem.ClaimJoined
import GoSem.ClaimMapViews
import Derived.JoinedTies
import Derived.KernelRfl
namespace Go.Proofs.Ytglkldhjffnhhaa
/- THE CELL 'sum', in the pinned program and in every row, IS THE sha256 OF THE DUMP (.gsa) THAT YtglkldhjffnhhaaProg.lean LOADS. Nothing in Lean hashes anything: it is a label: what it is worth is what the hold of that sum in a sandbox is worth. -/
noncomputable def Try.pinned : Pinned := { name := "ytglkldhjffnhhaa", sum := "f721ac98f65e45d8544f2d86d677ad71d56295faa72001ae1d5109e59f4d6277", checked := Try.checked }
namespace Rows
def none {H : Type} : Left H := { results := [], args := [] }

/-- 'weirlaw.LevelSays': WHATEVER THE INPUT: true; the input reads as it did. -/
def levelSaysSpec : ChangeSpec := { name := "levelSays", fn := fun _ => fun
  | [d] => { results := [.lit (.bool true)], args := [d] }
  | _ => none }
def levelSaysRow : OpenClaim := { program := "ytglkldhjffnhhaa", sum := "f721ac98f65e45d8544f2d86d677ad71d56295faa72001ae1d5109e59f4d6277", func := "weirmaster/weirlaw.LevelSays", spec := "levelSays", recurses := true, apart := false }
def LevelSaysSaid : Prop := levelSaysRow.holds Try.pinned (OpenSpec.ofChange levelSaysSpec)

/-- ITS FALSE NEIGHBOUR: 'it returns false'. Refute it at one input. -/
def levelSaysWrong : ChangeSpec := { name := "levelSays", fn := fun _ => fun
  | [d] => { results := [.lit (.bool false)], args := [d] }
  | _ => none }
def LevelSaysWrongFalsely : Prop := levelSaysRow.holds Try.pinned (OpenSpec.ofChange levelSaysWrong)

/-- 'weirlaw.DoubleSays': WHATEVER THE INPUT: true; the input reads as it did. -/
def doubleSaysSpec : ChangeSpec := { name := "doubleSays", fn := fun _ => fun
  | [d] => { results := [.lit (.bool true)], args := [d] }
  | _ => none }
def doubleSaysRow : OpenClaim := { program := "ytglkldhjffnhhaa", sum := "f721ac98f65e45d8544f2d86d677ad71d56295faa72001ae1d5109e59f4d6277", func := "weirmaster/weirlaw.DoubleSays", spec := "doubleSays", unfollowed := true, recurses := true, apart := false }
def DoubleSaysSaid : Prop := doubleSaysRow.holds Try.pinned (OpenSpec.ofChange doubleSaysSpec)

/-- ITS FALSE NEIGHBOUR: 'it returns false'. Refute it at one input. -/
def doubleSaysWrong : ChangeSpec := { name := "doubleSays", fn := fun _ => fun
  | [d] => { results := [.lit (.bool false)], args := [d] }
  | _ => none }
def DoubleSaysWrongFalsely : Prop := doubleSaysRow.holds Try.pinned (OpenSpec.ofChange doubleSaysWrong)

/-- 'weirtop.TopCheap': WHATEVER THE INPUT: true; the input reads as it did. -/
def topCheapSpec : ChangeSpec := { name := "topCheap", fn := fun _ => fun
  | [d1, d2] => { results := [.lit (.bool true)], args := [d1, d2] }
  | _ => none }
def topCheapRow : OpenClaim := { program := "ytglkldhjffnhhaa", sum := "f721ac98f65e45d8544f2d86d677ad71d56295faa72001ae1d5109e59f4d6277", func := "weirmaster/weirtop.TopCheap", spec := "topCheap", apart := false }
def TopCheapSaid : Prop := topCheapRow.holds Try.pinned (OpenSpec.ofChange topCheapSpec)

/-- ITS FALSE NEIGHBOUR: 'it returns false'. Refute it at one input. -/
def topCheapWrong : ChangeSpec := { name := "topCheap", fn := fun _ => fun
  | [d1, d2] => { results := [.lit (.bool false)], args := [d1, d2] }
  | _ => none }
def TopCheapWrongFalsely : Prop := topCheapRow.holds Try.pinned (OpenSpec.ofChange topCheapWrong)

/-- 'weirlaw.BlossomSays': WHATEVER THE INPUT: true; the input reads as it did. -/
def blossomSaysSpec : ChangeSpec := { name := "blossomSays", fn := fun _ => fun
  | [d] => { results := [.lit (.bool true)], args := [d] }
  | _ => none }
def blossomSaysRow : OpenClaim := { program := "ytglkldhjffnhhaa", sum := "f721ac98f65e45d8544f2d86d677ad71d56295faa72001ae1d5109e59f4d6277", func := "weirmaster/weirlaw.BlossomSays", spec := "blossomSays", unfollowed := true, recurses := true, apart := false }
def BlossomSaysSaid : Prop := blossomSaysRow.holds Try.pinned (OpenSpec.ofChange blossomSaysSpec)

/-- ITS FALSE NEIGHBOUR: 'it returns false'. Refute it at one input. -/
def blossomSaysWrong : ChangeSpec := { name := "blossomSays", fn := fun _ => fun
  | [d] => { results := [.lit (.bool false)], args := [d] }
  | _ => none }
def BlossomSaysWrongFalsely : Prop := blossomSaysRow.holds Try.pinned (OpenSpec.ofChange blossomSaysWrong)

/-- 'weirtop.TopTrees': WHATEVER THE INPUT: true; the input reads as it did. -/
def topTreesSpec : ChangeSpec := { name := "topTrees", fn := fun _ => fun
  | [d1, d2, d3] => { results := [.lit (.bool true)], args := [d1, d2, d3] }
  | _ => none }
def topTreesRow : OpenClaim := { program := "ytglkldhjffnhhaa", sum := "f721ac98f65e45d8544f2d86d677ad71d56295faa72001ae1d5109e59f4d6277", func := "weirmaster/weirtop.TopTrees", spec := "topTrees", unfollowed := true, recurses := true, apart := false }
def TopTreesSaid : Prop := topTreesRow.holds Try.pinned (OpenSpec.ofChange topTreesSpec)

/-- ITS FALSE NEIGHBOUR: 'it returns false'. Refute it at one input. -/
def topTreesWrong : ChangeSpec := { name := "topTrees", fn := fun _ => fun
  | [d1, d2, d3] => { results := [.lit (.bool false)], args := [d1, d2, d3] }
  | _ => none }
def TopTreesWrongFalsely : Prop := topTreesRow.holds Try.pinned (OpenSpec.ofChange topTreesWrong)

/-- 'weirlaw.ColourSays': WHATEVER THE INPUT: true; the input reads as it did. -/
def colourSaysSpec : ChangeSpec := { name := "colourSays", fn := fun _ => fun
  | [d1, d2] => { results := [.lit (.bool true)], args := [d1, d2] }
  | _ => none }
def colourSaysRow : OpenClaim := { program := "ytglkldhjffnhhaa", sum := "f721ac98f65e45d8544f2d86d677ad71d56295faa72001ae1d5109e59f4d6277", func := "weirmaster/weirlaw.ColourSays", spec := "colourSays", unfollowed := true, recurses := true, apart := false }
def ColourSaysSaid : Prop := colourSaysRow.holds Try.pinned (OpenSpec.ofChange colourSaysSpec)

/-- ITS FALSE NEIGHBOUR: 'it returns false'. Refute it at one input. -/
def colourSaysWrong : ChangeSpec := { name := "colourSays", fn := fun _ => fun
  | [d1, d2] => { results := [.lit (.bool false)], args := [d1, d2] }
  | _ => none }
def ColourSaysWrongFalsely : Prop := colourSaysRow.holds Try.pinned (OpenSpec.ofChange colourSaysWrong)

/-- 'weirlaw.TreeSays': WHATEVER THE INPUT: true; the input reads as it did. -/
def treeSaysSpec : ChangeSpec := { name := "treeSays", fn := fun _ => fun
  | [d] => { results := [.lit (.bool true)], args := [d] }
  | _ => none }
def treeSaysRow : OpenClaim := { program := "ytglkldhjffnhhaa", sum := "f721ac98f65e45d8544f2d86d677ad71d56295faa72001ae1d5109e59f4d6277", func := "weirmaster/weirlaw.TreeSays", spec := "treeSays", unfollowed := true, recurses := true, apart := false }
def TreeSaysSaid : Prop := treeSaysRow.holds Try.pinned (OpenSpec.ofChange treeSaysSpec)

/-- ITS FALSE NEIGHBOUR: 'it returns false'. Refute it at one input. -/
def treeSaysWrong : ChangeSpec := { name := "treeSays", fn := fun _ => fun
  | [d] => { results := [.lit (.bool false)], args := [d] }
  | _ => none }
def TreeSaysWrongFalsely : Prop := treeSaysRow.holds Try.pinned (OpenSpec.ofChange treeSaysWrong)

/-- 'weirlaw.CheapSays': WHATEVER THE INPUT: true; the input reads as it did. -/
def cheapSaysSpec : ChangeSpec := { name := "cheapSays", fn := fun _ => fun
  | [d1, d2, d3, d4] => { results := [.lit (.bool true)], args := [d1, d2, d3, d4] }
  | _ => none }
def cheapSaysRow : OpenClaim := { program := "ytglkldhjffnhhaa", sum := "f721ac98f65e45d8544f2d86d677ad71d56295faa72001ae1d5109e59f4d6277", func := "weirmaster/weirlaw.CheapSays", spec := "cheapSays", unfollowed := true, recurses := true, apart := false }
def CheapSaysSaid : Prop := cheapSaysRow.holds Try.pinned (OpenSpec.ofChange cheapSaysSpec)

/-- ITS FALSE NEIGHBOUR: 'it returns false'. Refute it at one input. -/
def cheapSaysWrong : ChangeSpec := { name := "cheapSays", fn := fun _ => fun
  | [d1, d2, d3, d4] => { results := [.lit (.bool false)], args := [d1, d2, d3, d4] }
  | _ => none }
def CheapSaysWrongFalsely : Prop := cheapSaysRow.holds Try.pinned (OpenSpec.ofChange cheapSaysWrong)

/-- 'weirlaw.MatchSays': WHATEVER THE INPUT: true; the input reads as it did. -/
def matchSaysSpec : ChangeSpec := { name := "matchSays", fn := fun _ => fun
  | [d1, d2, d3] => { results := [.lit (.bool true)], args := [d1, d2, d3] }
  | _ => none }
def matchSaysRow : OpenClaim := { program := "ytglkldhjffnhhaa", sum := "f721ac98f65e45d8544f2d86d677ad71d56295faa72001ae1d5109e59f4d6277", func := "weirmaster/weirlaw.MatchSays", spec := "matchSays", unfollowed := true, recurses := true, apart := false }
def MatchSaysSaid : Prop := matchSaysRow.holds Try.pinned (OpenSpec.ofChange matchSaysSpec)

/-- ITS FALSE NEIGHBOUR: 'it returns false'. Refute it at one input. -/
def matchSaysWrong : ChangeSpec := { name := "matchSays", fn := fun _ => fun
  | [d1, d2, d3] => { results := [.lit (.bool false)], args := [d1, d2, d3] }
  | _ => none }
def MatchSaysWrongFalsely : Prop := matchSaysRow.holds Try.pinned (OpenSpec.ofChange matchSaysWrong)

/-- 'weirlaw.DegreeSays': WHATEVER THE INPUT: true; the input reads as it did. -/
def degreeSaysSpec : ChangeSpec := { name := "degreeSays", fn := fun _ => fun
  | [d] => { results := [.lit (.bool true)], args := [d] }
  | _ => none }
def degreeSaysRow : OpenClaim := { program := "ytglkldhjffnhhaa", sum := "f721ac98f65e45d8544f2d86d677ad71d56295faa72001ae1d5109e59f4d6277", func := "weirmaster/weirlaw.DegreeSays", spec := "degreeSays", unfollowed := true, recurses := true, apart := false }
def DegreeSaysSaid : Prop := degreeSaysRow.holds Try.pinned (OpenSpec.ofChange degreeSaysSpec)

/-- ITS FALSE NEIGHBOUR: 'it returns false'. Refute it at one input. -/
def degreeSaysWrong : ChangeSpec := { name := "degreeSays", fn := fun _ => fun
  | [d] => { results := [.lit (.bool false)], args := [d] }
  | _ => none }
def DegreeSaysWrongFalsely : Prop := degreeSaysRow.holds Try.pinned (OpenSpec.ofChange degreeSaysWrong)

/-- 'weirlaw.SpanSays': WHATEVER THE INPUT: true; the input reads as it did. -/
def spanSaysSpec : ChangeSpec := { name := "spanSays", fn := fun _ => fun
  | [d1, d2, d3] => { results := [.lit (.bool true)], args := [d1, d2, d3] }
  | _ => none }
def spanSaysRow : OpenClaim := { program := "ytglkldhjffnhhaa", sum := "f721ac98f65e45d8544f2d86d677ad71d56295faa72001ae1d5109e59f4d6277", func := "weirmaster/weirlaw.SpanSays", spec := "spanSays", unfollowed := true, recurses := true, apart := false }
def SpanSaysSaid : Prop := spanSaysRow.holds Try.pinned (OpenSpec.ofChange spanSaysSpec)

/-- ITS FALSE NEIGHBOUR: 'it returns false'. Refute it at one input. -/
def spanSaysWrong : ChangeSpec := { name := "spanSays", fn := fun _ => fun
  | [d1, d2, d3] => { results := [.lit (.bool false)], args := [d1, d2, d3] }
  | _ => none }
def SpanSaysWrongFalsely : Prop := spanSaysRow.holds Try.pinned (OpenSpec.ofChange spanSaysWrong)

/- THE SECOND FORM. 'bulk': how many values and letters a reading holds, each counted each time it is reached (what is shared counts as often as it is met; a slice's spare places count too). A statement '..UptoSaid' is the law's where the arguments, and the package variables that the reading takes, are together of bulk at most 1048576: NARROWER than '..Said'. Prove '..Said' where nothing that the law and all that it calls make is longer than what came in: it says more and counts as full. Else prove '..UptoSaid'. A law counts once. -/
mutual
def uptoBulk {H : Type} : DataW H → Nat
  | .lit (.string bytes) => bytes.length + 1
  | .lit _ => 1
  | .nil => 1
  | .ptr d => uptoBulk d + 1
  | .slice elems spare => uptoBulkAll elems + uptoBulkAll spare + 1
  | .agg parts => uptoBulkAll parts + 1
  | .iface _ d => uptoBulk d + 1
  | .map entries => uptoBulkEntries entries + 1
  | .held _ => 1
def uptoBulkAll {H : Type} : List (DataW H) → Nat
  | [] => 0
  | d :: r => uptoBulk d + uptoBulkAll r
def uptoBulkEntries {H : Type} : List (Lit × DataW H) → Nat
  | [] => 0
  | x :: r => uptoBulkEntry x + uptoBulkEntries r
def uptoBulkEntry {H : Type} : Lit × DataW H → Nat
  | (.string bytes, d) => bytes.length + uptoBulk d + 1
  | (_, d) => uptoBulk d + 1
 end
def uptoSmall : (H : Type) → List (DataW H) → Bool := fun _ ds => decide (uptoBulkAll ds ≤ 1048576)
def OpenSpec.upto (s : _root_.Go.ChangeSpec) : _root_.Go.OpenSpec := { _root_.Go.OpenSpec.ofChange s with cond := some uptoSmall }

/-- 'weirlaw.LevelSays', WHERE WHAT IT READS IS OF BULK AT MOST 1048576: true; the input reads as it did. -/
def levelSaysUptoRow : OpenClaim := { program := "ytglkldhjffnhhaa", sum := "f721ac98f65e45d8544f2d86d677ad71d56295faa72001ae1d5109e59f4d6277", func := "weirmaster/weirlaw.LevelSays", spec := "levelSays", recurses := true, apart := false, narrowed := true }
def LevelSaysUptoSaid : Prop := levelSaysUptoRow.holds Try.pinned (OpenSpec.upto levelSaysSpec)

/-- 'weirlaw.DoubleSays', WHERE WHAT IT READS IS OF BULK AT MOST 1048576: true; the input reads as it did. -/
def doubleSaysUptoRow : OpenClaim := { program := "ytglkldhjffnhhaa", sum := "f721ac98f65e45d8544f2d86d677ad71d56295faa72001ae1d5109e59f4d6277", func := "weirmaster/weirlaw.DoubleSays", spec := "doubleSays", unfollowed := true, recurses := true, apart := false, narrowed := true }
def DoubleSaysUptoSaid : Prop := doubleSaysUptoRow.holds Try.pinned (OpenSpec.upto doubleSaysSpec)

/-- 'weirtop.TopCheap', WHERE WHAT IT READS IS OF BULK AT MOST 1048576: true; the input reads as it did. -/
def topCheapUptoRow : OpenClaim := { program := "ytglkldhjffnhhaa", sum := "f721ac98f65e45d8544f2d86d677ad71d56295faa72001ae1d5109e59f4d6277", func := "weirmaster/weirtop.TopCheap", spec := "topCheap", apart := false, narrowed := true }
def TopCheapUptoSaid : Prop := topCheapUptoRow.holds Try.pinned (OpenSpec.upto topCheapSpec)

/-- 'weirlaw.BlossomSays', WHERE WHAT IT READS IS OF BULK AT MOST 1048576: true; the input reads as it did. -/
def blossomSaysUptoRow : OpenClaim := { program := "ytglkldhjffnhhaa", sum := "f721ac98f65e45d8544f2d86d677ad71d56295faa72001ae1d5109e59f4d6277", func := "weirmaster/weirlaw.BlossomSays", spec := "blossomSays", unfollowed := true, recurses := true, apart := false, narrowed := true }
def BlossomSaysUptoSaid : Prop := blossomSaysUptoRow.holds Try.pinned (OpenSpec.upto blossomSaysSpec)

/-- 'weirtop.TopTrees', WHERE WHAT IT READS IS OF BULK AT MOST 1048576: true; the input reads as it did. -/
def topTreesUptoRow : OpenClaim := { program := "ytglkldhjffnhhaa", sum := "f721ac98f65e45d8544f2d86d677ad71d56295faa72001ae1d5109e59f4d6277", func := "weirmaster/weirtop.TopTrees", spec := "topTrees", unfollowed := true, recurses := true, apart := false, narrowed := true }
def TopTreesUptoSaid : Prop := topTreesUptoRow.holds Try.pinned (OpenSpec.upto topTreesSpec)

/-- 'weirlaw.ColourSays', WHERE WHAT IT READS IS OF BULK AT MOST 1048576: true; the input reads as it did. -/
def colourSaysUptoRow : OpenClaim := { program := "ytglkldhjffnhhaa", sum := "f721ac98f65e45d8544f2d86d677ad71d56295faa72001ae1d5109e59f4d6277", func := "weirmaster/weirlaw.ColourSays", spec := "colourSays", unfollowed := true, recurses := true, apart := false, narrowed := true }
def ColourSaysUptoSaid : Prop := colourSaysUptoRow.holds Try.pinned (OpenSpec.upto colourSaysSpec)

/-- 'weirlaw.TreeSays', WHERE WHAT IT READS IS OF BULK AT MOST 1048576: true; the input reads as it did. -/
def treeSaysUptoRow : OpenClaim := { program := "ytglkldhjffnhhaa", sum := "f721ac98f65e45d8544f2d86d677ad71d56295faa72001ae1d5109e59f4d6277", func := "weirmaster/weirlaw.TreeSays", spec := "treeSays", unfollowed := true, recurses := true, apart := false, narrowed := true }
def TreeSaysUptoSaid : Prop := treeSaysUptoRow.holds Try.pinned (OpenSpec.upto treeSaysSpec)

/-- 'weirlaw.CheapSays', WHERE WHAT IT READS IS OF BULK AT MOST 1048576: true; the input reads as it did. -/
def cheapSaysUptoRow : OpenClaim := { program := "ytglkldhjffnhhaa", sum := "f721ac98f65e45d8544f2d86d677ad71d56295faa72001ae1d5109e59f4d6277", func := "weirmaster/weirlaw.CheapSays", spec := "cheapSays", unfollowed := true, recurses := true, apart := false, narrowed := true }
def CheapSaysUptoSaid : Prop := cheapSaysUptoRow.holds Try.pinned (OpenSpec.upto cheapSaysSpec)

/-- 'weirlaw.MatchSays', WHERE WHAT IT READS IS OF BULK AT MOST 1048576: true; the input reads as it did. -/
def matchSaysUptoRow : OpenClaim := { program := "ytglkldhjffnhhaa", sum := "f721ac98f65e45d8544f2d86d677ad71d56295faa72001ae1d5109e59f4d6277", func := "weirmaster/weirlaw.MatchSays", spec := "matchSays", unfollowed := true, recurses := true, apart := false, narrowed := true }
def MatchSaysUptoSaid : Prop := matchSaysUptoRow.holds Try.pinned (OpenSpec.upto matchSaysSpec)

/-- 'weirlaw.DegreeSays', WHERE WHAT IT READS IS OF BULK AT MOST 1048576: true; the input reads as it did. -/
def degreeSaysUptoRow : OpenClaim := { program := "ytglkldhjffnhhaa", sum := "f721ac98f65e45d8544f2d86d677ad71d56295faa72001ae1d5109e59f4d6277", func := "weirmaster/weirlaw.DegreeSays", spec := "degreeSays", unfollowed := true, recurses := true, apart := false, narrowed := true }
def DegreeSaysUptoSaid : Prop := degreeSaysUptoRow.holds Try.pinned (OpenSpec.upto degreeSaysSpec)

/-- 'weirlaw.SpanSays', WHERE WHAT IT READS IS OF BULK AT MOST 1048576: true; the input reads as it did. -/
def spanSaysUptoRow : OpenClaim := { program := "ytglkldhjffnhhaa", sum := "f721ac98f65e45d8544f2d86d677ad71d56295faa72001ae1d5109e59f4d6277", func := "weirmaster/weirlaw.SpanSays", spec := "spanSays", unfollowed := true, recurses := true, apart := false, narrowed := true }
def SpanSaysUptoSaid : Prop := spanSaysUptoRow.holds Try.pinned (OpenSpec.upto spanSaysSpec)

end Rows
end Go.Proofs.Ytglkldhjffnhhaa
