/-
  No cell of these rows narrows 'for every input' (looked for: loops, veiled, ifaces, maps, wideKeys, modest, calm, conditions, laid).
  DERIVED. THE GIVEN ROWS OF THIS SEAT. 12 by the template 'for every input the law returns true; each argument reads behind the call as it read before'; 0 by the template 'total and deterministic' (their statements: YtoghkabjfpolbaaTotals.lean).
  GIVEN WITH THE SEED: the statements are not yours to turn. If you find one false, say at which input.
  Laid BY PROGRAM, IN A SANDBOX (cutbox-rows.mjs): the forced cells as the released guide's own fill.sh prints them over the translation 775dc67868a106aa… (all of the seat's roots in one cut). By AI agents, Wed Nov 11 2026. No macro, syntax, notation, axiom, sorry.
-/
import Derived.Test.YtoghkabjfpolbaaChecked
import GoSem.Claim
import GoSem.ClaimJoined
import GoSem.ClaimMapViews
import Derived.JoinedTies
import Derived.KernelRfl
namespace Go.Proofs.Ytoghkabjfpolbaa
/- THE CELL 'sum', in the pinned program and in every row, IS THE sha256 OF THE DUMP (.gsa) THAT YtoghkabjfpolbaaProg.lean LOADS. Nothing in Lean hashes anything: it is a label: what it is worth is what the hold of that sum in a sandbox is worth. -/
noncomputable def Try.pinned : Pinned := { name := "ytoghkabjfpolbaa", sum := "775dc67868a106aa36935024f8f869c92aa62f9831b7ec21d1881270a8d0abca", checked := Try.checked }
namespace Rows
def none {H : Type} : Left H := { results := [], args := [] }

/-- 'weirlaw.AssignSays': WHATEVER THE INPUT: true; the input reads as it did. -/
def assignSaysSpec : ChangeSpec := { name := "assignSays", fn := fun _ => fun
  | [d] => { results := [.lit (.bool true)], args := [d] }
  | _ => none }
def assignSaysRow : OpenClaim := { program := "ytoghkabjfpolbaa", sum := "775dc67868a106aa36935024f8f869c92aa62f9831b7ec21d1881270a8d0abca", func := "weirmaster/weirlaw.AssignSays", spec := "assignSays", unfollowed := true, recurses := true, apart := false }
def AssignSaysSaid : Prop := assignSaysRow.holds Try.pinned (OpenSpec.ofChange assignSaysSpec)

/-- ITS FALSE NEIGHBOUR: 'it returns false'. Refute it at one input. -/
def assignSaysWrong : ChangeSpec := { name := "assignSays", fn := fun _ => fun
  | [d] => { results := [.lit (.bool false)], args := [d] }
  | _ => none }
def AssignSaysWrongFalsely : Prop := assignSaysRow.holds Try.pinned (OpenSpec.ofChange assignSaysWrong)

/-- 'weirlaw.TreeReads': WHATEVER THE INPUT: true; the input reads as it did. -/
def treeReadsSpec : ChangeSpec := { name := "treeReads", fn := fun _ => fun
  | [d] => { results := [.lit (.bool true)], args := [d] }
  | _ => none }
def treeReadsRow : OpenClaim := { program := "ytoghkabjfpolbaa", sum := "775dc67868a106aa36935024f8f869c92aa62f9831b7ec21d1881270a8d0abca", func := "weirmaster/weirlaw.TreeReads", spec := "treeReads", unfollowed := true, recurses := true, apart := false }
def TreeReadsSaid : Prop := treeReadsRow.holds Try.pinned (OpenSpec.ofChange treeReadsSpec)

/-- ITS FALSE NEIGHBOUR: 'it returns false'. Refute it at one input. -/
def treeReadsWrong : ChangeSpec := { name := "treeReads", fn := fun _ => fun
  | [d] => { results := [.lit (.bool false)], args := [d] }
  | _ => none }
def TreeReadsWrongFalsely : Prop := treeReadsRow.holds Try.pinned (OpenSpec.ofChange treeReadsWrong)

/-- 'weirlaw.ShortSays': WHATEVER THE INPUT: true; the input reads as it did. -/
def shortSaysSpec : ChangeSpec := { name := "shortSays", fn := fun _ => fun
  | [d1, d2] => { results := [.lit (.bool true)], args := [d1, d2] }
  | _ => none }
def shortSaysRow : OpenClaim := { program := "ytoghkabjfpolbaa", sum := "775dc67868a106aa36935024f8f869c92aa62f9831b7ec21d1881270a8d0abca", func := "weirmaster/weirlaw.ShortSays", spec := "shortSays", unfollowed := true, recurses := true, apart := false }
def ShortSaysSaid : Prop := shortSaysRow.holds Try.pinned (OpenSpec.ofChange shortSaysSpec)

/-- ITS FALSE NEIGHBOUR: 'it returns false'. Refute it at one input. -/
def shortSaysWrong : ChangeSpec := { name := "shortSays", fn := fun _ => fun
  | [d1, d2] => { results := [.lit (.bool false)], args := [d1, d2] }
  | _ => none }
def ShortSaysWrongFalsely : Prop := shortSaysRow.holds Try.pinned (OpenSpec.ofChange shortSaysWrong)

/-- 'weirlaw.ColourSays': WHATEVER THE INPUT: true; the input reads as it did. -/
def colourSaysSpec : ChangeSpec := { name := "colourSays", fn := fun _ => fun
  | [d1, d2] => { results := [.lit (.bool true)], args := [d1, d2] }
  | _ => none }
def colourSaysRow : OpenClaim := { program := "ytoghkabjfpolbaa", sum := "775dc67868a106aa36935024f8f869c92aa62f9831b7ec21d1881270a8d0abca", func := "weirmaster/weirlaw.ColourSays", spec := "colourSays", unfollowed := true, recurses := true, apart := false }
def ColourSaysSaid : Prop := colourSaysRow.holds Try.pinned (OpenSpec.ofChange colourSaysSpec)

/-- ITS FALSE NEIGHBOUR: 'it returns false'. Refute it at one input. -/
def colourSaysWrong : ChangeSpec := { name := "colourSays", fn := fun _ => fun
  | [d1, d2] => { results := [.lit (.bool false)], args := [d1, d2] }
  | _ => none }
def ColourSaysWrongFalsely : Prop := colourSaysRow.holds Try.pinned (OpenSpec.ofChange colourSaysWrong)

/-- 'weirlaw.StableBoth': WHATEVER THE INPUT: true; the input reads as it did. -/
def stableBothSpec : ChangeSpec := { name := "stableBoth", fn := fun _ => fun
  | [d1, d2, d3, d4] => { results := [.lit (.bool true)], args := [d1, d2, d3, d4] }
  | _ => none }
def stableBothRow : OpenClaim := { program := "ytoghkabjfpolbaa", sum := "775dc67868a106aa36935024f8f869c92aa62f9831b7ec21d1881270a8d0abca", func := "weirmaster/weirlaw.StableBoth", spec := "stableBoth", recurses := true, apart := false }
def StableBothSaid : Prop := stableBothRow.holds Try.pinned (OpenSpec.ofChange stableBothSpec)

/-- ITS FALSE NEIGHBOUR: 'it returns false'. Refute it at one input. -/
def stableBothWrong : ChangeSpec := { name := "stableBoth", fn := fun _ => fun
  | [d1, d2, d3, d4] => { results := [.lit (.bool false)], args := [d1, d2, d3, d4] }
  | _ => none }
def StableBothWrongFalsely : Prop := stableBothRow.holds Try.pinned (OpenSpec.ofChange stableBothWrong)

/-- 'weirlaw.GaleSays': WHATEVER THE INPUT: true; the input reads as it did. -/
def galeSaysSpec : ChangeSpec := { name := "galeSays", fn := fun _ => fun
  | [d1, d2] => { results := [.lit (.bool true)], args := [d1, d2] }
  | _ => none }
def galeSaysRow : OpenClaim := { program := "ytoghkabjfpolbaa", sum := "775dc67868a106aa36935024f8f869c92aa62f9831b7ec21d1881270a8d0abca", func := "weirmaster/weirlaw.GaleSays", spec := "galeSays", unfollowed := true, recurses := true, apart := false }
def GaleSaysSaid : Prop := galeSaysRow.holds Try.pinned (OpenSpec.ofChange galeSaysSpec)

/-- ITS FALSE NEIGHBOUR: 'it returns false'. Refute it at one input. -/
def galeSaysWrong : ChangeSpec := { name := "galeSays", fn := fun _ => fun
  | [d1, d2] => { results := [.lit (.bool false)], args := [d1, d2] }
  | _ => none }
def GaleSaysWrongFalsely : Prop := galeSaysRow.holds Try.pinned (OpenSpec.ofChange galeSaysWrong)

/-- 'weirlaw.MatchSays': WHATEVER THE INPUT: true; the input reads as it did. -/
def matchSaysSpec : ChangeSpec := { name := "matchSays", fn := fun _ => fun
  | [d1, d2, d3] => { results := [.lit (.bool true)], args := [d1, d2, d3] }
  | _ => none }
def matchSaysRow : OpenClaim := { program := "ytoghkabjfpolbaa", sum := "775dc67868a106aa36935024f8f869c92aa62f9831b7ec21d1881270a8d0abca", func := "weirmaster/weirlaw.MatchSays", spec := "matchSays", unfollowed := true, recurses := true, apart := false }
def MatchSaysSaid : Prop := matchSaysRow.holds Try.pinned (OpenSpec.ofChange matchSaysSpec)

/-- ITS FALSE NEIGHBOUR: 'it returns false'. Refute it at one input. -/
def matchSaysWrong : ChangeSpec := { name := "matchSays", fn := fun _ => fun
  | [d1, d2, d3] => { results := [.lit (.bool false)], args := [d1, d2, d3] }
  | _ => none }
def MatchSaysWrongFalsely : Prop := matchSaysRow.holds Try.pinned (OpenSpec.ofChange matchSaysWrong)

/-- 'weirlaw.StableSays': WHATEVER THE INPUT: true; the input reads as it did. -/
def stableSaysSpec : ChangeSpec := { name := "stableSays", fn := fun _ => fun
  | [d1, d2, d3] => { results := [.lit (.bool true)], args := [d1, d2, d3] }
  | _ => none }
def stableSaysRow : OpenClaim := { program := "ytoghkabjfpolbaa", sum := "775dc67868a106aa36935024f8f869c92aa62f9831b7ec21d1881270a8d0abca", func := "weirmaster/weirlaw.StableSays", spec := "stableSays", recurses := true, apart := false }
def StableSaysSaid : Prop := stableSaysRow.holds Try.pinned (OpenSpec.ofChange stableSaysSpec)

/-- ITS FALSE NEIGHBOUR: 'it returns false'. Refute it at one input. -/
def stableSaysWrong : ChangeSpec := { name := "stableSays", fn := fun _ => fun
  | [d1, d2, d3] => { results := [.lit (.bool false)], args := [d1, d2, d3] }
  | _ => none }
def StableSaysWrongFalsely : Prop := stableSaysRow.holds Try.pinned (OpenSpec.ofChange stableSaysWrong)

/-- 'weirlaw.EulerSays': WHATEVER THE INPUT: true; the input reads as it did. -/
def eulerSaysSpec : ChangeSpec := { name := "eulerSays", fn := fun _ => fun
  | [d] => { results := [.lit (.bool true)], args := [d] }
  | _ => none }
def eulerSaysRow : OpenClaim := { program := "ytoghkabjfpolbaa", sum := "775dc67868a106aa36935024f8f869c92aa62f9831b7ec21d1881270a8d0abca", func := "weirmaster/weirlaw.EulerSays", spec := "eulerSays", unfollowed := true, recurses := true, apart := false }
def EulerSaysSaid : Prop := eulerSaysRow.holds Try.pinned (OpenSpec.ofChange eulerSaysSpec)

/-- ITS FALSE NEIGHBOUR: 'it returns false'. Refute it at one input. -/
def eulerSaysWrong : ChangeSpec := { name := "eulerSays", fn := fun _ => fun
  | [d] => { results := [.lit (.bool false)], args := [d] }
  | _ => none }
def EulerSaysWrongFalsely : Prop := eulerSaysRow.holds Try.pinned (OpenSpec.ofChange eulerSaysWrong)

/-- 'weirlaw.PathsSays': WHATEVER THE INPUT: true; the input reads as it did. -/
def pathsSaysSpec : ChangeSpec := { name := "pathsSays", fn := fun _ => fun
  | [d] => { results := [.lit (.bool true)], args := [d] }
  | _ => none }
def pathsSaysRow : OpenClaim := { program := "ytoghkabjfpolbaa", sum := "775dc67868a106aa36935024f8f869c92aa62f9831b7ec21d1881270a8d0abca", func := "weirmaster/weirlaw.PathsSays", spec := "pathsSays", unfollowed := true, recurses := true, apart := false }
def PathsSaysSaid : Prop := pathsSaysRow.holds Try.pinned (OpenSpec.ofChange pathsSaysSpec)

/-- ITS FALSE NEIGHBOUR: 'it returns false'. Refute it at one input. -/
def pathsSaysWrong : ChangeSpec := { name := "pathsSays", fn := fun _ => fun
  | [d] => { results := [.lit (.bool false)], args := [d] }
  | _ => none }
def PathsSaysWrongFalsely : Prop := pathsSaysRow.holds Try.pinned (OpenSpec.ofChange pathsSaysWrong)

/-- 'weirlaw.DegreeSays': WHATEVER THE INPUT: true; the input reads as it did. -/
def degreeSaysSpec : ChangeSpec := { name := "degreeSays", fn := fun _ => fun
  | [d] => { results := [.lit (.bool true)], args := [d] }
  | _ => none }
def degreeSaysRow : OpenClaim := { program := "ytoghkabjfpolbaa", sum := "775dc67868a106aa36935024f8f869c92aa62f9831b7ec21d1881270a8d0abca", func := "weirmaster/weirlaw.DegreeSays", spec := "degreeSays", unfollowed := true, recurses := true, apart := false }
def DegreeSaysSaid : Prop := degreeSaysRow.holds Try.pinned (OpenSpec.ofChange degreeSaysSpec)

/-- ITS FALSE NEIGHBOUR: 'it returns false'. Refute it at one input. -/
def degreeSaysWrong : ChangeSpec := { name := "degreeSays", fn := fun _ => fun
  | [d] => { results := [.lit (.bool false)], args := [d] }
  | _ => none }
def DegreeSaysWrongFalsely : Prop := degreeSaysRow.holds Try.pinned (OpenSpec.ofChange degreeSaysWrong)

/-- 'weirlaw.SpanSays': WHATEVER THE INPUT: true; the input reads as it did. -/
def spanSaysSpec : ChangeSpec := { name := "spanSays", fn := fun _ => fun
  | [d1, d2, d3] => { results := [.lit (.bool true)], args := [d1, d2, d3] }
  | _ => none }
def spanSaysRow : OpenClaim := { program := "ytoghkabjfpolbaa", sum := "775dc67868a106aa36935024f8f869c92aa62f9831b7ec21d1881270a8d0abca", func := "weirmaster/weirlaw.SpanSays", spec := "spanSays", unfollowed := true, recurses := true, apart := false }
def SpanSaysSaid : Prop := spanSaysRow.holds Try.pinned (OpenSpec.ofChange spanSaysSpec)

/-- ITS FALSE NEIGHBOUR: 'it returns false'. Refute it at one input. -/
def spanSaysWrong : ChangeSpec := { name := "spanSays", fn := fun _ => fun
  | [d1, d2, d3] => { results := [.lit (.bool false)], args := [d1, d2, d3] }
  | _ => none }
def SpanSaysWrongFalsely : Prop := spanSaysRow.holds Try.pinned (OpenSpec.ofChange spanSaysWrong)

/- THE SECOND FORM. 'bulk': how many values and letters a reading holds, each counted each time it is reached (what is shared counts as often as it is met; a slice's spare places count too). A statement '..UptoSaid' is the law's where the arguments, and the package variables that the reading takes, are together of bulk at most 1048576: NARROWER than '..Said'. Prove '..Said' where nothing that the law and all that it calls make is longer than what came in: it says more and counts as full. Else prove '..UptoSaid'. A law counts once. -/
mutual
def uptoBulk {H : Type} : DataW H → Nat
  | .lit (.string bytes) => bytes.length + 1
  | .lit _ => 1
  | .nil => 1
  | .ptr d => uptoBulk d + 1
  | .slice elems spare => uptoBulkAll elems + uptoBulkAll spare + 1
  | .agg parts => uptoBulkAll parts + 1
  | .iface _ d => uptoBulk d + 1
  | .map entries => uptoBulkEntries entries + 1
  | .held _ => 1
def uptoBulkAll {H : Type} : List (DataW H) → Nat
  | [] => 0
  | d :: r => uptoBulk d + uptoBulkAll r
def uptoBulkEntries {H : Type} : List (Lit × DataW H) → Nat
  | [] => 0
  | x :: r => uptoBulkEntry x + uptoBulkEntries r
def uptoBulkEntry {H : Type} : Lit × DataW H → Nat
  | (.string bytes, d) => bytes.length + uptoBulk d + 1
  | (_, d) => uptoBulk d + 1
 end
def uptoSmall : (H : Type) → List (DataW H) → Bool := fun _ ds => decide (uptoBulkAll ds ≤ 1048576)
def OpenSpec.upto (s : _root_.Go.ChangeSpec) : _root_.Go.OpenSpec := { _root_.Go.OpenSpec.ofChange s with cond := some uptoSmall }

/-- 'weirlaw.AssignSays', WHERE WHAT IT READS IS OF BULK AT MOST 1048576: true; the input reads as it did. -/
def assignSaysUptoRow : OpenClaim := { program := "ytoghkabjfpolbaa", sum := "775dc67868a106aa36935024f8f869c92aa62f9831b7ec21d1881270a8d0abca", func := "weirmaster/weirlaw.AssignSays", spec := "assignSays", unfollowed := true, recurses := true, apart := false, narrowed := true }
def AssignSaysUptoSaid : Prop := assignSaysUptoRow.holds Try.pinned (OpenSpec.upto assignSaysSpec)

/-- 'weirlaw.TreeReads', WHERE WHAT IT READS IS OF BULK AT MOST 1048576: true; the input reads as it did. -/
def treeReadsUptoRow : OpenClaim := { program := "ytoghkabjfpolbaa", sum := "775dc67868a106aa36935024f8f869c92aa62f9831b7ec21d1881270a8d0abca", func := "weirmaster/weirlaw.TreeReads", spec := "treeReads", unfollowed := true, recurses := true, apart := false, narrowed := true }
def TreeReadsUptoSaid : Prop := treeReadsUptoRow.holds Try.pinned (OpenSpec.upto treeReadsSpec)

/-- 'weirlaw.ShortSays', WHERE WHAT IT READS IS OF BULK AT MOST 1048576: true; the input reads as it did. -/
def shortSaysUptoRow : OpenClaim := { program := "ytoghkabjfpolbaa", sum := "775dc67868a106aa36935024f8f869c92aa62f9831b7ec21d1881270a8d0abca", func := "weirmaster/weirlaw.ShortSays", spec := "shortSays", unfollowed := true, recurses := true, apart := false, narrowed := true }
def ShortSaysUptoSaid : Prop := shortSaysUptoRow.holds Try.pinned (OpenSpec.upto shortSaysSpec)

/-- 'weirlaw.ColourSays', WHERE WHAT IT READS IS OF BULK AT MOST 1048576: true; the input reads as it did. -/
def colourSaysUptoRow : OpenClaim := { program := "ytoghkabjfpolbaa", sum := "775dc67868a106aa36935024f8f869c92aa62f9831b7ec21d1881270a8d0abca", func := "weirmaster/weirlaw.ColourSays", spec := "colourSays", unfollowed := true, recurses := true, apart := false, narrowed := true }
def ColourSaysUptoSaid : Prop := colourSaysUptoRow.holds Try.pinned (OpenSpec.upto colourSaysSpec)

/-- 'weirlaw.StableBoth', WHERE WHAT IT READS IS OF BULK AT MOST 1048576: true; the input reads as it did. -/
def stableBothUptoRow : OpenClaim := { program := "ytoghkabjfpolbaa", sum := "775dc67868a106aa36935024f8f869c92aa62f9831b7ec21d1881270a8d0abca", func := "weirmaster/weirlaw.StableBoth", spec := "stableBoth", recurses := true, apart := false, narrowed := true }
def StableBothUptoSaid : Prop := stableBothUptoRow.holds Try.pinned (OpenSpec.upto stableBothSpec)

/-- 'weirlaw.GaleSays', WHERE WHAT IT READS IS OF BULK AT MOST 1048576: true; the input reads as it did. -/
def galeSaysUptoRow : OpenClaim := { program := "ytoghkabjfpolbaa", sum := "775dc67868a106aa36935024f8f869c92aa62f9831b7ec21d1881270a8d0abca", func := "weirmaster/weirlaw.GaleSays", spec := "galeSays", unfollowed := true, recurses := true, apart := false, narrowed := true }
def GaleSaysUptoSaid : Prop := galeSaysUptoRow.holds Try.pinned (OpenSpec.upto galeSaysSpec)

/-- 'weirlaw.MatchSays', WHERE WHAT IT READS IS OF BULK AT MOST 1048576: true; the input reads as it did. -/
def matchSaysUptoRow : OpenClaim := { program := "ytoghkabjfpolbaa", sum := "775dc67868a106aa36935024f8f869c92aa62f9831b7ec21d1881270a8d0abca", func := "weirmaster/weirlaw.MatchSays", spec := "matchSays", unfollowed := true, recurses := true, apart := false, narrowed := true }
def MatchSaysUptoSaid : Prop := matchSaysUptoRow.holds Try.pinned (OpenSpec.upto matchSaysSpec)

/-- 'weirlaw.StableSays', WHERE WHAT IT READS IS OF BULK AT MOST 1048576: true; the input reads as it did. -/
def stableSaysUptoRow : OpenClaim := { program := "ytoghkabjfpolbaa", sum := "775dc67868a106aa36935024f8f869c92aa62f9831b7ec21d1881270a8d0abca", func := "weirmaster/weirlaw.StableSays", spec := "stableSays", recurses := true, apart := false, narrowed := true }
def StableSaysUptoSaid : Prop := stableSaysUptoRow.holds Try.pinned (OpenSpec.upto stableSaysSpec)

/-- 'weirlaw.EulerSays', WHERE WHAT IT READS IS OF BULK AT MOST 1048576: true; the input reads as it did. -/
def eulerSaysUptoRow : OpenClaim := { program := "ytoghkabjfpolbaa", sum := "775dc67868a106aa36935024f8f869c92aa62f9831b7ec21d1881270a8d0abca", func := "weirmaster/weirlaw.EulerSays", spec := "eulerSays", unfollowed := true, recurses := true, apart := false, narrowed := true }
def EulerSaysUptoSaid : Prop := eulerSaysUptoRow.holds Try.pinned (OpenSpec.upto eulerSaysSpec)

/-- 'weirlaw.PathsSays', WHERE WHAT IT READS IS OF BULK AT MOST 1048576: true; the input reads as it did. -/
def pathsSaysUptoRow : OpenClaim := { program := "ytoghkabjfpolbaa", sum := "775dc67868a106aa36935024f8f869c92aa62f9831b7ec21d1881270a8d0abca", func := "weirmaster/weirlaw.PathsSays", spec := "pathsSays", unfollowed := true, recurses := true, apart := false, narrowed := true }
def PathsSaysUptoSaid : Prop := pathsSaysUptoRow.holds Try.pinned (OpenSpec.upto pathsSaysSpec)

/-- 'weirlaw.DegreeSays', WHERE WHAT IT READS IS OF BULK AT MOST 1048576: true; the input reads as it did. -/
def degreeSaysUptoRow : OpenClaim := { program := "ytoghkabjfpolbaa", sum := "775dc67868a106aa36935024f8f869c92aa62f9831b7ec21d1881270a8d0abca", func := "weirmaster/weirlaw.DegreeSays", spec := "degreeSays", unfollowed := true, recurses := true, apart := false, narrowed := true }
def DegreeSaysUptoSaid : Prop := degreeSaysUptoRow.holds Try.pinned (OpenSpec.upto degreeSaysSpec)

/-- 'weirlaw.SpanSays', WHERE WHAT IT READS IS OF BULK AT MOST 1048576: true; the input reads as it did. -/
def spanSaysUptoRow : OpenClaim := { program := "ytoghkabjfpolbaa", sum := "775dc67868a106aa36935024f8f869c92aa62f9831b7ec21d1881270a8d0abca", func := "weirmaster/weirlaw.SpanSays", spec := "spanSays", unfollowed := true, recurses := true, apart := false, narrowed := true }
def SpanSaysUptoSaid : Prop := spanSaysUptoRow.holds Try.pinned (OpenSpec.upto spanSaysSpec)

end Rows
end Go.Proofs.Ytoghkabjfpolbaa
