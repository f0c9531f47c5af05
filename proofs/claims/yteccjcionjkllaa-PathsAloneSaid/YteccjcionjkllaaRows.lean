/-
  No cell of these rows narrows 'for every input' (looked for: loops, veiled, ifaces, maps, wideKeys, modest, calm, conditions, laid).
  DERIVED. THE GIVEN ROWS OF THIS SEAT. 9 by the template 'for every input the law returns true; each argument reads behind the call as it read before'; 0 by the template 'total and deterministic' (their statements: YteccjcionjkllaaTotals.lean).
  GIVEN WITH THE SEED: the statements are not yours to turn. If you find one false, say at which input.
  Laid BY PROGRAM, IN A SANDBOX (cutbox-rows.mjs): the forced cells as the released guide's own fill.sh prints them over the translation cda25c583a6c3a0e… (all of the seat's roots in one cut). By AI agents, Wed Nov 11 2026. No macro, syntax, notation, axiom, sorry.
-/
import Derived.Test.YteccjcionjkllaaChecked
import GoSem.Claim
import GoSem.ClaimJoined
import GoSem.ClaimMapViews
import Derived.JoinedTies
import Derived.KernelRfl
namespace Go.Proofs.Yteccjcionjkllaa
/- THE CELL 'sum', in the pinned program and in every row, IS THE sha256 OF THE DUMP (.gsa) THAT YteccjcionjkllaaProg.lean LOADS. Nothing in Lean hashes anything: it is a label: what it is worth is what the hold of that sum in a sandbox is worth. -/
noncomputable def Try.pinned : Pinned := { name := "yteccjcionjkllaa", sum := "cda25c583a6c3a0e6239895b0bc1239254640c315a91f8f4f69fc2e0a6f70255", checked := Try.checked }
namespace Rows
def none {H : Type} : Left H := { results := [], args := [] }

/-- 'weirtop.TopWays': WHATEVER THE INPUT: true; the input reads as it did. -/
def topWaysSpec : ChangeSpec := { name := "topWays", fn := fun _ => fun
  | [d] => { results := [.lit (.bool true)], args := [d] }
  | _ => none }
def topWaysRow : OpenClaim := { program := "yteccjcionjkllaa", sum := "cda25c583a6c3a0e6239895b0bc1239254640c315a91f8f4f69fc2e0a6f70255", func := "weirmaster/weirtop.TopWays", spec := "topWays", unfollowed := true, recurses := true, apart := false }
def TopWaysSaid : Prop := topWaysRow.holds Try.pinned (OpenSpec.ofChange topWaysSpec)

/-- ITS FALSE NEIGHBOUR: 'it returns false'. Refute it at one input. -/
def topWaysWrong : ChangeSpec := { name := "topWays", fn := fun _ => fun
  | [d] => { results := [.lit (.bool false)], args := [d] }
  | _ => none }
def TopWaysWrongFalsely : Prop := topWaysRow.holds Try.pinned (OpenSpec.ofChange topWaysWrong)

/-- 'weirtop.TopCheap': WHATEVER THE INPUT: true; the input reads as it did. -/
def topCheapSpec : ChangeSpec := { name := "topCheap", fn := fun _ => fun
  | [d1, d2] => { results := [.lit (.bool true)], args := [d1, d2] }
  | _ => none }
def topCheapRow : OpenClaim := { program := "yteccjcionjkllaa", sum := "cda25c583a6c3a0e6239895b0bc1239254640c315a91f8f4f69fc2e0a6f70255", func := "weirmaster/weirtop.TopCheap", spec := "topCheap", apart := false }
def TopCheapSaid : Prop := topCheapRow.holds Try.pinned (OpenSpec.ofChange topCheapSpec)

/-- ITS FALSE NEIGHBOUR: 'it returns false'. Refute it at one input. -/
def topCheapWrong : ChangeSpec := { name := "topCheap", fn := fun _ => fun
  | [d1, d2] => { results := [.lit (.bool false)], args := [d1, d2] }
  | _ => none }
def TopCheapWrongFalsely : Prop := topCheapRow.holds Try.pinned (OpenSpec.ofChange topCheapWrong)

/-- 'weirtop.TopTrees': WHATEVER THE INPUT: true; the input reads as it did. -/
def topTreesSpec : ChangeSpec := { name := "topTrees", fn := fun _ => fun
  | [d1, d2, d3] => { results := [.lit (.bool true)], args := [d1, d2, d3] }
  | _ => none }
def topTreesRow : OpenClaim := { program := "yteccjcionjkllaa", sum := "cda25c583a6c3a0e6239895b0bc1239254640c315a91f8f4f69fc2e0a6f70255", func := "weirmaster/weirtop.TopTrees", spec := "topTrees", unfollowed := true, recurses := true, apart := false }
def TopTreesSaid : Prop := topTreesRow.holds Try.pinned (OpenSpec.ofChange topTreesSpec)

/-- ITS FALSE NEIGHBOUR: 'it returns false'. Refute it at one input. -/
def topTreesWrong : ChangeSpec := { name := "topTrees", fn := fun _ => fun
  | [d1, d2, d3] => { results := [.lit (.bool false)], args := [d1, d2, d3] }
  | _ => none }
def TopTreesWrongFalsely : Prop := topTreesRow.holds Try.pinned (OpenSpec.ofChange topTreesWrong)

/-- 'weirlaw.RepairSays': WHATEVER THE INPUT: true; the input reads as it did. -/
def repairSaysSpec : ChangeSpec := { name := "repairSays", fn := fun _ => fun
  | [d1, d2, d3, d4, d5, d6, d7] => { results := [.lit (.bool true)], args := [d1, d2, d3, d4, d5, d6, d7] }
  | _ => none }
def repairSaysRow : OpenClaim := { program := "yteccjcionjkllaa", sum := "cda25c583a6c3a0e6239895b0bc1239254640c315a91f8f4f69fc2e0a6f70255", func := "weirmaster/weirlaw.RepairSays", spec := "repairSays", unfollowed := true, recurses := true, apart := false }
def RepairSaysSaid : Prop := repairSaysRow.holds Try.pinned (OpenSpec.ofChange repairSaysSpec)

/-- ITS FALSE NEIGHBOUR: 'it returns false'. Refute it at one input. -/
def repairSaysWrong : ChangeSpec := { name := "repairSays", fn := fun _ => fun
  | [d1, d2, d3, d4, d5, d6, d7] => { results := [.lit (.bool false)], args := [d1, d2, d3, d4, d5, d6, d7] }
  | _ => none }
def RepairSaysWrongFalsely : Prop := repairSaysRow.holds Try.pinned (OpenSpec.ofChange repairSaysWrong)

/-- 'weirlaw.FlowSays': WHATEVER THE INPUT: true; the input reads as it did. -/
def flowSaysSpec : ChangeSpec := { name := "flowSays", fn := fun _ => fun
  | [d1, d2] => { results := [.lit (.bool true)], args := [d1, d2] }
  | _ => none }
def flowSaysRow : OpenClaim := { program := "yteccjcionjkllaa", sum := "cda25c583a6c3a0e6239895b0bc1239254640c315a91f8f4f69fc2e0a6f70255", func := "weirmaster/weirlaw.FlowSays", spec := "flowSays", unfollowed := true, recurses := true, apart := false }
def FlowSaysSaid : Prop := flowSaysRow.holds Try.pinned (OpenSpec.ofChange flowSaysSpec)

/-- ITS FALSE NEIGHBOUR: 'it returns false'. Refute it at one input. -/
def flowSaysWrong : ChangeSpec := { name := "flowSays", fn := fun _ => fun
  | [d1, d2] => { results := [.lit (.bool false)], args := [d1, d2] }
  | _ => none }
def FlowSaysWrongFalsely : Prop := flowSaysRow.holds Try.pinned (OpenSpec.ofChange flowSaysWrong)

/-- 'weirlaw.PathsSays': WHATEVER THE INPUT: true; the input reads as it did. -/
def pathsSaysSpec : ChangeSpec := { name := "pathsSays", fn := fun _ => fun
  | [d] => { results := [.lit (.bool true)], args := [d] }
  | _ => none }
def pathsSaysRow : OpenClaim := { program := "yteccjcionjkllaa", sum := "cda25c583a6c3a0e6239895b0bc1239254640c315a91f8f4f69fc2e0a6f70255", func := "weirmaster/weirlaw.PathsSays", spec := "pathsSays", unfollowed := true, recurses := true, apart := false }
def PathsSaysSaid : Prop := pathsSaysRow.holds Try.pinned (OpenSpec.ofChange pathsSaysSpec)

/-- ITS FALSE NEIGHBOUR: 'it returns false'. Refute it at one input. -/
def pathsSaysWrong : ChangeSpec := { name := "pathsSays", fn := fun _ => fun
  | [d] => { results := [.lit (.bool false)], args := [d] }
  | _ => none }
def PathsSaysWrongFalsely : Prop := pathsSaysRow.holds Try.pinned (OpenSpec.ofChange pathsSaysWrong)

/-- 'weirlaw.PathsAlone': WHATEVER THE INPUT: true; the input reads as it did. -/
def pathsAloneSpec : ChangeSpec := { name := "pathsAlone", fn := fun _ => fun
  | [d] => { results := [.lit (.bool true)], args := [d] }
  | _ => none }
def pathsAloneRow : OpenClaim := { program := "yteccjcionjkllaa", sum := "cda25c583a6c3a0e6239895b0bc1239254640c315a91f8f4f69fc2e0a6f70255", func := "weirmaster/weirlaw.PathsAlone", spec := "pathsAlone", unfollowed := true, recurses := true, apart := false }
def PathsAloneSaid : Prop := pathsAloneRow.holds Try.pinned (OpenSpec.ofChange pathsAloneSpec)

/-- ITS FALSE NEIGHBOUR: 'it returns false'. Refute it at one input. -/
def pathsAloneWrong : ChangeSpec := { name := "pathsAlone", fn := fun _ => fun
  | [d] => { results := [.lit (.bool false)], args := [d] }
  | _ => none }
def PathsAloneWrongFalsely : Prop := pathsAloneRow.holds Try.pinned (OpenSpec.ofChange pathsAloneWrong)

/-- 'weirtop.TopSame': WHATEVER THE INPUT: true; the input reads as it did. -/
def topSameSpec : ChangeSpec := { name := "topSame", fn := fun _ => fun
  | [d] => { results := [.lit (.bool true)], args := [d] }
  | _ => none }
def topSameRow : OpenClaim := { program := "yteccjcionjkllaa", sum := "cda25c583a6c3a0e6239895b0bc1239254640c315a91f8f4f69fc2e0a6f70255", func := "weirmaster/weirtop.TopSame", spec := "topSame", unfollowed := true, recurses := true, apart := false }
def TopSameSaid : Prop := topSameRow.holds Try.pinned (OpenSpec.ofChange topSameSpec)

/-- ITS FALSE NEIGHBOUR: 'it returns false'. Refute it at one input. -/
def topSameWrong : ChangeSpec := { name := "topSame", fn := fun _ => fun
  | [d] => { results := [.lit (.bool false)], args := [d] }
  | _ => none }
def TopSameWrongFalsely : Prop := topSameRow.holds Try.pinned (OpenSpec.ofChange topSameWrong)

/-- 'weirtop.TopParts': WHATEVER THE INPUT: true; the input reads as it did. -/
def topPartsSpec : ChangeSpec := { name := "topParts", fn := fun _ => fun
  | [d] => { results := [.lit (.bool true)], args := [d] }
  | _ => none }
def topPartsRow : OpenClaim := { program := "yteccjcionjkllaa", sum := "cda25c583a6c3a0e6239895b0bc1239254640c315a91f8f4f69fc2e0a6f70255", func := "weirmaster/weirtop.TopParts", spec := "topParts", unfollowed := true, recurses := true, apart := false }
def TopPartsSaid : Prop := topPartsRow.holds Try.pinned (OpenSpec.ofChange topPartsSpec)

/-- ITS FALSE NEIGHBOUR: 'it returns false'. Refute it at one input. -/
def topPartsWrong : ChangeSpec := { name := "topParts", fn := fun _ => fun
  | [d] => { results := [.lit (.bool false)], args := [d] }
  | _ => none }
def TopPartsWrongFalsely : Prop := topPartsRow.holds Try.pinned (OpenSpec.ofChange topPartsWrong)

/- THE SECOND FORM. 'bulk': how many values and letters a reading holds, each counted each time it is reached (what is shared counts as often as it is met; a slice's spare places count too). A statement '..UptoSaid' is the law's where the arguments, and the package variables that the reading takes, are together of bulk at most 1048576: NARROWER than '..Said'. Prove '..Said' where nothing that the law and all that it calls make is longer than what came in: it says more and counts as full. Else prove '..UptoSaid'. A law counts once. -/
mutual
def uptoBulk {H : Type} : DataW H → Nat
  | .lit (.string bytes) => bytes.length + 1
  | .lit _ => 1
  | .nil => 1
  | .ptr d => uptoBulk d + 1
  | .slice elems spare => uptoBulkAll elems + uptoBulkAll spare + 1
  | .agg parts => uptoBulkAll parts + 1
  | .iface _ d => uptoBulk d + 1
  | .map entries => uptoBulkEntries entries + 1
  | .held _ => 1
def uptoBulkAll {H : Type} : List (DataW H) → Nat
  | [] => 0
  | d :: r => uptoBulk d + uptoBulkAll r
def uptoBulkEntries {H : Type} : List (Lit × DataW H) → Nat
  | [] => 0
  | x :: r => uptoBulkEntry x + uptoBulkEntries r
def uptoBulkEntry {H : Type} : Lit × DataW H → Nat
  | (.string bytes, d) => bytes.length + uptoBulk d + 1
  | (_, d) => uptoBulk d + 1
 end
def uptoSmall : (H : Type) → List (DataW H) → Bool := fun _ ds => decide (uptoBulkAll ds ≤ 1048576)
def OpenSpec.upto (s : _root_.Go.ChangeSpec) : _root_.Go.OpenSpec := { _root_.Go.OpenSpec.ofChange s with cond := some uptoSmall }

/-- 'weirtop.TopWays', WHERE WHAT IT READS IS OF BULK AT MOST 1048576: true; the input reads as it did. -/
def topWaysUptoRow : OpenClaim := { program := "yteccjcionjkllaa", sum := "cda25c583a6c3a0e6239895b0bc1239254640c315a91f8f4f69fc2e0a6f70255", func := "weirmaster/weirtop.TopWays", spec := "topWays", unfollowed := true, recurses := true, apart := false, narrowed := true }
def TopWaysUptoSaid : Prop := topWaysUptoRow.holds Try.pinned (OpenSpec.upto topWaysSpec)

/-- 'weirtop.TopCheap', WHERE WHAT IT READS IS OF BULK AT MOST 1048576: true; the input reads as it did. -/
def topCheapUptoRow : OpenClaim := { program := "yteccjcionjkllaa", sum := "cda25c583a6c3a0e6239895b0bc1239254640c315a91f8f4f69fc2e0a6f70255", func := "weirmaster/weirtop.TopCheap", spec := "topCheap", apart := false, narrowed := true }
def TopCheapUptoSaid : Prop := topCheapUptoRow.holds Try.pinned (OpenSpec.upto topCheapSpec)

/-- 'weirtop.TopTrees', WHERE WHAT IT READS IS OF BULK AT MOST 1048576: true; the input reads as it did. -/
def topTreesUptoRow : OpenClaim := { program := "yteccjcionjkllaa", sum := "cda25c583a6c3a0e6239895b0bc1239254640c315a91f8f4f69fc2e0a6f70255", func := "weirmaster/weirtop.TopTrees", spec := "topTrees", unfollowed := true, recurses := true, apart := false, narrowed := true }
def TopTreesUptoSaid : Prop := topTreesUptoRow.holds Try.pinned (OpenSpec.upto topTreesSpec)

/-- 'weirlaw.RepairSays', WHERE WHAT IT READS IS OF BULK AT MOST 1048576: true; the input reads as it did. -/
def repairSaysUptoRow : OpenClaim := { program := "yteccjcionjkllaa", sum := "cda25c583a6c3a0e6239895b0bc1239254640c315a91f8f4f69fc2e0a6f70255", func := "weirmaster/weirlaw.RepairSays", spec := "repairSays", unfollowed := true, recurses := true, apart := false, narrowed := true }
def RepairSaysUptoSaid : Prop := repairSaysUptoRow.holds Try.pinned (OpenSpec.upto repairSaysSpec)

/-- 'weirlaw.FlowSays', WHERE WHAT IT READS IS OF BULK AT MOST 1048576: true; the input reads as it did. -/
def flowSaysUptoRow : OpenClaim := { program := "yteccjcionjkllaa", sum := "cda25c583a6c3a0e6239895b0bc1239254640c315a91f8f4f69fc2e0a6f70255", func := "weirmaster/weirlaw.FlowSays", spec := "flowSays", unfollowed := true, recurses := true, apart := false, narrowed := true }
def FlowSaysUptoSaid : Prop := flowSaysUptoRow.holds Try.pinned (OpenSpec.upto flowSaysSpec)

/-- 'weirlaw.PathsSays', WHERE WHAT IT READS IS OF BULK AT MOST 1048576: true; the input reads as it did. -/
def pathsSaysUptoRow : OpenClaim := { program := "yteccjcionjkllaa", sum := "cda25c583a6c3a0e6239895b0bc1239254640c315a91f8f4f69fc2e0a6f70255", func := "weirmaster/weirlaw.PathsSays", spec := "pathsSays", unfollowed := true, recurses := true, apart := false, narrowed := true }
def PathsSaysUptoSaid : Prop := pathsSaysUptoRow.holds Try.pinned (OpenSpec.upto pathsSaysSpec)

/-- 'weirlaw.PathsAlone', WHERE WHAT IT READS IS OF BULK AT MOST 1048576: true; the input reads as it did. -/
def pathsAloneUptoRow : OpenClaim := { program := "yteccjcionjkllaa", sum := "cda25c583a6c3a0e6239895b0bc1239254640c315a91f8f4f69fc2e0a6f70255", func := "weirmaster/weirlaw.PathsAlone", spec := "pathsAlone", unfollowed := true, recurses := true, apart := false, narrowed := true }
def PathsAloneUptoSaid : Prop := pathsAloneUptoRow.holds Try.pinned (OpenSpec.upto pathsAloneSpec)

/-- 'weirtop.TopSame', WHERE WHAT IT READS IS OF BULK AT MOST 1048576: true; the input reads as it did. -/
def topSameUptoRow : OpenClaim := { program := "yteccjcionjkllaa", sum := "cda25c583a6c3a0e6239895b0bc1239254640c315a91f8f4f69fc2e0a6f70255", func := "weirmaster/weirtop.TopSame", spec := "topSame", unfollowed := true, recurses := true, apart := false, narrowed := true }
def TopSameUptoSaid : Prop := topSameUptoRow.holds Try.pinned (OpenSpec.upto topSameSpec)

/-- 'weirtop.TopParts', WHERE WHAT IT READS IS OF BULK AT MOST 1048576: true; the input reads as it did. -/
def topPartsUptoRow : OpenClaim := { program := "yteccjcionjkllaa", sum := "cda25c583a6c3a0e6239895b0bc1239254640c315a91f8f4f69fc2e0a6f70255", func := "weirmaster/weirtop.TopParts", spec := "topParts", unfollowed := true, recurses := true, apart := false, narrowed := true }
def TopPartsUptoSaid : Prop := topPartsUptoRow.holds Try.pinned (OpenSpec.upto topPartsSpec)

end Rows
end Go.Proofs.Yteccjcionjkllaa
