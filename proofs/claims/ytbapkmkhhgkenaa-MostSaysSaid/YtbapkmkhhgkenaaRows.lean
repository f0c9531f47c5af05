/-
  No cell of these rows narrows 'for every input' (looked for: loops, veiled, ifaces, maps, wideKeys, modest, calm, conditions, laid).
  DERIVED. THE GIVEN ROWS OF THIS SEAT. 12 by the template 'for every input the law returns true; each argument reads behind the call as it read before'; 0 by the template 'total and deterministic' (their statements: YtbapkmkhhgkenaaTotals.lean).
  GIVEN WITH THE SEED: the statements are not yours to turn. If you find one false, say at which input.
  Laid BY PROGRAM, IN A SANDBOX (cutbox-rows.mjs): the forced cells as the released guide's own fill.sh prints them over the translation ddf3216123743956… (all of the seat's roots in one cut). By AI agents, Wed Nov 11 2026. No macro, syntax, notation, axiom, sorry.
-/
import Derived.Test.YtbapkmkhhgkenaaChecked
import GoSem.Claim
import GoSem.ClaimJoined
import GoSem.ClaimMapViews
import Derived.JoinedTies
import Derived.KernelRfl
namespace Go.Proofs.Ytbapkmkhhgkenaa
/- THE CELL 'sum', in the pinned program and in every row, IS THE sha256 OF THE DUMP (.gsa) THAT YtbapkmkhhgkenaaProg.lean LOADS. Nothing in Lean hashes anything: it is a label: what it is worth is what the hold of that sum in a sandbox is worth. -/
noncomputable def Try.pinned : Pinned := { name := "ytbapkmkhhgkenaa", sum := "ddf32161237439560de7f26451d7a9473aedf84db3e428ab5a5e4dcecf6aa225", checked := Try.checked }
namespace Rows
def none {H : Type} : Left H := { results := [], args := [] }

/-- 'weirlaw.Names': WHATEVER THE INPUT: true; the input reads as it did. -/
def namesSpec : ChangeSpec := { name := "names", fn := fun _ => fun
  | [] => { results := [.lit (.bool true)], args := [] }
  | _ => none }
def namesRow : OpenClaim := { program := "ytbapkmkhhgkenaa", sum := "ddf32161237439560de7f26451d7a9473aedf84db3e428ab5a5e4dcecf6aa225", func := "weirmaster/weirlaw.Names", spec := "names", apart := false }
def NamesSaid : Prop := namesRow.holds Try.pinned (OpenSpec.ofChange namesSpec)

/-- ITS FALSE NEIGHBOUR: 'it returns false'. Refute it at one input. -/
def namesWrong : ChangeSpec := { name := "names", fn := fun _ => fun
  | [] => { results := [.lit (.bool false)], args := [] }
  | _ => none }
def NamesWrongFalsely : Prop := namesRow.holds Try.pinned (OpenSpec.ofChange namesWrong)

/-- 'weirlaw.PairsOn': WHATEVER THE INPUT: true; the input reads as it did. -/
def pairsOnSpec : ChangeSpec := { name := "pairsOn", fn := fun _ => fun
  | [d1, d2, d3, d4] => { results := [.lit (.bool true)], args := [d1, d2, d3, d4] }
  | _ => none }
def pairsOnRow : OpenClaim := { program := "ytbapkmkhhgkenaa", sum := "ddf32161237439560de7f26451d7a9473aedf84db3e428ab5a5e4dcecf6aa225", func := "weirmaster/weirlaw.PairsOn", spec := "pairsOn", apart := false }
def PairsOnSaid : Prop := pairsOnRow.holds Try.pinned (OpenSpec.ofChange pairsOnSpec)

/-- ITS FALSE NEIGHBOUR: 'it returns false'. Refute it at one input. -/
def pairsOnWrong : ChangeSpec := { name := "pairsOn", fn := fun _ => fun
  | [d1, d2, d3, d4] => { results := [.lit (.bool false)], args := [d1, d2, d3, d4] }
  | _ => none }
def PairsOnWrongFalsely : Prop := pairsOnRow.holds Try.pinned (OpenSpec.ofChange pairsOnWrong)

/-- 'weirlaw.PushNews': WHATEVER THE INPUT: true; the input reads as it did. -/
def pushNewsSpec : ChangeSpec := { name := "pushNews", fn := fun _ => fun
  | [d] => { results := [.lit (.bool true)], args := [d] }
  | _ => none }
def pushNewsRow : OpenClaim := { program := "ytbapkmkhhgkenaa", sum := "ddf32161237439560de7f26451d7a9473aedf84db3e428ab5a5e4dcecf6aa225", func := "weirmaster/weirlaw.PushNews", spec := "pushNews", apart := false }
def PushNewsSaid : Prop := pushNewsRow.holds Try.pinned (OpenSpec.ofChange pushNewsSpec)

/-- ITS FALSE NEIGHBOUR: 'it returns false'. Refute it at one input. -/
def pushNewsWrong : ChangeSpec := { name := "pushNews", fn := fun _ => fun
  | [d] => { results := [.lit (.bool false)], args := [d] }
  | _ => none }
def PushNewsWrongFalsely : Prop := pushNewsRow.holds Try.pinned (OpenSpec.ofChange pushNewsWrong)

/-- 'weirlaw.TreeDet': WHATEVER THE INPUT: true; the input reads as it did. -/
def treeDetSpec : ChangeSpec := { name := "treeDet", fn := fun _ => fun
  | [d] => { results := [.lit (.bool true)], args := [d] }
  | _ => none }
def treeDetRow : OpenClaim := { program := "ytbapkmkhhgkenaa", sum := "ddf32161237439560de7f26451d7a9473aedf84db3e428ab5a5e4dcecf6aa225", func := "weirmaster/weirlaw.TreeDet", spec := "treeDet", unfollowed := true, recurses := true, apart := false }
def TreeDetSaid : Prop := treeDetRow.holds Try.pinned (OpenSpec.ofChange treeDetSpec)

/-- ITS FALSE NEIGHBOUR: 'it returns false'. Refute it at one input. -/
def treeDetWrong : ChangeSpec := { name := "treeDet", fn := fun _ => fun
  | [d] => { results := [.lit (.bool false)], args := [d] }
  | _ => none }
def TreeDetWrongFalsely : Prop := treeDetRow.holds Try.pinned (OpenSpec.ofChange treeDetWrong)

/-- 'weirlaw.LevelSays': WHATEVER THE INPUT: true; the input reads as it did. -/
def levelSaysSpec : ChangeSpec := { name := "levelSays", fn := fun _ => fun
  | [d] => { results := [.lit (.bool true)], args := [d] }
  | _ => none }
def levelSaysRow : OpenClaim := { program := "ytbapkmkhhgkenaa", sum := "ddf32161237439560de7f26451d7a9473aedf84db3e428ab5a5e4dcecf6aa225", func := "weirmaster/weirlaw.LevelSays", spec := "levelSays", recurses := true, apart := false }
def LevelSaysSaid : Prop := levelSaysRow.holds Try.pinned (OpenSpec.ofChange levelSaysSpec)

/-- ITS FALSE NEIGHBOUR: 'it returns false'. Refute it at one input. -/
def levelSaysWrong : ChangeSpec := { name := "levelSays", fn := fun _ => fun
  | [d] => { results := [.lit (.bool false)], args := [d] }
  | _ => none }
def LevelSaysWrongFalsely : Prop := levelSaysRow.holds Try.pinned (OpenSpec.ofChange levelSaysWrong)

/-- 'weirlaw.LeastSays': WHATEVER THE INPUT: true; the input reads as it did. -/
def leastSaysSpec : ChangeSpec := { name := "leastSays", fn := fun _ => fun
  | [d] => { results := [.lit (.bool true)], args := [d] }
  | _ => none }
def leastSaysRow : OpenClaim := { program := "ytbapkmkhhgkenaa", sum := "ddf32161237439560de7f26451d7a9473aedf84db3e428ab5a5e4dcecf6aa225", func := "weirmaster/weirlaw.LeastSays", spec := "leastSays", apart := false }
def LeastSaysSaid : Prop := leastSaysRow.holds Try.pinned (OpenSpec.ofChange leastSaysSpec)

/-- ITS FALSE NEIGHBOUR: 'it returns false'. Refute it at one input. -/
def leastSaysWrong : ChangeSpec := { name := "leastSays", fn := fun _ => fun
  | [d] => { results := [.lit (.bool false)], args := [d] }
  | _ => none }
def LeastSaysWrongFalsely : Prop := leastSaysRow.holds Try.pinned (OpenSpec.ofChange leastSaysWrong)

/-- 'weirlaw.GraphSays': WHATEVER THE INPUT: true; the input reads as it did. -/
def graphSaysSpec : ChangeSpec := { name := "graphSays", fn := fun _ => fun
  | [d1, d2, d3] => { results := [.lit (.bool true)], args := [d1, d2, d3] }
  | _ => none }
def graphSaysRow : OpenClaim := { program := "ytbapkmkhhgkenaa", sum := "ddf32161237439560de7f26451d7a9473aedf84db3e428ab5a5e4dcecf6aa225", func := "weirmaster/weirlaw.GraphSays", spec := "graphSays", apart := false }
def GraphSaysSaid : Prop := graphSaysRow.holds Try.pinned (OpenSpec.ofChange graphSaysSpec)

/-- ITS FALSE NEIGHBOUR: 'it returns false'. Refute it at one input. -/
def graphSaysWrong : ChangeSpec := { name := "graphSays", fn := fun _ => fun
  | [d1, d2, d3] => { results := [.lit (.bool false)], args := [d1, d2, d3] }
  | _ => none }
def GraphSaysWrongFalsely : Prop := graphSaysRow.holds Try.pinned (OpenSpec.ofChange graphSaysWrong)

/-- 'weirlaw.AssignSays': WHATEVER THE INPUT: true; the input reads as it did. -/
def assignSaysSpec : ChangeSpec := { name := "assignSays", fn := fun _ => fun
  | [d] => { results := [.lit (.bool true)], args := [d] }
  | _ => none }
def assignSaysRow : OpenClaim := { program := "ytbapkmkhhgkenaa", sum := "ddf32161237439560de7f26451d7a9473aedf84db3e428ab5a5e4dcecf6aa225", func := "weirmaster/weirlaw.AssignSays", spec := "assignSays", unfollowed := true, recurses := true, apart := false }
def AssignSaysSaid : Prop := assignSaysRow.holds Try.pinned (OpenSpec.ofChange assignSaysSpec)

/-- ITS FALSE NEIGHBOUR: 'it returns false'. Refute it at one input. -/
def assignSaysWrong : ChangeSpec := { name := "assignSays", fn := fun _ => fun
  | [d] => { results := [.lit (.bool false)], args := [d] }
  | _ => none }
def AssignSaysWrongFalsely : Prop := assignSaysRow.holds Try.pinned (OpenSpec.ofChange assignSaysWrong)

/-- 'weirlaw.TreeReads': WHATEVER THE INPUT: true; the input reads as it did. -/
def treeReadsSpec : ChangeSpec := { name := "treeReads", fn := fun _ => fun
  | [d] => { results := [.lit (.bool true)], args := [d] }
  | _ => none }
def treeReadsRow : OpenClaim := { program := "ytbapkmkhhgkenaa", sum := "ddf32161237439560de7f26451d7a9473aedf84db3e428ab5a5e4dcecf6aa225", func := "weirmaster/weirlaw.TreeReads", spec := "treeReads", unfollowed := true, recurses := true, apart := false }
def TreeReadsSaid : Prop := treeReadsRow.holds Try.pinned (OpenSpec.ofChange treeReadsSpec)

/-- ITS FALSE NEIGHBOUR: 'it returns false'. Refute it at one input. -/
def treeReadsWrong : ChangeSpec := { name := "treeReads", fn := fun _ => fun
  | [d] => { results := [.lit (.bool false)], args := [d] }
  | _ => none }
def TreeReadsWrongFalsely : Prop := treeReadsRow.holds Try.pinned (OpenSpec.ofChange treeReadsWrong)

/-- 'weirlaw.MostSays': WHATEVER THE INPUT: true; the input reads as it did. -/
def mostSaysSpec : ChangeSpec := { name := "mostSays", fn := fun _ => fun
  | [d1, d2] => { results := [.lit (.bool true)], args := [d1, d2] }
  | _ => none }
def mostSaysRow : OpenClaim := { program := "ytbapkmkhhgkenaa", sum := "ddf32161237439560de7f26451d7a9473aedf84db3e428ab5a5e4dcecf6aa225", func := "weirmaster/weirlaw.MostSays", spec := "mostSays", apart := false }
def MostSaysSaid : Prop := mostSaysRow.holds Try.pinned (OpenSpec.ofChange mostSaysSpec)

/-- ITS FALSE NEIGHBOUR: 'it returns false'. Refute it at one input. -/
def mostSaysWrong : ChangeSpec := { name := "mostSays", fn := fun _ => fun
  | [d1, d2] => { results := [.lit (.bool false)], args := [d1, d2] }
  | _ => none }
def MostSaysWrongFalsely : Prop := mostSaysRow.holds Try.pinned (OpenSpec.ofChange mostSaysWrong)

/-- 'weirlaw.ShortSays': WHATEVER THE INPUT: true; the input reads as it did. -/
def shortSaysSpec : ChangeSpec := { name := "shortSays", fn := fun _ => fun
  | [d1, d2] => { results := [.lit (.bool true)], args := [d1, d2] }
  | _ => none }
def shortSaysRow : OpenClaim := { program := "ytbapkmkhhgkenaa", sum := "ddf32161237439560de7f26451d7a9473aedf84db3e428ab5a5e4dcecf6aa225", func := "weirmaster/weirlaw.ShortSays", spec := "shortSays", unfollowed := true, recurses := true, apart := false }
def ShortSaysSaid : Prop := shortSaysRow.holds Try.pinned (OpenSpec.ofChange shortSaysSpec)

/-- ITS FALSE NEIGHBOUR: 'it returns false'. Refute it at one input. -/
def shortSaysWrong : ChangeSpec := { name := "shortSays", fn := fun _ => fun
  | [d1, d2] => { results := [.lit (.bool false)], args := [d1, d2] }
  | _ => none }
def ShortSaysWrongFalsely : Prop := shortSaysRow.holds Try.pinned (OpenSpec.ofChange shortSaysWrong)

/-- 'weirtop.TopWays': WHATEVER THE INPUT: true; the input reads as it did. -/
def topWaysSpec : ChangeSpec := { name := "topWays", fn := fun _ => fun
  | [d] => { results := [.lit (.bool true)], args := [d] }
  | _ => none }
def topWaysRow : OpenClaim := { program := "ytbapkmkhhgkenaa", sum := "ddf32161237439560de7f26451d7a9473aedf84db3e428ab5a5e4dcecf6aa225", func := "weirmaster/weirtop.TopWays", spec := "topWays", unfollowed := true, recurses := true, apart := false }
def TopWaysSaid : Prop := topWaysRow.holds Try.pinned (OpenSpec.ofChange topWaysSpec)

/-- ITS FALSE NEIGHBOUR: 'it returns false'. Refute it at one input. -/
def topWaysWrong : ChangeSpec := { name := "topWays", fn := fun _ => fun
  | [d] => { results := [.lit (.bool false)], args := [d] }
  | _ => none }
def TopWaysWrongFalsely : Prop := topWaysRow.holds Try.pinned (OpenSpec.ofChange topWaysWrong)

/- THE SECOND FORM. 'bulk': how many values and letters a reading holds, each counted each time it is reached (what is shared counts as often as it is met; a slice's spare places count too). A statement '..UptoSaid' is the law's where the arguments, and the package variables that the reading takes, are together of bulk at most 1048576: NARROWER than '..Said'. Prove '..Said' where nothing that the law and all that it calls make is longer than what came in: it says more and counts as full. Else prove '..UptoSaid'. A law counts once. -/
mutual
def uptoBulk {H : Type} : DataW H → Nat
  | .lit (.string bytes) => bytes.length + 1
  | .lit _ => 1
  | .nil => 1
  | .ptr d => uptoBulk d + 1
  | .slice elems spare => uptoBulkAll elems + uptoBulkAll spare + 1
  | .agg parts => uptoBulkAll parts + 1
  | .iface _ d => uptoBulk d + 1
  | .map entries => uptoBulkEntries entries + 1
  | .held _ => 1
def uptoBulkAll {H : Type} : List (DataW H) → Nat
  | [] => 0
  | d :: r => uptoBulk d + uptoBulkAll r
def uptoBulkEntries {H : Type} : List (Lit × DataW H) → Nat
  | [] => 0
  | x :: r => uptoBulkEntry x + uptoBulkEntries r
def uptoBulkEntry {H : Type} : Lit × DataW H → Nat
  | (.string bytes, d) => bytes.length + uptoBulk d + 1
  | (_, d) => uptoBulk d + 1
 end
def uptoSmall : (H : Type) → List (DataW H) → Bool := fun _ ds => decide (uptoBulkAll ds ≤ 1048576)
def OpenSpec.upto (s : _root_.Go.ChangeSpec) : _root_.Go.OpenSpec := { _root_.Go.OpenSpec.ofChange s with cond := some uptoSmall }

/-- 'weirlaw.Names', WHERE WHAT IT READS IS OF BULK AT MOST 1048576: true; the input reads as it did. -/
def namesUptoRow : OpenClaim := { program := "ytbapkmkhhgkenaa", sum := "ddf32161237439560de7f26451d7a9473aedf84db3e428ab5a5e4dcecf6aa225", func := "weirmaster/weirlaw.Names", spec := "names", apart := false, narrowed := true }
def NamesUptoSaid : Prop := namesUptoRow.holds Try.pinned (OpenSpec.upto namesSpec)

/-- 'weirlaw.PairsOn', WHERE WHAT IT READS IS OF BULK AT MOST 1048576: true; the input reads as it did. -/
def pairsOnUptoRow : OpenClaim := { program := "ytbapkmkhhgkenaa", sum := "ddf32161237439560de7f26451d7a9473aedf84db3e428ab5a5e4dcecf6aa225", func := "weirmaster/weirlaw.PairsOn", spec := "pairsOn", apart := false, narrowed := true }
def PairsOnUptoSaid : Prop := pairsOnUptoRow.holds Try.pinned (OpenSpec.upto pairsOnSpec)

/-- 'weirlaw.PushNews', WHERE WHAT IT READS IS OF BULK AT MOST 1048576: true; the input reads as it did. -/
def pushNewsUptoRow : OpenClaim := { program := "ytbapkmkhhgkenaa", sum := "ddf32161237439560de7f26451d7a9473aedf84db3e428ab5a5e4dcecf6aa225", func := "weirmaster/weirlaw.PushNews", spec := "pushNews", apart := false, narrowed := true }
def PushNewsUptoSaid : Prop := pushNewsUptoRow.holds Try.pinned (OpenSpec.upto pushNewsSpec)

/-- 'weirlaw.TreeDet', WHERE WHAT IT READS IS OF BULK AT MOST 1048576: true; the input reads as it did. -/
def treeDetUptoRow : OpenClaim := { program := "ytbapkmkhhgkenaa", sum := "ddf32161237439560de7f26451d7a9473aedf84db3e428ab5a5e4dcecf6aa225", func := "weirmaster/weirlaw.TreeDet", spec := "treeDet", unfollowed := true, recurses := true, apart := false, narrowed := true }
def TreeDetUptoSaid : Prop := treeDetUptoRow.holds Try.pinned (OpenSpec.upto treeDetSpec)

/-- 'weirlaw.LevelSays', WHERE WHAT IT READS IS OF BULK AT MOST 1048576: true; the input reads as it did. -/
def levelSaysUptoRow : OpenClaim := { program := "ytbapkmkhhgkenaa", sum := "ddf32161237439560de7f26451d7a9473aedf84db3e428ab5a5e4dcecf6aa225", func := "weirmaster/weirlaw.LevelSays", spec := "levelSays", recurses := true, apart := false, narrowed := true }
def LevelSaysUptoSaid : Prop := levelSaysUptoRow.holds Try.pinned (OpenSpec.upto levelSaysSpec)

/-- 'weirlaw.LeastSays', WHERE WHAT IT READS IS OF BULK AT MOST 1048576: true; the input reads as it did. -/
def leastSaysUptoRow : OpenClaim := { program := "ytbapkmkhhgkenaa", sum := "ddf32161237439560de7f26451d7a9473aedf84db3e428ab5a5e4dcecf6aa225", func := "weirmaster/weirlaw.LeastSays", spec := "leastSays", apart := false, narrowed := true }
def LeastSaysUptoSaid : Prop := leastSaysUptoRow.holds Try.pinned (OpenSpec.upto leastSaysSpec)

/-- 'weirlaw.GraphSays', WHERE WHAT IT READS IS OF BULK AT MOST 1048576: true; the input reads as it did. -/
def graphSaysUptoRow : OpenClaim := { program := "ytbapkmkhhgkenaa", sum := "ddf32161237439560de7f26451d7a9473aedf84db3e428ab5a5e4dcecf6aa225", func := "weirmaster/weirlaw.GraphSays", spec := "graphSays", apart := false, narrowed := true }
def GraphSaysUptoSaid : Prop := graphSaysUptoRow.holds Try.pinned (OpenSpec.upto graphSaysSpec)

/-- 'weirlaw.AssignSays', WHERE WHAT IT READS IS OF BULK AT MOST 1048576: true; the input reads as it did. -/
def assignSaysUptoRow : OpenClaim := { program := "ytbapkmkhhgkenaa", sum := "ddf32161237439560de7f26451d7a9473aedf84db3e428ab5a5e4dcecf6aa225", func := "weirmaster/weirlaw.AssignSays", spec := "assignSays", unfollowed := true, recurses := true, apart := false, narrowed := true }
def AssignSaysUptoSaid : Prop := assignSaysUptoRow.holds Try.pinned (OpenSpec.upto assignSaysSpec)

/-- 'weirlaw.TreeReads', WHERE WHAT IT READS IS OF BULK AT MOST 1048576: true; the input reads as it did. -/
def treeReadsUptoRow : OpenClaim := { program := "ytbapkmkhhgkenaa", sum := "ddf32161237439560de7f26451d7a9473aedf84db3e428ab5a5e4dcecf6aa225", func := "weirmaster/weirlaw.TreeReads", spec := "treeReads", unfollowed := true, recurses := true, apart := false, narrowed := true }
def TreeReadsUptoSaid : Prop := treeReadsUptoRow.holds Try.pinned (OpenSpec.upto treeReadsSpec)

/-- 'weirlaw.MostSays', WHERE WHAT IT READS IS OF BULK AT MOST 1048576: true; the input reads as it did. -/
def mostSaysUptoRow : OpenClaim := { program := "ytbapkmkhhgkenaa", sum := "ddf32161237439560de7f26451d7a9473aedf84db3e428ab5a5e4dcecf6aa225", func := "weirmaster/weirlaw.MostSays", spec := "mostSays", apart := false, narrowed := true }
def MostSaysUptoSaid : Prop := mostSaysUptoRow.holds Try.pinned (OpenSpec.upto mostSaysSpec)

/-- 'weirlaw.ShortSays', WHERE WHAT IT READS IS OF BULK AT MOST 1048576: true; the input reads as it did. -/
def shortSaysUptoRow : OpenClaim := { program := "ytbapkmkhhgkenaa", sum := "ddf32161237439560de7f26451d7a9473aedf84db3e428ab5a5e4dcecf6aa225", func := "weirmaster/weirlaw.ShortSays", spec := "shortSays", unfollowed := true, recurses := true, apart := false, narrowed := true }
def ShortSaysUptoSaid : Prop := shortSaysUptoRow.holds Try.pinned (OpenSpec.upto shortSaysSpec)

/-- 'weirtop.TopWays', WHERE WHAT IT READS IS OF BULK AT MOST 1048576: true; the input reads as it did. -/
def topWaysUptoRow : OpenClaim := { program := "ytbapkmkhhgkenaa", sum := "ddf32161237439560de7f26451d7a9473aedf84db3e428ab5a5e4dcecf6aa225", func := "weirmaster/weirtop.TopWays", spec := "topWays", unfollowed := true, recurses := true, apart := false, narrowed := true }
def TopWaysUptoSaid : Prop := topWaysUptoRow.holds Try.pinned (OpenSpec.upto topWaysSpec)

end Rows
end Go.Proofs.Ytbapkmkhhgkenaa
