/- The abstract machine: a region that draws its order: where there is a choice of two, each is taken by itself. -/
import Derived.Test.YtcmaffldmodacaaAbC
namespace Go.Ab
open Go
section
variable {P : Program} {T : Nat → Option TI} {K : Post} {s : St}
structure ATake (P : Program) (l : List Oper) (K : Post) (n : Nat) (listed : Array Bool) (k : Nat) (s : St) : Prop where
  run : ∀ (M0 M : Mem) (a : Act), Ext big M0 M → Rel M s a → wpOp P l.toArray (QN (Qc K M0)) k (wpAny P .any l.toArray (QN (Qc K M0)) n (listed.setIfInBounds k true)) a M.w
end
end Go.Ab
