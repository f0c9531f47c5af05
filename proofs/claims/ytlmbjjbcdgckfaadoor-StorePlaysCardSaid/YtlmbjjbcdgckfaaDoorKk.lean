/- Short names. -/
import Derived.Test.YtlmbjjbcdgckfaaDoorAbC
namespace Go.Ab
abbrev AV.i (x : Int) : AV := .one (.int .i64 x)
abbrev V1.i (x : Int) : V1 := .int .i64 x
abbrev AV.p (b : Nat) : AV := .one (.ptr b 0 0)
abbrev AV.w (b n : Nat) : AV := .one (.rw b 0 n)
abbrev V1.w (b n : Nat) : V1 := .rw b 0 n
abbrev Obj.fi (x : List Int) : Obj := .flat (.ints .i64 x)
abbrev Obj.fa (x : List Arc) : Obj := .flat (.arcs x)
variable {P : Program} {T : Nat → Option TI} {K : Post} {s : St} {l : List Oper}
def St.a (s : St) : List Nat := s.tm.map (·.1)
def St.b (s : St) : List Nat := s.hp.map (·.1)
theorem kq {id : Nat} {y : Code} (cs : List Prop) (s' : St) (hT : ∀ t i, T t = some i → TF P t i) (h : runCut T l 0 l.length s'.a s'.b s = some (cs, s')) (hc : AllP cs) (hk : AWp P y K s') : AWp P (.seq (.region id l.toArray false) y) K s := awp_run_seq _ _ cs s' hT h hc hk
theorem kr {id : Nat} (cs : List Prop) (s' : St) (hT : ∀ t i, T t = some i → TF P t i) (h : runCut T l 0 l.length s'.a s'.b s = some (cs, s')) (hc : AllP cs) (hk : K .normal s') : AWp P (.region id l.toArray false) K s := awp_run _ _ cs s' hT h hc hk
theorem ko {k : Nat} (m : Nat) (cs : List Prop) (s' : St) (hT : ∀ t i, T t = some i → TF P t i) (hle : Nat.ble (k + m) l.length = true) (h : runCut T l k m s'.a s'.b s = some (cs, s')) (hc : AllP cs) (hk : AOps P l (k + m) K s') : AOps P l k K s := aops_run m _ _ cs s' hT hle h hc hk
theorem ku {k : Nat} (s' : St) (h : cutS s'.a s'.b s = s') (hk : AOps P l k K s') : AOps P l k K s := aops_cut _ _ s' h hk
theorem kv {c : Code} (s' : St) (h : cutS s'.a s'.b s = s') (hk : AWp P c K s') : AWp P c K s := awp_cut _ _ s' h hk
end Go.Ab
