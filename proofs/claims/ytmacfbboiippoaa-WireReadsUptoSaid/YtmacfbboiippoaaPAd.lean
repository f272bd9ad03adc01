/- More of the walk: stops and cuts, lists. -/
import Derived.Test.YtmacfbboiippoaaPAc
/- PA46: stops and cuts of the walk. -/
namespace Go.PA

/-- The walk stops here. -/
def Stop (p : Prop) : Prop := p
theorem Stop.go {p : Prop} (h : p) : Stop p := h

section
variable {P : Program} {N : Nat × List Bool} {st : St} {Q : AExit → St → Prop}

theorem SW.stopI (id : Nat) {ops : Array Oper} {d : Bool} {c y : Code} (h : Stop (SW P N (.seq (.seq (.region id ops d) c) y) Q st)) : SW P N (.seq (.seq (.region id ops d) c) y) Q st := h
theorem SW.stopB (id : Nat) {b y : Code} (h : Stop (SW P N (.seq (.block id b) y) Q st)) : SW P N (.seq (.block id b) y) Q st := h
theorem SW.stopR (id : Nat) {ops : Array Oper} {d : Bool} {y : Code} (h : Stop (SW P N (.seq (.region id ops d) y) Q st)) : SW P N (.seq (.region id ops d) y) Q st := h
theorem SW.stopL {b : Code} (h : Stop (SW P N (.loop b) Q st)) : SW P N (.loop b) Q st := h

/-- A cut: what is behind begins with one of a family of states. -/
theorem SW.cutS {x y : Code} {γ : Type} (R : γ → St) (h1 : ∀ K : St → Prop, (∀ st, (∃ g, Weak st (R g)) → K st) → SW P N x (AExit.then K Q) st) (h2 : ∀ g, SW P N y Q (R g)) : SW P N (.seq x y) Q st :=
  SW.seq (h1 (SW P N y Q) fun _ ⟨g, hw⟩ => SW.weak hw (h2 g))
end


end Go.PA
