/- More of the walk. -/
import Derived.Test.YtmacfbboiippoaaPAb
/- PA45: aids of the walk. -/
namespace Go.PA

section
variable {P : Program} {M : FuncId → List Bool} {n N : Nat × List Bool} {ops : Array Oper} {K : List (Nat × FP) → St → Prop} {l : List Oper} {i : Nat} {acc : List (Nat × FP)} {st : St} {o : Oper} {Q : AExit → St → Prop}

/-- An operation under a guard whose value is not a constant. -/
theorem guardSplit {b w : Bool} (h1 : b = w → opsGuard P M n ops K o l i acc st (some true)) (h2 : b = !w → opsGuard P M n ops K o l i acc st (some false)) : opsGuard P M n ops K o l i acc st (some (b == w)) := by
  cases b <;> cases w <;> simp_all

theorem SW.id {c : Code} (h : SW P N c Q st) : SW P N c Q st := h

theorem SW.condE {x : Operand} {p q : Code} {t : Bool} (ht : aval st.sl x = some (.v (.bool t))) (h1 : t = true → SW P N p Q st) (h2 : t = false → SW P N q Q st) : SW P N (.cond x p q) Q st := SW.cond ht h1 h2
end
end Go.PA
