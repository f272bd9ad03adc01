/- Constants; what is put, looked at. -/
import Derived.Test.YtopigdkgjobdiaaPAg
namespace Go.PA
section
variable {P : Program} {st : St}
theorem go_gs {st : St} {dst : Option Nat} {z : A} {up : List (Nat × Option Blk)} {nw : List Nat} : (st.go dst z up nw).gs = st.gs := by cases dst <;> rfl
theorem bump_gs {st : St} {k : Nat} : (st.bump k).gs = st.gs := rfl
theorem putS_sl {st : St} {d : Option Nat} {z : Option A} {t : Nat} : (st.put d z).sl t = if d = some t then z else st.sl t := put_sl
theorem putS_gs {st : St} {d : Option Nat} {z : Option A} : (st.put d z).gs = st.gs := by cases d <;> rfl
theorem opsF_id {M : FuncId → List Bool} {n : Nat × List Bool} {ops : Array Oper} {K : List (Nat × FP) → St → Prop} {l : List Oper} {i : Nat} {acc : List (Nat × FP)} (h : opsF P M n ops K l i acc st) : opsF P M n ops K l i acc st := h
theorem aval_nilFunc {sl : Nat → Option A} : aval sl (.const .nilFunc) = some (.v .nilFunc) := rfl
theorem aval_nilPtr {sl : Nat → Option A} : aval sl (.const (.pointer none)) = some (.v (.pointer none)) := rfl
theorem aval_nilIface {sl : Nat → Option A} : aval sl (.const .nilIface) = some (.v .nilIface) := rfl
theorem aval_nilMap {sl : Nat → Option A} : aval sl (.const (.map none)) = some (.v (.map none)) := rfl
theorem aval_str {sl : Nat → Option A} {s : ByteArray} : aval sl (.const (.string s)) = some (.v (.string s)) := rfl
attribute [go_sem] go_gs bump_gs putS_sl putS_gs put_bk put_ids put_ep Option.isNone_none Option.isNone_some List.drop_succ_cons aval_nilFunc aval_nilPtr aval_nilIface aval_nilMap aval_str List.zip_cons_cons List.zip_nil_left List.foldl_cons List.foldl_nil upd_app
end
end Go.PA
