/- What a place owns gets names. -/
import Derived.Test.YtopigdkgjobdiaaPAe
set_option linter.unusedSimpArgs false
set_option linter.unusedVariables false
/- PA95: what a place owns gets names: the frame may read and write it. -/
namespace Go.PA

/-- What a place owns gets names. -/
theorem Weak.focus {st : St} {d k k' j : Nat} {b : A → Blk} {x y : A} {bs : List (Nat × Blk)} (hh : Hole b) (hb : st.bk d = some (b x)) (hc : x.closed = true) (hu : unf k x = some (y, bs, k')) (hj : st.ids j = false)
    (hf : ∀ i, k ≤ i → i < k' → st.ids i = false ∧ i ≠ j) :
    Weak st { st with bk := upd (bs.foldl (fun f q => upd f q.1 (some q.2)) st.bk) d (some (b y)), ids := fun i => (st.ids i || i == j) || (bs.map (·.1)).contains i } :=
  fun _ _ _ R => focus_rel hh hb hc hu hj hf R
attribute [go_sem] beq_self_eq_true List.isEmpty_nil List.isEmpty_cons Bool.false_eq_true
end Go.PA
