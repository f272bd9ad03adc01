/- Messages read: the decoder's own callback. -/
import Derived.Test.YtmacfbboiippoaaW18
import Derived.Test.YtmacfbboiippoaaPAf
namespace Go.PA
open Go.Proofs
set_option linter.unusedSimpArgs false
set_option linter.unusedVariables false
set_option maxRecDepth 100000
set_option maxHeartbeats 4000000
attribute [local go_sem] MM getP setP takesW
attribute [-go_sem] takeA

theorem Weak.focus1 {st st' : St} {b : A → Blk} {x y : A} {bl : Blk} (d k j : Nat) (hh : Hole b) (hb : st.bk d = some (b x)) (hc : x.closed = true) (hu : unf k x = some (y, [(k, bl)], k + 1)) (hj : st.ids j = false) (hk : st.ids k = false) (hkj : (k == j) = false)
    (h : Weak { st with bk := upd (upd st.bk k (some bl)) d (some (b y)), ids := fun i => (st.ids i || i == j) || [k].contains i } st') : Weak st st' :=
  (Weak.focus (bs := [(k, bl)]) hh hb hc hu hj (fun i h1 h2 => by
    obtain rfl : i = k := by omega
    exact ⟨hk, by simpa using hkj⟩)).trans h

theorem keep_FS (at' : Int) (f : Fld) (acc : List Fld) (hf : f.data.length < 2 ^ 40) (ha : acc.length < 2 ^ 30) :
    FS Try.prog 48 [.v (.int .i64 at'), fO f, .box (.osl 4 (acc.map fO))] (.ret [.v (.bool true)] [none, none, some (.box (.osl 4 ((acc ++ [f]).map fO)))]) := by
  refine FS_of_SW (kb := [false, false, true]) Try.func48 rfl rfl (by rfl) ?_
  refine SW.weak (Weak.focus1 1 100 101 Hole.var rfl (by simp [A.closed, fO_closeds]) rfl rfl rfl rfl
    (Weak.of [(0, 0), (1, 1), (100, 2)] (sls := [(0, .v (.int .i64 at')), (1, .agg [.v (.int .i64 f.no), .v (.int .i64 f.ty), .v (.int .u64 f.num), .ref 0 1 0 (bA f.data).length false]), (2, .ptr 1 [])])
      (bks := [(0, .row 1 (bA f.data)), (1, .var (.ref 2 4 0 (acc.map fO).length false)), (2, .row 4 (acc.map fO))]) (ep := 64) (by rfl) ⟨rfl, rfl, rfl, trivial⟩ ⟨renB_row (bA_closeds _), rfl, renB_row fO_closeds, trivial⟩)) ?_
  repeat' (first
    | apply_assumption -exfalso -symm (transparency := .reducible) only [*]
    | with_reducible refine SW.stopR 2 ?_
    | (with_reducible refine And.intro ?_ ?_)
    | (refine drawOf ?_; kernel_rfl)
    | ((with_reducible refine SW.id ?_); first | with_reducible refine SW.seqK fun K hK => ?_ | with_reducible refine SW.block ?_ | with_reducible refine SW.scope ?_ | ((first | with_reducible refine SW.skip ?_ | with_reducible refine SW.exit ?_ | with_reducible refine SW.label ?_ | with_reducible refine SW.ret ?_ | with_reducible refine SW.go MM ?_ | refine SW.goDrawF MM (by rfl) (by kernel_rfl) ?_); simp -implicitDefEqProofs only [go_sem]) | (refine SW.cond (by simp -implicitDefEqProofs only [go_sem]; rfl) (fun ht => ?_) (fun ht => ?_) <;> (try simp only [decide_eq_true_eq, decide_eq_false_iff_not, beq_iff_eq, bne_iff_ne, beq_eq_false_iff_ne, bne_eq_false_iff_eq, Bool.or_eq_true, Bool.and_eq_true, Bool.or_eq_false_iff, Bool.and_eq_false_imp, Bool.not_eq_true, Bool.not_eq_false, Bool.not_true, Bool.not_false, Bool.not_eq_true', Bool.not_eq_false', Bool.or_false, Bool.false_or, Bool.or_true, Bool.true_or, Bool.and_true, Bool.true_and, reduceCtorEq] at ht) <;> (try contradiction)))
    | ((with_reducible refine guardSplit (fun hg => ?_) (fun hg => ?_)) <;> (try simp only [Bool.not_true, Bool.not_false] at hg) <;> (have hc := hg) <;> simp -implicitDefEqProofs only [go_sem, hg] <;> (try simp only [decide_eq_true_eq, decide_eq_false_iff_not, beq_iff_eq, bne_iff_ne, beq_eq_false_iff_ne, bne_eq_false_iff_eq, Bool.or_eq_true, Bool.and_eq_true, Bool.or_eq_false_iff, Bool.and_eq_false_imp, Bool.not_eq_true, Bool.not_eq_false, Bool.not_true, Bool.not_false, Bool.not_eq_true', Bool.not_eq_false', Bool.or_false, Bool.false_or, Bool.or_true, Bool.true_or, Bool.and_true, Bool.true_and, reduceCtorEq] at hc) <;> (try contradiction)))
  any_goals solve | exact roomy_of (by omega) (by decide)
  refine Stop.go (SW.weak (st' := St.of [(2, .ptr 1 [])] [(0, .row 4 ((acc ++ [f]).map fO)), (1, .var (.ref 0 4 0 (acc.length + 1) false))] 64)
    (Weak.absorbW (d := 384) (s := 4) (pre := acc.map fO) (y := .agg [.v (.int .i64 f.no), .v (.int .i64 f.ty), .v (.int .u64 f.num), .ref 0 1 0 f.data.length false]) (post := []) (by simp -implicitDefEqProofs only [go_sem]) ?_) ?_)
  · simp -implicitDefEqProofs only [go_sem]
    refine Weak.of [(384, 0), (1, 1)] (by rfl) ?_ ?_
    · simp -implicitDefEqProofs only [go_sem]
    · simp -implicitDefEqProofs only [go_sem]
      rfl
  · have hno : (fO f).nobor = true := by simp [fO, A.nobor, nobors]
    have htk : List.take (acc.length + 1) (List.map fO acc ++ [fO f]) = List.map fO acc ++ [fO f] := List.take_of_length_le (by simp)
    repeat' (first
      | apply_assumption -exfalso -symm (transparency := .reducible) only [*]
      | (with_reducible refine And.intro ?_ ?_)
      | (refine drawOf ?_; kernel_rfl)
      | ((with_reducible refine SW.id ?_); first | with_reducible refine SW.seqK fun K hK => ?_ | with_reducible refine SW.block ?_ | with_reducible refine SW.scope ?_ | ((first | with_reducible refine SW.skip ?_ | with_reducible refine SW.exit ?_ | with_reducible refine SW.label ?_ | with_reducible refine SW.ret ?_ | with_reducible refine SW.go MM ?_ | refine SW.goDrawF MM (by rfl) (by kernel_rfl) ?_); simp -implicitDefEqProofs only [go_sem, fO_closed, hno, htk, List.length_append]) | (refine SW.cond (by simp -implicitDefEqProofs only [go_sem, fO_closed, hno, htk, List.length_append]; rfl) (fun ht => ?_) (fun ht => ?_) <;> (try simp only [decide_eq_true_eq, decide_eq_false_iff_not, beq_iff_eq, bne_iff_ne, beq_eq_false_iff_ne, bne_eq_false_iff_eq, Bool.or_eq_true, Bool.and_eq_true, Bool.or_eq_false_iff, Bool.and_eq_false_imp, Bool.not_eq_true, Bool.not_eq_false, Bool.not_true, Bool.not_false, Bool.not_eq_true', Bool.not_eq_false', Bool.or_false, Bool.false_or, Bool.or_true, Bool.true_or, Bool.and_true, Bool.true_and, reduceCtorEq] at ht) <;> (try contradiction)))
      | ((with_reducible refine guardSplit (fun hg => ?_) (fun hg => ?_)) <;> (try simp only [Bool.not_true, Bool.not_false] at hg) <;> (have hc := hg) <;> simp -implicitDefEqProofs only [go_sem, hg, fO_closed, hno, htk, List.length_append] <;> (try simp only [decide_eq_true_eq, decide_eq_false_iff_not, beq_iff_eq, bne_iff_ne, beq_eq_false_iff_ne, bne_eq_false_iff_eq, Bool.or_eq_true, Bool.and_eq_true, Bool.or_eq_false_iff, Bool.and_eq_false_imp, Bool.not_eq_true, Bool.not_eq_false, Bool.not_true, Bool.not_false, Bool.not_eq_true', Bool.not_eq_false', Bool.or_false, Bool.false_or, Bool.or_true, Bool.true_or, Bool.and_true, Bool.true_and, reduceCtorEq] at hc) <;> (try contradiction)))
end Go.PA
