/- Messages read: Decode. -/
import Derived.Test.YtmacfbboiippoaaW20
namespace Go.PA
open Go.Proofs
set_option linter.unusedSimpArgs false
set_option linter.unusedVariables false
set_option maxRecDepth 100000
set_option maxHeartbeats 4000000
attribute [local go_sem] MM getP setP takesW
attribute [-go_sem] takeA

def decD (b : List Nat) : List Fld × Nat × Nat := if (walkD b).2.2 ≠ 0 then ([], (walkD b).2) else ((walkD b).1, 0, 0)

theorem decode_FS (q : Bool) (b : List Nat) (hb : b.length < 2 ^ 40) (hB : ∀ x ∈ b, x < 256) :
    FS Try.prog 36 [.sl q (bA b)] (.ret [.osl 4 ((decD b).1.map fO), .v (.int .i64 (decD b).2.1), .v (.int .i64 (decD b).2.2)] [none]) := by
  refine FS_of_SW (kb := [false]) Try.func36 rfl rfl (by rfl) ?_
  refine SW.weak (Weak.of [] (sls := [(0, .sl q (bA b))]) (bks := []) (ep := 64) (by rfl) ⟨rfl, trivial⟩ trivial) ?_
  have hw := walk_FS q b hb hB
  have hE : (walkD b).2.2 ≠ 0 → decD b = ([], (walkD b).2) := fun h => by unfold decD; rw [if_pos h]
  have hO : (walkD b).2.2 = 0 → decD b = ((walkD b).1, 0, 0) := fun h => by unfold decD; rw [if_neg (by omega)]
  repeat' (first
    | apply_assumption -exfalso -symm (transparency := .reducible) only [*]
    | with_reducible refine SW.stopR 5 ?_
    | (refine ⟨_, _, hw, ?_⟩ <;> (try simp -implicitDefEqProofs only [go_sem]))
    | (with_reducible refine And.intro ?_ ?_)
    | (refine drawOf ?_; kernel_rfl)
    | ((with_reducible refine SW.id ?_); first | with_reducible refine SW.seqK fun K hK => ?_ | with_reducible refine SW.block ?_ | with_reducible refine SW.scope ?_ | ((first | with_reducible refine SW.skip ?_ | with_reducible refine SW.exit ?_ | with_reducible refine SW.label ?_ | with_reducible refine SW.ret ?_ | with_reducible refine SW.go MM ?_ | refine SW.goDrawF MM (by rfl) (by kernel_rfl) ?_); simp -implicitDefEqProofs only [go_sem]) | (refine SW.cond (by simp -implicitDefEqProofs only [go_sem]; rfl) (fun ht => ?_) (fun ht => ?_) <;> (try simp only [decide_eq_true_eq, decide_eq_false_iff_not, beq_iff_eq, bne_iff_ne, beq_eq_false_iff_ne, bne_eq_false_iff_eq, Bool.or_eq_true, Bool.and_eq_true, Bool.or_eq_false_iff, Bool.and_eq_false_imp, Bool.not_eq_true, Bool.not_eq_false, Bool.not_true, Bool.not_false, Bool.not_eq_true', Bool.not_eq_false', Bool.or_false, Bool.false_or, Bool.or_true, Bool.true_or, Bool.and_true, Bool.true_and, reduceCtorEq] at ht) <;> (try contradiction)))
    | ((with_reducible refine guardSplit (fun hg => ?_) (fun hg => ?_)) <;> (try simp only [Bool.not_true, Bool.not_false] at hg) <;> (have hc := hg) <;> simp -implicitDefEqProofs only [go_sem, hg] <;> (try simp only [decide_eq_true_eq, decide_eq_false_iff_not, beq_iff_eq, bne_iff_ne, beq_eq_false_iff_ne, bne_eq_false_iff_eq, Bool.or_eq_true, Bool.and_eq_true, Bool.or_eq_false_iff, Bool.and_eq_false_imp, Bool.not_eq_true, Bool.not_eq_false, Bool.not_true, Bool.not_false, Bool.not_eq_true', Bool.not_eq_false', Bool.or_false, Bool.false_or, Bool.or_true, Bool.true_or, Bool.and_true, Bool.true_and, reduceCtorEq] at hc) <;> (try contradiction)))
  any_goals solve | (rw [hE (by omega)] <;> rfl)
  refine Stop.go (SW.weak (st' := St.of [(5, .ptr 0 [])] [(0, .var (.ref 1 4 0 (walkD b).1.length false)), (1, .row 4 ((walkD b).1.map fO))] 64)
    (Weak.focus1 (x := .osl 4 ((walkD b).1.map fO)) 256 5000 5001 Hole.var (by simp -implicitDefEqProofs only [go_sem]) (by simp [A.closed, fO_closeds]) rfl (by simp -implicitDefEqProofs only [go_sem]) (by simp -implicitDefEqProofs only [go_sem]) rfl (Weak.of [(256, 0), (5000, 1)] (by rfl) ?_ ?_)) ?_)
  · simp -implicitDefEqProofs only [go_sem]
  · simp -implicitDefEqProofs only [go_sem]
  · have htk : List.take (walkD b).1.length (List.map fO (walkD b).1) = List.map fO (walkD b).1 := List.take_of_length_le (by simp)
    repeat' (first
      | apply_assumption -exfalso -symm (transparency := .reducible) only [*]
      | (with_reducible refine And.intro ?_ ?_)
      | (refine drawOf ?_; kernel_rfl)
      | ((with_reducible refine SW.id ?_); first | with_reducible refine SW.seqK fun K hK => ?_ | with_reducible refine SW.block ?_ | with_reducible refine SW.scope ?_ | ((first | with_reducible refine SW.skip ?_ | with_reducible refine SW.exit ?_ | with_reducible refine SW.label ?_ | with_reducible refine SW.ret ?_ | with_reducible refine SW.go MM ?_ | refine SW.goDrawF MM (by rfl) (by kernel_rfl) ?_); simp -implicitDefEqProofs only [go_sem, htk]) | (refine SW.cond (by simp -implicitDefEqProofs only [go_sem, htk]; rfl) (fun ht => ?_) (fun ht => ?_) <;> (try simp only [decide_eq_true_eq, decide_eq_false_iff_not, beq_iff_eq, bne_iff_ne, beq_eq_false_iff_ne, bne_eq_false_iff_eq, Bool.or_eq_true, Bool.and_eq_true, Bool.or_eq_false_iff, Bool.and_eq_false_imp, Bool.not_eq_true, Bool.not_eq_false, Bool.not_true, Bool.not_false, Bool.not_eq_true', Bool.not_eq_false', Bool.or_false, Bool.false_or, Bool.or_true, Bool.true_or, Bool.and_true, Bool.true_and, reduceCtorEq] at ht) <;> (try contradiction)))
      | ((with_reducible refine guardSplit (fun hg => ?_) (fun hg => ?_)) <;> (try simp only [Bool.not_true, Bool.not_false] at hg) <;> (have hc := hg) <;> simp -implicitDefEqProofs only [go_sem, hg, htk] <;> (try simp only [decide_eq_true_eq, decide_eq_false_iff_not, beq_iff_eq, bne_iff_ne, beq_eq_false_iff_ne, bne_eq_false_iff_eq, Bool.or_eq_true, Bool.and_eq_true, Bool.or_eq_false_iff, Bool.and_eq_false_imp, Bool.not_eq_true, Bool.not_eq_false, Bool.not_true, Bool.not_false, Bool.not_eq_true', Bool.not_eq_false', Bool.or_false, Bool.false_or, Bool.or_true, Bool.true_or, Bool.and_true, Bool.true_and, reduceCtorEq] at hc) <;> (try contradiction)))
    any_goals solve | (rw [hO (by omega)] <;> rfl)
end Go.PA
