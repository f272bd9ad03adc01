/- Numbers of the field: squares of squares, powers. -/
import Derived.Test.YtopigdkgjobdiaaR5
import Derived.Test.YtopigdkgjobdiaaF2
namespace Go.PA
open Go.Proofs Go.Fe
set_option linter.unusedSimpArgs false
set_option linter.unusedVariables false
set_option maxRecDepth 100000
set_option maxHeartbeats 4000000
attribute [local go_sem] MR getP setP takesW
attribute [-go_sem] takeA roA A.good A.isAgg

theorem i64_one' {a : Nat} (h : a + 1 < 2 ^ 63) : IntKind.i64.wrap ((a : Int) + 1) = ((a + 1 : Nat) : Int) := by rw [IntWalk.i64_in _ (by omega)]; omega
theorem numT_plain (a : N5) : (numT a).plain = true := rfl
theorem numT_sz (a : N5) : (numT a).sz = 5 := rfl
theorem numT_agg (a : N5) : (numT a).isAgg = true := rfl
attribute [go_sem] numT_plain numT_sz numT_agg

theorem squares_FSr (a : N5) (n : Nat) (ha : a.ok) (hn : n < 2 ^ 32) : FS Try.prog 80 [numT a, .v (.int .i64 (n : Int))] (.ret [numT (N5.sqn a n)] [none, none]) := by
  refine FS_of_SW (kb := [false, false]) Try.func80 rfl rfl (by rfl) ?_
  refine SW.weak (Weak.of [] (sls := [(0, numT a), (1, .v (.int .i64 (n : Int)))]) (bks := []) (ep := 64) (by rfl) (by repeat' (first | exact rfl | exact trivial | refine And.intro ?_ ?_)) trivial) ?_
  repeat' (first
    | apply_assumption -exfalso -symm (transparency := .reducible) only [*]
    | with_reducible refine SW.stopI 1 ?_
    | (with_reducible refine And.intro ?_ ?_)
    | (refine drawIt ?_; kernel_rfl)
    | ((with_reducible refine opsF_id ?_); simp -implicitDefEqProofs only [go_sem])
    | ((with_reducible refine SW.id ?_); first | with_reducible refine SW.seqK fun K hK => ?_ | with_reducible refine SW.block ?_ | with_reducible refine SW.scope ?_ | ((first | with_reducible refine SW.skip ?_ | with_reducible refine SW.exit ?_ | with_reducible refine SW.label ?_ | with_reducible refine SW.ret ?_ | with_reducible refine SW.go MR ?_ | refine SW.goDrawF MR (by rfl) (by kernel_rfl) ?_); simp -implicitDefEqProofs only [go_sem]) | (refine SW.cond (by simp -implicitDefEqProofs only [go_sem]; rfl) (fun ht => ?_) (fun ht => ?_) <;> (try simp only [decide_eq_true_eq, decide_eq_false_iff_not, beq_iff_eq, bne_iff_ne, beq_eq_false_iff_ne, bne_eq_false_iff_eq, Bool.or_eq_true, Bool.and_eq_true, Bool.or_eq_false_iff, Bool.and_eq_false_imp, Bool.not_eq_true, Bool.not_eq_false, Bool.not_true, Bool.not_false, Bool.not_eq_true', Bool.not_eq_false', Bool.or_false, Bool.false_or, Bool.or_true, Bool.true_or, Bool.and_true, Bool.true_and, reduceCtorEq] at ht) <;> (try with_reducible contradiction)))
    | ((with_reducible refine guardSplit (fun hg => ?_) (fun hg => ?_)) <;> (try simp only [Bool.not_true, Bool.not_false] at hg) <;> (have hc := hg) <;> simp -implicitDefEqProofs only [go_sem, hg] <;> (try simp only [decide_eq_true_eq, decide_eq_false_iff_not, beq_iff_eq, bne_iff_ne, beq_eq_false_iff_ne, bne_eq_false_iff_eq, Bool.or_eq_true, Bool.and_eq_true, Bool.or_eq_false_iff, Bool.and_eq_false_imp, Bool.not_eq_true, Bool.not_eq_false, Bool.not_true, Bool.not_false, Bool.not_eq_true', Bool.not_eq_false', Bool.or_false, Bool.false_or, Bool.or_true, Bool.true_or, Bool.and_true, Bool.true_and, reduceCtorEq] at hc) <;> (try with_reducible contradiction)))
  refine Stop.go ?_
  refine SW.cutS (γ := Unit) (fun _ => St.of [(2, .ptr 2 []), (4, .ptr 4 [])] [(2, .var (numT (N5.sqn a n))), (4, .var (numT ⟨0, 0, 0, 0, 0⟩))] 64) (fun K hK => ?_) fun _ => ?_
  · repeat' (first
      | apply_assumption -exfalso -symm (transparency := .reducible) only [*]
      | (with_reducible refine And.intro ?_ ?_)
      | (refine drawIt ?_; kernel_rfl)
      | ((with_reducible refine opsF_id ?_); simp -implicitDefEqProofs only [go_sem])
      | ((with_reducible refine SW.id ?_); first | with_reducible refine SW.seqK fun K hK => ?_ | with_reducible refine SW.block ?_ | with_reducible refine SW.scope ?_ | ((first | with_reducible refine SW.skip ?_ | with_reducible refine SW.exit ?_ | with_reducible refine SW.label ?_ | with_reducible refine SW.ret ?_ | with_reducible refine SW.go MR ?_ | refine SW.goDrawF MR (by rfl) (by kernel_rfl) ?_); simp -implicitDefEqProofs only [go_sem]) | (refine SW.cond (by simp -implicitDefEqProofs only [go_sem]; rfl) (fun ht => ?_) (fun ht => ?_) <;> (try simp only [decide_eq_true_eq, decide_eq_false_iff_not, beq_iff_eq, bne_iff_ne, beq_eq_false_iff_ne, bne_eq_false_iff_eq, Bool.or_eq_true, Bool.and_eq_true, Bool.or_eq_false_iff, Bool.and_eq_false_imp, Bool.not_eq_true, Bool.not_eq_false, Bool.not_true, Bool.not_false, Bool.not_eq_true', Bool.not_eq_false', Bool.or_false, Bool.false_or, Bool.or_true, Bool.true_or, Bool.and_true, Bool.true_and, reduceCtorEq] at ht) <;> (try with_reducible contradiction)))
      | ((with_reducible refine guardSplit (fun hg => ?_) (fun hg => ?_)) <;> (try simp only [Bool.not_true, Bool.not_false] at hg) <;> (have hc := hg) <;> simp -implicitDefEqProofs only [go_sem, hg] <;> (try simp only [decide_eq_true_eq, decide_eq_false_iff_not, beq_iff_eq, bne_iff_ne, beq_eq_false_iff_ne, bne_eq_false_iff_eq, Bool.or_eq_true, Bool.and_eq_true, Bool.or_eq_false_iff, Bool.and_eq_false_imp, Bool.not_eq_true, Bool.not_eq_false, Bool.not_true, Bool.not_false, Bool.not_eq_true', Bool.not_eq_false', Bool.or_false, Bool.false_or, Bool.or_true, Bool.true_or, Bool.and_true, Bool.true_and, reduceCtorEq] at hc) <;> (try with_reducible contradiction)))
    refine SW.loop (α := { i : Nat // i ≤ n }) (fun i => St.of [(2, .ptr 2 []), (4, .ptr 4 []), (5, .v (.int .i64 (n : Int))), (6, .v (.int .i64 (i.1 : Int)))] [(2, .var (numT (N5.sqn a i.1))), (4, .var (numT ⟨0, 0, 0, 0, 0⟩))] 64) (fun i => n - i.1) ⟨0, by omega⟩
      (Weak.of [(64, 2), (128, 4)] (by rfl) ?_ ?_) fun ⟨i, hi⟩ => ?_
    · simp -implicitDefEqProofs only [go_sem]
      all_goals (repeat' (first | exact rfl | exact trivial | refine And.intro ?_ ?_))
    · simp -implicitDefEqProofs only [go_sem]
      all_goals (repeat' (first | exact rfl | exact trivial | refine And.intro ?_ ?_))
    · have h5 := i64_one' (a := i) (by omega)
      have hs := square_FSr _ (N5.sqn_ok ha i)
      repeat' (first
        | apply_assumption -exfalso -symm (transparency := .reducible) only [*]
        | (with_reducible refine callEnd_of hs ?_ <;> (try simp -implicitDefEqProofs only [go_sem, h5]))
        | (with_reducible refine And.intro ?_ ?_)
        | (refine drawIt ?_; kernel_rfl)
        | ((with_reducible refine opsF_id ?_); simp -implicitDefEqProofs only [go_sem, h5])
        | ((with_reducible refine SW.id ?_); first | with_reducible refine SW.seqK fun K hK => ?_ | with_reducible refine SW.block ?_ | with_reducible refine SW.scope ?_ | ((first | with_reducible refine SW.skip ?_ | with_reducible refine SW.exit ?_ | with_reducible refine SW.label ?_ | with_reducible refine SW.ret ?_ | with_reducible refine SW.go MR ?_ | refine SW.goDrawF MR (by rfl) (by kernel_rfl) ?_); simp -implicitDefEqProofs only [go_sem, h5]) | (refine SW.cond (by simp -implicitDefEqProofs only [go_sem, h5]; rfl) (fun ht => ?_) (fun ht => ?_) <;> (try simp only [decide_eq_true_eq, decide_eq_false_iff_not, beq_iff_eq, bne_iff_ne, beq_eq_false_iff_ne, bne_eq_false_iff_eq, Bool.or_eq_true, Bool.and_eq_true, Bool.or_eq_false_iff, Bool.and_eq_false_imp, Bool.not_eq_true, Bool.not_eq_false, Bool.not_true, Bool.not_false, Bool.not_eq_true', Bool.not_eq_false', Bool.or_false, Bool.false_or, Bool.or_true, Bool.true_or, Bool.and_true, Bool.true_and, reduceCtorEq] at ht) <;> (try with_reducible contradiction)))
        | ((with_reducible refine guardSplit (fun hg => ?_) (fun hg => ?_)) <;> (try simp only [Bool.not_true, Bool.not_false] at hg) <;> (have hc := hg) <;> simp -implicitDefEqProofs only [go_sem, hg, h5] <;> (try simp only [decide_eq_true_eq, decide_eq_false_iff_not, beq_iff_eq, bne_iff_ne, beq_eq_false_iff_ne, bne_eq_false_iff_eq, Bool.or_eq_true, Bool.and_eq_true, Bool.or_eq_false_iff, Bool.and_eq_false_imp, Bool.not_eq_true, Bool.not_eq_false, Bool.not_true, Bool.not_false, Bool.not_eq_true', Bool.not_eq_false', Bool.or_false, Bool.false_or, Bool.or_true, Bool.true_or, Bool.and_true, Bool.true_and, reduceCtorEq] at hc) <;> (try with_reducible contradiction)))
      all_goals first | omega | skip
      · refine ⟨⟨i + 1, by omega⟩, Weak.of [(2, 2), (4, 4)] (by rfl) ?_ ?_, by dsimp only; omega⟩
        · simp -implicitDefEqProofs only [go_sem]
          all_goals (repeat' (first | exact rfl | exact trivial | refine And.intro ?_ ?_))
        · simp -implicitDefEqProofs only [go_sem]
          all_goals (repeat' (first | exact rfl | exact trivial | refine And.intro ?_ ?_))
      · obtain rfl : i = n := by omega
        refine ⟨(), Weak.of [(2, 2), (4, 4)] (by rfl) ?_ ?_⟩
        · simp -implicitDefEqProofs only [go_sem]
          all_goals (repeat' (first | exact rfl | exact trivial | refine And.intro ?_ ?_))
        · simp -implicitDefEqProofs only [go_sem]
          all_goals (repeat' (first | exact rfl | exact trivial | refine And.intro ?_ ?_))
  · repeat' (first
      | apply_assumption -exfalso -symm (transparency := .reducible) only [*]
      | (with_reducible refine And.intro ?_ ?_)
      | (refine drawIt ?_; kernel_rfl)
      | ((with_reducible refine opsF_id ?_); simp -implicitDefEqProofs only [go_sem])
      | ((with_reducible refine SW.id ?_); first | with_reducible refine SW.seqK fun K hK => ?_ | with_reducible refine SW.block ?_ | with_reducible refine SW.scope ?_ | ((first | with_reducible refine SW.skip ?_ | with_reducible refine SW.exit ?_ | with_reducible refine SW.label ?_ | with_reducible refine SW.ret ?_ | with_reducible refine SW.go MR ?_ | refine SW.goDrawF MR (by rfl) (by kernel_rfl) ?_); simp -implicitDefEqProofs only [go_sem]) | (refine SW.cond (by simp -implicitDefEqProofs only [go_sem]; rfl) (fun ht => ?_) (fun ht => ?_) <;> (try simp only [decide_eq_true_eq, decide_eq_false_iff_not, beq_iff_eq, bne_iff_ne, beq_eq_false_iff_ne, bne_eq_false_iff_eq, Bool.or_eq_true, Bool.and_eq_true, Bool.or_eq_false_iff, Bool.and_eq_false_imp, Bool.not_eq_true, Bool.not_eq_false, Bool.not_true, Bool.not_false, Bool.not_eq_true', Bool.not_eq_false', Bool.or_false, Bool.false_or, Bool.or_true, Bool.true_or, Bool.and_true, Bool.true_and, reduceCtorEq] at ht) <;> (try with_reducible contradiction)))
      | ((with_reducible refine guardSplit (fun hg => ?_) (fun hg => ?_)) <;> (try simp only [Bool.not_true, Bool.not_false] at hg) <;> (have hc := hg) <;> simp -implicitDefEqProofs only [go_sem, hg] <;> (try simp only [decide_eq_true_eq, decide_eq_false_iff_not, beq_iff_eq, bne_iff_ne, beq_eq_false_iff_ne, bne_eq_false_iff_eq, Bool.or_eq_true, Bool.and_eq_true, Bool.or_eq_false_iff, Bool.and_eq_false_imp, Bool.not_eq_true, Bool.not_eq_false, Bool.not_true, Bool.not_false, Bool.not_eq_true', Bool.not_eq_false', Bool.or_false, Bool.false_or, Bool.or_true, Bool.true_or, Bool.and_true, Bool.true_and, reduceCtorEq] at hc) <;> (try with_reducible contradiction)))

theorem ones_FSr (a : N5) (ha : a.ok) : FS Try.prog 79 [numT a] (.ret [numT a.most, numT a.eleven] [none]) := by
  refine FS_of_SW (kb := [false]) Try.func79 rfl rfl (by rfl) ?_
  have o0 := N5.mul_ok ha ha
  have o1 := (pow_nine ha).ok
  have o2 := (pow_eleven ha).ok
  have o3 := (pow_five ha).ok
  have o4 := (pow_ten ha).ok
  have o5 := (pow_twenty ha).ok
  have o6 := (pow_fifty ha).ok
  have o7 := (pow_hundred ha).ok
  have q1 : FS Try.prog 74 [numT a] (.ret [numT (a.mul a)] [none]) := square_FSr _ ha
  have q2 : FS Try.prog 80 [numT (a.mul a), .v (.int .i64 2)] (.ret [numT (N5.sqn (a.mul a) 2)] [none, none]) := squares_FSr _ 2 o0 (by decide)
  have q3 : FS Try.prog 62 [numT (N5.sqn (a.mul a) 2), numT a] (.ret [numT a.nine] [none, none]) := mul_FSr _ _ (N5.sqn_ok o0 _) ha
  have q4 : FS Try.prog 62 [numT a.nine, numT (a.mul a)] (.ret [numT a.eleven] [none, none]) := mul_FSr _ _ o1 o0
  have q5 : FS Try.prog 74 [numT a.eleven] (.ret [numT (a.eleven.mul a.eleven)] [none]) := square_FSr _ o2
  have q6 : FS Try.prog 62 [numT (a.eleven.mul a.eleven), numT a.nine] (.ret [numT a.five] [none, none]) := mul_FSr _ _ (N5.mul_ok o2 o2) o1
  have q7 : FS Try.prog 80 [numT a.five, .v (.int .i64 5)] (.ret [numT (N5.sqn a.five 5)] [none, none]) := squares_FSr _ 5 o3 (by decide)
  have q8 : FS Try.prog 62 [numT (N5.sqn a.five 5), numT a.five] (.ret [numT a.ten] [none, none]) := mul_FSr _ _ (N5.sqn_ok o3 _) o3
  have q9 : FS Try.prog 80 [numT a.ten, .v (.int .i64 10)] (.ret [numT (N5.sqn a.ten 10)] [none, none]) := squares_FSr _ 10 o4 (by decide)
  have q10 : FS Try.prog 62 [numT (N5.sqn a.ten 10), numT a.ten] (.ret [numT a.twenty] [none, none]) := mul_FSr _ _ (N5.sqn_ok o4 _) o4
  have q11 : FS Try.prog 80 [numT a.twenty, .v (.int .i64 20)] (.ret [numT (N5.sqn a.twenty 20)] [none, none]) := squares_FSr _ 20 o5 (by decide)
  have q12 : FS Try.prog 62 [numT (N5.sqn a.twenty 20), numT a.twenty] (.ret [numT ((N5.sqn a.twenty 20).mul a.twenty)] [none, none]) := mul_FSr _ _ (N5.sqn_ok o5 _) o5
  have q13 : FS Try.prog 80 [numT ((N5.sqn a.twenty 20).mul a.twenty), .v (.int .i64 10)] (.ret [numT (N5.sqn ((N5.sqn a.twenty 20).mul a.twenty) 10)] [none, none]) := squares_FSr _ 10 (N5.mul_ok (N5.sqn_ok o5 _) o5) (by decide)
  have q14 : FS Try.prog 62 [numT (N5.sqn ((N5.sqn a.twenty 20).mul a.twenty) 10), numT a.ten] (.ret [numT a.fifty] [none, none]) := mul_FSr _ _ (N5.sqn_ok (N5.mul_ok (N5.sqn_ok o5 _) o5) _) o4
  have q15 : FS Try.prog 80 [numT a.fifty, .v (.int .i64 50)] (.ret [numT (N5.sqn a.fifty 50)] [none, none]) := squares_FSr _ 50 o6 (by decide)
  have q16 : FS Try.prog 62 [numT (N5.sqn a.fifty 50), numT a.fifty] (.ret [numT a.hundred] [none, none]) := mul_FSr _ _ (N5.sqn_ok o6 _) o6
  have q17 : FS Try.prog 80 [numT a.hundred, .v (.int .i64 100)] (.ret [numT (N5.sqn a.hundred 100)] [none, none]) := squares_FSr _ 100 o7 (by decide)
  have q18 : FS Try.prog 62 [numT (N5.sqn a.hundred 100), numT a.hundred] (.ret [numT ((N5.sqn a.hundred 100).mul a.hundred)] [none, none]) := mul_FSr _ _ (N5.sqn_ok o7 _) o7
  have q19 : FS Try.prog 80 [numT ((N5.sqn a.hundred 100).mul a.hundred), .v (.int .i64 50)] (.ret [numT (N5.sqn ((N5.sqn a.hundred 100).mul a.hundred) 50)] [none, none]) := squares_FSr _ 50 (N5.mul_ok (N5.sqn_ok o7 _) o7) (by decide)
  have q20 : FS Try.prog 62 [numT (N5.sqn ((N5.sqn a.hundred 100).mul a.hundred) 50), numT a.fifty] (.ret [numT a.most] [none, none]) := mul_FSr _ _ (N5.sqn_ok (N5.mul_ok (N5.sqn_ok o7 _) o7) _) o6
  clear o0 o1 o2 o3 o4 o5 o6 o7 ha
  generalize N5.sqn ((N5.sqn a.hundred 100).mul a.hundred) 50 = z0 at *
  generalize ((N5.sqn a.hundred 100).mul a.hundred) = z1 at *
  generalize N5.sqn a.hundred 100 = z2 at *
  generalize N5.sqn a.fifty 50 = z3 at *
  generalize N5.sqn ((N5.sqn a.twenty 20).mul a.twenty) 10 = z4 at *
  generalize ((N5.sqn a.twenty 20).mul a.twenty) = z5 at *
  generalize N5.sqn a.twenty 20 = z6 at *
  generalize N5.sqn a.ten 10 = z7 at *
  generalize N5.sqn a.five 5 = z8 at *
  generalize a.eleven.mul a.eleven = z9 at *
  generalize N5.sqn (a.mul a) 2 = z10 at *
  generalize a.mul a = z11 at *
  generalize a.most = z12 at *
  generalize a.hundred = z13 at *
  generalize a.fifty = z14 at *
  generalize a.twenty = z15 at *
  generalize a.ten = z16 at *
  generalize a.five = z17 at *
  generalize a.eleven = z18 at *
  generalize a.nine = z19 at *
  refine SW.weak (Weak.of [] (sls := [(0, numT a)]) (bks := []) (ep := 64) (by rfl) (by repeat' (first | exact rfl | exact trivial | refine And.intro ?_ ?_)) trivial) ?_
  repeat' (first
    | apply_assumption -exfalso -symm (transparency := .reducible) only [*]
    | (with_reducible refine callEnd_of q1 ?_ <;> (try simp -implicitDefEqProofs only [go_sem]))
    | (with_reducible refine callEnd_of q2 ?_ <;> (try simp -implicitDefEqProofs only [go_sem]))
    | (with_reducible refine callEnd_of q3 ?_ <;> (try simp -implicitDefEqProofs only [go_sem]))
    | (with_reducible refine callEnd_of q4 ?_ <;> (try simp -implicitDefEqProofs only [go_sem]))
    | (with_reducible refine callEnd_of q5 ?_ <;> (try simp -implicitDefEqProofs only [go_sem]))
    | (with_reducible refine callEnd_of q6 ?_ <;> (try simp -implicitDefEqProofs only [go_sem]))
    | (with_reducible refine callEnd_of q7 ?_ <;> (try simp -implicitDefEqProofs only [go_sem]))
    | (with_reducible refine callEnd_of q8 ?_ <;> (try simp -implicitDefEqProofs only [go_sem]))
    | (with_reducible refine callEnd_of q9 ?_ <;> (try simp -implicitDefEqProofs only [go_sem]))
    | (with_reducible refine callEnd_of q10 ?_ <;> (try simp -implicitDefEqProofs only [go_sem]))
    | (with_reducible refine callEnd_of q11 ?_ <;> (try simp -implicitDefEqProofs only [go_sem]))
    | (with_reducible refine callEnd_of q12 ?_ <;> (try simp -implicitDefEqProofs only [go_sem]))
    | (with_reducible refine callEnd_of q13 ?_ <;> (try simp -implicitDefEqProofs only [go_sem]))
    | (with_reducible refine callEnd_of q14 ?_ <;> (try simp -implicitDefEqProofs only [go_sem]))
    | (with_reducible refine callEnd_of q15 ?_ <;> (try simp -implicitDefEqProofs only [go_sem]))
    | (with_reducible refine callEnd_of q16 ?_ <;> (try simp -implicitDefEqProofs only [go_sem]))
    | (with_reducible refine callEnd_of q17 ?_ <;> (try simp -implicitDefEqProofs only [go_sem]))
    | (with_reducible refine callEnd_of q18 ?_ <;> (try simp -implicitDefEqProofs only [go_sem]))
    | (with_reducible refine callEnd_of q19 ?_ <;> (try simp -implicitDefEqProofs only [go_sem]))
    | (with_reducible refine callEnd_of q20 ?_ <;> (try simp -implicitDefEqProofs only [go_sem]))
    | (with_reducible refine And.intro ?_ ?_)
    | (refine drawIt ?_; kernel_rfl)
    | ((with_reducible refine opsF_id ?_); simp -implicitDefEqProofs only [go_sem])
    | ((with_reducible refine SW.id ?_); first | with_reducible refine SW.seqK fun K hK => ?_ | with_reducible refine SW.block ?_ | with_reducible refine SW.scope ?_ | ((first | with_reducible refine SW.skip ?_ | with_reducible refine SW.exit ?_ | with_reducible refine SW.label ?_ | with_reducible refine SW.ret ?_ | with_reducible refine SW.go MR ?_ | refine SW.goDrawF MR (by rfl) (by kernel_rfl) ?_); simp -implicitDefEqProofs only [go_sem]) | (refine SW.cond (by simp -implicitDefEqProofs only [go_sem]; rfl) (fun ht => ?_) (fun ht => ?_) <;> (try with_reducible contradiction))))

theorem invert_FSr (a : N5) (ha : a.ok) : FS Try.prog 63 [numT a] (.ret [numT a.inv] [none]) := by
  refine FS_of_SW (kb := [false]) Try.func63 rfl rfl (by rfl) ?_
  have f1 : (N5.sqn a.most 5).mul a.eleven = a.inv := rfl
  have h1 := ones_FSr a ha
  have h2 : FS Try.prog 80 [numT a.most, .v (.int .i64 5)] (.ret [numT (N5.sqn a.most 5)] [none, none]) := squares_FSr a.most 5 (pow_most ha).ok (by decide)
  have h3 : FS Try.prog 62 [numT (N5.sqn a.most 5), numT a.eleven] (.ret [numT a.inv] [none, none]) := mul_FSr _ _ (N5.sqn_ok (pow_most ha).ok 5) (pow_eleven ha).ok
  clear f1
  generalize N5.sqn a.most 5 = z at *
  generalize a.most = z2 at *
  generalize a.eleven = z3 at *
  generalize a.inv = z4 at *
  refine SW.weak (Weak.of [] (sls := [(0, numT a)]) (bks := []) (ep := 64) (by rfl) (by repeat' (first | exact rfl | exact trivial | refine And.intro ?_ ?_)) trivial) ?_
  repeat' (first
    | apply_assumption -exfalso -symm (transparency := .reducible) only [*]
    | (with_reducible refine callEnd_of h1 ?_ <;> (try simp -implicitDefEqProofs only [go_sem]))
    | (with_reducible refine callEnd_of h2 ?_ <;> (try simp -implicitDefEqProofs only [go_sem]))
    | (with_reducible refine callEnd_of h3 ?_ <;> (try simp -implicitDefEqProofs only [go_sem]))
    | (with_reducible refine And.intro ?_ ?_)
    | (refine drawIt ?_; kernel_rfl)
    | ((with_reducible refine opsF_id ?_); simp -implicitDefEqProofs only [go_sem])
    | ((with_reducible refine SW.id ?_); first | with_reducible refine SW.seqK fun K hK => ?_ | with_reducible refine SW.block ?_ | with_reducible refine SW.scope ?_ | ((first | with_reducible refine SW.skip ?_ | with_reducible refine SW.exit ?_ | with_reducible refine SW.label ?_ | with_reducible refine SW.ret ?_ | with_reducible refine SW.go MR ?_ | refine SW.goDrawF MR (by rfl) (by kernel_rfl) ?_); simp -implicitDefEqProofs only [go_sem]) | (refine SW.cond (by simp -implicitDefEqProofs only [go_sem]; rfl) (fun ht => ?_) (fun ht => ?_) <;> (try with_reducible contradiction))))
end Go.PA
