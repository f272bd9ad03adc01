/- The program's check, and a side made of a state. -/
import Derived.Test.YtopigdkgjobdiaaR17
import Derived.Test.YtopigdkgjobdiaaR15
namespace Go.PA
open Go.Proofs Go.Fe
set_option linter.unusedSimpArgs false
set_option linter.unusedVariables false
set_option maxRecDepth 100000
set_option maxHeartbeats 4000000
attribute [local go_sem] MR2 MR getP setP takesW
attribute [-go_sem] takeA roA

theorem cfg_store {c : Cfg} (h : cfgN c = 0) : 0 ≤ c.store ∧ c.store ≤ 2000 := by
  unfold cfgN at h
  split at h
  · omega
  · split at h
    · omega
    · omega
theorem checkN_eq (s : StS) : checkN s = if cfgN s.cfg ≠ 0 then cfgN s.cfg else if okS s = false then 130 else if putN s.cfg.store s.spares ≠ 0 then 130 else 0 := by
  unfold checkN
  rw [badS_okS]
  unfold putN
  by_cases h : cfgN s.cfg = 0
  · simp only [h, ne_eq, not_true_eq_false, if_false]
    cases okS s
    · simp
    · cases dupB s.spares
      · by_cases h2 : s.cfg.store < s.spares.length <;> simp [h2]
      · simp
  · simp [h]

theorem checkP_FS (q : Bool) (s : StS) (hs : StOk s) (hl : s.spares.length < 2 ^ 36) : FS Try.prog 8 [stT s (.sl q (s.spares.map spT))] (.ret [i64T (checkN s)] [none]) := by
  refine FS_of_SW (kb := [false]) (st0 := ?st) Try.func8 rfl rfl ?he ?_
  case he =>
    simp only [entrySt, stT, cfgT, keyT, u32T, i64T, booT, unfs, unf, A.noown, noowns, nA_noowns, bA_noowns, Option.map_some, if_true, reduceIte, List.nil_append, List.append_nil]
    rfl
  have q1 := valid_FS s.cfg
  have q2 := stands_FS q s hs
  rw [checkN_eq]
  have hsp := hs.spares
  clear hs
  simp only [stT, cfgT, keyT, u32T, i64T, booT] at q1 q2
  refine SW.weak (Weak.of [] (sls := [(0, stT s (.sl q (s.spares.map spT)))]) (bks := []) (ep := 64) (by rfl) (by repeat' (first | exact rfl | exact trivial | refine And.intro ?_ ?_)) trivial) ?_
  by_cases h0 : cfgN s.cfg = 0
  · have hst := cfg_store h0
    have q3 := sfrom_FS s.cfg.store q s.spares hst.1 hst.2 hl hsp
    rw [h0] at q1 ⊢
    have c0 : ((0 : Int) ≠ 0) = False := by simp
    generalize okS s = ok at *
    cases ok
    · repeat' (first
        | apply_assumption -exfalso -symm (transparency := .reducible) only [*]
        | (with_reducible refine callEnd_of q1 ?_ <;> (try simp -implicitDefEqProofs only [go_sem, stT, cfgT, keyT, u32T, i64T, booT, isBool_v, asBool_v, c0, if_false, if_true]))
        | (with_reducible refine callEnd_of q2 ?_ <;> (try simp -implicitDefEqProofs only [go_sem, stT, cfgT, keyT, u32T, i64T, booT, isBool_v, asBool_v, c0, if_false, if_true]))
        | (with_reducible refine And.intro ?_ ?_)
        | (refine drawIt ?_; kernel_rfl)
        | ((with_reducible refine opsF_id ?_); simp -implicitDefEqProofs only [go_sem, stT, cfgT, keyT, u32T, i64T, booT, isBool_v, asBool_v, c0, if_false, if_true])
        | ((with_reducible refine SW.id ?_); first | with_reducible refine SW.seqK fun K hK => ?_ | with_reducible refine SW.block ?_ | with_reducible refine SW.scope ?_ | ((first | with_reducible refine SW.skip ?_ | with_reducible refine SW.exit ?_ | with_reducible refine SW.label ?_ | with_reducible refine SW.ret ?_ | with_reducible refine SW.go MR2 ?_ | refine SW.goDrawF MR2 (by rfl) (by kernel_rfl) ?_); simp -implicitDefEqProofs only [go_sem, stT, cfgT, keyT, u32T, i64T, booT, isBool_v, asBool_v, c0, if_false, if_true]) | (refine SW.cond (by simp -implicitDefEqProofs only [go_sem, stT, cfgT, keyT, u32T, i64T, booT, isBool_v, asBool_v, c0, if_false, if_true]; rfl) (fun ht => ?_) (fun ht => ?_) <;> (try simp only [decide_eq_true_eq, decide_eq_false_iff_not, beq_iff_eq, bne_iff_ne, beq_eq_false_iff_ne, bne_eq_false_iff_eq, Bool.or_eq_true, Bool.and_eq_true, Bool.or_eq_false_iff, Bool.and_eq_false_imp, Bool.not_eq_true, Bool.not_eq_false, Bool.not_true, Bool.not_false, Bool.not_eq_true', Bool.not_eq_false', Bool.or_false, Bool.false_or, Bool.or_true, Bool.true_or, Bool.and_true, Bool.true_and, reduceCtorEq] at ht) <;> (try with_reducible contradiction)))
        | ((with_reducible refine guardSplit (fun hg => ?_) (fun hg => ?_)) <;> (try simp only [Bool.not_true, Bool.not_false] at hg) <;> (have hc := hg) <;> simp -implicitDefEqProofs only [go_sem, hg, stT, cfgT, keyT, u32T, i64T, booT, isBool_v, asBool_v, c0, if_false, if_true] <;> (try simp only [decide_eq_true_eq, decide_eq_false_iff_not, beq_iff_eq, bne_iff_ne, beq_eq_false_iff_ne, bne_eq_false_iff_eq, Bool.or_eq_true, Bool.and_eq_true, Bool.or_eq_false_iff, Bool.and_eq_false_imp, Bool.not_eq_true, Bool.not_eq_false, Bool.not_true, Bool.not_false, Bool.not_eq_true', Bool.not_eq_false', Bool.or_false, Bool.false_or, Bool.or_true, Bool.true_or, Bool.and_true, Bool.true_and, reduceCtorEq] at hc) <;> (try with_reducible contradiction)))
      all_goals first | rfl | skip
    · by_cases hp : putN s.cfg.store s.spares = 0
      · rw [if_pos hp, hp] at q3
        rw [hp]
        simp only [i64T, storeT] at q3
        repeat' (first
          | apply_assumption -exfalso -symm (transparency := .reducible) only [*]
          | (with_reducible refine callEnd_of q1 ?_ <;> (try simp -implicitDefEqProofs only [go_sem, stT, cfgT, keyT, u32T, i64T, booT, isBool_v, asBool_v, storeT]))
          | (with_reducible refine callEnd_of q2 ?_ <;> (try simp -implicitDefEqProofs only [go_sem, stT, cfgT, keyT, u32T, i64T, booT, isBool_v, asBool_v, storeT]))
          | (with_reducible refine callEnd_of q3 ?_ <;> (try simp -implicitDefEqProofs only [go_sem, stT, cfgT, keyT, u32T, i64T, booT, isBool_v, asBool_v, storeT]))
          | (with_reducible refine And.intro ?_ ?_)
          | (refine drawIt ?_; kernel_rfl)
          | ((with_reducible refine opsF_id ?_); simp -implicitDefEqProofs only [go_sem, stT, cfgT, keyT, u32T, i64T, booT, isBool_v, asBool_v, storeT])
          | ((with_reducible refine SW.id ?_); first | with_reducible refine SW.seqK fun K hK => ?_ | with_reducible refine SW.block ?_ | with_reducible refine SW.scope ?_ | ((first | with_reducible refine SW.skip ?_ | with_reducible refine SW.exit ?_ | with_reducible refine SW.label ?_ | with_reducible refine SW.ret ?_ | with_reducible refine SW.go MR2 ?_ | refine SW.goDrawF MR2 (by rfl) (by kernel_rfl) ?_); simp -implicitDefEqProofs only [go_sem, stT, cfgT, keyT, u32T, i64T, booT, isBool_v, asBool_v, storeT]) | (refine SW.cond (by simp -implicitDefEqProofs only [go_sem, stT, cfgT, keyT, u32T, i64T, booT, isBool_v, asBool_v, storeT]; rfl) (fun ht => ?_) (fun ht => ?_) <;> (try simp only [decide_eq_true_eq, decide_eq_false_iff_not, beq_iff_eq, bne_iff_ne, beq_eq_false_iff_ne, bne_eq_false_iff_eq, Bool.or_eq_true, Bool.and_eq_true, Bool.or_eq_false_iff, Bool.and_eq_false_imp, Bool.not_eq_true, Bool.not_eq_false, Bool.not_true, Bool.not_false, Bool.not_eq_true', Bool.not_eq_false', Bool.or_false, Bool.false_or, Bool.or_true, Bool.true_or, Bool.and_true, Bool.true_and, reduceCtorEq] at ht) <;> (try with_reducible contradiction)))
          | ((with_reducible refine guardSplit (fun hg => ?_) (fun hg => ?_)) <;> (try simp only [Bool.not_true, Bool.not_false] at hg) <;> (have hc := hg) <;> simp -implicitDefEqProofs only [go_sem, hg, stT, cfgT, keyT, u32T, i64T, booT, isBool_v, asBool_v, storeT] <;> (try simp only [decide_eq_true_eq, decide_eq_false_iff_not, beq_iff_eq, bne_iff_ne, beq_eq_false_iff_ne, bne_eq_false_iff_eq, Bool.or_eq_true, Bool.and_eq_true, Bool.or_eq_false_iff, Bool.and_eq_false_imp, Bool.not_eq_true, Bool.not_eq_false, Bool.not_true, Bool.not_false, Bool.not_eq_true', Bool.not_eq_false', Bool.or_false, Bool.false_or, Bool.or_true, Bool.true_or, Bool.and_true, Bool.true_and, reduceCtorEq] at hc) <;> (try with_reducible contradiction)))
        all_goals first | rfl | skip
      · rw [if_neg hp] at q3
        have hp' := eq_false hp
        generalize putN s.cfg.store s.spares = n at *
        simp only [i64T] at q3
        repeat' (first
          | apply_assumption -exfalso -symm (transparency := .reducible) only [*]
          | (with_reducible refine callEnd_of q1 ?_ <;> (try simp -implicitDefEqProofs only [go_sem, stT, cfgT, keyT, u32T, i64T, booT, isBool_v, asBool_v, hp']))
          | (with_reducible refine callEnd_of q2 ?_ <;> (try simp -implicitDefEqProofs only [go_sem, stT, cfgT, keyT, u32T, i64T, booT, isBool_v, asBool_v, hp']))
          | (with_reducible refine callEnd_of q3 ?_ <;> (try simp -implicitDefEqProofs only [go_sem, stT, cfgT, keyT, u32T, i64T, booT, isBool_v, asBool_v, hp']))
          | (with_reducible refine And.intro ?_ ?_)
          | (refine drawIt ?_; kernel_rfl)
          | ((with_reducible refine opsF_id ?_); simp -implicitDefEqProofs only [go_sem, stT, cfgT, keyT, u32T, i64T, booT, isBool_v, asBool_v, hp'])
          | ((with_reducible refine SW.id ?_); first | with_reducible refine SW.seqK fun K hK => ?_ | with_reducible refine SW.block ?_ | with_reducible refine SW.scope ?_ | ((first | with_reducible refine SW.skip ?_ | with_reducible refine SW.exit ?_ | with_reducible refine SW.label ?_ | with_reducible refine SW.ret ?_ | with_reducible refine SW.go MR2 ?_ | refine SW.goDrawF MR2 (by rfl) (by kernel_rfl) ?_); simp -implicitDefEqProofs only [go_sem, stT, cfgT, keyT, u32T, i64T, booT, isBool_v, asBool_v, hp']) | (refine SW.cond (by simp -implicitDefEqProofs only [go_sem, stT, cfgT, keyT, u32T, i64T, booT, isBool_v, asBool_v, hp']; rfl) (fun ht => ?_) (fun ht => ?_) <;> (try simp only [decide_eq_true_eq, decide_eq_false_iff_not, beq_iff_eq, bne_iff_ne, beq_eq_false_iff_ne, bne_eq_false_iff_eq, Bool.or_eq_true, Bool.and_eq_true, Bool.or_eq_false_iff, Bool.and_eq_false_imp, Bool.not_eq_true, Bool.not_eq_false, Bool.not_true, Bool.not_false, Bool.not_eq_true', Bool.not_eq_false', Bool.or_false, Bool.false_or, Bool.or_true, Bool.true_or, Bool.and_true, Bool.true_and, reduceCtorEq] at ht) <;> (try with_reducible contradiction)))
          | ((with_reducible refine guardSplit (fun hg => ?_) (fun hg => ?_)) <;> (try simp only [Bool.not_true, Bool.not_false] at hg) <;> (have hc := hg) <;> simp -implicitDefEqProofs only [go_sem, hg, stT, cfgT, keyT, u32T, i64T, booT, isBool_v, asBool_v, hp'] <;> (try simp only [decide_eq_true_eq, decide_eq_false_iff_not, beq_iff_eq, bne_iff_ne, beq_eq_false_iff_ne, bne_eq_false_iff_eq, Bool.or_eq_true, Bool.and_eq_true, Bool.or_eq_false_iff, Bool.and_eq_false_imp, Bool.not_eq_true, Bool.not_eq_false, Bool.not_true, Bool.not_false, Bool.not_eq_true', Bool.not_eq_false', Bool.or_false, Bool.false_or, Bool.or_true, Bool.true_or, Bool.and_true, Bool.true_and, reduceCtorEq] at hc) <;> (try with_reducible contradiction)))
        all_goals first | rfl | (simp [hp]; done) | skip
  · have h0' := eq_false h0
    generalize cfgN s.cfg = n at *
    repeat' (first
      | apply_assumption -exfalso -symm (transparency := .reducible) only [*]
      | (with_reducible refine callEnd_of q1 ?_ <;> (try simp -implicitDefEqProofs only [go_sem, stT, cfgT, keyT, u32T, i64T, booT, isBool_v, asBool_v, h0']))
      | (with_reducible refine And.intro ?_ ?_)
      | (refine drawIt ?_; kernel_rfl)
      | ((with_reducible refine opsF_id ?_); simp -implicitDefEqProofs only [go_sem, stT, cfgT, keyT, u32T, i64T, booT, isBool_v, asBool_v, h0'])
      | ((with_reducible refine SW.id ?_); first | with_reducible refine SW.seqK fun K hK => ?_ | with_reducible refine SW.block ?_ | with_reducible refine SW.scope ?_ | ((first | with_reducible refine SW.skip ?_ | with_reducible refine SW.exit ?_ | with_reducible refine SW.label ?_ | with_reducible refine SW.ret ?_ | with_reducible refine SW.go MR2 ?_ | refine SW.goDrawF MR2 (by rfl) (by kernel_rfl) ?_); simp -implicitDefEqProofs only [go_sem, stT, cfgT, keyT, u32T, i64T, booT, isBool_v, asBool_v, h0']) | (refine SW.cond (by simp -implicitDefEqProofs only [go_sem, stT, cfgT, keyT, u32T, i64T, booT, isBool_v, asBool_v, h0']; rfl) (fun ht => ?_) (fun ht => ?_) <;> (try simp only [decide_eq_true_eq, decide_eq_false_iff_not, beq_iff_eq, bne_iff_ne, beq_eq_false_iff_ne, bne_eq_false_iff_eq, Bool.or_eq_true, Bool.and_eq_true, Bool.or_eq_false_iff, Bool.and_eq_false_imp, Bool.not_eq_true, Bool.not_eq_false, Bool.not_true, Bool.not_false, Bool.not_eq_true', Bool.not_eq_false', Bool.or_false, Bool.false_or, Bool.or_true, Bool.true_or, Bool.and_true, Bool.true_and, reduceCtorEq] at ht) <;> (try with_reducible contradiction)))
      | ((with_reducible refine guardSplit (fun hg => ?_) (fun hg => ?_)) <;> (try simp only [Bool.not_true, Bool.not_false] at hg) <;> (have hc := hg) <;> simp -implicitDefEqProofs only [go_sem, hg, stT, cfgT, keyT, u32T, i64T, booT, isBool_v, asBool_v, h0'] <;> (try simp only [decide_eq_true_eq, decide_eq_false_iff_not, beq_iff_eq, bne_iff_ne, beq_eq_false_iff_ne, bne_eq_false_iff_eq, Bool.or_eq_true, Bool.and_eq_true, Bool.or_eq_false_iff, Bool.and_eq_false_imp, Bool.not_eq_true, Bool.not_eq_false, Bool.not_true, Bool.not_false, Bool.not_eq_true', Bool.not_eq_false', Bool.or_false, Bool.false_or, Bool.or_true, Bool.true_or, Bool.and_true, Bool.true_and, reduceCtorEq] at hc) <;> (try with_reducible contradiction)))
    all_goals first | rfl | simp [h0] | skip
end Go.PA
