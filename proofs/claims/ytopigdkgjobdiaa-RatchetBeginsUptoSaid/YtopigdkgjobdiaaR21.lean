/- A side made of a state. -/
import Derived.Test.YtopigdkgjobdiaaR20
namespace Go.PA
open Go.Proofs Go.Fe
set_option linter.unusedSimpArgs false
set_option linter.unusedVariables false
set_option maxRecDepth 100000
set_option maxHeartbeats 4000000
attribute [local go_sem] MR2 MR getP setP takesW
attribute [-go_sem] takeA roA A.good A.isAgg

theorem roA_st {rm : List Nat} {m : Nat} {s : StS} {p : Bool} {xs : List A} : roA rm (m + 3) (stT s (.sl p xs)) = .ret (stT s (.sl p xs)) := by
  simp only [stT, cfgT, keyT, u32T, i64T, booT, roA_agg, roA_arr, roA_v, roA_sl, rosW, RM.bind, bA_noowns, if_true]

theorem getP_store {s : StS} {sp : A} : getP (stT s sp) [.fld 0 0, .fld 2 2] = .ret (.v (.int .i64 s.cfg.store)) := by simp -implicitDefEqProofs only [go_sem, stT, cfgT, keyT, u32T, i64T, booT]
theorem from7_FS (q : Bool) (s : StS) (hs : StOk s) (hl : s.spares.length < 2 ^ 36) :
    FS Try.prog 7 [stT s (.sl q (s.spares.map spT))] (.ret [if checkN s = 0 then .box (ratT s) else .v (.pointer none), i64T (checkN s)] [none]) := by
  refine FS_of_SW (kb := [false]) (st0 := ?st) Try.func7 rfl rfl ?he ?_
  case he =>
    simp only [entrySt, stT, cfgT, keyT, u32T, i64T, booT, unfs, unf, A.noown, noowns, nA_noowns, bA_noowns, Option.map_some, if_true, reduceIte, List.nil_append, List.append_nil]
    rfl
  have q1 := checkP_FS q s hs hl
  have k1 := stT_noown (s := s) (sp := .sl q (s.spares.map spT)) rfl
  have k2 := stT_sz2 (s := s) (sp := .sl q (s.spares.map spT)) rfl
  have hsp := hs.spares
  clear hs
  simp only [i64T] at q1
  refine SW.weak (Weak.of [] (sls := [(0, stT s (.sl q (s.spares.map spT)))]) (bks := []) (ep := 64) (by rfl) (by repeat' (first | exact rfl | exact trivial | refine And.intro ?_ ?_)) trivial) ?_
  by_cases h0 : checkN s = 0
  · have hce := checkN_eq s
    rw [h0] at hce
    have hc : cfgN s.cfg = 0 := by
      by_cases h : cfgN s.cfg = 0
      · exact h
      · rw [if_pos h] at hce; exact absurd hce.symm h
    rw [if_neg (by simp [hc])] at hce
    have hok : okS s = true := by
      cases h : okS s
      · rw [h] at hce; simp at hce
      · rfl
    rw [if_neg (by simp [hok])] at hce
    have hp : putN s.cfg.store s.spares = 0 := by
      by_cases h : putN s.cfg.store s.spares = 0
      · exact h
      · rw [if_pos h] at hce; simp at hce
    have hst := cfg_store hc
    have q3 := sfrom_FS s.cfg.store q s.spares hst.1 hst.2 hl hsp
    rw [if_pos hp, hp] at q3
    rw [h0] at q1
    rw [if_pos h0, h0]
    clear hce hc hok hp hst hsp
    have q4 := begun_FS s.hasSend s.send s.sendHeader s.sendN
    have q5 := begun_FS s.hasRecv s.recv s.recvHeader s.recvN
    unfold ratT
    simp only [i64T, storeT, booT, keyT, u32T] at q3 q4 q5
    cases h1 : s.hasSend <;> cases h2 : s.hasRecv <;> rw [h1] at q4 <;> rw [h2] at q5 <;> simp only [lineT, if_true, Bool.false_eq_true, if_false, chT, keyT, u32T] at q4 q5
    all_goals
      repeat' (first
        | apply_assumption -exfalso -symm (transparency := .reducible) only [*]
        | (with_reducible refine callEnd_of q1 ?_ <;> (try simp -implicitDefEqProofs only [go_sem, getP_store, k1, k2, roA_st, h1, h2, cfgT, keyT, u32T, i64T, booT, chT, lineT, if_true, Bool.false_eq_true, if_false, isBool_v, asBool_v, storeT, zK_eq]))
        | (with_reducible refine callEnd_of q3 ?_ <;> (try simp -implicitDefEqProofs only [go_sem, getP_store, k1, k2, roA_st, h1, h2, cfgT, keyT, u32T, i64T, booT, chT, lineT, if_true, Bool.false_eq_true, if_false, isBool_v, asBool_v, storeT, zK_eq]))
        | (with_reducible refine callEnd_of q4 ?_ <;> (try simp -implicitDefEqProofs only [go_sem, getP_store, k1, k2, roA_st, h1, h2, cfgT, keyT, u32T, i64T, booT, chT, lineT, if_true, Bool.false_eq_true, if_false, isBool_v, asBool_v, storeT, zK_eq]))
        | (with_reducible refine callEnd_of q5 ?_ <;> (try simp -implicitDefEqProofs only [go_sem, getP_store, k1, k2, roA_st, h1, h2, cfgT, keyT, u32T, i64T, booT, chT, lineT, if_true, Bool.false_eq_true, if_false, isBool_v, asBool_v, storeT, zK_eq]))
        | (with_reducible refine And.intro ?_ ?_)
        | (refine drawIt ?_; kernel_rfl)
        | ((with_reducible refine opsF_id ?_); simp -implicitDefEqProofs only [go_sem, getP_store, k1, k2, roA_st, h1, h2, cfgT, keyT, u32T, i64T, booT, chT, lineT, if_true, Bool.false_eq_true, if_false, isBool_v, asBool_v, storeT, zK_eq])
        | ((with_reducible refine SW.id ?_); first | with_reducible refine SW.seqK fun K hK => ?_ | with_reducible refine SW.block ?_ | with_reducible refine SW.scope ?_ | ((first | with_reducible refine SW.skip ?_ | with_reducible refine SW.exit ?_ | with_reducible refine SW.label ?_ | with_reducible refine SW.ret ?_ | with_reducible refine SW.go MR2 ?_ | refine SW.goDrawF MR2 (by rfl) (by kernel_rfl) ?_); simp -implicitDefEqProofs only [go_sem, getP_store, k1, k2, roA_st, h1, h2, cfgT, keyT, u32T, i64T, booT, chT, lineT, if_true, Bool.false_eq_true, if_false, isBool_v, asBool_v, storeT, zK_eq]) | (refine SW.cond (by simp -implicitDefEqProofs only [go_sem, getP_store, k1, k2, roA_st, h1, h2, cfgT, keyT, u32T, i64T, booT, chT, lineT, if_true, Bool.false_eq_true, if_false, isBool_v, asBool_v, storeT, zK_eq]; rfl) (fun ht => ?_) (fun ht => ?_) <;> (try with_reducible contradiction))))
    all_goals first | rfl | skip
    all_goals trace_state
  · rw [if_neg h0]
    have h0' := eq_false h0
    generalize checkN s = n at *
    repeat' (first
      | apply_assumption -exfalso -symm (transparency := .reducible) only [*]
      | (with_reducible refine callEnd_of q1 ?_ <;> (try simp -implicitDefEqProofs only [go_sem, k1, k2, roA_st, i64T, h0']))
      | (with_reducible refine And.intro ?_ ?_)
      | (refine drawIt ?_; kernel_rfl)
      | ((with_reducible refine opsF_id ?_); simp -implicitDefEqProofs only [go_sem, k1, k2, roA_st, i64T, h0'])
      | ((with_reducible refine SW.id ?_); first | with_reducible refine SW.seqK fun K hK => ?_ | with_reducible refine SW.block ?_ | with_reducible refine SW.scope ?_ | ((first | with_reducible refine SW.skip ?_ | with_reducible refine SW.exit ?_ | with_reducible refine SW.label ?_ | with_reducible refine SW.ret ?_ | with_reducible refine SW.go MR2 ?_ | refine SW.goDrawF MR2 (by rfl) (by kernel_rfl) ?_); simp -implicitDefEqProofs only [go_sem, k1, k2, roA_st, i64T, h0']) | (refine SW.cond (by simp -implicitDefEqProofs only [go_sem, k1, k2, roA_st, i64T, h0']; rfl) (fun ht => ?_) (fun ht => ?_) <;> (try simp only [decide_eq_true_eq, decide_eq_false_iff_not, beq_iff_eq, bne_iff_ne, beq_eq_false_iff_ne, bne_eq_false_iff_eq, Bool.or_eq_true, Bool.and_eq_true, Bool.or_eq_false_iff, Bool.and_eq_false_imp, Bool.not_eq_true, Bool.not_eq_false, Bool.not_true, Bool.not_false, Bool.not_eq_true', Bool.not_eq_false', Bool.or_false, Bool.false_or, Bool.or_true, Bool.true_or, Bool.and_true, Bool.true_and, reduceCtorEq] at ht) <;> (try with_reducible contradiction)))
      | ((with_reducible refine guardSplit (fun hg => ?_) (fun hg => ?_)) <;> (try simp only [Bool.not_true, Bool.not_false] at hg) <;> (have hc := hg) <;> simp -implicitDefEqProofs only [go_sem, hg, k1, k2, roA_st, i64T, h0'] <;> (try simp only [decide_eq_true_eq, decide_eq_false_iff_not, beq_iff_eq, bne_iff_ne, beq_eq_false_iff_ne, bne_eq_false_iff_eq, Bool.or_eq_true, Bool.and_eq_true, Bool.or_eq_false_iff, Bool.and_eq_false_imp, Bool.not_eq_true, Bool.not_eq_false, Bool.not_true, Bool.not_false, Bool.not_eq_true', Bool.not_eq_false', Bool.or_false, Bool.false_or, Bool.or_true, Bool.true_or, Bool.and_true, Bool.true_and, reduceCtorEq] at hc) <;> (try with_reducible contradiction)))
    all_goals first | rfl | skip
    all_goals trace_state
end Go.PA
