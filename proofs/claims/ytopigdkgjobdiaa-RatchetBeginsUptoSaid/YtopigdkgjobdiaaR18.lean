/- Two states that are the same. -/
import Derived.Test.YtopigdkgjobdiaaR17
namespace Go.PA
open Go.Proofs Go.Fe
set_option linter.unusedSimpArgs false
set_option linter.unusedVariables false
set_option maxRecDepth 100000
set_option maxHeartbeats 4000000
attribute [local go_sem] MR2 MR getP setP takesW
attribute [-go_sem] takeA roA A.good A.isAgg

theorem dec_self {α : Type} {a : α} {i : Decidable (a = a)} : @decide (a = a) i = true := by simp
theorem same_st (q r : Bool) (s : StS) (hs : StOk s) (hl : s.spares.length < 2 ^ 36) : FS Try.prog 9 [stT s (.sl q (s.spares.map spT)), stT s (.sl r (s.spares.map spT))] (.ret [booT true] [none, none]) := by
  refine FS_of_SW (kb := [false, false]) (st0 := ?st) Try.func9 rfl rfl ?he ?_
  case he =>
    simp only [entrySt, stT, cfgT, keyT, u32T, i64T, booT, unfs, unf, A.noown, noowns, nA_noowns, bA_noowns, Option.map_some, if_true, reduceIte, List.nil_append, List.append_nil]
    rfl
  have q1 := same_sp q r s.spares hs.spares hl
  have n0 := hs.root.len
  have n1 := hs.ownR.len
  have n2 := hs.ownU.len
  have n3 := hs.peer.len
  have n4 := hs.send.len
  have n5 := hs.sendHeader.len
  have n6 := hs.recv.len
  have n7 := hs.recvHeader.len
  have n8 := hs.nextSend.len
  have n9 := hs.nextRecv.len
  simp only [booT] at q1
  refine SW.weak (Weak.of [] (sls := [(0, stT s (.sl q (s.spares.map spT))), (1, stT s (.sl r (s.spares.map spT)))]) (bks := []) (ep := 64) (by rfl) (by repeat' (first | exact rfl | exact trivial | refine And.intro ?_ ?_)) trivial) ?_
  repeat' (first
    | apply_assumption -exfalso -symm (transparency := .reducible) only [*]
    | (refine callEnd_of q1 ?_ <;> (try simp -implicitDefEqProofs only [go_sem, cfgT, keyT, u32T, i64T, booT, isBool_v, asBool_v, n0, n1, n2, n3, n4, n5, n6, n7, n8, n9, dec_self]))
    | (with_reducible refine And.intro ?_ ?_)
    | (refine drawIt ?_; kernel_rfl)
    | ((with_reducible refine opsF_id ?_); simp -implicitDefEqProofs only [go_sem, cfgT, keyT, u32T, i64T, booT, isBool_v, asBool_v, n0, n1, n2, n3, n4, n5, n6, n7, n8, n9, dec_self])
    | ((with_reducible refine SW.id ?_); first | with_reducible refine SW.seqK fun K hK => ?_ | with_reducible refine SW.block ?_ | with_reducible refine SW.scope ?_ | ((first | with_reducible refine SW.skip ?_ | with_reducible refine SW.exit ?_ | with_reducible refine SW.label ?_ | with_reducible refine SW.ret ?_ | with_reducible refine SW.go MR2 ?_ | refine SW.goDrawF MR2 (by rfl) (by kernel_rfl) ?_); simp -implicitDefEqProofs only [go_sem, cfgT, keyT, u32T, i64T, booT, isBool_v, asBool_v, n0, n1, n2, n3, n4, n5, n6, n7, n8, n9, dec_self]) | (refine SW.cond (by simp -implicitDefEqProofs only [go_sem, cfgT, keyT, u32T, i64T, booT, isBool_v, asBool_v, n0, n1, n2, n3, n4, n5, n6, n7, n8, n9, dec_self]; rfl) (fun ht => ?_) (fun ht => ?_) <;> (try simp only [decide_eq_true_eq, decide_eq_false_iff_not, beq_iff_eq, bne_iff_ne, beq_eq_false_iff_ne, bne_eq_false_iff_eq, Bool.or_eq_true, Bool.and_eq_true, Bool.or_eq_false_iff, Bool.and_eq_false_imp, Bool.not_eq_true, Bool.not_eq_false, Bool.not_true, Bool.not_false, Bool.not_eq_true', Bool.not_eq_false', Bool.or_false, Bool.false_or, Bool.or_true, Bool.true_or, Bool.and_true, Bool.true_and, reduceCtorEq] at ht) <;> (try with_reducible contradiction)))
    | ((with_reducible refine guardSplit (fun hg => ?_) (fun hg => ?_)) <;> (try simp only [Bool.not_true, Bool.not_false] at hg) <;> (have hc := hg) <;> simp -implicitDefEqProofs only [go_sem, hg, cfgT, keyT, u32T, i64T, booT, isBool_v, asBool_v, n0, n1, n2, n3, n4, n5, n6, n7, n8, n9, dec_self] <;> (try simp only [decide_eq_true_eq, decide_eq_false_iff_not, beq_iff_eq, bne_iff_ne, beq_eq_false_iff_ne, bne_eq_false_iff_eq, Bool.or_eq_true, Bool.and_eq_true, Bool.or_eq_false_iff, Bool.and_eq_false_imp, Bool.not_eq_true, Bool.not_eq_false, Bool.not_true, Bool.not_false, Bool.not_eq_true', Bool.not_eq_false', Bool.or_false, Bool.false_or, Bool.or_true, Bool.true_or, Bool.and_true, Bool.true_and, reduceCtorEq] at hc) <;> (try with_reducible contradiction)))
  all_goals first | rfl | skip
  all_goals trace_state

end Go.PA
