/- What can be a state: the program's account of its parts. -/
import Derived.Test.YtopigdkgjobdiaaR14
import Derived.Test.YtopigdkgjobdiaaR12
namespace Go.PA
open Go.Proofs Go.Fe
set_option linter.unusedSimpArgs false
set_option linter.unusedVariables false
set_option maxRecDepth 100000
set_option maxHeartbeats 8000000
attribute [local go_sem] MR getP setP takesW
attribute [-go_sem] takeA roA A.good A.isAgg

def badO (s : StS) : Bool := (!s.hasOwn && !(decide (s.ownR = zK) && decide (s.ownU = zK))) || (s.hasOwn && !pairB s.ownR s.ownU)
def okS (s : StS) : Bool := !(badO s || bad2 s || bad3 s || bad4 s || bad5 s)
theorem badS_okS (s : StS) : badS s = (decide (s.cfg.store < s.spares.length) || !okS s || dupB s.spares) := by
  unfold badS bad1 okS badO
  generalize decide (s.cfg.store < s.spares.length) = a
  generalize (!s.hasOwn && !(decide (s.ownR = zK) && decide (s.ownU = zK))) = b
  generalize (s.hasOwn && !pairB s.ownR s.ownU) = c
  generalize bad2 s = d
  generalize bad3 s = e
  generalize bad4 s = f
  generalize bad5 s = g
  generalize dupB s.spares = h
  cases a <;> cases b <;> cases c <;> cases d <;> cases e <;> cases f <;> cases g <;> cases h <;> rfl
theorem z32 (n : Nat) : ((n : Int) = 0) = (n = 0) := by simp

section
variable {s : StS} {sp : A}
theorem getP_st0 : getP (stT s sp) [.fld 0 0] = .ret (cfgT s.cfg) := by simp -implicitDefEqProofs only [go_sem, stT, cfgT, keyT, u32T, i64T, booT]
theorem getP_st1 : getP (stT s sp) [.fld 1 3] = .ret (keyT s.root) := by simp -implicitDefEqProofs only [go_sem, stT, cfgT, keyT, u32T, i64T, booT]
theorem getP_st2 : getP (stT s sp) [.fld 2 35] = .ret (.agg [keyT s.ownR, keyT s.ownU]) := by simp -implicitDefEqProofs only [go_sem, stT, cfgT, keyT, u32T, i64T, booT]
theorem getP_st3 : getP (stT s sp) [.fld 3 99] = .ret (keyT s.peer) := by simp -implicitDefEqProofs only [go_sem, stT, cfgT, keyT, u32T, i64T, booT]
theorem getP_st4 : getP (stT s sp) [.fld 4 131] = .ret (booT s.hasOwn) := by simp -implicitDefEqProofs only [go_sem, stT, cfgT, keyT, u32T, i64T, booT]
theorem getP_st5 : getP (stT s sp) [.fld 5 132] = .ret (booT s.hasPeer) := by simp -implicitDefEqProofs only [go_sem, stT, cfgT, keyT, u32T, i64T, booT]
theorem getP_st6 : getP (stT s sp) [.fld 6 133] = .ret (booT s.turn) := by simp -implicitDefEqProofs only [go_sem, stT, cfgT, keyT, u32T, i64T, booT]
theorem getP_st7 : getP (stT s sp) [.fld 7 134] = .ret (keyT s.send) := by simp -implicitDefEqProofs only [go_sem, stT, cfgT, keyT, u32T, i64T, booT]
theorem getP_st8 : getP (stT s sp) [.fld 8 166] = .ret (keyT s.sendHeader) := by simp -implicitDefEqProofs only [go_sem, stT, cfgT, keyT, u32T, i64T, booT]
theorem getP_st9 : getP (stT s sp) [.fld 9 198] = .ret (keyT s.nextSend) := by simp -implicitDefEqProofs only [go_sem, stT, cfgT, keyT, u32T, i64T, booT]
theorem getP_st10 : getP (stT s sp) [.fld 10 230] = .ret (u32T s.sendN) := by simp -implicitDefEqProofs only [go_sem, stT, cfgT, keyT, u32T, i64T, booT]
theorem getP_st11 : getP (stT s sp) [.fld 11 231] = .ret (u32T s.prev) := by simp -implicitDefEqProofs only [go_sem, stT, cfgT, keyT, u32T, i64T, booT]
theorem getP_st12 : getP (stT s sp) [.fld 12 232] = .ret (booT s.hasSend) := by simp -implicitDefEqProofs only [go_sem, stT, cfgT, keyT, u32T, i64T, booT]
theorem getP_st13 : getP (stT s sp) [.fld 13 233] = .ret (keyT s.recv) := by simp -implicitDefEqProofs only [go_sem, stT, cfgT, keyT, u32T, i64T, booT]
theorem getP_st14 : getP (stT s sp) [.fld 14 265] = .ret (keyT s.recvHeader) := by simp -implicitDefEqProofs only [go_sem, stT, cfgT, keyT, u32T, i64T, booT]
theorem getP_st15 : getP (stT s sp) [.fld 15 297] = .ret (keyT s.nextRecv) := by simp -implicitDefEqProofs only [go_sem, stT, cfgT, keyT, u32T, i64T, booT]
theorem getP_st16 : getP (stT s sp) [.fld 16 329] = .ret (u32T s.recvN) := by simp -implicitDefEqProofs only [go_sem, stT, cfgT, keyT, u32T, i64T, booT]
theorem getP_st17 : getP (stT s sp) [.fld 17 330] = .ret (booT s.hasRecv) := by simp -implicitDefEqProofs only [go_sem, stT, cfgT, keyT, u32T, i64T, booT]
theorem getP_st18 : getP (stT s sp) [.fld 18 331] = .ret (sp) := by simp -implicitDefEqProofs only [go_sem, stT, cfgT, keyT, u32T, i64T, booT]
theorem stT_sz (h : sp.sz = 1) : (stT s sp).sz = 332 := by simp only [stT, cfgT, keyT, u32T, i64T, booT, A.sz, szs, h]
theorem stT_good : (stT s sp).good = true := by simp only [stT, A.good, A.isAgg]
theorem stT_agg : (stT s sp).isAgg = true := by simp only [stT, A.good, A.isAgg]
end
attribute [go_sem] getP_st0 getP_st1 getP_st2 getP_st3 getP_st4 getP_st5 getP_st6 getP_st7 getP_st8 getP_st9 getP_st10 getP_st11 getP_st12 getP_st13 getP_st14 getP_st15 getP_st16 getP_st17 getP_st18 stT_good stT_agg

theorem stands_FS (q : Bool) (s : StS) (hs : StOk s) : FS Try.prog 18 [stT s (.sl q (s.spares.map spT))] (.ret [booT (okS s)] [none]) := by
  have q2 := paired_FS s.ownR s.ownU hs.ownR.len hs.ownR.lt hs.ownU.len
  have n1 := hs.ownR.len
  have n2 := hs.ownU.len
  have n3 := hs.peer.len
  have n4 := hs.send.len
  have n5 := hs.sendHeader.len
  have n6 := hs.recv.len
  have n7 := hs.recvHeader.len
  have n8 := zK_len
  clear hs
  refine FS_of_SW (kb := [false]) (st0 := ?st) Try.func18 rfl rfl ?he ?_
  case he =>
    simp only [entrySt, stT, cfgT, keyT, u32T, i64T, booT, unfs, unf, A.noown, noowns, nA_noowns, bA_noowns, Option.map_some, if_true, reduceIte, List.nil_append, List.append_nil]
    rfl
  refine SW.weak (Weak.of [] (sls := [(0, stT s (.sl q (s.spares.map spT)))]) (bks := []) (ep := 64) (by rfl) (by repeat' (first | exact rfl | exact trivial | refine And.intro ?_ ?_)) trivial) ?_
  obtain ⟨ok, hok⟩ : ∃ b, okS s = b := ⟨_, rfl⟩
  rw [hok]
  simp only [okS, badO, bad2, bad3, bad4, bad5] at hok
  cases ho : s.hasOwn <;> cases hsd : s.hasSend <;> cases hr : s.hasRecv <;> simp only [ho, hsd, hr, Bool.not_false, Bool.not_true, Bool.true_and, Bool.false_and, Bool.or_false, Bool.false_or, Bool.true_or, Bool.or_true, Bool.and_false, Bool.and_true] at hok
  all_goals
    repeat' (first
      | apply_assumption -exfalso -symm (transparency := .reducible) only [*]
      | with_reducible refine SW.stopR 4 ?_
      | (refine callEnd_of q2 ?_ <;> (try simp -implicitDefEqProofs only [go_sem, ho, hsd, hr, cfgT, keyT, u32T, i64T, booT, isBool_v, asBool_v, zK_eq, n1, n2, n3, n4, n5, n6, n7, n8, z32]))
      | (with_reducible refine And.intro ?_ ?_)
      | (refine drawIt ?_; kernel_rfl)
      | ((with_reducible refine opsF_id ?_); simp -implicitDefEqProofs only [go_sem, ho, hsd, hr, cfgT, keyT, u32T, i64T, booT, isBool_v, asBool_v, zK_eq, n1, n2, n3, n4, n5, n6, n7, n8, z32])
      | ((with_reducible refine SW.id ?_); first | with_reducible refine SW.seqK fun K hK => ?_ | with_reducible refine SW.block ?_ | with_reducible refine SW.scope ?_ | ((first | with_reducible refine SW.skip ?_ | with_reducible refine SW.exit ?_ | with_reducible refine SW.label ?_ | with_reducible refine SW.ret ?_ | with_reducible refine SW.go MR ?_ | refine SW.goDrawF MR (by rfl) (by kernel_rfl) ?_); simp -implicitDefEqProofs only [go_sem, ho, hsd, hr, cfgT, keyT, u32T, i64T, booT, isBool_v, asBool_v, zK_eq, n1, n2, n3, n4, n5, n6, n7, n8, z32]) | (refine SW.cond (by simp -implicitDefEqProofs only [go_sem, ho, hsd, hr, cfgT, keyT, u32T, i64T, booT, isBool_v, asBool_v, zK_eq, n1, n2, n3, n4, n5, n6, n7, n8, z32]; rfl) (fun ht => ?_) (fun ht => ?_) <;> (try simp only [decide_eq_true_eq, decide_eq_false_iff_not, beq_iff_eq, bne_iff_ne, beq_eq_false_iff_ne, bne_eq_false_iff_eq, Bool.or_eq_true, Bool.and_eq_true, Bool.or_eq_false_iff, Bool.and_eq_false_imp, Bool.not_eq_true, Bool.not_eq_false, Bool.not_true, Bool.not_false, Bool.not_eq_true', Bool.not_eq_false', Bool.or_false, Bool.false_or, Bool.or_true, Bool.true_or, Bool.and_true, Bool.true_and, reduceCtorEq] at ht) <;> (try with_reducible contradiction)))
      | ((with_reducible refine guardSplit (fun hg => ?_) (fun hg => ?_)) <;> (try simp only [Bool.not_true, Bool.not_false] at hg) <;> (have hc := hg) <;> simp -implicitDefEqProofs only [go_sem, hg, ho, hsd, hr, cfgT, keyT, u32T, i64T, booT, isBool_v, asBool_v, zK_eq, n1, n2, n3, n4, n5, n6, n7, n8, z32] <;> (try simp only [decide_eq_true_eq, decide_eq_false_iff_not, beq_iff_eq, bne_iff_ne, beq_eq_false_iff_ne, bne_eq_false_iff_eq, Bool.or_eq_true, Bool.and_eq_true, Bool.or_eq_false_iff, Bool.and_eq_false_imp, Bool.not_eq_true, Bool.not_eq_false, Bool.not_true, Bool.not_false, Bool.not_eq_true', Bool.not_eq_false', Bool.or_false, Bool.false_or, Bool.or_true, Bool.true_or, Bool.and_true, Bool.true_and, reduceCtorEq] at hc) <;> (try with_reducible contradiction)))
  all_goals first
    | (refine Stop.go (SW.weak (Weak.of [(64, 1), (256, 3)] (sls := [(1, .ptr 1 []), (2, .v (.bool false)), (3, .ptr 3 [])]) (bks := [(1, .var (stT s (.sl q (s.spares.map spT)))), (3, .var (.arr 32 (bA (zK))))]) (ep := 64) (by rfl) ?_ ?_) ?_)
       · simp -implicitDefEqProofs only [go_sem]
         all_goals (repeat' (first | exact rfl | exact trivial | refine And.intro ?_ ?_))
       · simp -implicitDefEqProofs only [go_sem, zK_eq]
         all_goals (repeat' (first | exact rfl | exact trivial | refine And.intro ?_ ?_)))
    | (rw [← hok]; simp [*]; done)
    | (rw [← hok]; simp [*] <;> omega)
    | (clear q2; subst hok; simp_all; done)
    | (clear q2; subst hok; simp_all <;> omega)
    | skip
  all_goals
    cases hp : s.hasPeer <;> cases ht : s.turn <;> simp only [hp, ht, Bool.not_false, Bool.not_true, Bool.true_and, Bool.false_and, Bool.or_false, Bool.false_or, Bool.true_or, Bool.or_true, Bool.and_false, Bool.and_true] at hok
  all_goals
    repeat' (first
      | apply_assumption -exfalso -symm (transparency := .reducible) only [*]
      | with_reducible refine SW.stopR 6 ?_
      | (with_reducible refine And.intro ?_ ?_)
      | (refine drawIt ?_; kernel_rfl)
      | ((with_reducible refine opsF_id ?_); simp -implicitDefEqProofs only [go_sem, hp, ht, ho, hsd, hr, cfgT, keyT, u32T, i64T, booT, isBool_v, asBool_v, zK_eq, n1, n2, n3, n4, n5, n6, n7, n8, z32])
      | ((with_reducible refine SW.id ?_); first | with_reducible refine SW.seqK fun K hK => ?_ | with_reducible refine SW.block ?_ | with_reducible refine SW.scope ?_ | ((first | with_reducible refine SW.skip ?_ | with_reducible refine SW.exit ?_ | with_reducible refine SW.label ?_ | with_reducible refine SW.ret ?_ | with_reducible refine SW.go MR ?_ | refine SW.goDrawF MR (by rfl) (by kernel_rfl) ?_); simp -implicitDefEqProofs only [go_sem, hp, ht, ho, hsd, hr, cfgT, keyT, u32T, i64T, booT, isBool_v, asBool_v, zK_eq, n1, n2, n3, n4, n5, n6, n7, n8, z32]) | (refine SW.cond (by simp -implicitDefEqProofs only [go_sem, hp, ht, ho, hsd, hr, cfgT, keyT, u32T, i64T, booT, isBool_v, asBool_v, zK_eq, n1, n2, n3, n4, n5, n6, n7, n8, z32]; rfl) (fun ht => ?_) (fun ht => ?_) <;> (try simp only [decide_eq_true_eq, decide_eq_false_iff_not, beq_iff_eq, bne_iff_ne, beq_eq_false_iff_ne, bne_eq_false_iff_eq, Bool.or_eq_true, Bool.and_eq_true, Bool.or_eq_false_iff, Bool.and_eq_false_imp, Bool.not_eq_true, Bool.not_eq_false, Bool.not_true, Bool.not_false, Bool.not_eq_true', Bool.not_eq_false', Bool.or_false, Bool.false_or, Bool.or_true, Bool.true_or, Bool.and_true, Bool.true_and, reduceCtorEq] at ht) <;> (try with_reducible contradiction)))
      | ((with_reducible refine guardSplit (fun hg => ?_) (fun hg => ?_)) <;> (try simp only [Bool.not_true, Bool.not_false] at hg) <;> (have hc := hg) <;> simp -implicitDefEqProofs only [go_sem, hg, hp, ht, ho, hsd, hr, cfgT, keyT, u32T, i64T, booT, isBool_v, asBool_v, zK_eq, n1, n2, n3, n4, n5, n6, n7, n8, z32] <;> (try simp only [decide_eq_true_eq, decide_eq_false_iff_not, beq_iff_eq, bne_iff_ne, beq_eq_false_iff_ne, bne_eq_false_iff_eq, Bool.or_eq_true, Bool.and_eq_true, Bool.or_eq_false_iff, Bool.and_eq_false_imp, Bool.not_eq_true, Bool.not_eq_false, Bool.not_true, Bool.not_false, Bool.not_eq_true', Bool.not_eq_false', Bool.or_false, Bool.false_or, Bool.or_true, Bool.true_or, Bool.and_true, Bool.true_and, reduceCtorEq] at hc) <;> (try with_reducible contradiction)))
  all_goals first
    | (refine Stop.go (SW.weak (Weak.of [(1, 1), (3, 3)] (sls := [(1, .ptr 1 []), (2, .v (.bool false)), (3, .ptr 3 [])]) (bks := [(1, .var (stT s (.sl q (s.spares.map spT)))), (3, .var (.arr 32 (bA (zK))))]) (ep := 64) (by rfl) ?_ ?_) ?_)
       · simp -implicitDefEqProofs only [go_sem]
         all_goals (repeat' (first | exact rfl | exact trivial | refine And.intro ?_ ?_))
       · simp -implicitDefEqProofs only [go_sem, zK_eq]
         all_goals (repeat' (first | exact rfl | exact trivial | refine And.intro ?_ ?_)))
    | (rw [← hok]; simp [*]; done)
    | (rw [← hok]; simp [*] <;> omega)
    | (clear q2; subst hok; simp_all; done)
    | (clear q2; subst hok; simp_all <;> omega)
    | skip
  all_goals
    repeat' (first
      | apply_assumption -exfalso -symm (transparency := .reducible) only [*]
      | with_reducible refine SW.stopR 8 ?_
      | (with_reducible refine And.intro ?_ ?_)
      | (refine drawIt ?_; kernel_rfl)
      | ((with_reducible refine opsF_id ?_); simp -implicitDefEqProofs only [go_sem, hp, ht, ho, hsd, hr, cfgT, keyT, u32T, i64T, booT, isBool_v, asBool_v, zK_eq, n1, n2, n3, n4, n5, n6, n7, n8, z32])
      | ((with_reducible refine SW.id ?_); first | with_reducible refine SW.seqK fun K hK => ?_ | with_reducible refine SW.block ?_ | with_reducible refine SW.scope ?_ | ((first | with_reducible refine SW.skip ?_ | with_reducible refine SW.exit ?_ | with_reducible refine SW.label ?_ | with_reducible refine SW.ret ?_ | with_reducible refine SW.go MR ?_ | refine SW.goDrawF MR (by rfl) (by kernel_rfl) ?_); simp -implicitDefEqProofs only [go_sem, hp, ht, ho, hsd, hr, cfgT, keyT, u32T, i64T, booT, isBool_v, asBool_v, zK_eq, n1, n2, n3, n4, n5, n6, n7, n8, z32]) | (refine SW.cond (by simp -implicitDefEqProofs only [go_sem, hp, ht, ho, hsd, hr, cfgT, keyT, u32T, i64T, booT, isBool_v, asBool_v, zK_eq, n1, n2, n3, n4, n5, n6, n7, n8, z32]; rfl) (fun ht => ?_) (fun ht => ?_) <;> (try simp only [decide_eq_true_eq, decide_eq_false_iff_not, beq_iff_eq, bne_iff_ne, beq_eq_false_iff_ne, bne_eq_false_iff_eq, Bool.or_eq_true, Bool.and_eq_true, Bool.or_eq_false_iff, Bool.and_eq_false_imp, Bool.not_eq_true, Bool.not_eq_false, Bool.not_true, Bool.not_false, Bool.not_eq_true', Bool.not_eq_false', Bool.or_false, Bool.false_or, Bool.or_true, Bool.true_or, Bool.and_true, Bool.true_and, reduceCtorEq] at ht) <;> (try with_reducible contradiction)))
      | ((with_reducible refine guardSplit (fun hg => ?_) (fun hg => ?_)) <;> (try simp only [Bool.not_true, Bool.not_false] at hg) <;> (have hc := hg) <;> simp -implicitDefEqProofs only [go_sem, hg, hp, ht, ho, hsd, hr, cfgT, keyT, u32T, i64T, booT, isBool_v, asBool_v, zK_eq, n1, n2, n3, n4, n5, n6, n7, n8, z32] <;> (try simp only [decide_eq_true_eq, decide_eq_false_iff_not, beq_iff_eq, bne_iff_ne, beq_eq_false_iff_ne, bne_eq_false_iff_eq, Bool.or_eq_true, Bool.and_eq_true, Bool.or_eq_false_iff, Bool.and_eq_false_imp, Bool.not_eq_true, Bool.not_eq_false, Bool.not_true, Bool.not_false, Bool.not_eq_true', Bool.not_eq_false', Bool.or_false, Bool.false_or, Bool.or_true, Bool.true_or, Bool.and_true, Bool.true_and, reduceCtorEq] at hc) <;> (try with_reducible contradiction)))
  all_goals first
    | (refine Stop.go (SW.weak (Weak.of [(1, 1), (3, 3)] (sls := [(1, .ptr 1 []), (2, .v (.bool false)), (3, .ptr 3 [])]) (bks := [(1, .var (stT s (.sl q (s.spares.map spT)))), (3, .var (.arr 32 (bA (zK))))]) (ep := 64) (by rfl) ?_ ?_) ?_)
       · simp -implicitDefEqProofs only [go_sem]
         all_goals (repeat' (first | exact rfl | exact trivial | refine And.intro ?_ ?_))
       · simp -implicitDefEqProofs only [go_sem, zK_eq]
         all_goals (repeat' (first | exact rfl | exact trivial | refine And.intro ?_ ?_)))
    | (rw [← hok]; simp [*]; done)
    | (rw [← hok]; simp [*] <;> omega)
    | (clear q2; subst hok; simp_all; done)
    | (clear q2; subst hok; simp_all <;> omega)
    | skip
  all_goals
    repeat' (first
      | apply_assumption -exfalso -symm (transparency := .reducible) only [*]
      | with_reducible refine SW.stopR 10 ?_
      | (with_reducible refine And.intro ?_ ?_)
      | (refine drawIt ?_; kernel_rfl)
      | ((with_reducible refine opsF_id ?_); simp -implicitDefEqProofs only [go_sem, hp, ht, ho, hsd, hr, cfgT, keyT, u32T, i64T, booT, isBool_v, asBool_v, zK_eq, n1, n2, n3, n4, n5, n6, n7, n8, z32])
      | ((with_reducible refine SW.id ?_); first | with_reducible refine SW.seqK fun K hK => ?_ | with_reducible refine SW.block ?_ | with_reducible refine SW.scope ?_ | ((first | with_reducible refine SW.skip ?_ | with_reducible refine SW.exit ?_ | with_reducible refine SW.label ?_ | with_reducible refine SW.ret ?_ | with_reducible refine SW.go MR ?_ | refine SW.goDrawF MR (by rfl) (by kernel_rfl) ?_); simp -implicitDefEqProofs only [go_sem, hp, ht, ho, hsd, hr, cfgT, keyT, u32T, i64T, booT, isBool_v, asBool_v, zK_eq, n1, n2, n3, n4, n5, n6, n7, n8, z32]) | (refine SW.cond (by simp -implicitDefEqProofs only [go_sem, hp, ht, ho, hsd, hr, cfgT, keyT, u32T, i64T, booT, isBool_v, asBool_v, zK_eq, n1, n2, n3, n4, n5, n6, n7, n8, z32]; rfl) (fun ht => ?_) (fun ht => ?_) <;> (try simp only [decide_eq_true_eq, decide_eq_false_iff_not, beq_iff_eq, bne_iff_ne, beq_eq_false_iff_ne, bne_eq_false_iff_eq, Bool.or_eq_true, Bool.and_eq_true, Bool.or_eq_false_iff, Bool.and_eq_false_imp, Bool.not_eq_true, Bool.not_eq_false, Bool.not_true, Bool.not_false, Bool.not_eq_true', Bool.not_eq_false', Bool.or_false, Bool.false_or, Bool.or_true, Bool.true_or, Bool.and_true, Bool.true_and, reduceCtorEq] at ht) <;> (try with_reducible contradiction)))
      | ((with_reducible refine guardSplit (fun hg => ?_) (fun hg => ?_)) <;> (try simp only [Bool.not_true, Bool.not_false] at hg) <;> (have hc := hg) <;> simp -implicitDefEqProofs only [go_sem, hg, hp, ht, ho, hsd, hr, cfgT, keyT, u32T, i64T, booT, isBool_v, asBool_v, zK_eq, n1, n2, n3, n4, n5, n6, n7, n8, z32] <;> (try simp only [decide_eq_true_eq, decide_eq_false_iff_not, beq_iff_eq, bne_iff_ne, beq_eq_false_iff_ne, bne_eq_false_iff_eq, Bool.or_eq_true, Bool.and_eq_true, Bool.or_eq_false_iff, Bool.and_eq_false_imp, Bool.not_eq_true, Bool.not_eq_false, Bool.not_true, Bool.not_false, Bool.not_eq_true', Bool.not_eq_false', Bool.or_false, Bool.false_or, Bool.or_true, Bool.true_or, Bool.and_true, Bool.true_and, reduceCtorEq] at hc) <;> (try with_reducible contradiction)))
  all_goals first
    | (refine Stop.go (SW.weak (Weak.of [(1, 1), (3, 3)] (sls := [(1, .ptr 1 []), (2, .v (.bool false)), (3, .ptr 3 [])]) (bks := [(1, .var (stT s (.sl q (s.spares.map spT)))), (3, .var (.arr 32 (bA (zK))))]) (ep := 64) (by rfl) ?_ ?_) ?_)
       · simp -implicitDefEqProofs only [go_sem]
         all_goals (repeat' (first | exact rfl | exact trivial | refine And.intro ?_ ?_))
       · simp -implicitDefEqProofs only [go_sem, zK_eq]
         all_goals (repeat' (first | exact rfl | exact trivial | refine And.intro ?_ ?_)))
    | (rw [← hok]; simp [*]; done)
    | (rw [← hok]; simp [*] <;> omega)
    | (clear q2; subst hok; simp_all; done)
    | (clear q2; subst hok; simp_all <;> omega)
    | skip
  all_goals
    repeat' (first
      | apply_assumption -exfalso -symm (transparency := .reducible) only [*]
      | (refine callEnd_of q2 ?_ <;> (try simp -implicitDefEqProofs only [go_sem, hp, ht, ho, hsd, hr, cfgT, keyT, u32T, i64T, booT, isBool_v, asBool_v, zK_eq, n1, n2, n3, n4, n5, n6, n7, n8, z32]))
      | (with_reducible refine And.intro ?_ ?_)
      | (refine drawIt ?_; kernel_rfl)
      | ((with_reducible refine opsF_id ?_); simp -implicitDefEqProofs only [go_sem, hp, ht, ho, hsd, hr, cfgT, keyT, u32T, i64T, booT, isBool_v, asBool_v, zK_eq, n1, n2, n3, n4, n5, n6, n7, n8, z32])
      | ((with_reducible refine SW.id ?_); first | with_reducible refine SW.seqK fun K hK => ?_ | with_reducible refine SW.block ?_ | with_reducible refine SW.scope ?_ | ((first | with_reducible refine SW.skip ?_ | with_reducible refine SW.exit ?_ | with_reducible refine SW.label ?_ | with_reducible refine SW.ret ?_ | with_reducible refine SW.go MR ?_ | refine SW.goDrawF MR (by rfl) (by kernel_rfl) ?_); simp -implicitDefEqProofs only [go_sem, hp, ht, ho, hsd, hr, cfgT, keyT, u32T, i64T, booT, isBool_v, asBool_v, zK_eq, n1, n2, n3, n4, n5, n6, n7, n8, z32]) | (refine SW.cond (by simp -implicitDefEqProofs only [go_sem, hp, ht, ho, hsd, hr, cfgT, keyT, u32T, i64T, booT, isBool_v, asBool_v, zK_eq, n1, n2, n3, n4, n5, n6, n7, n8, z32]; rfl) (fun ht => ?_) (fun ht => ?_) <;> (try simp only [decide_eq_true_eq, decide_eq_false_iff_not, beq_iff_eq, bne_iff_ne, beq_eq_false_iff_ne, bne_eq_false_iff_eq, Bool.or_eq_true, Bool.and_eq_true, Bool.or_eq_false_iff, Bool.and_eq_false_imp, Bool.not_eq_true, Bool.not_eq_false, Bool.not_true, Bool.not_false, Bool.not_eq_true', Bool.not_eq_false', Bool.or_false, Bool.false_or, Bool.or_true, Bool.true_or, Bool.and_true, Bool.true_and, reduceCtorEq] at ht) <;> (try with_reducible contradiction)))
      | ((with_reducible refine guardSplit (fun hg => ?_) (fun hg => ?_)) <;> (try simp only [Bool.not_true, Bool.not_false] at hg) <;> (have hc := hg) <;> simp -implicitDefEqProofs only [go_sem, hg, hp, ht, ho, hsd, hr, cfgT, keyT, u32T, i64T, booT, isBool_v, asBool_v, zK_eq, n1, n2, n3, n4, n5, n6, n7, n8, z32] <;> (try simp only [decide_eq_true_eq, decide_eq_false_iff_not, beq_iff_eq, bne_iff_ne, beq_eq_false_iff_ne, bne_eq_false_iff_eq, Bool.or_eq_true, Bool.and_eq_true, Bool.or_eq_false_iff, Bool.and_eq_false_imp, Bool.not_eq_true, Bool.not_eq_false, Bool.not_true, Bool.not_false, Bool.not_eq_true', Bool.not_eq_false', Bool.or_false, Bool.false_or, Bool.or_true, Bool.true_or, Bool.and_true, Bool.true_and, reduceCtorEq] at hc) <;> (try with_reducible contradiction)))
  all_goals first
    | (rw [← hok]; simp [*]; done)
    | (rw [← hok]; simp [*] <;> omega)
    | (clear q2; subst hok; simp_all; done)
    | (clear q2; subst hok; simp_all <;> omega)
    | skip
  all_goals trace_state
end Go.PA
