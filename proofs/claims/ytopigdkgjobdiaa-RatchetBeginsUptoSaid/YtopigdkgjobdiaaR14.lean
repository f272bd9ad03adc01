/- What can be a state: the document's check. -/
import Derived.Test.YtopigdkgjobdiaaR13
namespace Go.PA
open Go.Proofs Go.Fe
set_option linter.unusedSimpArgs false
set_option linter.unusedVariables false
set_option maxRecDepth 100000
set_option maxHeartbeats 4000000
attribute [local go_sem] MR getP setP takesW
attribute [-go_sem] takeA roA

def zK : List Nat := [0, 0, 0, 0, 0, 0, 0, 0, 0, 0, 0, 0, 0, 0, 0, 0, 0, 0, 0, 0, 0, 0, 0, 0, 0, 0, 0, 0, 0, 0, 0, 0]
theorem zK_eq : [0, 0, 0, 0, 0, 0, 0, 0, 0, 0, 0, 0, 0, 0, 0, 0, 0, 0, 0, 0, 0, 0, 0, 0, 0, 0, 0, 0, 0, 0, 0, 0] = zK := rfl
theorem zK_len : zK.length = 32 := rfl
def bad1 (s : StS) : Bool := decide (s.cfg.store < s.spares.length) || (!s.hasOwn && !(decide (s.ownR = zK) && decide (s.ownU = zK))) || (s.hasOwn && !pairB s.ownR s.ownU)
def bad2 (s : StS) : Bool := (!s.hasPeer && (!decide (s.peer = zK) || s.turn || s.hasSend || s.hasRecv)) || (s.hasPeer && !s.turn && !s.hasSend)
def bad3 (s : StS) : Bool := (s.hasSend || s.hasRecv) && !s.hasOwn
def bad4 (s : StS) : Bool := !s.hasSend && (!decide (s.send = zK) || !decide (s.sendHeader = zK) || !decide (s.sendN = 0) || !decide (s.prev = 0))
def bad5 (s : StS) : Bool := !s.hasRecv && (!decide (s.recv = zK) || !decide (s.recvHeader = zK) || !decide (s.recvN = 0))
def badS (s : StS) : Bool := bad1 s || bad2 s || bad3 s || bad4 s || bad5 s || dupB s.spares
def checkN (s : StS) : Int := if cfgN s.cfg ≠ 0 then cfgN s.cfg else if badS s then 130 else 0
theorem checkN_bad {s : StS} (h0 : cfgN s.cfg = 0) (h : badS s = true) : checkN s = 130 := by simp [checkN, h0, h]

theorem isBool_v {b : Bool} : (A.v (.bool b)).isBool = True := by simp [A.isBool]
theorem asBool_v {b : Bool} : (A.v (.bool b)).asBool = b := rfl
theorem checkD_FS (q : Bool) (s : StS) (hs : StOk s) (hlen : s.spares.length < 2 ^ 36) : FS Try.prog 6 [stT s (.sl q (s.spares.map spT))] (.ret [i64T (checkN s)] [none]) := by
  refine FS_of_SW (kb := [false]) (st0 := ?st) Try.func6 rfl rfl ?he ?_
  case he =>
    simp only [entrySt, stT, cfgT, keyT, u32T, i64T, booT, unfs, unf, A.noown, noowns, nA_noowns, bA_noowns, Option.map_some, if_true, reduceIte, List.nil_append, List.append_nil]
    rfl
  have q1 := config_FS s.cfg
  have q2 := isPair_FS s.ownR s.ownU hs.ownR.len hs.ownR.lt hs.ownU.len
  have q3 := twice_FS q s.spares hs.spares (by omega)
  simp only [cfgT, keyT, i64T, booT] at q1 q2 q3
  have n1 := hs.ownR.len
  have n2 := hs.ownU.len
  have n3 := hs.peer.len
  have n4 := hs.send.len
  have n5 := hs.sendHeader.len
  have n6 := hs.recv.len
  have n7 := hs.recvHeader.len
  have n8 := zK_len
  have z1 (n : Nat) : ((n : Int) = 0) = (n = 0) := by simp
  clear hs
  refine SW.weak (Weak.of [] (sls := [(0, stT s (.sl q (s.spares.map spT)))]) (bks := []) (ep := 64) (by rfl) (by repeat' (first | exact rfl | exact trivial | refine And.intro ?_ ?_)) trivial) ?_
  by_cases h0 : cfgN s.cfg = 0
  · rw [h0] at q1
    have bad := fun h => checkN_bad (s := s) h0 h
    repeat' (first
      | apply_assumption -exfalso -symm (transparency := .reducible) only [*]
      | with_reducible refine SW.stopI 5 ?_
      | (refine callEnd_of q1 ?_ <;> (try simp -implicitDefEqProofs only [go_sem, stT, cfgT, keyT, u32T, i64T, booT, isBool_v, asBool_v, zK_eq]))
      | (with_reducible refine And.intro ?_ ?_)
      | (refine drawIt ?_; kernel_rfl)
      | ((with_reducible refine opsF_id ?_); simp -implicitDefEqProofs only [go_sem, stT, cfgT, keyT, u32T, i64T, booT, isBool_v, asBool_v, zK_eq])
      | ((with_reducible refine SW.id ?_); first | with_reducible refine SW.seqK fun K hK => ?_ | with_reducible refine SW.block ?_ | with_reducible refine SW.scope ?_ | ((first | with_reducible refine SW.skip ?_ | with_reducible refine SW.exit ?_ | with_reducible refine SW.label ?_ | with_reducible refine SW.ret ?_ | with_reducible refine SW.go MR ?_ | refine SW.goDrawF MR (by rfl) (by kernel_rfl) ?_); simp -implicitDefEqProofs only [go_sem, stT, cfgT, keyT, u32T, i64T, booT, isBool_v, asBool_v, zK_eq]) | (refine SW.cond (by simp -implicitDefEqProofs only [go_sem, stT, cfgT, keyT, u32T, i64T, booT, isBool_v, asBool_v, zK_eq]; rfl) (fun ht => ?_) (fun ht => ?_) <;> (try simp only [decide_eq_true_eq, decide_eq_false_iff_not, beq_iff_eq, bne_iff_ne, beq_eq_false_iff_ne, bne_eq_false_iff_eq, Bool.or_eq_true, Bool.and_eq_true, Bool.or_eq_false_iff, Bool.and_eq_false_imp, Bool.not_eq_true, Bool.not_eq_false, Bool.not_true, Bool.not_false, Bool.not_eq_true', Bool.not_eq_false', Bool.or_false, Bool.false_or, Bool.or_true, Bool.true_or, Bool.and_true, Bool.true_and, reduceCtorEq] at ht) <;> (try with_reducible contradiction)))
      | ((with_reducible refine guardSplit (fun hg => ?_) (fun hg => ?_)) <;> (try simp only [Bool.not_true, Bool.not_false] at hg) <;> (have hc := hg) <;> simp -implicitDefEqProofs only [go_sem, hg, stT, cfgT, keyT, u32T, i64T, booT, isBool_v, asBool_v, zK_eq] <;> (try simp only [decide_eq_true_eq, decide_eq_false_iff_not, beq_iff_eq, bne_iff_ne, beq_eq_false_iff_ne, bne_eq_false_iff_eq, Bool.or_eq_true, Bool.and_eq_true, Bool.or_eq_false_iff, Bool.and_eq_false_imp, Bool.not_eq_true, Bool.not_eq_false, Bool.not_true, Bool.not_false, Bool.not_eq_true', Bool.not_eq_false', Bool.or_false, Bool.false_or, Bool.or_true, Bool.true_or, Bool.and_true, Bool.true_and, reduceCtorEq] at hc) <;> (try with_reducible contradiction)))
    refine Stop.go (SW.cutS (γ := PLift (bad1 s = false)) (fun _ => St.of [(1, .ptr 1 []), (2, .v (.int .i64 0)), (4, .ptr 4 [])] [(1, .var (stT s (.sl q (s.spares.map spT)))), (4, .var (.arr 32 (bA (zK))))] 64) (fun K hK => ?_) fun ⟨h1⟩ => ?_)
    · repeat' (first
        | apply_assumption -exfalso -symm (transparency := .reducible) only [*]
        | (refine callEnd_of q2 ?_ <;> (try simp -implicitDefEqProofs only [go_sem, stT, cfgT, keyT, u32T, i64T, booT, isBool_v, asBool_v, zK_eq, n1, n2, n8]))
        | (with_reducible refine And.intro ?_ ?_)
        | (refine drawIt ?_; kernel_rfl)
        | ((with_reducible refine opsF_id ?_); simp -implicitDefEqProofs only [go_sem, stT, cfgT, keyT, u32T, i64T, booT, isBool_v, asBool_v, zK_eq, n1, n2, n8])
        | ((with_reducible refine SW.id ?_); first | with_reducible refine SW.seqK fun K hK => ?_ | with_reducible refine SW.block ?_ | with_reducible refine SW.scope ?_ | ((first | with_reducible refine SW.skip ?_ | with_reducible refine SW.exit ?_ | with_reducible refine SW.label ?_ | with_reducible refine SW.ret ?_ | with_reducible refine SW.go MR ?_ | refine SW.goDrawF MR (by rfl) (by kernel_rfl) ?_); simp -implicitDefEqProofs only [go_sem, stT, cfgT, keyT, u32T, i64T, booT, isBool_v, asBool_v, zK_eq, n1, n2, n8]) | (refine SW.cond (by simp -implicitDefEqProofs only [go_sem, stT, cfgT, keyT, u32T, i64T, booT, isBool_v, asBool_v, zK_eq, n1, n2, n8]; rfl) (fun ht => ?_) (fun ht => ?_) <;> (try simp only [decide_eq_true_eq, decide_eq_false_iff_not, beq_iff_eq, bne_iff_ne, beq_eq_false_iff_ne, bne_eq_false_iff_eq, Bool.or_eq_true, Bool.and_eq_true, Bool.or_eq_false_iff, Bool.and_eq_false_imp, Bool.not_eq_true, Bool.not_eq_false, Bool.not_true, Bool.not_false, Bool.not_eq_true', Bool.not_eq_false', Bool.or_false, Bool.false_or, Bool.or_true, Bool.true_or, Bool.and_true, Bool.true_and, reduceCtorEq] at ht) <;> (try with_reducible contradiction)))
        | ((with_reducible refine guardSplit (fun hg => ?_) (fun hg => ?_)) <;> (try simp only [Bool.not_true, Bool.not_false] at hg) <;> (have hc := hg) <;> simp -implicitDefEqProofs only [go_sem, hg, stT, cfgT, keyT, u32T, i64T, booT, isBool_v, asBool_v, zK_eq, n1, n2, n8] <;> (try simp only [decide_eq_true_eq, decide_eq_false_iff_not, beq_iff_eq, bne_iff_ne, beq_eq_false_iff_ne, bne_eq_false_iff_eq, Bool.or_eq_true, Bool.and_eq_true, Bool.or_eq_false_iff, Bool.and_eq_false_imp, Bool.not_eq_true, Bool.not_eq_false, Bool.not_true, Bool.not_false, Bool.not_eq_true', Bool.not_eq_false', Bool.or_false, Bool.false_or, Bool.or_true, Bool.true_or, Bool.and_true, Bool.true_and, reduceCtorEq] at hc) <;> (try with_reducible contradiction)))
      all_goals first
        | (refine ⟨⟨by first | (simp [bad1, *] <;> omega) | (exfalso; simp_all; done)⟩, Weak.of [(64, 1), (576, 4)] (by rfl) ?_ ?_⟩
           · simp -implicitDefEqProofs only [go_sem]
             all_goals (repeat' (first | exact rfl | exact trivial | refine And.intro ?_ ?_))
           · simp -implicitDefEqProofs only [go_sem, stT, cfgT, keyT, u32T, i64T, booT, isBool_v, asBool_v, *]
             all_goals (repeat' (first | exact rfl | exact trivial | refine And.intro ?_ ?_)))
        | (refine bad ?_; simp [badS, bad1, *] <;> omega)
        | (refine Eq.symm (bad ?_); simp [badS, bad1, *] <;> omega)
        | (simp [badS, bad1, *] <;> omega)
        | (exfalso; simp_all; done)
        | skip
    refine SW.cutS (γ := PLift (bad2 s = false)) (fun _ => St.of [(1, .ptr 1 []), (2, .v (.int .i64 0)), (4, .ptr 4 [])] [(1, .var (stT s (.sl q (s.spares.map spT)))), (4, .var (.arr 32 (bA (zK))))] 64) (fun K hK => ?_) fun ⟨h2⟩ => ?_
    · repeat' (first
        | apply_assumption -exfalso -symm (transparency := .reducible) only [*]
        | (with_reducible refine And.intro ?_ ?_)
        | (refine drawIt ?_; kernel_rfl)
        | ((with_reducible refine opsF_id ?_); simp -implicitDefEqProofs only [go_sem, stT, cfgT, keyT, u32T, i64T, booT, isBool_v, asBool_v, zK_eq, n3, n8])
        | ((with_reducible refine SW.id ?_); first | with_reducible refine SW.seqK fun K hK => ?_ | with_reducible refine SW.block ?_ | with_reducible refine SW.scope ?_ | ((first | with_reducible refine SW.skip ?_ | with_reducible refine SW.exit ?_ | with_reducible refine SW.label ?_ | with_reducible refine SW.ret ?_ | with_reducible refine SW.go MR ?_ | refine SW.goDrawF MR (by rfl) (by kernel_rfl) ?_); simp -implicitDefEqProofs only [go_sem, stT, cfgT, keyT, u32T, i64T, booT, isBool_v, asBool_v, zK_eq, n3, n8]) | (refine SW.cond (by simp -implicitDefEqProofs only [go_sem, stT, cfgT, keyT, u32T, i64T, booT, isBool_v, asBool_v, zK_eq, n3, n8]; rfl) (fun ht => ?_) (fun ht => ?_) <;> (try simp only [decide_eq_true_eq, decide_eq_false_iff_not, beq_iff_eq, bne_iff_ne, beq_eq_false_iff_ne, bne_eq_false_iff_eq, Bool.or_eq_true, Bool.and_eq_true, Bool.or_eq_false_iff, Bool.and_eq_false_imp, Bool.not_eq_true, Bool.not_eq_false, Bool.not_true, Bool.not_false, Bool.not_eq_true', Bool.not_eq_false', Bool.or_false, Bool.false_or, Bool.or_true, Bool.true_or, Bool.and_true, Bool.true_and, reduceCtorEq] at ht) <;> (try with_reducible contradiction)))
        | ((with_reducible refine guardSplit (fun hg => ?_) (fun hg => ?_)) <;> (try simp only [Bool.not_true, Bool.not_false] at hg) <;> (have hc := hg) <;> simp -implicitDefEqProofs only [go_sem, hg, stT, cfgT, keyT, u32T, i64T, booT, isBool_v, asBool_v, zK_eq, n3, n8] <;> (try simp only [decide_eq_true_eq, decide_eq_false_iff_not, beq_iff_eq, bne_iff_ne, beq_eq_false_iff_ne, bne_eq_false_iff_eq, Bool.or_eq_true, Bool.and_eq_true, Bool.or_eq_false_iff, Bool.and_eq_false_imp, Bool.not_eq_true, Bool.not_eq_false, Bool.not_true, Bool.not_false, Bool.not_eq_true', Bool.not_eq_false', Bool.or_false, Bool.false_or, Bool.or_true, Bool.true_or, Bool.and_true, Bool.true_and, reduceCtorEq] at hc) <;> (try with_reducible contradiction)))
      all_goals first
        | (refine ⟨⟨by first | (simp [bad2, *] <;> omega) | (exfalso; simp_all; done)⟩, Weak.of [(1, 1), (4, 4)] (by rfl) ?_ ?_⟩
           · simp -implicitDefEqProofs only [go_sem]
             all_goals (repeat' (first | exact rfl | exact trivial | refine And.intro ?_ ?_))
           · simp -implicitDefEqProofs only [go_sem, stT, cfgT, keyT, u32T, i64T, booT, isBool_v, asBool_v, *]
             all_goals (repeat' (first | exact rfl | exact trivial | refine And.intro ?_ ?_)))
        | (refine bad ?_; simp [badS, bad2, *] <;> omega)
        | (refine Eq.symm (bad ?_); simp [badS, bad2, *] <;> omega)
        | (simp [badS, bad2, *] <;> omega)
        | (exfalso; simp_all; done)
        | skip
    refine SW.cutS (γ := PLift (bad3 s = false)) (fun _ => St.of [(1, .ptr 1 []), (2, .v (.int .i64 0)), (4, .ptr 4 [])] [(1, .var (stT s (.sl q (s.spares.map spT)))), (4, .var (.arr 32 (bA (zK))))] 64) (fun K hK => ?_) fun ⟨h3⟩ => ?_
    · repeat' (first
        | apply_assumption -exfalso -symm (transparency := .reducible) only [*]
        | (with_reducible refine And.intro ?_ ?_)
        | (refine drawIt ?_; kernel_rfl)
        | ((with_reducible refine opsF_id ?_); simp -implicitDefEqProofs only [go_sem, stT, cfgT, keyT, u32T, i64T, booT, isBool_v, asBool_v, zK_eq])
        | ((with_reducible refine SW.id ?_); first | with_reducible refine SW.seqK fun K hK => ?_ | with_reducible refine SW.block ?_ | with_reducible refine SW.scope ?_ | ((first | with_reducible refine SW.skip ?_ | with_reducible refine SW.exit ?_ | with_reducible refine SW.label ?_ | with_reducible refine SW.ret ?_ | with_reducible refine SW.go MR ?_ | refine SW.goDrawF MR (by rfl) (by kernel_rfl) ?_); simp -implicitDefEqProofs only [go_sem, stT, cfgT, keyT, u32T, i64T, booT, isBool_v, asBool_v, zK_eq]) | (refine SW.cond (by simp -implicitDefEqProofs only [go_sem, stT, cfgT, keyT, u32T, i64T, booT, isBool_v, asBool_v, zK_eq]; rfl) (fun ht => ?_) (fun ht => ?_) <;> (try simp only [decide_eq_true_eq, decide_eq_false_iff_not, beq_iff_eq, bne_iff_ne, beq_eq_false_iff_ne, bne_eq_false_iff_eq, Bool.or_eq_true, Bool.and_eq_true, Bool.or_eq_false_iff, Bool.and_eq_false_imp, Bool.not_eq_true, Bool.not_eq_false, Bool.not_true, Bool.not_false, Bool.not_eq_true', Bool.not_eq_false', Bool.or_false, Bool.false_or, Bool.or_true, Bool.true_or, Bool.and_true, Bool.true_and, reduceCtorEq] at ht) <;> (try with_reducible contradiction)))
        | ((with_reducible refine guardSplit (fun hg => ?_) (fun hg => ?_)) <;> (try simp only [Bool.not_true, Bool.not_false] at hg) <;> (have hc := hg) <;> simp -implicitDefEqProofs only [go_sem, hg, stT, cfgT, keyT, u32T, i64T, booT, isBool_v, asBool_v, zK_eq] <;> (try simp only [decide_eq_true_eq, decide_eq_false_iff_not, beq_iff_eq, bne_iff_ne, beq_eq_false_iff_ne, bne_eq_false_iff_eq, Bool.or_eq_true, Bool.and_eq_true, Bool.or_eq_false_iff, Bool.and_eq_false_imp, Bool.not_eq_true, Bool.not_eq_false, Bool.not_true, Bool.not_false, Bool.not_eq_true', Bool.not_eq_false', Bool.or_false, Bool.false_or, Bool.or_true, Bool.true_or, Bool.and_true, Bool.true_and, reduceCtorEq] at hc) <;> (try with_reducible contradiction)))
      all_goals first
        | (refine ⟨⟨by first | (simp [bad3, *] <;> omega) | (exfalso; simp_all; done)⟩, Weak.of [(1, 1), (4, 4)] (by rfl) ?_ ?_⟩
           · simp -implicitDefEqProofs only [go_sem]
             all_goals (repeat' (first | exact rfl | exact trivial | refine And.intro ?_ ?_))
           · simp -implicitDefEqProofs only [go_sem, stT, cfgT, keyT, u32T, i64T, booT, isBool_v, asBool_v, *]
             all_goals (repeat' (first | exact rfl | exact trivial | refine And.intro ?_ ?_)))
        | (refine bad ?_; simp [badS, bad3, *] <;> omega)
        | (refine Eq.symm (bad ?_); simp [badS, bad3, *] <;> omega)
        | (simp [badS, bad3, *] <;> omega)
        | (exfalso; simp_all; done)
        | skip
    refine SW.cutS (γ := PLift (bad4 s = false)) (fun _ => St.of [(1, .ptr 1 []), (2, .v (.int .i64 0)), (4, .ptr 4 [])] [(1, .var (stT s (.sl q (s.spares.map spT)))), (4, .var (.arr 32 (bA (zK))))] 64) (fun K hK => ?_) fun ⟨h4⟩ => ?_
    · repeat' (first
        | apply_assumption -exfalso -symm (transparency := .reducible) only [*]
        | (with_reducible refine And.intro ?_ ?_)
        | (refine drawIt ?_; kernel_rfl)
        | ((with_reducible refine opsF_id ?_); simp -implicitDefEqProofs only [go_sem, stT, cfgT, keyT, u32T, i64T, booT, isBool_v, asBool_v, zK_eq, n4, n5, n8, z1])
        | ((with_reducible refine SW.id ?_); first | with_reducible refine SW.seqK fun K hK => ?_ | with_reducible refine SW.block ?_ | with_reducible refine SW.scope ?_ | ((first | with_reducible refine SW.skip ?_ | with_reducible refine SW.exit ?_ | with_reducible refine SW.label ?_ | with_reducible refine SW.ret ?_ | with_reducible refine SW.go MR ?_ | refine SW.goDrawF MR (by rfl) (by kernel_rfl) ?_); simp -implicitDefEqProofs only [go_sem, stT, cfgT, keyT, u32T, i64T, booT, isBool_v, asBool_v, zK_eq, n4, n5, n8, z1]) | (refine SW.cond (by simp -implicitDefEqProofs only [go_sem, stT, cfgT, keyT, u32T, i64T, booT, isBool_v, asBool_v, zK_eq, n4, n5, n8, z1]; rfl) (fun ht => ?_) (fun ht => ?_) <;> (try simp only [decide_eq_true_eq, decide_eq_false_iff_not, beq_iff_eq, bne_iff_ne, beq_eq_false_iff_ne, bne_eq_false_iff_eq, Bool.or_eq_true, Bool.and_eq_true, Bool.or_eq_false_iff, Bool.and_eq_false_imp, Bool.not_eq_true, Bool.not_eq_false, Bool.not_true, Bool.not_false, Bool.not_eq_true', Bool.not_eq_false', Bool.or_false, Bool.false_or, Bool.or_true, Bool.true_or, Bool.and_true, Bool.true_and, reduceCtorEq] at ht) <;> (try with_reducible contradiction)))
        | ((with_reducible refine guardSplit (fun hg => ?_) (fun hg => ?_)) <;> (try simp only [Bool.not_true, Bool.not_false] at hg) <;> (have hc := hg) <;> simp -implicitDefEqProofs only [go_sem, hg, stT, cfgT, keyT, u32T, i64T, booT, isBool_v, asBool_v, zK_eq, n4, n5, n8, z1] <;> (try simp only [decide_eq_true_eq, decide_eq_false_iff_not, beq_iff_eq, bne_iff_ne, beq_eq_false_iff_ne, bne_eq_false_iff_eq, Bool.or_eq_true, Bool.and_eq_true, Bool.or_eq_false_iff, Bool.and_eq_false_imp, Bool.not_eq_true, Bool.not_eq_false, Bool.not_true, Bool.not_false, Bool.not_eq_true', Bool.not_eq_false', Bool.or_false, Bool.false_or, Bool.or_true, Bool.true_or, Bool.and_true, Bool.true_and, reduceCtorEq] at hc) <;> (try with_reducible contradiction)))
      all_goals first
        | (refine ⟨⟨by first | (simp [bad4, *] <;> omega) | (exfalso; simp_all; done)⟩, Weak.of [(1, 1), (4, 4)] (by rfl) ?_ ?_⟩
           · simp -implicitDefEqProofs only [go_sem]
             all_goals (repeat' (first | exact rfl | exact trivial | refine And.intro ?_ ?_))
           · simp -implicitDefEqProofs only [go_sem, stT, cfgT, keyT, u32T, i64T, booT, isBool_v, asBool_v, *]
             all_goals (repeat' (first | exact rfl | exact trivial | refine And.intro ?_ ?_)))
        | (refine bad ?_; simp [badS, bad4, *] <;> omega)
        | (refine Eq.symm (bad ?_); simp [badS, bad4, *] <;> omega)
        | (simp [badS, bad4, *] <;> omega)
        | (exfalso; simp_all; done)
        | skip
    refine SW.cutS (γ := PLift (bad5 s = false)) (fun _ => St.of [(1, .ptr 1 []), (2, .v (.int .i64 0)), (4, .ptr 4 [])] [(1, .var (stT s (.sl q (s.spares.map spT)))), (4, .var (.arr 32 (bA (zK))))] 64) (fun K hK => ?_) fun ⟨h5⟩ => ?_
    · repeat' (first
        | apply_assumption -exfalso -symm (transparency := .reducible) only [*]
        | (with_reducible refine And.intro ?_ ?_)
        | (refine drawIt ?_; kernel_rfl)
        | ((with_reducible refine opsF_id ?_); simp -implicitDefEqProofs only [go_sem, stT, cfgT, keyT, u32T, i64T, booT, isBool_v, asBool_v, zK_eq, n6, n7, n8, z1])
        | ((with_reducible refine SW.id ?_); first | with_reducible refine SW.seqK fun K hK => ?_ | with_reducible refine SW.block ?_ | with_reducible refine SW.scope ?_ | ((first | with_reducible refine SW.skip ?_ | with_reducible refine SW.exit ?_ | with_reducible refine SW.label ?_ | with_reducible refine SW.ret ?_ | with_reducible refine SW.go MR ?_ | refine SW.goDrawF MR (by rfl) (by kernel_rfl) ?_); simp -implicitDefEqProofs only [go_sem, stT, cfgT, keyT, u32T, i64T, booT, isBool_v, asBool_v, zK_eq, n6, n7, n8, z1]) | (refine SW.cond (by simp -implicitDefEqProofs only [go_sem, stT, cfgT, keyT, u32T, i64T, booT, isBool_v, asBool_v, zK_eq, n6, n7, n8, z1]; rfl) (fun ht => ?_) (fun ht => ?_) <;> (try simp only [decide_eq_true_eq, decide_eq_false_iff_not, beq_iff_eq, bne_iff_ne, beq_eq_false_iff_ne, bne_eq_false_iff_eq, Bool.or_eq_true, Bool.and_eq_true, Bool.or_eq_false_iff, Bool.and_eq_false_imp, Bool.not_eq_true, Bool.not_eq_false, Bool.not_true, Bool.not_false, Bool.not_eq_true', Bool.not_eq_false', Bool.or_false, Bool.false_or, Bool.or_true, Bool.true_or, Bool.and_true, Bool.true_and, reduceCtorEq] at ht) <;> (try with_reducible contradiction)))
        | ((with_reducible refine guardSplit (fun hg => ?_) (fun hg => ?_)) <;> (try simp only [Bool.not_true, Bool.not_false] at hg) <;> (have hc := hg) <;> simp -implicitDefEqProofs only [go_sem, hg, stT, cfgT, keyT, u32T, i64T, booT, isBool_v, asBool_v, zK_eq, n6, n7, n8, z1] <;> (try simp only [decide_eq_true_eq, decide_eq_false_iff_not, beq_iff_eq, bne_iff_ne, beq_eq_false_iff_ne, bne_eq_false_iff_eq, Bool.or_eq_true, Bool.and_eq_true, Bool.or_eq_false_iff, Bool.and_eq_false_imp, Bool.not_eq_true, Bool.not_eq_false, Bool.not_true, Bool.not_false, Bool.not_eq_true', Bool.not_eq_false', Bool.or_false, Bool.false_or, Bool.or_true, Bool.true_or, Bool.and_true, Bool.true_and, reduceCtorEq] at hc) <;> (try with_reducible contradiction)))
      all_goals first
        | (refine ⟨⟨by first | (simp [bad5, *] <;> omega) | (exfalso; simp_all; done)⟩, Weak.of [(1, 1), (4, 4)] (by rfl) ?_ ?_⟩
           · simp -implicitDefEqProofs only [go_sem]
             all_goals (repeat' (first | exact rfl | exact trivial | refine And.intro ?_ ?_))
           · simp -implicitDefEqProofs only [go_sem, stT, cfgT, keyT, u32T, i64T, booT, isBool_v, asBool_v, *]
             all_goals (repeat' (first | exact rfl | exact trivial | refine And.intro ?_ ?_)))
        | (refine bad ?_; simp [badS, bad5, *] <;> omega)
        | (refine Eq.symm (bad ?_); simp [badS, bad5, *] <;> omega)
        | (simp [badS, bad5, *] <;> omega)
        | (exfalso; simp_all; done)
        | skip
    have hfin : checkN s = if dupB s.spares then 130 else 0 := by simp [checkN, h0, badS, h1, h2, h3, h4, h5]
    clear bad h1 h2 h3 h4 h5
    rw [hfin]
    generalize dupB s.spares = d at *
    cases d
    · repeat' (first
        | apply_assumption -exfalso -symm (transparency := .reducible) only [*]
        | (refine callEnd_of q3 ?_ <;> (try simp -implicitDefEqProofs only [go_sem, stT, cfgT, keyT, u32T, i64T, booT, isBool_v, asBool_v, zK_eq]))
        | (with_reducible refine And.intro ?_ ?_)
        | (refine drawIt ?_; kernel_rfl)
        | ((with_reducible refine opsF_id ?_); simp -implicitDefEqProofs only [go_sem, stT, cfgT, keyT, u32T, i64T, booT, isBool_v, asBool_v, zK_eq])
        | ((with_reducible refine SW.id ?_); first | with_reducible refine SW.seqK fun K hK => ?_ | with_reducible refine SW.block ?_ | with_reducible refine SW.scope ?_ | ((first | with_reducible refine SW.skip ?_ | with_reducible refine SW.exit ?_ | with_reducible refine SW.label ?_ | with_reducible refine SW.ret ?_ | with_reducible refine SW.go MR ?_ | refine SW.goDrawF MR (by rfl) (by kernel_rfl) ?_); simp -implicitDefEqProofs only [go_sem, stT, cfgT, keyT, u32T, i64T, booT, isBool_v, asBool_v, zK_eq]) | (refine SW.cond (by simp -implicitDefEqProofs only [go_sem, stT, cfgT, keyT, u32T, i64T, booT, isBool_v, asBool_v, zK_eq]; rfl) (fun ht => ?_) (fun ht => ?_) <;> (try simp only [decide_eq_true_eq, decide_eq_false_iff_not, beq_iff_eq, bne_iff_ne, beq_eq_false_iff_ne, bne_eq_false_iff_eq, Bool.or_eq_true, Bool.and_eq_true, Bool.or_eq_false_iff, Bool.and_eq_false_imp, Bool.not_eq_true, Bool.not_eq_false, Bool.not_true, Bool.not_false, Bool.not_eq_true', Bool.not_eq_false', Bool.or_false, Bool.false_or, Bool.or_true, Bool.true_or, Bool.and_true, Bool.true_and, reduceCtorEq] at ht) <;> (try with_reducible contradiction)))
        | ((with_reducible refine guardSplit (fun hg => ?_) (fun hg => ?_)) <;> (try simp only [Bool.not_true, Bool.not_false] at hg) <;> (have hc := hg) <;> simp -implicitDefEqProofs only [go_sem, hg, stT, cfgT, keyT, u32T, i64T, booT, isBool_v, asBool_v, zK_eq] <;> (try simp only [decide_eq_true_eq, decide_eq_false_iff_not, beq_iff_eq, bne_iff_ne, beq_eq_false_iff_ne, bne_eq_false_iff_eq, Bool.or_eq_true, Bool.and_eq_true, Bool.or_eq_false_iff, Bool.and_eq_false_imp, Bool.not_eq_true, Bool.not_eq_false, Bool.not_true, Bool.not_false, Bool.not_eq_true', Bool.not_eq_false', Bool.or_false, Bool.false_or, Bool.or_true, Bool.true_or, Bool.and_true, Bool.true_and, reduceCtorEq] at hc) <;> (try with_reducible contradiction)))
    · repeat' (first
        | apply_assumption -exfalso -symm (transparency := .reducible) only [*]
        | (refine callEnd_of q3 ?_ <;> (try simp -implicitDefEqProofs only [go_sem, stT, cfgT, keyT, u32T, i64T, booT, isBool_v, asBool_v, zK_eq]))
        | (with_reducible refine And.intro ?_ ?_)
        | (refine drawIt ?_; kernel_rfl)
        | ((with_reducible refine opsF_id ?_); simp -implicitDefEqProofs only [go_sem, stT, cfgT, keyT, u32T, i64T, booT, isBool_v, asBool_v, zK_eq])
        | ((with_reducible refine SW.id ?_); first | with_reducible refine SW.seqK fun K hK => ?_ | with_reducible refine SW.block ?_ | with_reducible refine SW.scope ?_ | ((first | with_reducible refine SW.skip ?_ | with_reducible refine SW.exit ?_ | with_reducible refine SW.label ?_ | with_reducible refine SW.ret ?_ | with_reducible refine SW.go MR ?_ | refine SW.goDrawF MR (by rfl) (by kernel_rfl) ?_); simp -implicitDefEqProofs only [go_sem, stT, cfgT, keyT, u32T, i64T, booT, isBool_v, asBool_v, zK_eq]) | (refine SW.cond (by simp -implicitDefEqProofs only [go_sem, stT, cfgT, keyT, u32T, i64T, booT, isBool_v, asBool_v, zK_eq]; rfl) (fun ht => ?_) (fun ht => ?_) <;> (try simp only [decide_eq_true_eq, decide_eq_false_iff_not, beq_iff_eq, bne_iff_ne, beq_eq_false_iff_ne, bne_eq_false_iff_eq, Bool.or_eq_true, Bool.and_eq_true, Bool.or_eq_false_iff, Bool.and_eq_false_imp, Bool.not_eq_true, Bool.not_eq_false, Bool.not_true, Bool.not_false, Bool.not_eq_true', Bool.not_eq_false', Bool.or_false, Bool.false_or, Bool.or_true, Bool.true_or, Bool.and_true, Bool.true_and, reduceCtorEq] at ht) <;> (try with_reducible contradiction)))
        | ((with_reducible refine guardSplit (fun hg => ?_) (fun hg => ?_)) <;> (try simp only [Bool.not_true, Bool.not_false] at hg) <;> (have hc := hg) <;> simp -implicitDefEqProofs only [go_sem, hg, stT, cfgT, keyT, u32T, i64T, booT, isBool_v, asBool_v, zK_eq] <;> (try simp only [decide_eq_true_eq, decide_eq_false_iff_not, beq_iff_eq, bne_iff_ne, beq_eq_false_iff_ne, bne_eq_false_iff_eq, Bool.or_eq_true, Bool.and_eq_true, Bool.or_eq_false_iff, Bool.and_eq_false_imp, Bool.not_eq_true, Bool.not_eq_false, Bool.not_true, Bool.not_false, Bool.not_eq_true', Bool.not_eq_false', Bool.or_false, Bool.false_or, Bool.or_true, Bool.true_or, Bool.and_true, Bool.true_and, reduceCtorEq] at hc) <;> (try with_reducible contradiction)))
  · have h0' : checkN s = cfgN s.cfg := by simp [checkN, h0]
    have h0'' := eq_false h0
    rw [h0']
    generalize cfgN s.cfg = n at *
    repeat' (first
      | apply_assumption -exfalso -symm (transparency := .reducible) only [*]
      | (refine callEnd_of q1 ?_ <;> (try simp -implicitDefEqProofs only [go_sem, stT, cfgT, keyT, u32T, i64T, booT, isBool_v, asBool_v, zK_eq, h0'']))
      | (with_reducible refine And.intro ?_ ?_)
      | (refine drawIt ?_; kernel_rfl)
      | ((with_reducible refine opsF_id ?_); simp -implicitDefEqProofs only [go_sem, stT, cfgT, keyT, u32T, i64T, booT, isBool_v, asBool_v, zK_eq, h0''])
      | ((with_reducible refine SW.id ?_); first | with_reducible refine SW.seqK fun K hK => ?_ | with_reducible refine SW.block ?_ | with_reducible refine SW.scope ?_ | ((first | with_reducible refine SW.skip ?_ | with_reducible refine SW.exit ?_ | with_reducible refine SW.label ?_ | with_reducible refine SW.ret ?_ | with_reducible refine SW.go MR ?_ | refine SW.goDrawF MR (by rfl) (by kernel_rfl) ?_); simp -implicitDefEqProofs only [go_sem, stT, cfgT, keyT, u32T, i64T, booT, isBool_v, asBool_v, zK_eq, h0'']) | (refine SW.cond (by simp -implicitDefEqProofs only [go_sem, stT, cfgT, keyT, u32T, i64T, booT, isBool_v, asBool_v, zK_eq, h0'']; rfl) (fun ht => ?_) (fun ht => ?_) <;> (try simp only [decide_eq_true_eq, decide_eq_false_iff_not, beq_iff_eq, bne_iff_ne, beq_eq_false_iff_ne, bne_eq_false_iff_eq, Bool.or_eq_true, Bool.and_eq_true, Bool.or_eq_false_iff, Bool.and_eq_false_imp, Bool.not_eq_true, Bool.not_eq_false, Bool.not_true, Bool.not_false, Bool.not_eq_true', Bool.not_eq_false', Bool.or_false, Bool.false_or, Bool.or_true, Bool.true_or, Bool.and_true, Bool.true_and, reduceCtorEq] at ht) <;> (try with_reducible contradiction)))
      | ((with_reducible refine guardSplit (fun hg => ?_) (fun hg => ?_)) <;> (try simp only [Bool.not_true, Bool.not_false] at hg) <;> (have hc := hg) <;> simp -implicitDefEqProofs only [go_sem, hg, stT, cfgT, keyT, u32T, i64T, booT, isBool_v, asBool_v, zK_eq, h0''] <;> (try simp only [decide_eq_true_eq, decide_eq_false_iff_not, beq_iff_eq, bne_iff_ne, beq_eq_false_iff_ne, bne_eq_false_iff_eq, Bool.or_eq_true, Bool.and_eq_true, Bool.or_eq_false_iff, Bool.and_eq_false_imp, Bool.not_eq_true, Bool.not_eq_false, Bool.not_true, Bool.not_false, Bool.not_eq_true', Bool.not_eq_false', Bool.or_false, Bool.false_or, Bool.or_true, Bool.true_or, Bool.and_true, Bool.true_and, reduceCtorEq] at hc) <;> (try with_reducible contradiction)))
    all_goals trace_state
end Go.PA
