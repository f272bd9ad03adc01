/- A side made of a state, and its state. -/
import Derived.Test.YtopigdkgjobdiaaR16
import Derived.Test.YtopigdkgjobdiaaR14
namespace Go.PA
open Go.Proofs Go.Fe
set_option linter.unusedSimpArgs false
set_option linter.unusedVariables false
set_option maxRecDepth 100000
set_option maxHeartbeats 4000000
attribute [local go_sem] MR2 MR getP setP takesW
attribute [-go_sem] takeA roA

section
variable {s : StS} {sp : A}
theorem getQ_st0 : getP (stT s sp) [.fld 0 0] = .ret (cfgT s.cfg) := by simp -implicitDefEqProofs only [go_sem, stT, cfgT, keyT, u32T, i64T, booT]
theorem getQ_st1 : getP (stT s sp) [.fld 1 3] = .ret (keyT s.root) := by simp -implicitDefEqProofs only [go_sem, stT, cfgT, keyT, u32T, i64T, booT]
theorem getQ_st2 : getP (stT s sp) [.fld 2 35] = .ret (.agg [keyT s.ownR, keyT s.ownU]) := by simp -implicitDefEqProofs only [go_sem, stT, cfgT, keyT, u32T, i64T, booT]
theorem getQ_st3 : getP (stT s sp) [.fld 3 99] = .ret (keyT s.peer) := by simp -implicitDefEqProofs only [go_sem, stT, cfgT, keyT, u32T, i64T, booT]
theorem getQ_st4 : getP (stT s sp) [.fld 4 131] = .ret (booT s.hasOwn) := by simp -implicitDefEqProofs only [go_sem, stT, cfgT, keyT, u32T, i64T, booT]
theorem getQ_st5 : getP (stT s sp) [.fld 5 132] = .ret (booT s.hasPeer) := by simp -implicitDefEqProofs only [go_sem, stT, cfgT, keyT, u32T, i64T, booT]
theorem getQ_st6 : getP (stT s sp) [.fld 6 133] = .ret (booT s.turn) := by simp -implicitDefEqProofs only [go_sem, stT, cfgT, keyT, u32T, i64T, booT]
theorem getQ_st7 : getP (stT s sp) [.fld 7 134] = .ret (keyT s.send) := by simp -implicitDefEqProofs only [go_sem, stT, cfgT, keyT, u32T, i64T, booT]
theorem getQ_st8 : getP (stT s sp) [.fld 8 166] = .ret (keyT s.sendHeader) := by simp -implicitDefEqProofs only [go_sem, stT, cfgT, keyT, u32T, i64T, booT]
theorem getQ_st9 : getP (stT s sp) [.fld 9 198] = .ret (keyT s.nextSend) := by simp -implicitDefEqProofs only [go_sem, stT, cfgT, keyT, u32T, i64T, booT]
theorem getQ_st10 : getP (stT s sp) [.fld 10 230] = .ret (u32T s.sendN) := by simp -implicitDefEqProofs only [go_sem, stT, cfgT, keyT, u32T, i64T, booT]
theorem getQ_st11 : getP (stT s sp) [.fld 11 231] = .ret (u32T s.prev) := by simp -implicitDefEqProofs only [go_sem, stT, cfgT, keyT, u32T, i64T, booT]
theorem getQ_st12 : getP (stT s sp) [.fld 12 232] = .ret (booT s.hasSend) := by simp -implicitDefEqProofs only [go_sem, stT, cfgT, keyT, u32T, i64T, booT]
theorem getQ_st13 : getP (stT s sp) [.fld 13 233] = .ret (keyT s.recv) := by simp -implicitDefEqProofs only [go_sem, stT, cfgT, keyT, u32T, i64T, booT]
theorem getQ_st14 : getP (stT s sp) [.fld 14 265] = .ret (keyT s.recvHeader) := by simp -implicitDefEqProofs only [go_sem, stT, cfgT, keyT, u32T, i64T, booT]
theorem getQ_st15 : getP (stT s sp) [.fld 15 297] = .ret (keyT s.nextRecv) := by simp -implicitDefEqProofs only [go_sem, stT, cfgT, keyT, u32T, i64T, booT]
theorem getQ_st16 : getP (stT s sp) [.fld 16 329] = .ret (u32T s.recvN) := by simp -implicitDefEqProofs only [go_sem, stT, cfgT, keyT, u32T, i64T, booT]
theorem getQ_st17 : getP (stT s sp) [.fld 17 330] = .ret (booT s.hasRecv) := by simp -implicitDefEqProofs only [go_sem, stT, cfgT, keyT, u32T, i64T, booT]
theorem getQ_st18 : getP (stT s sp) [.fld 18 331] = .ret (sp) := by simp -implicitDefEqProofs only [go_sem, stT, cfgT, keyT, u32T, i64T, booT]
theorem stT_noown (h : sp.noown = true) : (stT s sp).noown = true := by simp only [stT, cfgT, keyT, u32T, i64T, booT, A.noown, noowns, bA_noowns, h, Bool.and_self]
theorem stT_sz2 (h : sp.sz = 1) : (stT s sp).sz = 332 := by simp only [stT, cfgT, keyT, u32T, i64T, booT, A.sz, szs, h]
theorem stT_good2 : (stT s sp).good = true := by simp only [stT, A.good, A.isAgg]
theorem stT_agg2 : (stT s sp).isAgg = true := by simp only [stT, A.good, A.isAgg]
end
attribute [go_sem] getQ_st0 getQ_st1 getQ_st2 getQ_st3 getQ_st4 getQ_st5 getQ_st6 getQ_st7 getQ_st8 getQ_st9 getQ_st10 getQ_st11 getQ_st12 getQ_st13 getQ_st14 getQ_st15 getQ_st16 getQ_st17 getQ_st18 stT_good2 stT_agg2

def chT (k : List Nat) (n : Nat) : A := .agg [keyT k, u32T n]
def lineT (has : Bool) (k h : List Nat) (n : Nat) : A := if has then .agg [.box (chT k n), keyT h] else .agg [.v (.pointer none), keyT zK]
def ratT (s : StS) : A := .agg [.agg [cfgT s.cfg, keyT s.root, .agg [keyT s.ownR, keyT s.ownU], keyT s.peer, booT s.hasOwn, booT s.hasPeer, booT s.turn, lineT s.hasSend s.send s.sendHeader s.sendN, lineT s.hasRecv s.recv s.recvHeader s.recvN,
  keyT s.nextSend, keyT s.nextRecv, u32T s.prev], .box (storeT s.cfg.store s.spares)]

theorem chNew_FS (k : List Nat) (n : Nat) : FS Try.prog 30 [keyT k, u32T n] (.ret [.box (chT k n)] [none, none]) := by
  refine FS_of_SW (kb := [false, false]) (st0 := ?st) Try.func30 rfl rfl ?he ?_
  case he =>
    simp only [entrySt, keyT, u32T, unfs, unf, A.noown, noowns, nA_noowns, bA_noowns, Option.map_some, if_true, reduceIte, List.nil_append, List.append_nil]
    rfl
  refine SW.weak (Weak.of [] (sls := [(0, keyT k), (1, u32T n)]) (bks := []) (ep := 64) (by rfl) (by repeat' (first | exact rfl | exact trivial | refine And.intro ?_ ?_)) trivial) ?_
  repeat' (first
    | apply_assumption -exfalso -symm (transparency := .reducible) only [*]
    | (with_reducible refine And.intro ?_ ?_)
    | (refine drawIt ?_; kernel_rfl)
    | ((with_reducible refine opsF_id ?_); simp -implicitDefEqProofs only [go_sem, keyT, u32T, chT])
    | ((with_reducible refine SW.id ?_); first | with_reducible refine SW.seqK fun K hK => ?_ | with_reducible refine SW.block ?_ | with_reducible refine SW.scope ?_ | ((first | with_reducible refine SW.skip ?_ | with_reducible refine SW.exit ?_ | with_reducible refine SW.label ?_ | with_reducible refine SW.ret ?_ | with_reducible refine SW.go MR2 ?_ | refine SW.goDrawF MR2 (by rfl) (by kernel_rfl) ?_); simp -implicitDefEqProofs only [go_sem, keyT, u32T, chT]) | (refine SW.cond (by simp -implicitDefEqProofs only [go_sem, keyT, u32T, chT]; rfl) (fun ht => ?_) (fun ht => ?_) <;> (try with_reducible contradiction))))
  all_goals first | rfl | skip
theorem chKey_FS (p : Bool) (k : List Nat) (n : Nat) : FS Try.prog 32 [.rp p (chT k n)] (.ret [keyT k] [none]) := by
  refine FS_of_SW (kb := [false]) (st0 := ?st) Try.func32 rfl rfl ?he ?_
  case he =>
    simp only [entrySt, keyT, u32T, chT, unfs, unf, A.noown, noowns, nA_noowns, bA_noowns, Option.map_some, if_true, reduceIte, List.nil_append, List.append_nil]
    rfl
  refine SW.weak (Weak.of [] (sls := [(0, .rp p (chT k n))]) (bks := []) (ep := 64) (by rfl) (by repeat' (first | exact rfl | exact trivial | refine And.intro ?_ ?_)) trivial) ?_
  repeat' (first
    | apply_assumption -exfalso -symm (transparency := .reducible) only [*]
    | (with_reducible refine And.intro ?_ ?_)
    | (refine drawIt ?_; kernel_rfl)
    | ((with_reducible refine opsF_id ?_); simp -implicitDefEqProofs only [go_sem, keyT, u32T, chT])
    | ((with_reducible refine SW.id ?_); first | with_reducible refine SW.seqK fun K hK => ?_ | with_reducible refine SW.block ?_ | with_reducible refine SW.scope ?_ | ((first | with_reducible refine SW.skip ?_ | with_reducible refine SW.exit ?_ | with_reducible refine SW.label ?_ | with_reducible refine SW.ret ?_ | with_reducible refine SW.go MR2 ?_ | refine SW.goDrawF MR2 (by rfl) (by kernel_rfl) ?_); simp -implicitDefEqProofs only [go_sem, keyT, u32T, chT]) | (refine SW.cond (by simp -implicitDefEqProofs only [go_sem, keyT, u32T, chT]; rfl) (fun ht => ?_) (fun ht => ?_) <;> (try with_reducible contradiction))))
  all_goals first | rfl | skip
theorem chN_FS (p : Bool) (k : List Nat) (n : Nat) : FS Try.prog 33 [.rp p (chT k n)] (.ret [u32T n] [none]) := by
  refine FS_of_SW (kb := [false]) (st0 := ?st) Try.func33 rfl rfl ?he ?_
  case he =>
    simp only [entrySt, keyT, u32T, chT, unfs, unf, A.noown, noowns, nA_noowns, bA_noowns, Option.map_some, if_true, reduceIte, List.nil_append, List.append_nil]
    rfl
  refine SW.weak (Weak.of [] (sls := [(0, .rp p (chT k n))]) (bks := []) (ep := 64) (by rfl) (by repeat' (first | exact rfl | exact trivial | refine And.intro ?_ ?_)) trivial) ?_
  repeat' (first
    | apply_assumption -exfalso -symm (transparency := .reducible) only [*]
    | (with_reducible refine And.intro ?_ ?_)
    | (refine drawIt ?_; kernel_rfl)
    | ((with_reducible refine opsF_id ?_); simp -implicitDefEqProofs only [go_sem, keyT, u32T, chT])
    | ((with_reducible refine SW.id ?_); first | with_reducible refine SW.seqK fun K hK => ?_ | with_reducible refine SW.block ?_ | with_reducible refine SW.scope ?_ | ((first | with_reducible refine SW.skip ?_ | with_reducible refine SW.exit ?_ | with_reducible refine SW.label ?_ | with_reducible refine SW.ret ?_ | with_reducible refine SW.go MR2 ?_ | refine SW.goDrawF MR2 (by rfl) (by kernel_rfl) ?_); simp -implicitDefEqProofs only [go_sem, keyT, u32T, chT]) | (refine SW.cond (by simp -implicitDefEqProofs only [go_sem, keyT, u32T, chT]; rfl) (fun ht => ?_) (fun ht => ?_) <;> (try with_reducible contradiction))))
  all_goals first | rfl | skip

theorem begun_FS (has : Bool) (k h : List Nat) (n : Nat) : FS Try.prog 16 [booT has, keyT k, keyT h, u32T n] (.ret [lineT has k h n] [none, none, none, none]) := by
  refine FS_of_SW (kb := [false, false, false, false]) (st0 := ?st) Try.func16 rfl rfl ?he ?_
  case he =>
    simp only [entrySt, keyT, u32T, booT, unfs, unf, A.noown, noowns, nA_noowns, bA_noowns, Option.map_some, if_true, reduceIte, List.nil_append, List.append_nil]
    rfl
  have q1 := chNew_FS k n
  refine SW.weak (Weak.of [] (sls := [(0, booT has), (1, keyT k), (2, keyT h), (3, u32T n)]) (bks := []) (ep := 64) (by rfl) (by repeat' (first | exact rfl | exact trivial | refine And.intro ?_ ?_)) trivial) ?_
  cases has
  · simp only [lineT, Bool.false_eq_true, if_false]
    simp only [keyT, u32T, chT] at q1
    repeat' (first
      | apply_assumption -exfalso -symm (transparency := .reducible) only [*]
      | (with_reducible refine And.intro ?_ ?_)
      | (refine drawIt ?_; kernel_rfl)
      | ((with_reducible refine opsF_id ?_); simp -implicitDefEqProofs only [go_sem, keyT, u32T, booT, chT, zK_eq])
      | ((with_reducible refine SW.id ?_); first | with_reducible refine SW.seqK fun K hK => ?_ | with_reducible refine SW.block ?_ | with_reducible refine SW.scope ?_ | ((first | with_reducible refine SW.skip ?_ | with_reducible refine SW.exit ?_ | with_reducible refine SW.label ?_ | with_reducible refine SW.ret ?_ | with_reducible refine SW.go MR2 ?_ | refine SW.goDrawF MR2 (by rfl) (by kernel_rfl) ?_); simp -implicitDefEqProofs only [go_sem, keyT, u32T, booT, chT, zK_eq]) | (refine SW.cond (by simp -implicitDefEqProofs only [go_sem, keyT, u32T, booT, chT, zK_eq]; rfl) (fun ht => ?_) (fun ht => ?_) <;> (try with_reducible contradiction))))
  · simp only [lineT, if_true]
    simp only [keyT, u32T, chT] at q1
    repeat' (first
      | apply_assumption -exfalso -symm (transparency := .reducible) only [*]
      | (refine callEnd_of q1 ?_ <;> (try simp -implicitDefEqProofs only [go_sem, keyT, u32T, booT, chT, zK_eq]))
      | (with_reducible refine And.intro ?_ ?_)
      | (refine drawIt ?_; kernel_rfl)
      | ((with_reducible refine opsF_id ?_); simp -implicitDefEqProofs only [go_sem, keyT, u32T, booT, chT, zK_eq])
      | ((with_reducible refine SW.id ?_); first | with_reducible refine SW.seqK fun K hK => ?_ | with_reducible refine SW.block ?_ | with_reducible refine SW.scope ?_ | ((first | with_reducible refine SW.skip ?_ | with_reducible refine SW.exit ?_ | with_reducible refine SW.label ?_ | with_reducible refine SW.ret ?_ | with_reducible refine SW.go MR2 ?_ | refine SW.goDrawF MR2 (by rfl) (by kernel_rfl) ?_); simp -implicitDefEqProofs only [go_sem, keyT, u32T, booT, chT, zK_eq]) | (refine SW.cond (by simp -implicitDefEqProofs only [go_sem, keyT, u32T, booT, chT, zK_eq]; rfl) (fun ht => ?_) (fun ht => ?_) <;> (try with_reducible contradiction))))
  all_goals first | rfl | skip

theorem toldY_FS (p : Bool) (k h : List Nat) (n : Nat) : FS Try.prog 21 [.agg [.rp p (chT k n), keyT h]] (.ret [booT true, keyT k, keyT h, u32T n] [none]) := by
  refine FS_of_SW (kb := [false]) (st0 := ?st) Try.func21 rfl rfl ?he ?_
  case he =>
    simp only [entrySt, keyT, u32T, booT, chT, unfs, unf, A.noown, noowns, nA_noowns, bA_noowns, Option.map_some, if_true, reduceIte, List.nil_append, List.append_nil]
    rfl
  have q1 := chKey_FS p k n
  have q2 := chN_FS p k n
  refine SW.weak (Weak.of [] (sls := [(0, .agg [.rp p (chT k n), keyT h])]) (bks := []) (ep := 64) (by rfl) (by repeat' (first | exact rfl | exact trivial | refine And.intro ?_ ?_)) trivial) ?_
  simp only [keyT, u32T, chT] at q1 q2
  repeat' (first
    | apply_assumption -exfalso -symm (transparency := .reducible) only [*]
    | (refine callEnd_of q1 ?_ <;> (try simp -implicitDefEqProofs only [go_sem, keyT, u32T, booT, chT]))
    | (refine callEnd_of q2 ?_ <;> (try simp -implicitDefEqProofs only [go_sem, keyT, u32T, booT, chT]))
    | (with_reducible refine And.intro ?_ ?_)
    | (refine drawIt ?_; kernel_rfl)
    | ((with_reducible refine opsF_id ?_); simp -implicitDefEqProofs only [go_sem, keyT, u32T, booT, chT])
    | ((with_reducible refine SW.id ?_); first | with_reducible refine SW.seqK fun K hK => ?_ | with_reducible refine SW.block ?_ | with_reducible refine SW.scope ?_ | ((first | with_reducible refine SW.skip ?_ | with_reducible refine SW.exit ?_ | with_reducible refine SW.label ?_ | with_reducible refine SW.ret ?_ | with_reducible refine SW.go MR2 ?_ | refine SW.goDrawF MR2 (by rfl) (by kernel_rfl) ?_); simp -implicitDefEqProofs only [go_sem, keyT, u32T, booT, chT]) | (refine SW.cond (by simp -implicitDefEqProofs only [go_sem, keyT, u32T, booT, chT]; rfl) (fun ht => ?_) (fun ht => ?_) <;> (try with_reducible contradiction))))
  all_goals first | rfl | skip
theorem toldN_FS (h : List Nat) : FS Try.prog 21 [.agg [.v (.pointer none), keyT h]] (.ret [booT false, keyT zK, keyT zK, u32T 0] [none]) := by
  refine FS_of_SW (kb := [false]) (st0 := ?st) Try.func21 rfl rfl ?he ?_
  case he =>
    simp only [entrySt, keyT, u32T, booT, chT, unfs, unf, A.noown, noowns, nA_noowns, bA_noowns, Option.map_some, if_true, reduceIte, List.nil_append, List.append_nil]
    rfl
  refine SW.weak (Weak.of [] (sls := [(0, .agg [.v (.pointer none), keyT h])]) (bks := []) (ep := 64) (by rfl) (by repeat' (first | exact rfl | exact trivial | refine And.intro ?_ ?_)) trivial) ?_
  repeat' (first
    | apply_assumption -exfalso -symm (transparency := .reducible) only [*]
    | (with_reducible refine And.intro ?_ ?_)
    | (refine drawIt ?_; kernel_rfl)
    | ((with_reducible refine opsF_id ?_); simp -implicitDefEqProofs only [go_sem, keyT, u32T, booT, chT, zK_eq])
    | ((with_reducible refine SW.id ?_); first | with_reducible refine SW.seqK fun K hK => ?_ | with_reducible refine SW.block ?_ | with_reducible refine SW.scope ?_ | ((first | with_reducible refine SW.skip ?_ | with_reducible refine SW.exit ?_ | with_reducible refine SW.label ?_ | with_reducible refine SW.ret ?_ | with_reducible refine SW.go MR2 ?_ | refine SW.goDrawF MR2 (by rfl) (by kernel_rfl) ?_); simp -implicitDefEqProofs only [go_sem, keyT, u32T, booT, chT, zK_eq]) | (refine SW.cond (by simp -implicitDefEqProofs only [go_sem, keyT, u32T, booT, chT, zK_eq]; rfl) (fun ht => ?_) (fun ht => ?_) <;> (try with_reducible contradiction))))
  all_goals first | rfl | skip

theorem same_sp (q r : Bool) (l : List Sp) (hok : ∀ x ∈ l, SpOk x) (hl : l.length < 2 ^ 36) : FS Try.prog 19 [.sl q (l.map spT), .sl r (l.map spT)] (.ret [booT true] [none, none]) := by
  refine FS_of_SW (kb := [false, false]) Try.func19 rfl rfl (by rfl) ?_
  have hget : ∀ i, i < l.length → SpOk (l.getD i default) := fun i hi => by
    rw [List.getD_eq_getElem?_getD, List.getElem?_eq_getElem hi]
    exact hok _ (List.getElem_mem hi)
  refine SW.weak (Weak.of [] (sls := [(0, .sl q (l.map spT)), (1, .sl r (l.map spT))]) (bks := []) (ep := 64) (by rfl) (by repeat' (first | exact rfl | exact trivial | refine And.intro ?_ ?_)) trivial) ?_
  repeat' (first
    | apply_assumption -exfalso -symm (transparency := .reducible) only [*]
    | with_reducible refine SW.stopI 3 ?_
    | (with_reducible refine And.intro ?_ ?_)
    | (refine drawIt ?_; kernel_rfl)
    | ((with_reducible refine opsF_id ?_); simp -implicitDefEqProofs only [go_sem, List.length_map])
    | ((with_reducible refine SW.id ?_); first | with_reducible refine SW.seqK fun K hK => ?_ | with_reducible refine SW.block ?_ | with_reducible refine SW.scope ?_ | ((first | with_reducible refine SW.skip ?_ | with_reducible refine SW.exit ?_ | with_reducible refine SW.label ?_ | with_reducible refine SW.ret ?_ | with_reducible refine SW.go MR2 ?_ | refine SW.goDrawF MR2 (by rfl) (by kernel_rfl) ?_); simp -implicitDefEqProofs only [go_sem, List.length_map]) | (refine SW.cond (by simp -implicitDefEqProofs only [go_sem, List.length_map]; rfl) (fun ht => ?_) (fun ht => ?_) <;> (try simp only [decide_eq_true_eq, decide_eq_false_iff_not, beq_iff_eq, bne_iff_ne, beq_eq_false_iff_ne, bne_eq_false_iff_eq, Bool.or_eq_true, Bool.and_eq_true, Bool.or_eq_false_iff, Bool.and_eq_false_imp, Bool.not_eq_true, Bool.not_eq_false, Bool.not_true, Bool.not_false, Bool.not_eq_true', Bool.not_eq_false', Bool.or_false, Bool.false_or, Bool.or_true, Bool.true_or, Bool.and_true, Bool.true_and, reduceCtorEq] at ht) <;> (try with_reducible contradiction)))
    | ((with_reducible refine guardSplit (fun hg => ?_) (fun hg => ?_)) <;> (try simp only [Bool.not_true, Bool.not_false] at hg) <;> (have hc := hg) <;> simp -implicitDefEqProofs only [go_sem, hg, List.length_map] <;> (try simp only [decide_eq_true_eq, decide_eq_false_iff_not, beq_iff_eq, bne_iff_ne, beq_eq_false_iff_ne, bne_eq_false_iff_eq, Bool.or_eq_true, Bool.and_eq_true, Bool.or_eq_false_iff, Bool.and_eq_false_imp, Bool.not_eq_true, Bool.not_eq_false, Bool.not_true, Bool.not_false, Bool.not_eq_true', Bool.not_eq_false', Bool.or_false, Bool.false_or, Bool.or_true, Bool.true_or, Bool.and_true, Bool.true_and, reduceCtorEq] at hc) <;> (try with_reducible contradiction)))
  refine Stop.go ?_
  refine SW.cutS (γ := Unit) (fun _ => St.of [] [] 64) (fun K hK => ?_) fun _ => ?_
  · repeat' (first
      | apply_assumption -exfalso -symm (transparency := .reducible) only [*]
      | (with_reducible refine And.intro ?_ ?_)
      | (refine drawIt ?_; kernel_rfl)
      | ((with_reducible refine opsF_id ?_); simp -implicitDefEqProofs only [go_sem])
      | ((with_reducible refine SW.id ?_); first | with_reducible refine SW.seqK fun K hK => ?_ | with_reducible refine SW.block ?_ | with_reducible refine SW.scope ?_ | ((first | with_reducible refine SW.skip ?_ | with_reducible refine SW.exit ?_ | with_reducible refine SW.label ?_ | with_reducible refine SW.ret ?_ | with_reducible refine SW.go MR2 ?_ | refine SW.goDrawF MR2 (by rfl) (by kernel_rfl) ?_); simp -implicitDefEqProofs only [go_sem]) | (refine SW.cond (by simp -implicitDefEqProofs only [go_sem]; rfl) (fun ht => ?_) (fun ht => ?_) <;> (try with_reducible contradiction))))
    refine SW.loop (α := { i : Nat // i ≤ l.length }) (fun i => St.of [(0, .sl q (l.map spT)), (1, .sl r (l.map spT)), (5, .v (.int .i64 ((i.1 : Nat) : Int)))] [] 64) (fun i => l.length - i.1) ⟨0, by omega⟩
      (Weak.of [] (by rfl) ?_ ?_) fun ⟨i, hi⟩ => ?_
    · simp -implicitDefEqProofs only [go_sem]
      all_goals (repeat' (first | exact rfl | exact trivial | refine And.intro ?_ ?_))
    · simp -implicitDefEqProofs only [go_sem]
    · rcases Nat.lt_or_eq_of_le hi with h4 | h4
      · have hc := eq_true (show (i : Int) < (l.length : Int) by omega)
        have h5 := i64_up (a := i) (by omega)
        have okx := hget i h4
        have l1 := okx.h.len
        have l2 := okx.m.len
        dsimp only
        clear hget okx
        generalize hxi : l.getD i default = x at *
        repeat' (first
          | apply_assumption -exfalso -symm (transparency := .reducible) only [*]
          | (with_reducible refine And.intro ?_ ?_)
          | (refine drawIt ?_; kernel_rfl)
          | ((with_reducible refine opsF_id ?_); simp -implicitDefEqProofs only [go_sem, hc, h5, List.length_map, hxi, spT, keyT, u32T, l1, l2])
          | ((with_reducible refine SW.id ?_); first | with_reducible refine SW.seqK fun K hK => ?_ | with_reducible refine SW.block ?_ | with_reducible refine SW.scope ?_ | ((first | with_reducible refine SW.skip ?_ | with_reducible refine SW.exit ?_ | with_reducible refine SW.label ?_ | with_reducible refine SW.ret ?_ | with_reducible refine SW.go MR2 ?_ | refine SW.goDrawF MR2 (by rfl) (by kernel_rfl) ?_); simp -implicitDefEqProofs only [go_sem, hc, h5, List.length_map, hxi, spT, keyT, u32T, l1, l2]) | (refine SW.cond (by simp -implicitDefEqProofs only [go_sem, hc, h5, List.length_map, hxi, spT, keyT, u32T, l1, l2]; rfl) (fun ht => ?_) (fun ht => ?_) <;> (try with_reducible contradiction))))
        all_goals first | omega | skip
        refine ⟨⟨i + 1, by omega⟩, Weak.of [] (by rfl) ?_ ?_, by dsimp only; omega⟩
        · simp -implicitDefEqProofs only [go_sem]
          all_goals (repeat' (first | exact rfl | exact trivial | refine And.intro ?_ ?_))
        · simp -implicitDefEqProofs only [go_sem]
      · have hc := eq_false (show ¬ (i : Int) < (l.length : Int) by omega)
        subst h4
        dsimp only
        repeat' (first
          | apply_assumption -exfalso -symm (transparency := .reducible) only [*]
          | (with_reducible refine And.intro ?_ ?_)
          | (refine drawIt ?_; kernel_rfl)
          | ((with_reducible refine opsF_id ?_); simp -implicitDefEqProofs only [go_sem, hc, List.length_map])
          | ((with_reducible refine SW.id ?_); first | with_reducible refine SW.seqK fun K hK => ?_ | with_reducible refine SW.block ?_ | with_reducible refine SW.scope ?_ | ((first | with_reducible refine SW.skip ?_ | with_reducible refine SW.exit ?_ | with_reducible refine SW.label ?_ | with_reducible refine SW.ret ?_ | with_reducible refine SW.go MR2 ?_ | refine SW.goDrawF MR2 (by rfl) (by kernel_rfl) ?_); simp -implicitDefEqProofs only [go_sem, hc, List.length_map]) | (refine SW.cond (by simp -implicitDefEqProofs only [go_sem, hc, List.length_map]; rfl) (fun ht => ?_) (fun ht => ?_) <;> (try with_reducible contradiction))))
        refine ⟨(), Weak.of [] (by rfl) ?_ ?_⟩
        · simp -implicitDefEqProofs only [go_sem]
        · simp -implicitDefEqProofs only [go_sem]
  · repeat' (first
      | apply_assumption -exfalso -symm (transparency := .reducible) only [*]
      | (with_reducible refine And.intro ?_ ?_)
      | (refine drawIt ?_; kernel_rfl)
      | ((with_reducible refine opsF_id ?_); simp -implicitDefEqProofs only [go_sem, booT])
      | ((with_reducible refine SW.id ?_); first | with_reducible refine SW.seqK fun K hK => ?_ | with_reducible refine SW.block ?_ | with_reducible refine SW.scope ?_ | ((first | with_reducible refine SW.skip ?_ | with_reducible refine SW.exit ?_ | with_reducible refine SW.label ?_ | with_reducible refine SW.ret ?_ | with_reducible refine SW.go MR2 ?_ | refine SW.goDrawF MR2 (by rfl) (by kernel_rfl) ?_); simp -implicitDefEqProofs only [go_sem, booT]) | (refine SW.cond (by simp -implicitDefEqProofs only [go_sem, booT]; rfl) (fun ht => ?_) (fun ht => ?_) <;> (try with_reducible contradiction))))

end Go.PA
