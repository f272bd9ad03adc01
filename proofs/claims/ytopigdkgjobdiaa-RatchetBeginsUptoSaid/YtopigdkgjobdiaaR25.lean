/- What two sides begin with, side by side: the world of a beginning. -/
import Derived.Test.YtopigdkgjobdiaaR24
namespace Go.PA
open Go.Proofs
set_option linter.unusedSimpArgs false
set_option linter.unusedVariables false
set_option maxRecDepth 100000
set_option maxHeartbeats 4000000
attribute [local go_sem] MR2 MR getP setP szAll takesW
attribute [-go_sem] takeA roA A.good A.isAgg

theorem tk_stR {bor : Bool} {m d z off len : Nat} {full : Bool} {s : StS} {rm : List Nat} : takeA bor (m + 3) (stT s (.ref d z off len full)) rm = (takeA bor (m + 2) (.ref d z off len full) rm).bind fun q => .ret (stT s q.1, q.2) := by
  simp only [stT, cfgT, keyT, u32T, i64T, booT, tkA_agg, tkA_v, tkA_arr, takesW, RM.bind, RM.bind_assoc']
attribute [go_sem] tk_stR
theorem ren_stR {π : Nat → Option Nat} {s : StS} {d z off len : Nat} {full : Bool} : ren π (stT s (.ref d z off len full)) = (π d).map fun d' => stT s (.ref d' z off len full) := by
  cases h : π d <;> simp [stT, cfgT, keyT, u32T, i64T, booT, ren, rens, h]
attribute [go_sem] ren_stR
def pairT (m n : Int) (sa sb : StS) : A := if m ≠ 0 ∧ n ≠ 0 then .arr 2 [.v (.pointer none), .v (.pointer none)] else .agg [sideT m sa, sideT n sb]
def worldT (m n : Int) (sa sb : StS) : A := .agg [pairT m n sa sb, .agg [stT (stN m sa) (.osl 65 []), stT (stN n sb) (.osl 65 [])], .osl 54 [], booT (decide (m ≠ 0) || decide (n ≠ 0))]
def zW (d : Nat) : A := .agg [.arr 2 [.v (.pointer none), .v (.pointer none)], .arr 664 [stT zS (.sl true []), stT zS (.sl true [])], .ref d 54 0 0 false, .v (.bool false)]
theorem stO_nobor {s : StS} : (stT s (.osl 65 [])).nobor = true := by simp only [stT, cfgT, keyT, u32T, i64T, booT, A.nobor, nobors, Bool.and_true]
attribute [go_sem] stO_nobor rat_nobor
theorem begunW_FS (a b : Cfg) (sh hA hB r u pe : List Nat) (h1 : KeyOk sh) (h2 : KeyOk hA) (h3 : KeyOk hB) (h4 : KeyOk r) (h5 : KeyOk u) (h6 : KeyOk pe) :
    FS Try.prog 11 [.agg [keyT sh, keyT hA, keyT hB, .agg [keyT r, keyT u], keyT pe, cfgT a, cfgT b]]
      (.ret [.box (worldT (cfgN a) (bobN b r u) (aliceS a sh hA hB pe) (bobS b sh hA hB r u)), booT true] [none]) := by
  refine FS_of_SW (kb := [false]) (st0 := ?st) Try.func11 rfl rfl ?he ?_
  case he =>
    simp only [entrySt, cfgT, keyT, u32T, i64T, booT, unfs, unf, A.noown, noowns, nA_noowns, bA_noowns, Option.map_some, if_true, reduceIte, List.nil_append, List.append_nil]
    rfl
  have q1 := aliceP_FS a sh hA hB pe h1 h2 h3 h6
  have q2 := aliceD_FS a sh hA hB pe
  have q3 := bobP_FS b sh hA hB r u h1 h2 h3 h4 h5
  have q4 := bobD_FS b sh hA hB r u h4 h5
  clear h1 h2 h3 h4 h5 h6
  refine SW.weak (Weak.of [] (sls := [(0, .agg [keyT sh, keyT hA, keyT hB, .agg [keyT r, keyT u], keyT pe, cfgT a, cfgT b])]) (bks := []) (ep := 64) (by rfl) (by repeat' (first | exact rfl | exact trivial | refine And.intro ?_ ?_)) trivial) ?_
  generalize aliceS a sh hA hB pe = sa at *
  generalize bobS b sh hA hB r u = sb at *
  generalize cfgN a = m at *
  generalize bobN b r u = n at *
  simp only [cfgT, keyT, i64T, sideT] at q1 q2 q3 q4
  unfold worldT pairT sideT
  have k2 (s : StS) (d : Nat) := stT_sz2 (s := s) (sp := .ref d 65 0 0 false) rfl
  have k3 (s : StS) (d : Nat) := stT_noown (s := s) (sp := .ref d 65 0 0 false) rfl
  generalize stN m sa = ta at *
  generalize stN n sb = tb at *
  by_cases hm : m = 0 <;> by_cases hn : n = 0
  · subst hm
    subst hn
    simp only [if_true] at q1 q3
    simp only [if_true, ne_eq, not_true_eq_false, not_false_eq_true, false_and, and_false, and_true, if_false, if_true, decide_true, decide_false, Bool.or_true, Bool.or_false, Bool.true_or, Bool.false_or]
    have e0 : ((0 : Int) != 0) = false := rfl
    repeat' (first
      | apply_assumption -exfalso -symm (transparency := .reducible) only [*]
      | with_reducible refine SW.stopR 4 ?_
      | (first | refine callEnd_of q1 ?_ | refine callEnd_of q2 ?_ | refine callEnd_of q3 ?_ | refine callEnd_of q4 ?_) <;> (try simp -implicitDefEqProofs only [go_sem, cfgT, keyT, i64T, k2, k3, zK_eq, e0])
      | (with_reducible refine And.intro ?_ ?_)
      | (refine drawIt ?_; kernel_rfl)
      | ((with_reducible refine opsF_id ?_); simp -implicitDefEqProofs only [go_sem, cfgT, keyT, i64T, k2, k3, zK_eq, e0])
      | ((with_reducible refine SW.id ?_); first | with_reducible refine SW.seqK fun K hK => ?_ | with_reducible refine SW.block ?_ | with_reducible refine SW.scope ?_ | ((first | with_reducible refine SW.skip ?_ | with_reducible refine SW.exit ?_ | with_reducible refine SW.label ?_ | with_reducible refine SW.ret ?_ | with_reducible refine SW.go MR2 ?_ | refine SW.goDrawF MR2 (by rfl) (by kernel_rfl) ?_); simp -implicitDefEqProofs only [go_sem, cfgT, keyT, i64T, k2, k3, zK_eq, e0]) | (refine SW.cond (by simp -implicitDefEqProofs only [go_sem, cfgT, keyT, i64T, k2, k3, zK_eq, e0]; rfl) (fun ht => ?_) (fun ht => ?_) <;> (try with_reducible contradiction))))
    refine Stop.go (SW.weak (Weak.of [(64, 1), (320, 2), (257, 3), (1088, 4), (2368, 5), (2112, 6)] (sls := [(1, .ptr 1 []), (4, .ptr 2 []), (5, .ptr 4 []), (6, .v (.int .i64 0)), (7, .ptr 5 []), (8, .v (.int .i64 0))]) (bks := [(1, .var (.agg [.arr 32 (bA (sh)), .arr 32 (bA (hA)), .arr 32 (bA (hB)), .agg [.arr 32 (bA (r)), .arr 32 (bA (u))], .arr 32 (bA (pe)), cfgT a, cfgT b])), (2, .var (zW 3)), (3, .row 54 []), (4, .var (ratT sa)), (5, .var (stT ta (.ref 6 65 0 0 false))), (6, .row 65 [])]) (ep := 64) (by rfl) ?_ ?_) ?_)
    · simp -implicitDefEqProofs only [go_sem, cfgT, keyT, i64T]
      all_goals (repeat' (first | exact rfl | exact trivial | refine And.intro ?_ ?_))
    · simp -implicitDefEqProofs only [go_sem, zW, stT, zS, cfgT, keyT, u32T, i64T, booT, zK_eq]
      all_goals (repeat' (first | exact rfl | exact trivial | refine And.intro ?_ ?_))
    repeat' (first
      | apply_assumption -exfalso -symm (transparency := .reducible) only [*]
      | (first | refine callEnd_of q1 ?_ | refine callEnd_of q2 ?_ | refine callEnd_of q3 ?_ | refine callEnd_of q4 ?_) <;> (try simp -implicitDefEqProofs only [go_sem, cfgT, keyT, i64T, k2, k3, zK_eq, zW, e0])
      | (with_reducible refine And.intro ?_ ?_)
      | (refine drawIt ?_; kernel_rfl)
      | ((with_reducible refine opsF_id ?_); simp -implicitDefEqProofs only [go_sem, cfgT, keyT, i64T, k2, k3, zK_eq, zW, e0])
      | ((with_reducible refine SW.id ?_); first | with_reducible refine SW.seqK fun K hK => ?_ | with_reducible refine SW.block ?_ | with_reducible refine SW.scope ?_ | ((first | with_reducible refine SW.skip ?_ | with_reducible refine SW.exit ?_ | with_reducible refine SW.label ?_ | with_reducible refine SW.ret ?_ | with_reducible refine SW.go MR2 ?_ | refine SW.goDrawF MR2 (by rfl) (by kernel_rfl) ?_); simp -implicitDefEqProofs only [go_sem, cfgT, keyT, i64T, k2, k3, zK_eq, zW, e0]) | (refine SW.cond (by simp -implicitDefEqProofs only [go_sem, cfgT, keyT, i64T, k2, k3, zK_eq, zW, e0]; rfl) (fun ht => ?_) (fun ht => ?_) <;> (try with_reducible contradiction))))
    all_goals first | rfl | skip
  · subst hm
    simp only [if_neg hn, if_true] at q1 q3
    simp only [if_neg hn, if_true, ne_eq, not_true_eq_false, not_false_eq_true, hn, false_and, and_false, and_true, if_false, if_true, decide_true, decide_false, Bool.or_true, Bool.or_false, Bool.true_or, Bool.false_or]
    have e0 : ((0 : Int) != 0) = false := rfl
    have e3 : (n != n) = false := by simp
    have e4 : (n != 0) = true := by simp [hn]
    repeat' (first
      | apply_assumption -exfalso -symm (transparency := .reducible) only [*]
      | with_reducible refine SW.stopR 4 ?_
      | (first | refine callEnd_of q1 ?_ | refine callEnd_of q2 ?_ | refine callEnd_of q3 ?_ | refine callEnd_of q4 ?_) <;> (try simp -implicitDefEqProofs only [go_sem, cfgT, keyT, i64T, k2, k3, zK_eq, e0, e3, e4])
      | (with_reducible refine And.intro ?_ ?_)
      | (refine drawIt ?_; kernel_rfl)
      | ((with_reducible refine opsF_id ?_); simp -implicitDefEqProofs only [go_sem, cfgT, keyT, i64T, k2, k3, zK_eq, e0, e3, e4])
      | ((with_reducible refine SW.id ?_); first | with_reducible refine SW.seqK fun K hK => ?_ | with_reducible refine SW.block ?_ | with_reducible refine SW.scope ?_ | ((first | with_reducible refine SW.skip ?_ | with_reducible refine SW.exit ?_ | with_reducible refine SW.label ?_ | with_reducible refine SW.ret ?_ | with_reducible refine SW.go MR2 ?_ | refine SW.goDrawF MR2 (by rfl) (by kernel_rfl) ?_); simp -implicitDefEqProofs only [go_sem, cfgT, keyT, i64T, k2, k3, zK_eq, e0, e3, e4]) | (refine SW.cond (by simp -implicitDefEqProofs only [go_sem, cfgT, keyT, i64T, k2, k3, zK_eq, e0, e3, e4]; rfl) (fun ht => ?_) (fun ht => ?_) <;> (try with_reducible contradiction))))
    refine Stop.go (SW.weak (Weak.of [(64, 1), (320, 2), (257, 3), (1088, 4), (2368, 5), (2112, 6)] (sls := [(1, .ptr 1 []), (4, .ptr 2 []), (5, .ptr 4 []), (6, .v (.int .i64 0)), (7, .ptr 5 []), (8, .v (.int .i64 0))]) (bks := [(1, .var (.agg [.arr 32 (bA (sh)), .arr 32 (bA (hA)), .arr 32 (bA (hB)), .agg [.arr 32 (bA (r)), .arr 32 (bA (u))], .arr 32 (bA (pe)), cfgT a, cfgT b])), (2, .var (zW 3)), (3, .row 54 []), (4, .var (ratT sa)), (5, .var (stT ta (.ref 6 65 0 0 false))), (6, .row 65 [])]) (ep := 64) (by rfl) ?_ ?_) ?_)
    · simp -implicitDefEqProofs only [go_sem, cfgT, keyT, i64T]
      all_goals (repeat' (first | exact rfl | exact trivial | refine And.intro ?_ ?_))
    · simp -implicitDefEqProofs only [go_sem, zW, stT, zS, cfgT, keyT, u32T, i64T, booT, zK_eq]
      all_goals (repeat' (first | exact rfl | exact trivial | refine And.intro ?_ ?_))
    repeat' (first
      | apply_assumption -exfalso -symm (transparency := .reducible) only [*]
      | (first | refine callEnd_of q1 ?_ | refine callEnd_of q2 ?_ | refine callEnd_of q3 ?_ | refine callEnd_of q4 ?_) <;> (try simp -implicitDefEqProofs only [go_sem, cfgT, keyT, i64T, k2, k3, zK_eq, zW, e0, e3, e4])
      | (with_reducible refine And.intro ?_ ?_)
      | (refine drawIt ?_; kernel_rfl)
      | ((with_reducible refine opsF_id ?_); simp -implicitDefEqProofs only [go_sem, cfgT, keyT, i64T, k2, k3, zK_eq, zW, e0, e3, e4])
      | ((with_reducible refine SW.id ?_); first | with_reducible refine SW.seqK fun K hK => ?_ | with_reducible refine SW.block ?_ | with_reducible refine SW.scope ?_ | ((first | with_reducible refine SW.skip ?_ | with_reducible refine SW.exit ?_ | with_reducible refine SW.label ?_ | with_reducible refine SW.ret ?_ | with_reducible refine SW.go MR2 ?_ | refine SW.goDrawF MR2 (by rfl) (by kernel_rfl) ?_); simp -implicitDefEqProofs only [go_sem, cfgT, keyT, i64T, k2, k3, zK_eq, zW, e0, e3, e4]) | (refine SW.cond (by simp -implicitDefEqProofs only [go_sem, cfgT, keyT, i64T, k2, k3, zK_eq, zW, e0, e3, e4]; rfl) (fun ht => ?_) (fun ht => ?_) <;> (try with_reducible contradiction))))
    all_goals first | rfl | skip
  · subst hn
    simp only [if_neg hm, if_true] at q1 q3
    simp only [if_neg hm, if_true, ne_eq, not_true_eq_false, not_false_eq_true, hm, false_and, and_false, and_true, if_false, if_true, decide_true, decide_false, Bool.or_true, Bool.or_false, Bool.true_or, Bool.false_or]
    have e0 : ((0 : Int) != 0) = false := rfl
    have e1 : (m != m) = false := by simp
    have e2 : (m != 0) = true := by simp [hm]
    repeat' (first
      | apply_assumption -exfalso -symm (transparency := .reducible) only [*]
      | with_reducible refine SW.stopR 4 ?_
      | (first | refine callEnd_of q1 ?_ | refine callEnd_of q2 ?_ | refine callEnd_of q3 ?_ | refine callEnd_of q4 ?_) <;> (try simp -implicitDefEqProofs only [go_sem, cfgT, keyT, i64T, k2, k3, zK_eq, e0, e1, e2])
      | (with_reducible refine And.intro ?_ ?_)
      | (refine drawIt ?_; kernel_rfl)
      | ((with_reducible refine opsF_id ?_); simp -implicitDefEqProofs only [go_sem, cfgT, keyT, i64T, k2, k3, zK_eq, e0, e1, e2])
      | ((with_reducible refine SW.id ?_); first | with_reducible refine SW.seqK fun K hK => ?_ | with_reducible refine SW.block ?_ | with_reducible refine SW.scope ?_ | ((first | with_reducible refine SW.skip ?_ | with_reducible refine SW.exit ?_ | with_reducible refine SW.label ?_ | with_reducible refine SW.ret ?_ | with_reducible refine SW.go MR2 ?_ | refine SW.goDrawF MR2 (by rfl) (by kernel_rfl) ?_); simp -implicitDefEqProofs only [go_sem, cfgT, keyT, i64T, k2, k3, zK_eq, e0, e1, e2]) | (refine SW.cond (by simp -implicitDefEqProofs only [go_sem, cfgT, keyT, i64T, k2, k3, zK_eq, e0, e1, e2]; rfl) (fun ht => ?_) (fun ht => ?_) <;> (try with_reducible contradiction))))
    refine Stop.go (SW.weak (Weak.of [(64, 1), (320, 2), (257, 3), (2368, 5), (2112, 6)] (sls := [(1, .ptr 1 []), (4, .ptr 2 []), (5, .v (.pointer none)), (6, .v (.int .i64 m)), (7, .ptr 5 []), (8, .v (.int .i64 m))]) (bks := [(1, .var (.agg [.arr 32 (bA (sh)), .arr 32 (bA (hA)), .arr 32 (bA (hB)), .agg [.arr 32 (bA (r)), .arr 32 (bA (u))], .arr 32 (bA (pe)), cfgT a, cfgT b])), (2, .var (zW 3)), (3, .row 54 []), (5, .var (stT ta (.ref 6 65 0 0 false))), (6, .row 65 [])]) (ep := 64) (by rfl) ?_ ?_) ?_)
    · simp -implicitDefEqProofs only [go_sem, cfgT, keyT, i64T]
      all_goals (repeat' (first | exact rfl | exact trivial | refine And.intro ?_ ?_))
    · simp -implicitDefEqProofs only [go_sem, zW, stT, zS, cfgT, keyT, u32T, i64T, booT, zK_eq]
      all_goals (repeat' (first | exact rfl | exact trivial | refine And.intro ?_ ?_))
    repeat' (first
      | apply_assumption -exfalso -symm (transparency := .reducible) only [*]
      | (first | refine callEnd_of q1 ?_ | refine callEnd_of q2 ?_ | refine callEnd_of q3 ?_ | refine callEnd_of q4 ?_) <;> (try simp -implicitDefEqProofs only [go_sem, cfgT, keyT, i64T, k2, k3, zK_eq, zW, e0, e1, e2])
      | (with_reducible refine And.intro ?_ ?_)
      | (refine drawIt ?_; kernel_rfl)
      | ((with_reducible refine opsF_id ?_); simp -implicitDefEqProofs only [go_sem, cfgT, keyT, i64T, k2, k3, zK_eq, zW, e0, e1, e2])
      | ((with_reducible refine SW.id ?_); first | with_reducible refine SW.seqK fun K hK => ?_ | with_reducible refine SW.block ?_ | with_reducible refine SW.scope ?_ | ((first | with_reducible refine SW.skip ?_ | with_reducible refine SW.exit ?_ | with_reducible refine SW.label ?_ | with_reducible refine SW.ret ?_ | with_reducible refine SW.go MR2 ?_ | refine SW.goDrawF MR2 (by rfl) (by kernel_rfl) ?_); simp -implicitDefEqProofs only [go_sem, cfgT, keyT, i64T, k2, k3, zK_eq, zW, e0, e1, e2]) | (refine SW.cond (by simp -implicitDefEqProofs only [go_sem, cfgT, keyT, i64T, k2, k3, zK_eq, zW, e0, e1, e2]; rfl) (fun ht => ?_) (fun ht => ?_) <;> (try with_reducible contradiction))))
    all_goals first | rfl | skip
  · simp only [if_neg hm, if_neg hn] at q1 q3
    simp only [if_neg hm, if_neg hn, ne_eq, not_true_eq_false, not_false_eq_true, hm, hn, false_and, and_false, and_true, if_false, if_true, decide_true, decide_false, Bool.or_true, Bool.or_false, Bool.true_or, Bool.false_or]
    have e0 : ((0 : Int) != 0) = false := rfl
    have e1 : (m != m) = false := by simp
    have e2 : (m != 0) = true := by simp [hm]
    have e3 : (n != n) = false := by simp
    have e4 : (n != 0) = true := by simp [hn]
    repeat' (first
      | apply_assumption -exfalso -symm (transparency := .reducible) only [*]
      | with_reducible refine SW.stopR 4 ?_
      | (first | refine callEnd_of q1 ?_ | refine callEnd_of q2 ?_ | refine callEnd_of q3 ?_ | refine callEnd_of q4 ?_) <;> (try simp -implicitDefEqProofs only [go_sem, cfgT, keyT, i64T, k2, k3, zK_eq, e0, e1, e2, e3, e4])
      | (with_reducible refine And.intro ?_ ?_)
      | (refine drawIt ?_; kernel_rfl)
      | ((with_reducible refine opsF_id ?_); simp -implicitDefEqProofs only [go_sem, cfgT, keyT, i64T, k2, k3, zK_eq, e0, e1, e2, e3, e4])
      | ((with_reducible refine SW.id ?_); first | with_reducible refine SW.seqK fun K hK => ?_ | with_reducible refine SW.block ?_ | with_reducible refine SW.scope ?_ | ((first | with_reducible refine SW.skip ?_ | with_reducible refine SW.exit ?_ | with_reducible refine SW.label ?_ | with_reducible refine SW.ret ?_ | with_reducible refine SW.go MR2 ?_ | refine SW.goDrawF MR2 (by rfl) (by kernel_rfl) ?_); simp -implicitDefEqProofs only [go_sem, cfgT, keyT, i64T, k2, k3, zK_eq, e0, e1, e2, e3, e4]) | (refine SW.cond (by simp -implicitDefEqProofs only [go_sem, cfgT, keyT, i64T, k2, k3, zK_eq, e0, e1, e2, e3, e4]; rfl) (fun ht => ?_) (fun ht => ?_) <;> (try with_reducible contradiction))))
    refine Stop.go (SW.weak (Weak.of [(64, 1), (320, 2), (257, 3), (2368, 5), (2112, 6)] (sls := [(1, .ptr 1 []), (4, .ptr 2 []), (5, .v (.pointer none)), (6, .v (.int .i64 m)), (7, .ptr 5 []), (8, .v (.int .i64 m))]) (bks := [(1, .var (.agg [.arr 32 (bA (sh)), .arr 32 (bA (hA)), .arr 32 (bA (hB)), .agg [.arr 32 (bA (r)), .arr 32 (bA (u))], .arr 32 (bA (pe)), cfgT a, cfgT b])), (2, .var (zW 3)), (3, .row 54 []), (5, .var (stT ta (.ref 6 65 0 0 false))), (6, .row 65 [])]) (ep := 64) (by rfl) ?_ ?_) ?_)
    · simp -implicitDefEqProofs only [go_sem, cfgT, keyT, i64T]
      all_goals (repeat' (first | exact rfl | exact trivial | refine And.intro ?_ ?_))
    · simp -implicitDefEqProofs only [go_sem, zW, stT, zS, cfgT, keyT, u32T, i64T, booT, zK_eq]
      all_goals (repeat' (first | exact rfl | exact trivial | refine And.intro ?_ ?_))
    repeat' (first
      | apply_assumption -exfalso -symm (transparency := .reducible) only [*]
      | (first | refine callEnd_of q1 ?_ | refine callEnd_of q2 ?_ | refine callEnd_of q3 ?_ | refine callEnd_of q4 ?_) <;> (try simp -implicitDefEqProofs only [go_sem, cfgT, keyT, i64T, k2, k3, zK_eq, zW, e0, e1, e2, e3, e4])
      | (with_reducible refine And.intro ?_ ?_)
      | (refine drawIt ?_; kernel_rfl)
      | ((with_reducible refine opsF_id ?_); simp -implicitDefEqProofs only [go_sem, cfgT, keyT, i64T, k2, k3, zK_eq, zW, e0, e1, e2, e3, e4])
      | ((with_reducible refine SW.id ?_); first | with_reducible refine SW.seqK fun K hK => ?_ | with_reducible refine SW.block ?_ | with_reducible refine SW.scope ?_ | ((first | with_reducible refine SW.skip ?_ | with_reducible refine SW.exit ?_ | with_reducible refine SW.label ?_ | with_reducible refine SW.ret ?_ | with_reducible refine SW.go MR2 ?_ | refine SW.goDrawF MR2 (by rfl) (by kernel_rfl) ?_); simp -implicitDefEqProofs only [go_sem, cfgT, keyT, i64T, k2, k3, zK_eq, zW, e0, e1, e2, e3, e4]) | (refine SW.cond (by simp -implicitDefEqProofs only [go_sem, cfgT, keyT, i64T, k2, k3, zK_eq, zW, e0, e1, e2, e3, e4]; rfl) (fun ht => ?_) (fun ht => ?_) <;> (try with_reducible contradiction))))
    all_goals first | rfl | skip
end Go.PA
