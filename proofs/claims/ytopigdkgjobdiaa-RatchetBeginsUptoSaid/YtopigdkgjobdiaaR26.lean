/- The law RatchetBegins answers true. -/
import Derived.Test.YtopigdkgjobdiaaR25
namespace Go.PA
open Go.Proofs
set_option linter.unusedSimpArgs false
set_option linter.unusedVariables false
set_option maxRecDepth 100000
set_option maxHeartbeats 4000000
attribute [local go_sem] MR2 MR getP setP szAll takesW
attribute [-go_sem] takeA roA A.good A.isAgg

theorem ren_stO {π : Nat → Option Nat} {s : StS} : ren π (stT s (.osl 65 [])) = some (stT s (.osl 65 [])) := by
  simp [stT, cfgT, keyT, u32T, i64T, booT, ren, rens]
theorem z0 : ((0 : Nat) : Int) = 0 := rfl
theorem z1 : ((1 : Nat) : Int) = 1 := rfl
theorem z2 : ((2 : Nat) : Int) = 2 := rfl
theorem w1 : IntKind.i64.wrap (0 + 1) = 1 := by decide
theorem w2 : IntKind.i64.wrap (1 + 1) = 2 := by decide
theorem t0 : Int.toNat 0 = 0 := rfl
theorem t1 : Int.toNat 1 = 1 := rfl
theorem b1 : decide ((0 : Int) < 2) = true := rfl
theorem b2 : decide ((1 : Int) < 2) = true := rfl
theorem b3 : decide ((2 : Int) < 2) = false := rfl
theorem begins_FS (a b : Cfg) (sh hA hB r u pe : List Nat) (h1 : KeyOk sh) (h2 : KeyOk hA) (h3 : KeyOk hB) (h4 : KeyOk r) (h5 : KeyOk u) (h6 : KeyOk pe) :
    FS Try.prog 4 [.agg [keyT sh, keyT hA, keyT hB, .agg [keyT r, keyT u], keyT pe, cfgT a, cfgT b]] (.ret [booT true] [none]) := by
  refine FS_of_SW (kb := [false]) (st0 := ?st) Try.func4 rfl rfl ?he ?_
  case he =>
    simp only [entrySt, cfgT, keyT, u32T, i64T, booT, unfs, unf, A.noown, noowns, nA_noowns, bA_noowns, Option.map_some, if_true, reduceIte, List.nil_append, List.append_nil]
    rfl
  have q1 := begunW_FS a b sh hA hB r u pe h1 h2 h3 h4 h5 h6
  have q2 := state_FS (aliceS a sh hA hB pe) (alice_ok h1 h2 h3 h6) (by simp [aliceS]) (by simp [aliceS]) (by simp [bad4, aliceS]) (by simp [bad5, aliceS])
  have q3 := state_FS (bobS b sh hA hB r u) (bob_ok h1 h2 h3 h4 h5) (by simp [bobS]) (by simp [bobS]) (by simp [bad4, bobS]) (by simp [bad5, bobS])
  have q4 := same_st false false (aliceS a sh hA hB pe) (alice_ok h1 h2 h3 h6) (by simp [aliceS])
  have q5 := same_st false false (bobS b sh hA hB r u) (bob_ok h1 h2 h3 h4 h5) (by simp [bobS])
  clear h1 h2 h3 h4 h5 h6
  rw [show (aliceS a sh hA hB pe).spares = [] from rfl] at q2 q4
  rw [show (bobS b sh hA hB r u).spares = [] from rfl] at q3 q5
  rw [List.map_nil] at q2 q3 q4 q5
  refine SW.weak (Weak.of [] (sls := [(0, .agg [keyT sh, keyT hA, keyT hB, .agg [keyT r, keyT u], keyT pe, cfgT a, cfgT b])]) (bks := []) (ep := 64) (by rfl) (by repeat' (first | exact rfl | exact trivial | refine And.intro ?_ ?_)) trivial) ?_
  generalize aliceS a sh hA hB pe = sa at *
  generalize bobS b sh hA hB r u = sb at *
  generalize cfgN a = m at *
  generalize bobN b r u = n at *
  simp only [cfgT, keyT, i64T, booT] at q1 q4 q5
  have k2 (s : StS) (d : Nat) := stT_sz2 (s := s) (sp := .ref d 65 0 0 false) rfl
  have k3 (s : StS) (d : Nat) := stT_noown (s := s) (sp := .ref d 65 0 0 false) rfl
  by_cases hm : m = 0 <;> by_cases hn : n = 0
  · subst hm
    subst hn
    simp only [worldT, pairT, sideT, stN, booT, if_true, ne_eq, not_true_eq_false, not_false_eq_true, false_and, and_false, and_true, if_false, if_true, decide_true, decide_false, Bool.or_true, Bool.or_false, Bool.true_or, Bool.false_or] at q1
    have hu : unf 1000 (.agg [.agg [.box (ratT sa), .box (ratT sb)], .agg [stT sa (.osl 65 []), stT sb (.osl 65 [])], .osl 54 [], .v (.bool false)]) = some (.agg [.agg [.ptr 1000 [], .ptr 1001 []], .agg [stT sa (.ref 1002 65 0 0 false), stT sb (.ref 1003 65 0 0 false)], .ref 1004 54 0 0 false, .v (.bool false)], [(1000, .var (ratT sa)), (1001, .var (ratT sb)), (1002, .row 65 []), (1003, .row 65 []), (1004, .row 54 [])], 1005) := by
      simp only [unf, unfs, unf_st, A.noown, noowns, Option.map_some, if_true, reduceIte, Bool.and_self, List.nil_append, List.append_nil, List.cons_append, List.length_nil]
    repeat' (first
      | apply_assumption -exfalso -symm (transparency := .reducible) only [*]
      | with_reducible refine SW.stopI 4 ?_
      | (refine callEnd_of q1 ?_ <;> (try simp -implicitDefEqProofs only [go_sem, cfgT, keyT, i64T, booT]))
      | (with_reducible refine And.intro ?_ ?_)
      | (refine drawIt ?_; kernel_rfl)
      | ((with_reducible refine opsF_id ?_); simp -implicitDefEqProofs only [go_sem, cfgT, keyT, i64T, booT])
      | ((with_reducible refine SW.id ?_); first | with_reducible refine SW.seqK fun K hK => ?_ | with_reducible refine SW.block ?_ | with_reducible refine SW.scope ?_ | ((first | with_reducible refine SW.skip ?_ | with_reducible refine SW.exit ?_ | with_reducible refine SW.label ?_ | with_reducible refine SW.ret ?_ | with_reducible refine SW.go MR2 ?_ | refine SW.goDrawF MR2 (by rfl) (by kernel_rfl) ?_); simp -implicitDefEqProofs only [go_sem, cfgT, keyT, i64T, booT]) | (refine SW.cond (by simp -implicitDefEqProofs only [go_sem, cfgT, keyT, i64T, booT]; rfl) (fun ht => ?_) (fun ht => ?_) <;> (try with_reducible contradiction))))
    refine Stop.go (SW.weak (Weak.of [(256, 1)] (sls := [(3, .ptr 1 [])]) (bks := [(1, .var (.agg [.agg [.box (ratT sa), .box (ratT sb)], .agg [stT sa (.osl 65 []), stT sb (.osl 65 [])], .osl 54 [], .v (.bool false)]))]) (ep := 64) (by rfl) ?_ ?_) ?_)
    · simp -implicitDefEqProofs only [go_sem]
      all_goals (repeat' (first | exact rfl | exact trivial | refine And.intro ?_ ?_))
    · simp -implicitDefEqProofs only [go_sem, ren_stO]
      all_goals (repeat' (first | exact rfl | exact trivial | refine And.intro ?_ ?_))
    refine SW.weak (Weak.open3 1 1000 1005 2000 rfl rfl hu rfl (fun i hi1 hi2 => by have hi3 : i = 1000 ∨ i = 1001 ∨ i = 1002 ∨ i = 1003 ∨ i = 1004 := (by omega); rcases hi3 with rfl | rfl | rfl | rfl | rfl <;> exact ⟨rfl, by decide⟩) (Weak.of [(1, 1), (1000, 2), (1001, 3), (1002, 4), (1003, 5), (1004, 6)] (sls := [(3, .ptr 1 [])]) (bks := [(1, .var (.agg [.agg [.ptr 2 [], .ptr 3 []], .agg [stT sa (.ref 4 65 0 0 false), stT sb (.ref 5 65 0 0 false)], .ref 6 54 0 0 false, .v (.bool false)])), (2, .var (ratT sa)), (3, .var (ratT sb)), (4, .row 65 []), (5, .row 65 []), (6, .row 54 [])]) (ep := 64) (by rfl) ?_ ?_)) ?_
    · simp -implicitDefEqProofs only [go_sem]
      all_goals (repeat' (first | exact rfl | exact trivial | refine And.intro ?_ ?_))
    · simp -implicitDefEqProofs only [go_sem]
      all_goals (repeat' (first | exact rfl | exact trivial | refine And.intro ?_ ?_))
    clear hu q1
    repeat' (first
      | apply_assumption -exfalso -symm (transparency := .reducible) only [*]
      | (with_reducible refine And.intro ?_ ?_)
      | (refine drawIt ?_; kernel_rfl)
      | ((with_reducible refine opsF_id ?_); simp -implicitDefEqProofs only [go_sem])
      | ((with_reducible refine SW.id ?_); first | with_reducible refine SW.seqK fun K hK => ?_ | with_reducible refine SW.block ?_ | with_reducible refine SW.scope ?_ | ((first | with_reducible refine SW.skip ?_ | with_reducible refine SW.exit ?_ | with_reducible refine SW.label ?_ | with_reducible refine SW.ret ?_ | with_reducible refine SW.go MR2 ?_ | refine SW.goDrawF MR2 (by rfl) (by kernel_rfl) ?_); simp -implicitDefEqProofs only [go_sem]) | (refine SW.cond (by simp -implicitDefEqProofs only [go_sem]; rfl) (fun ht => ?_) (fun ht => ?_) <;> (try with_reducible contradiction))))
    refine SW.loop (α := { i : Nat // i ≤ 2 }) (fun i => St.of [(3, .ptr 1 []), (5, .v (.int .i64 ((i.1 : Nat) : Int)))] [(1, .var (.agg [.agg [.ptr 2 [], .ptr 3 []], .agg [stT sa (.ref 4 65 0 0 false), stT sb (.ref 5 65 0 0 false)], .ref 6 54 0 0 false, .v (.bool false)])), (2, .var (ratT sa)), (3, .var (ratT sb)), (4, .row 65 []), (5, .row 65 []), (6, .row 54 [])] 64) (fun i => 2 - i.1) ⟨0, by omega⟩
      (Weak.of [(1, 1), (2, 2), (3, 3), (4, 4), (5, 5), (6, 6)] (by rfl) ?_ ?_) fun ⟨i, hi⟩ => ?_
    · simp -implicitDefEqProofs only [go_sem]
      all_goals (repeat' (first | exact rfl | exact trivial | refine And.intro ?_ ?_))
    · simp -implicitDefEqProofs only [go_sem]
      all_goals (repeat' (first | exact rfl | exact trivial | refine And.intro ?_ ?_))
    dsimp only
    obtain rfl | rfl | rfl : i = 0 ∨ i = 1 ∨ i = 2 := by omega
    · simp only [z0, z1, z2]
      repeat' (first
        | apply_assumption -exfalso -symm (transparency := .reducible) only [*]
        | (first | refine callEnd_of q2 ?_ | refine callEnd_of q3 ?_ | refine callEnd_of q4 ?_ | refine callEnd_of q5 ?_) <;> (try simp -implicitDefEqProofs only [go_sem, z0, z1, z2, w1, w2, t0, t1, b1, b2, b3, k2, k3, booT])
        | (with_reducible refine And.intro ?_ ?_)
        | (refine drawIt ?_; kernel_rfl)
        | ((with_reducible refine opsF_id ?_); simp -implicitDefEqProofs only [go_sem, z0, z1, z2, w1, w2, t0, t1, b1, b2, b3, k2, k3, booT])
        | ((with_reducible refine SW.id ?_); first | with_reducible refine SW.seqK fun K hK => ?_ | with_reducible refine SW.block ?_ | with_reducible refine SW.scope ?_ | ((first | with_reducible refine SW.skip ?_ | with_reducible refine SW.exit ?_ | with_reducible refine SW.label ?_ | with_reducible refine SW.ret ?_ | with_reducible refine SW.go MR2 ?_ | refine SW.goDrawF MR2 (by rfl) (by kernel_rfl) ?_); simp -implicitDefEqProofs only [go_sem, z0, z1, z2, w1, w2, t0, t1, b1, b2, b3, k2, k3, booT]) | (refine SW.cond (by simp -implicitDefEqProofs only [go_sem, z0, z1, z2, w1, w2, t0, t1, b1, b2, b3, k2, k3, booT]; rfl) (fun ht => ?_) (fun ht => ?_) <;> (try with_reducible contradiction))))
      all_goals first | omega | skip
      refine ⟨⟨1, by omega⟩, Weak.of [(1, 1), (2, 2), (3, 3), (4, 4), (5, 5), (6, 6)] (by rfl) ?_ ?_, by dsimp only; omega⟩
      · simp -implicitDefEqProofs only [go_sem, z0, z1, z2]
        all_goals (repeat' (first | exact rfl | exact trivial | refine And.intro ?_ ?_))
      · simp -implicitDefEqProofs only [go_sem]
        all_goals (repeat' (first | exact rfl | exact trivial | refine And.intro ?_ ?_))
    · simp only [z0, z1, z2]
      repeat' (first
        | apply_assumption -exfalso -symm (transparency := .reducible) only [*]
        | (first | refine callEnd_of q2 ?_ | refine callEnd_of q3 ?_ | refine callEnd_of q4 ?_ | refine callEnd_of q5 ?_) <;> (try simp -implicitDefEqProofs only [go_sem, z0, z1, z2, w1, w2, t0, t1, b1, b2, b3, k2, k3, booT])
        | (with_reducible refine And.intro ?_ ?_)
        | (refine drawIt ?_; kernel_rfl)
        | ((with_reducible refine opsF_id ?_); simp -implicitDefEqProofs only [go_sem, z0, z1, z2, w1, w2, t0, t1, b1, b2, b3, k2, k3, booT])
        | ((with_reducible refine SW.id ?_); first | with_reducible refine SW.seqK fun K hK => ?_ | with_reducible refine SW.block ?_ | with_reducible refine SW.scope ?_ | ((first | with_reducible refine SW.skip ?_ | with_reducible refine SW.exit ?_ | with_reducible refine SW.label ?_ | with_reducible refine SW.ret ?_ | with_reducible refine SW.go MR2 ?_ | refine SW.goDrawF MR2 (by rfl) (by kernel_rfl) ?_); simp -implicitDefEqProofs only [go_sem, z0, z1, z2, w1, w2, t0, t1, b1, b2, b3, k2, k3, booT]) | (refine SW.cond (by simp -implicitDefEqProofs only [go_sem, z0, z1, z2, w1, w2, t0, t1, b1, b2, b3, k2, k3, booT]; rfl) (fun ht => ?_) (fun ht => ?_) <;> (try with_reducible contradiction))))
      all_goals first | omega | skip
      refine ⟨⟨2, by omega⟩, Weak.of [(1, 1), (2, 2), (3, 3), (4, 4), (5, 5), (6, 6)] (by rfl) ?_ ?_, by dsimp only; omega⟩
      · simp -implicitDefEqProofs only [go_sem, z0, z1, z2]
        all_goals (repeat' (first | exact rfl | exact trivial | refine And.intro ?_ ?_))
      · simp -implicitDefEqProofs only [go_sem]
        all_goals (repeat' (first | exact rfl | exact trivial | refine And.intro ?_ ?_))
    · simp only [z0, z1, z2]
      repeat' (first
        | apply_assumption -exfalso -symm (transparency := .reducible) only [*]
        | (first | refine callEnd_of q2 ?_ | refine callEnd_of q3 ?_ | refine callEnd_of q4 ?_ | refine callEnd_of q5 ?_) <;> (try simp -implicitDefEqProofs only [go_sem, z0, z1, z2, w1, w2, t0, t1, b1, b2, b3, k2, k3, booT])
        | (with_reducible refine And.intro ?_ ?_)
        | (refine drawIt ?_; kernel_rfl)
        | ((with_reducible refine opsF_id ?_); simp -implicitDefEqProofs only [go_sem, z0, z1, z2, w1, w2, t0, t1, b1, b2, b3, k2, k3, booT])
        | ((with_reducible refine SW.id ?_); first | with_reducible refine SW.seqK fun K hK => ?_ | with_reducible refine SW.block ?_ | with_reducible refine SW.scope ?_ | ((first | with_reducible refine SW.skip ?_ | with_reducible refine SW.exit ?_ | with_reducible refine SW.label ?_ | with_reducible refine SW.ret ?_ | with_reducible refine SW.go MR2 ?_ | refine SW.goDrawF MR2 (by rfl) (by kernel_rfl) ?_); simp -implicitDefEqProofs only [go_sem, z0, z1, z2, w1, w2, t0, t1, b1, b2, b3, k2, k3, booT]) | (refine SW.cond (by simp -implicitDefEqProofs only [go_sem, z0, z1, z2, w1, w2, t0, t1, b1, b2, b3, k2, k3, booT]; rfl) (fun ht => ?_) (fun ht => ?_) <;> (try with_reducible contradiction))))
      all_goals first | rfl | skip
  · subst hm
    simp only [worldT, pairT, sideT, stN, booT, if_neg hn, if_true, ne_eq, not_true_eq_false, not_false_eq_true, hn, false_and, and_false, and_true, if_false, if_true, decide_true, decide_false, Bool.or_true, Bool.or_false, Bool.true_or, Bool.false_or] at q1
    have hu : unf 1000 (.agg [.agg [.box (ratT sa), .v (.pointer none)], .agg [stT sa (.osl 65 []), stT zS (.osl 65 [])], .osl 54 [], .v (.bool true)]) = some (.agg [.agg [.ptr 1000 [], .v (.pointer none)], .agg [stT sa (.ref 1001 65 0 0 false), stT zS (.ref 1002 65 0 0 false)], .ref 1003 54 0 0 false, .v (.bool true)], [(1000, .var (ratT sa)), (1001, .row 65 []), (1002, .row 65 []), (1003, .row 54 [])], 1004) := by
      simp only [unf, unfs, unf_st, A.noown, noowns, Option.map_some, if_true, reduceIte, Bool.and_self, List.nil_append, List.append_nil, List.cons_append, List.length_nil]
    repeat' (first
      | apply_assumption -exfalso -symm (transparency := .reducible) only [*]
      | with_reducible refine SW.stopI 4 ?_
      | (refine callEnd_of q1 ?_ <;> (try simp -implicitDefEqProofs only [go_sem, cfgT, keyT, i64T, booT]))
      | (with_reducible refine And.intro ?_ ?_)
      | (refine drawIt ?_; kernel_rfl)
      | ((with_reducible refine opsF_id ?_); simp -implicitDefEqProofs only [go_sem, cfgT, keyT, i64T, booT])
      | ((with_reducible refine SW.id ?_); first | with_reducible refine SW.seqK fun K hK => ?_ | with_reducible refine SW.block ?_ | with_reducible refine SW.scope ?_ | ((first | with_reducible refine SW.skip ?_ | with_reducible refine SW.exit ?_ | with_reducible refine SW.label ?_ | with_reducible refine SW.ret ?_ | with_reducible refine SW.go MR2 ?_ | refine SW.goDrawF MR2 (by rfl) (by kernel_rfl) ?_); simp -implicitDefEqProofs only [go_sem, cfgT, keyT, i64T, booT]) | (refine SW.cond (by simp -implicitDefEqProofs only [go_sem, cfgT, keyT, i64T, booT]; rfl) (fun ht => ?_) (fun ht => ?_) <;> (try with_reducible contradiction))))
    refine Stop.go (SW.weak (Weak.of [(256, 1)] (sls := [(3, .ptr 1 [])]) (bks := [(1, .var (.agg [.agg [.box (ratT sa), .v (.pointer none)], .agg [stT sa (.osl 65 []), stT zS (.osl 65 [])], .osl 54 [], .v (.bool true)]))]) (ep := 64) (by rfl) ?_ ?_) ?_)
    · simp -implicitDefEqProofs only [go_sem]
      all_goals (repeat' (first | exact rfl | exact trivial | refine And.intro ?_ ?_))
    · simp -implicitDefEqProofs only [go_sem, ren_stO]
      all_goals (repeat' (first | exact rfl | exact trivial | refine And.intro ?_ ?_))
    refine SW.weak (Weak.open3 1 1000 1004 2000 rfl rfl hu rfl (fun i hi1 hi2 => by have hi3 : i = 1000 ∨ i = 1001 ∨ i = 1002 ∨ i = 1003 := (by omega); rcases hi3 with rfl | rfl | rfl | rfl <;> exact ⟨rfl, by decide⟩) (Weak.of [(1, 1), (1000, 2), (1001, 3), (1002, 4), (1003, 5)] (sls := [(3, .ptr 1 [])]) (bks := [(1, .var (.agg [.agg [.ptr 2 [], .v (.pointer none)], .agg [stT sa (.ref 3 65 0 0 false), stT zS (.ref 4 65 0 0 false)], .ref 5 54 0 0 false, .v (.bool true)])), (2, .var (ratT sa)), (3, .row 65 []), (4, .row 65 []), (5, .row 54 [])]) (ep := 64) (by rfl) ?_ ?_)) ?_
    · simp -implicitDefEqProofs only [go_sem]
      all_goals (repeat' (first | exact rfl | exact trivial | refine And.intro ?_ ?_))
    · simp -implicitDefEqProofs only [go_sem]
      all_goals (repeat' (first | exact rfl | exact trivial | refine And.intro ?_ ?_))
    clear hu q1
    repeat' (first
      | apply_assumption -exfalso -symm (transparency := .reducible) only [*]
      | (with_reducible refine And.intro ?_ ?_)
      | (refine drawIt ?_; kernel_rfl)
      | ((with_reducible refine opsF_id ?_); simp -implicitDefEqProofs only [go_sem])
      | ((with_reducible refine SW.id ?_); first | with_reducible refine SW.seqK fun K hK => ?_ | with_reducible refine SW.block ?_ | with_reducible refine SW.scope ?_ | ((first | with_reducible refine SW.skip ?_ | with_reducible refine SW.exit ?_ | with_reducible refine SW.label ?_ | with_reducible refine SW.ret ?_ | with_reducible refine SW.go MR2 ?_ | refine SW.goDrawF MR2 (by rfl) (by kernel_rfl) ?_); simp -implicitDefEqProofs only [go_sem]) | (refine SW.cond (by simp -implicitDefEqProofs only [go_sem]; rfl) (fun ht => ?_) (fun ht => ?_) <;> (try with_reducible contradiction))))
    refine SW.loop (α := { i : Nat // i ≤ 2 }) (fun i => St.of [(3, .ptr 1 []), (5, .v (.int .i64 ((i.1 : Nat) : Int)))] [(1, .var (.agg [.agg [.ptr 2 [], .v (.pointer none)], .agg [stT sa (.ref 3 65 0 0 false), stT zS (.ref 4 65 0 0 false)], .ref 5 54 0 0 false, .v (.bool true)])), (2, .var (ratT sa)), (3, .row 65 []), (4, .row 65 []), (5, .row 54 [])] 64) (fun i => 2 - i.1) ⟨0, by omega⟩
      (Weak.of [(1, 1), (2, 2), (3, 3), (4, 4), (5, 5)] (by rfl) ?_ ?_) fun ⟨i, hi⟩ => ?_
    · simp -implicitDefEqProofs only [go_sem]
      all_goals (repeat' (first | exact rfl | exact trivial | refine And.intro ?_ ?_))
    · simp -implicitDefEqProofs only [go_sem]
      all_goals (repeat' (first | exact rfl | exact trivial | refine And.intro ?_ ?_))
    dsimp only
    obtain rfl | rfl | rfl : i = 0 ∨ i = 1 ∨ i = 2 := by omega
    · simp only [z0, z1, z2]
      repeat' (first
        | apply_assumption -exfalso -symm (transparency := .reducible) only [*]
        | (first | refine callEnd_of q2 ?_ | refine callEnd_of q3 ?_ | refine callEnd_of q4 ?_ | refine callEnd_of q5 ?_) <;> (try simp -implicitDefEqProofs only [go_sem, z0, z1, z2, w1, w2, t0, t1, b1, b2, b3, k2, k3, booT])
        | (with_reducible refine And.intro ?_ ?_)
        | (refine drawIt ?_; kernel_rfl)
        | ((with_reducible refine opsF_id ?_); simp -implicitDefEqProofs only [go_sem, z0, z1, z2, w1, w2, t0, t1, b1, b2, b3, k2, k3, booT])
        | ((with_reducible refine SW.id ?_); first | with_reducible refine SW.seqK fun K hK => ?_ | with_reducible refine SW.block ?_ | with_reducible refine SW.scope ?_ | ((first | with_reducible refine SW.skip ?_ | with_reducible refine SW.exit ?_ | with_reducible refine SW.label ?_ | with_reducible refine SW.ret ?_ | with_reducible refine SW.go MR2 ?_ | refine SW.goDrawF MR2 (by rfl) (by kernel_rfl) ?_); simp -implicitDefEqProofs only [go_sem, z0, z1, z2, w1, w2, t0, t1, b1, b2, b3, k2, k3, booT]) | (refine SW.cond (by simp -implicitDefEqProofs only [go_sem, z0, z1, z2, w1, w2, t0, t1, b1, b2, b3, k2, k3, booT]; rfl) (fun ht => ?_) (fun ht => ?_) <;> (try with_reducible contradiction))))
      all_goals first | omega | skip
      refine ⟨⟨1, by omega⟩, Weak.of [(1, 1), (2, 2), (3, 3), (4, 4), (5, 5)] (by rfl) ?_ ?_, by dsimp only; omega⟩
      · simp -implicitDefEqProofs only [go_sem, z0, z1, z2]
        all_goals (repeat' (first | exact rfl | exact trivial | refine And.intro ?_ ?_))
      · simp -implicitDefEqProofs only [go_sem]
        all_goals (repeat' (first | exact rfl | exact trivial | refine And.intro ?_ ?_))
    · simp only [z0, z1, z2]
      repeat' (first
        | apply_assumption -exfalso -symm (transparency := .reducible) only [*]
        | (first | refine callEnd_of q2 ?_ | refine callEnd_of q3 ?_ | refine callEnd_of q4 ?_ | refine callEnd_of q5 ?_) <;> (try simp -implicitDefEqProofs only [go_sem, z0, z1, z2, w1, w2, t0, t1, b1, b2, b3, k2, k3, booT])
        | (with_reducible refine And.intro ?_ ?_)
        | (refine drawIt ?_; kernel_rfl)
        | ((with_reducible refine opsF_id ?_); simp -implicitDefEqProofs only [go_sem, z0, z1, z2, w1, w2, t0, t1, b1, b2, b3, k2, k3, booT])
        | ((with_reducible refine SW.id ?_); first | with_reducible refine SW.seqK fun K hK => ?_ | with_reducible refine SW.block ?_ | with_reducible refine SW.scope ?_ | ((first | with_reducible refine SW.skip ?_ | with_reducible refine SW.exit ?_ | with_reducible refine SW.label ?_ | with_reducible refine SW.ret ?_ | with_reducible refine SW.go MR2 ?_ | refine SW.goDrawF MR2 (by rfl) (by kernel_rfl) ?_); simp -implicitDefEqProofs only [go_sem, z0, z1, z2, w1, w2, t0, t1, b1, b2, b3, k2, k3, booT]) | (refine SW.cond (by simp -implicitDefEqProofs only [go_sem, z0, z1, z2, w1, w2, t0, t1, b1, b2, b3, k2, k3, booT]; rfl) (fun ht => ?_) (fun ht => ?_) <;> (try with_reducible contradiction))))
      all_goals first | omega | skip
      refine ⟨⟨2, by omega⟩, Weak.of [(1, 1), (2, 2), (3, 3), (4, 4), (5, 5)] (by rfl) ?_ ?_, by dsimp only; omega⟩
      · simp -implicitDefEqProofs only [go_sem, z0, z1, z2]
        all_goals (repeat' (first | exact rfl | exact trivial | refine And.intro ?_ ?_))
      · simp -implicitDefEqProofs only [go_sem]
        all_goals (repeat' (first | exact rfl | exact trivial | refine And.intro ?_ ?_))
    · simp only [z0, z1, z2]
      repeat' (first
        | apply_assumption -exfalso -symm (transparency := .reducible) only [*]
        | (first | refine callEnd_of q2 ?_ | refine callEnd_of q3 ?_ | refine callEnd_of q4 ?_ | refine callEnd_of q5 ?_) <;> (try simp -implicitDefEqProofs only [go_sem, z0, z1, z2, w1, w2, t0, t1, b1, b2, b3, k2, k3, booT])
        | (with_reducible refine And.intro ?_ ?_)
        | (refine drawIt ?_; kernel_rfl)
        | ((with_reducible refine opsF_id ?_); simp -implicitDefEqProofs only [go_sem, z0, z1, z2, w1, w2, t0, t1, b1, b2, b3, k2, k3, booT])
        | ((with_reducible refine SW.id ?_); first | with_reducible refine SW.seqK fun K hK => ?_ | with_reducible refine SW.block ?_ | with_reducible refine SW.scope ?_ | ((first | with_reducible refine SW.skip ?_ | with_reducible refine SW.exit ?_ | with_reducible refine SW.label ?_ | with_reducible refine SW.ret ?_ | with_reducible refine SW.go MR2 ?_ | refine SW.goDrawF MR2 (by rfl) (by kernel_rfl) ?_); simp -implicitDefEqProofs only [go_sem, z0, z1, z2, w1, w2, t0, t1, b1, b2, b3, k2, k3, booT]) | (refine SW.cond (by simp -implicitDefEqProofs only [go_sem, z0, z1, z2, w1, w2, t0, t1, b1, b2, b3, k2, k3, booT]; rfl) (fun ht => ?_) (fun ht => ?_) <;> (try with_reducible contradiction))))
      all_goals first | rfl | skip
  · subst hn
    simp only [worldT, pairT, sideT, stN, booT, if_neg hm, if_true, ne_eq, not_true_eq_false, not_false_eq_true, hm, false_and, and_false, and_true, if_false, if_true, decide_true, decide_false, Bool.or_true, Bool.or_false, Bool.true_or, Bool.false_or] at q1
    have hu : unf 1000 (.agg [.agg [.v (.pointer none), .box (ratT sb)], .agg [stT zS (.osl 65 []), stT sb (.osl 65 [])], .osl 54 [], .v (.bool true)]) = some (.agg [.agg [.v (.pointer none), .ptr 1000 []], .agg [stT zS (.ref 1001 65 0 0 false), stT sb (.ref 1002 65 0 0 false)], .ref 1003 54 0 0 false, .v (.bool true)], [(1000, .var (ratT sb)), (1001, .row 65 []), (1002, .row 65 []), (1003, .row 54 [])], 1004) := by
      simp only [unf, unfs, unf_st, A.noown, noowns, Option.map_some, if_true, reduceIte, Bool.and_self, List.nil_append, List.append_nil, List.cons_append, List.length_nil]
    repeat' (first
      | apply_assumption -exfalso -symm (transparency := .reducible) only [*]
      | with_reducible refine SW.stopI 4 ?_
      | (refine callEnd_of q1 ?_ <;> (try simp -implicitDefEqProofs only [go_sem, cfgT, keyT, i64T, booT]))
      | (with_reducible refine And.intro ?_ ?_)
      | (refine drawIt ?_; kernel_rfl)
      | ((with_reducible refine opsF_id ?_); simp -implicitDefEqProofs only [go_sem, cfgT, keyT, i64T, booT])
      | ((with_reducible refine SW.id ?_); first | with_reducible refine SW.seqK fun K hK => ?_ | with_reducible refine SW.block ?_ | with_reducible refine SW.scope ?_ | ((first | with_reducible refine SW.skip ?_ | with_reducible refine SW.exit ?_ | with_reducible refine SW.label ?_ | with_reducible refine SW.ret ?_ | with_reducible refine SW.go MR2 ?_ | refine SW.goDrawF MR2 (by rfl) (by kernel_rfl) ?_); simp -implicitDefEqProofs only [go_sem, cfgT, keyT, i64T, booT]) | (refine SW.cond (by simp -implicitDefEqProofs only [go_sem, cfgT, keyT, i64T, booT]; rfl) (fun ht => ?_) (fun ht => ?_) <;> (try with_reducible contradiction))))
    refine Stop.go (SW.weak (Weak.of [(256, 1)] (sls := [(3, .ptr 1 [])]) (bks := [(1, .var (.agg [.agg [.v (.pointer none), .box (ratT sb)], .agg [stT zS (.osl 65 []), stT sb (.osl 65 [])], .osl 54 [], .v (.bool true)]))]) (ep := 64) (by rfl) ?_ ?_) ?_)
    · simp -implicitDefEqProofs only [go_sem]
      all_goals (repeat' (first | exact rfl | exact trivial | refine And.intro ?_ ?_))
    · simp -implicitDefEqProofs only [go_sem, ren_stO]
      all_goals (repeat' (first | exact rfl | exact trivial | refine And.intro ?_ ?_))
    refine SW.weak (Weak.open3 1 1000 1004 2000 rfl rfl hu rfl (fun i hi1 hi2 => by have hi3 : i = 1000 ∨ i = 1001 ∨ i = 1002 ∨ i = 1003 := (by omega); rcases hi3 with rfl | rfl | rfl | rfl <;> exact ⟨rfl, by decide⟩) (Weak.of [(1, 1), (1000, 2), (1001, 3), (1002, 4), (1003, 5)] (sls := [(3, .ptr 1 [])]) (bks := [(1, .var (.agg [.agg [.v (.pointer none), .ptr 2 []], .agg [stT zS (.ref 3 65 0 0 false), stT sb (.ref 4 65 0 0 false)], .ref 5 54 0 0 false, .v (.bool true)])), (2, .var (ratT sb)), (3, .row 65 []), (4, .row 65 []), (5, .row 54 [])]) (ep := 64) (by rfl) ?_ ?_)) ?_
    · simp -implicitDefEqProofs only [go_sem]
      all_goals (repeat' (first | exact rfl | exact trivial | refine And.intro ?_ ?_))
    · simp -implicitDefEqProofs only [go_sem]
      all_goals (repeat' (first | exact rfl | exact trivial | refine And.intro ?_ ?_))
    clear hu q1
    repeat' (first
      | apply_assumption -exfalso -symm (transparency := .reducible) only [*]
      | (with_reducible refine And.intro ?_ ?_)
      | (refine drawIt ?_; kernel_rfl)
      | ((with_reducible refine opsF_id ?_); simp -implicitDefEqProofs only [go_sem])
      | ((with_reducible refine SW.id ?_); first | with_reducible refine SW.seqK fun K hK => ?_ | with_reducible refine SW.block ?_ | with_reducible refine SW.scope ?_ | ((first | with_reducible refine SW.skip ?_ | with_reducible refine SW.exit ?_ | with_reducible refine SW.label ?_ | with_reducible refine SW.ret ?_ | with_reducible refine SW.go MR2 ?_ | refine SW.goDrawF MR2 (by rfl) (by kernel_rfl) ?_); simp -implicitDefEqProofs only [go_sem]) | (refine SW.cond (by simp -implicitDefEqProofs only [go_sem]; rfl) (fun ht => ?_) (fun ht => ?_) <;> (try with_reducible contradiction))))
    refine SW.loop (α := { i : Nat // i ≤ 2 }) (fun i => St.of [(3, .ptr 1 []), (5, .v (.int .i64 ((i.1 : Nat) : Int)))] [(1, .var (.agg [.agg [.v (.pointer none), .ptr 2 []], .agg [stT zS (.ref 3 65 0 0 false), stT sb (.ref 4 65 0 0 false)], .ref 5 54 0 0 false, .v (.bool true)])), (2, .var (ratT sb)), (3, .row 65 []), (4, .row 65 []), (5, .row 54 [])] 64) (fun i => 2 - i.1) ⟨0, by omega⟩
      (Weak.of [(1, 1), (2, 2), (3, 3), (4, 4), (5, 5)] (by rfl) ?_ ?_) fun ⟨i, hi⟩ => ?_
    · simp -implicitDefEqProofs only [go_sem]
      all_goals (repeat' (first | exact rfl | exact trivial | refine And.intro ?_ ?_))
    · simp -implicitDefEqProofs only [go_sem]
      all_goals (repeat' (first | exact rfl | exact trivial | refine And.intro ?_ ?_))
    dsimp only
    obtain rfl | rfl | rfl : i = 0 ∨ i = 1 ∨ i = 2 := by omega
    · simp only [z0, z1, z2]
      repeat' (first
        | apply_assumption -exfalso -symm (transparency := .reducible) only [*]
        | (first | refine callEnd_of q2 ?_ | refine callEnd_of q3 ?_ | refine callEnd_of q4 ?_ | refine callEnd_of q5 ?_) <;> (try simp -implicitDefEqProofs only [go_sem, z0, z1, z2, w1, w2, t0, t1, b1, b2, b3, k2, k3, booT])
        | (with_reducible refine And.intro ?_ ?_)
        | (refine drawIt ?_; kernel_rfl)
        | ((with_reducible refine opsF_id ?_); simp -implicitDefEqProofs only [go_sem, z0, z1, z2, w1, w2, t0, t1, b1, b2, b3, k2, k3, booT])
        | ((with_reducible refine SW.id ?_); first | with_reducible refine SW.seqK fun K hK => ?_ | with_reducible refine SW.block ?_ | with_reducible refine SW.scope ?_ | ((first | with_reducible refine SW.skip ?_ | with_reducible refine SW.exit ?_ | with_reducible refine SW.label ?_ | with_reducible refine SW.ret ?_ | with_reducible refine SW.go MR2 ?_ | refine SW.goDrawF MR2 (by rfl) (by kernel_rfl) ?_); simp -implicitDefEqProofs only [go_sem, z0, z1, z2, w1, w2, t0, t1, b1, b2, b3, k2, k3, booT]) | (refine SW.cond (by simp -implicitDefEqProofs only [go_sem, z0, z1, z2, w1, w2, t0, t1, b1, b2, b3, k2, k3, booT]; rfl) (fun ht => ?_) (fun ht => ?_) <;> (try with_reducible contradiction))))
      all_goals first | omega | skip
      refine ⟨⟨1, by omega⟩, Weak.of [(1, 1), (2, 2), (3, 3), (4, 4), (5, 5)] (by rfl) ?_ ?_, by dsimp only; omega⟩
      · simp -implicitDefEqProofs only [go_sem, z0, z1, z2]
        all_goals (repeat' (first | exact rfl | exact trivial | refine And.intro ?_ ?_))
      · simp -implicitDefEqProofs only [go_sem]
        all_goals (repeat' (first | exact rfl | exact trivial | refine And.intro ?_ ?_))
    · simp only [z0, z1, z2]
      repeat' (first
        | apply_assumption -exfalso -symm (transparency := .reducible) only [*]
        | (first | refine callEnd_of q2 ?_ | refine callEnd_of q3 ?_ | refine callEnd_of q4 ?_ | refine callEnd_of q5 ?_) <;> (try simp -implicitDefEqProofs only [go_sem, z0, z1, z2, w1, w2, t0, t1, b1, b2, b3, k2, k3, booT])
        | (with_reducible refine And.intro ?_ ?_)
        | (refine drawIt ?_; kernel_rfl)
        | ((with_reducible refine opsF_id ?_); simp -implicitDefEqProofs only [go_sem, z0, z1, z2, w1, w2, t0, t1, b1, b2, b3, k2, k3, booT])
        | ((with_reducible refine SW.id ?_); first | with_reducible refine SW.seqK fun K hK => ?_ | with_reducible refine SW.block ?_ | with_reducible refine SW.scope ?_ | ((first | with_reducible refine SW.skip ?_ | with_reducible refine SW.exit ?_ | with_reducible refine SW.label ?_ | with_reducible refine SW.ret ?_ | with_reducible refine SW.go MR2 ?_ | refine SW.goDrawF MR2 (by rfl) (by kernel_rfl) ?_); simp -implicitDefEqProofs only [go_sem, z0, z1, z2, w1, w2, t0, t1, b1, b2, b3, k2, k3, booT]) | (refine SW.cond (by simp -implicitDefEqProofs only [go_sem, z0, z1, z2, w1, w2, t0, t1, b1, b2, b3, k2, k3, booT]; rfl) (fun ht => ?_) (fun ht => ?_) <;> (try with_reducible contradiction))))
      all_goals first | omega | skip
      refine ⟨⟨2, by omega⟩, Weak.of [(1, 1), (2, 2), (3, 3), (4, 4), (5, 5)] (by rfl) ?_ ?_, by dsimp only; omega⟩
      · simp -implicitDefEqProofs only [go_sem, z0, z1, z2]
        all_goals (repeat' (first | exact rfl | exact trivial | refine And.intro ?_ ?_))
      · simp -implicitDefEqProofs only [go_sem]
        all_goals (repeat' (first | exact rfl | exact trivial | refine And.intro ?_ ?_))
    · simp only [z0, z1, z2]
      repeat' (first
        | apply_assumption -exfalso -symm (transparency := .reducible) only [*]
        | (first | refine callEnd_of q2 ?_ | refine callEnd_of q3 ?_ | refine callEnd_of q4 ?_ | refine callEnd_of q5 ?_) <;> (try simp -implicitDefEqProofs only [go_sem, z0, z1, z2, w1, w2, t0, t1, b1, b2, b3, k2, k3, booT])
        | (with_reducible refine And.intro ?_ ?_)
        | (refine drawIt ?_; kernel_rfl)
        | ((with_reducible refine opsF_id ?_); simp -implicitDefEqProofs only [go_sem, z0, z1, z2, w1, w2, t0, t1, b1, b2, b3, k2, k3, booT])
        | ((with_reducible refine SW.id ?_); first | with_reducible refine SW.seqK fun K hK => ?_ | with_reducible refine SW.block ?_ | with_reducible refine SW.scope ?_ | ((first | with_reducible refine SW.skip ?_ | with_reducible refine SW.exit ?_ | with_reducible refine SW.label ?_ | with_reducible refine SW.ret ?_ | with_reducible refine SW.go MR2 ?_ | refine SW.goDrawF MR2 (by rfl) (by kernel_rfl) ?_); simp -implicitDefEqProofs only [go_sem, z0, z1, z2, w1, w2, t0, t1, b1, b2, b3, k2, k3, booT]) | (refine SW.cond (by simp -implicitDefEqProofs only [go_sem, z0, z1, z2, w1, w2, t0, t1, b1, b2, b3, k2, k3, booT]; rfl) (fun ht => ?_) (fun ht => ?_) <;> (try with_reducible contradiction))))
      all_goals first | rfl | skip
  · simp only [worldT, pairT, sideT, stN, booT, if_neg hm, if_neg hn, ne_eq, not_true_eq_false, not_false_eq_true, hm, hn, false_and, and_false, and_true, if_false, if_true, decide_true, decide_false, Bool.or_true, Bool.or_false, Bool.true_or, Bool.false_or] at q1
    have hu : unf 1000 (.agg [.arr 2 [.v (.pointer none), .v (.pointer none)], .agg [stT zS (.osl 65 []), stT zS (.osl 65 [])], .osl 54 [], .v (.bool true)]) = some (.agg [.arr 2 [.v (.pointer none), .v (.pointer none)], .agg [stT zS (.ref 1000 65 0 0 false), stT zS (.ref 1001 65 0 0 false)], .ref 1002 54 0 0 false, .v (.bool true)], [(1000, .row 65 []), (1001, .row 65 []), (1002, .row 54 [])], 1003) := by
      simp only [unf, unfs, unf_st, A.noown, noowns, Option.map_some, if_true, reduceIte, Bool.and_self, List.nil_append, List.append_nil, List.cons_append, List.length_nil]
    repeat' (first
      | apply_assumption -exfalso -symm (transparency := .reducible) only [*]
      | with_reducible refine SW.stopI 4 ?_
      | (refine callEnd_of q1 ?_ <;> (try simp -implicitDefEqProofs only [go_sem, cfgT, keyT, i64T, booT]))
      | (with_reducible refine And.intro ?_ ?_)
      | (refine drawIt ?_; kernel_rfl)
      | ((with_reducible refine opsF_id ?_); simp -implicitDefEqProofs only [go_sem, cfgT, keyT, i64T, booT])
      | ((with_reducible refine SW.id ?_); first | with_reducible refine SW.seqK fun K hK => ?_ | with_reducible refine SW.block ?_ | with_reducible refine SW.scope ?_ | ((first | with_reducible refine SW.skip ?_ | with_reducible refine SW.exit ?_ | with_reducible refine SW.label ?_ | with_reducible refine SW.ret ?_ | with_reducible refine SW.go MR2 ?_ | refine SW.goDrawF MR2 (by rfl) (by kernel_rfl) ?_); simp -implicitDefEqProofs only [go_sem, cfgT, keyT, i64T, booT]) | (refine SW.cond (by simp -implicitDefEqProofs only [go_sem, cfgT, keyT, i64T, booT]; rfl) (fun ht => ?_) (fun ht => ?_) <;> (try with_reducible contradiction))))
    refine Stop.go (SW.weak (Weak.of [(256, 1)] (sls := [(3, .ptr 1 [])]) (bks := [(1, .var (.agg [.arr 2 [.v (.pointer none), .v (.pointer none)], .agg [stT zS (.osl 65 []), stT zS (.osl 65 [])], .osl 54 [], .v (.bool true)]))]) (ep := 64) (by rfl) ?_ ?_) ?_)
    · simp -implicitDefEqProofs only [go_sem]
      all_goals (repeat' (first | exact rfl | exact trivial | refine And.intro ?_ ?_))
    · simp -implicitDefEqProofs only [go_sem, ren_stO]
      all_goals (repeat' (first | exact rfl | exact trivial | refine And.intro ?_ ?_))
    refine SW.weak (Weak.open3 1 1000 1003 2000 rfl rfl hu rfl (fun i hi1 hi2 => by have hi3 : i = 1000 ∨ i = 1001 ∨ i = 1002 := (by omega); rcases hi3 with rfl | rfl | rfl <;> exact ⟨rfl, by decide⟩) (Weak.of [(1, 1), (1000, 2), (1001, 3), (1002, 4)] (sls := [(3, .ptr 1 [])]) (bks := [(1, .var (.agg [.arr 2 [.v (.pointer none), .v (.pointer none)], .agg [stT zS (.ref 2 65 0 0 false), stT zS (.ref 3 65 0 0 false)], .ref 4 54 0 0 false, .v (.bool true)])), (2, .row 65 []), (3, .row 65 []), (4, .row 54 [])]) (ep := 64) (by rfl) ?_ ?_)) ?_
    · simp -implicitDefEqProofs only [go_sem]
      all_goals (repeat' (first | exact rfl | exact trivial | refine And.intro ?_ ?_))
    · simp -implicitDefEqProofs only [go_sem]
      all_goals (repeat' (first | exact rfl | exact trivial | refine And.intro ?_ ?_))
    clear hu q1
    repeat' (first
      | apply_assumption -exfalso -symm (transparency := .reducible) only [*]
      | (with_reducible refine And.intro ?_ ?_)
      | (refine drawIt ?_; kernel_rfl)
      | ((with_reducible refine opsF_id ?_); simp -implicitDefEqProofs only [go_sem])
      | ((with_reducible refine SW.id ?_); first | with_reducible refine SW.seqK fun K hK => ?_ | with_reducible refine SW.block ?_ | with_reducible refine SW.scope ?_ | ((first | with_reducible refine SW.skip ?_ | with_reducible refine SW.exit ?_ | with_reducible refine SW.label ?_ | with_reducible refine SW.ret ?_ | with_reducible refine SW.go MR2 ?_ | refine SW.goDrawF MR2 (by rfl) (by kernel_rfl) ?_); simp -implicitDefEqProofs only [go_sem]) | (refine SW.cond (by simp -implicitDefEqProofs only [go_sem]; rfl) (fun ht => ?_) (fun ht => ?_) <;> (try with_reducible contradiction))))
    refine SW.loop (α := { i : Nat // i ≤ 2 }) (fun i => St.of [(3, .ptr 1 []), (5, .v (.int .i64 ((i.1 : Nat) : Int)))] [(1, .var (.agg [.arr 2 [.v (.pointer none), .v (.pointer none)], .agg [stT zS (.ref 2 65 0 0 false), stT zS (.ref 3 65 0 0 false)], .ref 4 54 0 0 false, .v (.bool true)])), (2, .row 65 []), (3, .row 65 []), (4, .row 54 [])] 64) (fun i => 2 - i.1) ⟨0, by omega⟩
      (Weak.of [(1, 1), (2, 2), (3, 3), (4, 4)] (by rfl) ?_ ?_) fun ⟨i, hi⟩ => ?_
    · simp -implicitDefEqProofs only [go_sem]
      all_goals (repeat' (first | exact rfl | exact trivial | refine And.intro ?_ ?_))
    · simp -implicitDefEqProofs only [go_sem]
      all_goals (repeat' (first | exact rfl | exact trivial | refine And.intro ?_ ?_))
    dsimp only
    obtain rfl | rfl | rfl : i = 0 ∨ i = 1 ∨ i = 2 := by omega
    · simp only [z0, z1, z2]
      repeat' (first
        | apply_assumption -exfalso -symm (transparency := .reducible) only [*]
        | (first | refine callEnd_of q2 ?_ | refine callEnd_of q3 ?_ | refine callEnd_of q4 ?_ | refine callEnd_of q5 ?_) <;> (try simp -implicitDefEqProofs only [go_sem, z0, z1, z2, w1, w2, t0, t1, b1, b2, b3, k2, k3, booT])
        | (with_reducible refine And.intro ?_ ?_)
        | (refine drawIt ?_; kernel_rfl)
        | ((with_reducible refine opsF_id ?_); simp -implicitDefEqProofs only [go_sem, z0, z1, z2, w1, w2, t0, t1, b1, b2, b3, k2, k3, booT])
        | ((with_reducible refine SW.id ?_); first | with_reducible refine SW.seqK fun K hK => ?_ | with_reducible refine SW.block ?_ | with_reducible refine SW.scope ?_ | ((first | with_reducible refine SW.skip ?_ | with_reducible refine SW.exit ?_ | with_reducible refine SW.label ?_ | with_reducible refine SW.ret ?_ | with_reducible refine SW.go MR2 ?_ | refine SW.goDrawF MR2 (by rfl) (by kernel_rfl) ?_); simp -implicitDefEqProofs only [go_sem, z0, z1, z2, w1, w2, t0, t1, b1, b2, b3, k2, k3, booT]) | (refine SW.cond (by simp -implicitDefEqProofs only [go_sem, z0, z1, z2, w1, w2, t0, t1, b1, b2, b3, k2, k3, booT]; rfl) (fun ht => ?_) (fun ht => ?_) <;> (try with_reducible contradiction))))
      all_goals first | omega | skip
      refine ⟨⟨1, by omega⟩, Weak.of [(1, 1), (2, 2), (3, 3), (4, 4)] (by rfl) ?_ ?_, by dsimp only; omega⟩
      · simp -implicitDefEqProofs only [go_sem, z0, z1, z2]
        all_goals (repeat' (first | exact rfl | exact trivial | refine And.intro ?_ ?_))
      · simp -implicitDefEqProofs only [go_sem]
        all_goals (repeat' (first | exact rfl | exact trivial | refine And.intro ?_ ?_))
    · simp only [z0, z1, z2]
      repeat' (first
        | apply_assumption -exfalso -symm (transparency := .reducible) only [*]
        | (first | refine callEnd_of q2 ?_ | refine callEnd_of q3 ?_ | refine callEnd_of q4 ?_ | refine callEnd_of q5 ?_) <;> (try simp -implicitDefEqProofs only [go_sem, z0, z1, z2, w1, w2, t0, t1, b1, b2, b3, k2, k3, booT])
        | (with_reducible refine And.intro ?_ ?_)
        | (refine drawIt ?_; kernel_rfl)
        | ((with_reducible refine opsF_id ?_); simp -implicitDefEqProofs only [go_sem, z0, z1, z2, w1, w2, t0, t1, b1, b2, b3, k2, k3, booT])
        | ((with_reducible refine SW.id ?_); first | with_reducible refine SW.seqK fun K hK => ?_ | with_reducible refine SW.block ?_ | with_reducible refine SW.scope ?_ | ((first | with_reducible refine SW.skip ?_ | with_reducible refine SW.exit ?_ | with_reducible refine SW.label ?_ | with_reducible refine SW.ret ?_ | with_reducible refine SW.go MR2 ?_ | refine SW.goDrawF MR2 (by rfl) (by kernel_rfl) ?_); simp -implicitDefEqProofs only [go_sem, z0, z1, z2, w1, w2, t0, t1, b1, b2, b3, k2, k3, booT]) | (refine SW.cond (by simp -implicitDefEqProofs only [go_sem, z0, z1, z2, w1, w2, t0, t1, b1, b2, b3, k2, k3, booT]; rfl) (fun ht => ?_) (fun ht => ?_) <;> (try with_reducible contradiction))))
      all_goals first | omega | skip
      refine ⟨⟨2, by omega⟩, Weak.of [(1, 1), (2, 2), (3, 3), (4, 4)] (by rfl) ?_ ?_, by dsimp only; omega⟩
      · simp -implicitDefEqProofs only [go_sem, z0, z1, z2]
        all_goals (repeat' (first | exact rfl | exact trivial | refine And.intro ?_ ?_))
      · simp -implicitDefEqProofs only [go_sem]
        all_goals (repeat' (first | exact rfl | exact trivial | refine And.intro ?_ ?_))
    · simp only [z0, z1, z2]
      repeat' (first
        | apply_assumption -exfalso -symm (transparency := .reducible) only [*]
        | (first | refine callEnd_of q2 ?_ | refine callEnd_of q3 ?_ | refine callEnd_of q4 ?_ | refine callEnd_of q5 ?_) <;> (try simp -implicitDefEqProofs only [go_sem, z0, z1, z2, w1, w2, t0, t1, b1, b2, b3, k2, k3, booT])
        | (with_reducible refine And.intro ?_ ?_)
        | (refine drawIt ?_; kernel_rfl)
        | ((with_reducible refine opsF_id ?_); simp -implicitDefEqProofs only [go_sem, z0, z1, z2, w1, w2, t0, t1, b1, b2, b3, k2, k3, booT])
        | ((with_reducible refine SW.id ?_); first | with_reducible refine SW.seqK fun K hK => ?_ | with_reducible refine SW.block ?_ | with_reducible refine SW.scope ?_ | ((first | with_reducible refine SW.skip ?_ | with_reducible refine SW.exit ?_ | with_reducible refine SW.label ?_ | with_reducible refine SW.ret ?_ | with_reducible refine SW.go MR2 ?_ | refine SW.goDrawF MR2 (by rfl) (by kernel_rfl) ?_); simp -implicitDefEqProofs only [go_sem, z0, z1, z2, w1, w2, t0, t1, b1, b2, b3, k2, k3, booT]) | (refine SW.cond (by simp -implicitDefEqProofs only [go_sem, z0, z1, z2, w1, w2, t0, t1, b1, b2, b3, k2, k3, booT]; rfl) (fun ht => ?_) (fun ht => ?_) <;> (try with_reducible contradiction))))
      all_goals first | rfl | skip
end Go.PA
