/- The document's numbers of the field: products, bytes, powers. -/
import Derived.Test.YtopigdkgjobdiaaR7
namespace Go.PA
open Go.Proofs Go.Fe
set_option linter.unusedSimpArgs false
set_option linter.unusedVariables false
set_option maxRecDepth 100000
set_option maxHeartbeats 4000000
attribute [local go_sem] MR getP setP takesW
attribute [-go_sem] takeA roA

theorem i64_plus {a b : Nat} (h : a + b < 2 ^ 63) : IntKind.i64.wrap ((a : Int) + (b : Int)) = ((a + b : Nat) : Int) := by rw [IntWalk.i64_in _ (by omega)]; omega

theorem mulL_FS (x y : List Nat) (hx : D4 x) (hy : D4 y) : FS Try.prog 45 [.agg [.arr 4 (nA .u64 (x))], .agg [.arr 4 (nA .u64 (y))]] (.ret [.agg [.arr 4 (nA .u64 (settleL (foldI (mulI x y 4) 4).2 (foldI (mulI x y 4) 4).1))]] [none, none]) := by
  refine FS_of_SW (kb := [false, false]) (st0 := ?st) Try.func45 rfl rfl ?he ?_
  case he =>
    simp only [entrySt, unfs, unf, A.noown, noowns, nA_noowns, bA_noowns, Option.map_some, if_true, reduceIte, List.nil_append, List.append_nil]
    rfl
  have hm := mulI_ok hx.lt hy.lt
  refine SW.weak (Weak.of [] (sls := [(0, .agg [.arr 4 (nA .u64 (x))]), (1, .agg [.arr 4 (nA .u64 (y))])]) (bks := []) (ep := 64) (by rfl) (by repeat' (first | exact rfl | exact trivial | refine And.intro ?_ ?_)) trivial) ?_
  repeat' (first
    | apply_assumption -exfalso -symm (transparency := .reducible) only [*]
    | with_reducible refine SW.stopI 2 ?_
    | (with_reducible refine And.intro ?_ ?_)
    | (refine drawIt ?_; kernel_rfl)
    | ((with_reducible refine opsF_id ?_); simp -implicitDefEqProofs only [go_sem])
    | ((with_reducible refine SW.id ?_); first | with_reducible refine SW.seqK fun K hK => ?_ | with_reducible refine SW.block ?_ | with_reducible refine SW.scope ?_ | ((first | with_reducible refine SW.skip ?_ | with_reducible refine SW.exit ?_ | with_reducible refine SW.label ?_ | with_reducible refine SW.ret ?_ | with_reducible refine SW.go MR ?_ | refine SW.goDrawF MR (by rfl) (by kernel_rfl) ?_); simp -implicitDefEqProofs only [go_sem]) | (refine SW.cond (by simp -implicitDefEqProofs only [go_sem]; rfl) (fun ht => ?_) (fun ht => ?_) <;> (try with_reducible contradiction))))
  refine Stop.go ?_
  refine SW.cutS (γ := Unit) (fun _ => St.of [(4, .ptr 4 []), (5, .ptr 5 [])] [(4, .var (.agg [.arr 4 (nA .u64 ([0, 0, 0, 0]))])), (5, .var (.arr 8 (nA .u64 (mulI x y 4))))] 64) (fun K hK => ?_) fun _ => ?_
  · repeat' (first
      | apply_assumption -exfalso -symm (transparency := .reducible) only [*]
      | (with_reducible refine And.intro ?_ ?_)
      | (refine drawIt ?_; kernel_rfl)
      | ((with_reducible refine opsF_id ?_); simp -implicitDefEqProofs only [go_sem])
      | ((with_reducible refine SW.id ?_); first | with_reducible refine SW.seqK fun K hK => ?_ | with_reducible refine SW.block ?_ | with_reducible refine SW.scope ?_ | ((first | with_reducible refine SW.skip ?_ | with_reducible refine SW.exit ?_ | with_reducible refine SW.label ?_ | with_reducible refine SW.ret ?_ | with_reducible refine SW.go MR ?_ | refine SW.goDrawF MR (by rfl) (by kernel_rfl) ?_); simp -implicitDefEqProofs only [go_sem]) | (refine SW.cond (by simp -implicitDefEqProofs only [go_sem]; rfl) (fun ht => ?_) (fun ht => ?_) <;> (try with_reducible contradiction))))
    refine SW.loop (α := { i : Nat // i ≤ 4 }) (fun i => St.of [(2, .ptr 2 []), (3, .ptr 3 []), (4, .ptr 4 []), (5, .ptr 5 []), (6, .v (.int .i64 ((i.1 : Nat) : Int)))] [(2, .var (.agg [.arr 4 (nA .u64 (x))])), (3, .var (.agg [.arr 4 (nA .u64 (y))])), (4, .var (.agg [.arr 4 (nA .u64 ([0, 0, 0, 0]))])), (5, .var (.arr 8 (nA .u64 (mulI x y i.1))))] 64) (fun i => 4 - i.1) ⟨0, by omega⟩
      (Weak.of [(64, 2), (128, 3), (192, 4), (256, 5)] (by rfl) ?_ ?_) fun ⟨i, hi⟩ => ?_
    · simp -implicitDefEqProofs only [go_sem]
      all_goals (repeat' (first | exact rfl | exact trivial | refine And.intro ?_ ?_))
    · simp -implicitDefEqProofs only [go_sem]
      all_goals (repeat' (first | exact rfl | exact trivial | refine And.intro ?_ ?_))
    · rcases Nat.lt_or_eq_of_le hi with h4 | rfl
      · have hc := eq_true (show (i : Int) < 4 by omega)
        have h5 := i64_up (a := i) (by omega)
        have h6 : IntKind.i64.wrap ((i : Int) + 4) = ((i + 4 : Nat) : Int) := i64_plus (b := 4) (by omega)
        obtain ⟨t, ht⟩ : ∃ t, mulI x y i = t := ⟨_, rfl⟩
        obtain ⟨a, ha⟩ : ∃ a, x.getD i 0 = a := ⟨_, rfl⟩
        have hti := hm i
        rw [ht] at hti
        have ha2 := getD_lt (by decide) hx.lt i
        rw [ha] at ha2
        have hr := rowI_lt (i := i) ha2 hy.lt hti.2
        have g1 := nA_getD (k := .u64) (l := x) (i := i) (by rw [hx.len]; omega)
        rw [ha] at g1
        have s1 := eq_true (nA_szAt (k := .u64) (l := x) (i := i) (by rw [hx.len]; omega))
        have hmi : mulI x y (i + 1) = (rowI a y i t 4).2.set (i + 4) (rowI a y i t 4).1 := by rw [mulI, ht, ha]
        dsimp only
        rw [ht]
        repeat' (first
          | apply_assumption -exfalso -symm (transparency := .reducible) only [*]
          | with_reducible refine SW.stopI 6 ?_
          | (with_reducible refine And.intro ?_ ?_)
          | (refine drawIt ?_; kernel_rfl)
          | ((with_reducible refine opsF_id ?_); simp -implicitDefEqProofs only [go_sem, hc])
          | ((with_reducible refine SW.id ?_); first | with_reducible refine SW.seqK fun K hK => ?_ | with_reducible refine SW.block ?_ | with_reducible refine SW.scope ?_ | ((first | with_reducible refine SW.skip ?_ | with_reducible refine SW.exit ?_ | with_reducible refine SW.label ?_ | with_reducible refine SW.ret ?_ | with_reducible refine SW.go MR ?_ | refine SW.goDrawF MR (by rfl) (by kernel_rfl) ?_); simp -implicitDefEqProofs only [go_sem, hc]) | (refine SW.cond (by simp -implicitDefEqProofs only [go_sem, hc]; rfl) (fun ht => ?_) (fun ht => ?_) <;> (try with_reducible contradiction))))
        refine Stop.go ?_
        refine SW.cutS (γ := Unit) (fun _ => St.of [(2, .ptr 2 []), (3, .ptr 3 []), (4, .ptr 4 []), (5, .ptr 5 []), (6, .v (.int .i64 ((i : Nat) : Int))), (7, .v (.int .u64 (((rowI a y i t 4).1 : Nat) : Int)))] [(2, .var (.agg [.arr 4 (nA .u64 (x))])), (3, .var (.agg [.arr 4 (nA .u64 (y))])), (4, .var (.agg [.arr 4 (nA .u64 ([0, 0, 0, 0]))])), (5, .var (.arr 8 (nA .u64 (rowI a y i t 4).2)))] 64) (fun K hK => ?_) fun _ => ?_
        · repeat' (first
            | apply_assumption -exfalso -symm (transparency := .reducible) only [*]
            | (with_reducible refine And.intro ?_ ?_)
            | (refine drawIt ?_; kernel_rfl)
            | ((with_reducible refine opsF_id ?_); simp -implicitDefEqProofs only [go_sem])
            | ((with_reducible refine SW.id ?_); first | with_reducible refine SW.seqK fun K hK => ?_ | with_reducible refine SW.block ?_ | with_reducible refine SW.scope ?_ | ((first | with_reducible refine SW.skip ?_ | with_reducible refine SW.exit ?_ | with_reducible refine SW.label ?_ | with_reducible refine SW.ret ?_ | with_reducible refine SW.go MR ?_ | refine SW.goDrawF MR (by rfl) (by kernel_rfl) ?_); simp -implicitDefEqProofs only [go_sem]) | (refine SW.cond (by simp -implicitDefEqProofs only [go_sem]; rfl) (fun ht => ?_) (fun ht => ?_) <;> (try with_reducible contradiction))))
          refine SW.loop (α := { j : Nat // j ≤ 4 }) (fun j => St.of [(2, .ptr 2 []), (3, .ptr 3 []), (4, .ptr 4 []), (5, .ptr 5 []), (6, .v (.int .i64 ((i : Nat) : Int))), (7, .v (.int .u64 (((rowI a y i t j.1).1 : Nat) : Int))), (8, .v (.int .i64 ((j.1 : Nat) : Int)))] [(2, .var (.agg [.arr 4 (nA .u64 (x))])), (3, .var (.agg [.arr 4 (nA .u64 (y))])), (4, .var (.agg [.arr 4 (nA .u64 ([0, 0, 0, 0]))])), (5, .var (.arr 8 (nA .u64 (rowI a y i t j.1).2)))] 64) (fun i => 4 - i.1) ⟨0, by omega⟩
            (Weak.of [(2, 2), (3, 3), (4, 4), (5, 5)] (by rfl) ?_ ?_) fun ⟨j, hj⟩ => ?_
          · simp -implicitDefEqProofs only [go_sem]
            all_goals (repeat' (first | exact rfl | exact trivial | refine And.intro ?_ ?_))
          · simp -implicitDefEqProofs only [go_sem]
            all_goals (repeat' (first | exact rfl | exact trivial | refine And.intro ?_ ?_))
          · rcases Nat.lt_or_eq_of_le hj with j4 | rfl
            · have hc2 := eq_true (show (j : Int) < 4 by omega)
              have h7 := i64_up (a := j) (by omega)
              have h8 := i64_plus (a := i) (b := j) (by omega)
              obtain ⟨r1, r2⟩ := hr j
              have rl := rowI_len a y i t j
              obtain ⟨c, hc'⟩ : ∃ c, (rowI a y i t j).1 = c := ⟨_, rfl⟩
              obtain ⟨u, hu⟩ : ∃ u, (rowI a y i t j).2 = u := ⟨_, rfl⟩
              rw [hc'] at r1
              rw [hu] at r2 rl
              have g2 := nA_getD (k := .u64) (l := y) (i := j) (by rw [hy.len]; omega)
              have s2 := eq_true (nA_szAt (k := .u64) (l := y) (i := j) (by rw [hy.len]; omega))
              have g3 := nA_getD (k := .u64) (l := u) (i := i + j) (by omega)
              have s3 := eq_true (nA_szAt (k := .u64) (l := u) (i := i + j) (by omega))
              have ht2 := times_FS a (y.getD j 0) (u.getD (i + j) 0) c ha2 (getD_lt (by decide) hy.lt j) (getD_lt (by decide) r2 (i + j)) r1
              dsimp only
              rw [hc', hu]
              repeat' (first
                | apply_assumption -exfalso -symm (transparency := .reducible) only [*]
                | (refine callEnd_of ht2 ?_ <;> (try simp -implicitDefEqProofs only [go_sem, hc2, h7, h8, g1, g2, g3, s1, s2, s3]))
                | (with_reducible refine And.intro ?_ ?_)
                | (refine drawIt ?_; kernel_rfl)
                | ((with_reducible refine opsF_id ?_); simp -implicitDefEqProofs only [go_sem, hc2, h7, h8, g1, g2, g3, s1, s2, s3])
                | ((with_reducible refine SW.id ?_); first | with_reducible refine SW.seqK fun K hK => ?_ | with_reducible refine SW.block ?_ | with_reducible refine SW.scope ?_ | ((first | with_reducible refine SW.skip ?_ | with_reducible refine SW.exit ?_ | with_reducible refine SW.label ?_ | with_reducible refine SW.ret ?_ | with_reducible refine SW.go MR ?_ | refine SW.goDrawF MR (by rfl) (by kernel_rfl) ?_); simp -implicitDefEqProofs only [go_sem, hc2, h7, h8, g1, g2, g3, s1, s2, s3]) | (refine SW.cond (by simp -implicitDefEqProofs only [go_sem, hc2, h7, h8, g1, g2, g3, s1, s2, s3]; rfl) (fun ht => ?_) (fun ht => ?_) <;> (try with_reducible contradiction))))
              all_goals first | omega | skip
              refine ⟨⟨j + 1, by omega⟩, Weak.of [(2, 2), (3, 3), (4, 4), (5, 5)] (by rfl) ?_ ?_, by dsimp only; omega⟩
              · simp only [rowI, hc', hu]
                simp -implicitDefEqProofs only [go_sem]
                all_goals (repeat' (first | exact rfl | exact trivial | refine And.intro ?_ ?_))
              · simp only [rowI, hc', hu]
                simp -implicitDefEqProofs only [go_sem]
                all_goals (repeat' (first | exact rfl | exact trivial | refine And.intro ?_ ?_))
            · have hc2 := eq_false (show ¬ ((4 : Nat) : Int) < 4 by omega)
              repeat' (first
                | apply_assumption -exfalso -symm (transparency := .reducible) only [*]
                | (with_reducible refine And.intro ?_ ?_)
                | (refine drawIt ?_; kernel_rfl)
                | ((with_reducible refine opsF_id ?_); simp -implicitDefEqProofs only [go_sem, hc2])
                | ((with_reducible refine SW.id ?_); first | with_reducible refine SW.seqK fun K hK => ?_ | with_reducible refine SW.block ?_ | with_reducible refine SW.scope ?_ | ((first | with_reducible refine SW.skip ?_ | with_reducible refine SW.exit ?_ | with_reducible refine SW.label ?_ | with_reducible refine SW.ret ?_ | with_reducible refine SW.go MR ?_ | refine SW.goDrawF MR (by rfl) (by kernel_rfl) ?_); simp -implicitDefEqProofs only [go_sem, hc2]) | (refine SW.cond (by simp -implicitDefEqProofs only [go_sem, hc2]; rfl) (fun ht => ?_) (fun ht => ?_) <;> (try with_reducible contradiction))))
              refine ⟨(), Weak.of [(2, 2), (3, 3), (4, 4), (5, 5)] (by rfl) ?_ ?_⟩
              · simp -implicitDefEqProofs only [go_sem]
                all_goals (repeat' (first | exact rfl | exact trivial | refine And.intro ?_ ?_))
              · simp -implicitDefEqProofs only [go_sem]
                all_goals (repeat' (first | exact rfl | exact trivial | refine And.intro ?_ ?_))
        · have rl := rowI_len a y i t 4
          have s3 := eq_true (nA_szAt (k := .u64) (l := (rowI a y i t 4).2) (i := i + 4) (by omega))
          have g3 := nA_getD (k := .u64) (l := (rowI a y i t 4).2) (i := i + 4) (by omega)
          repeat' (first
            | apply_assumption -exfalso -symm (transparency := .reducible) only [*]
            | (with_reducible refine And.intro ?_ ?_)
            | (refine drawIt ?_; kernel_rfl)
            | ((with_reducible refine opsF_id ?_); simp -implicitDefEqProofs only [go_sem, h5, h6, s3, g3])
            | ((with_reducible refine SW.id ?_); first | with_reducible refine SW.seqK fun K hK => ?_ | with_reducible refine SW.block ?_ | with_reducible refine SW.scope ?_ | ((first | with_reducible refine SW.skip ?_ | with_reducible refine SW.exit ?_ | with_reducible refine SW.label ?_ | with_reducible refine SW.ret ?_ | with_reducible refine SW.go MR ?_ | refine SW.goDrawF MR (by rfl) (by kernel_rfl) ?_); simp -implicitDefEqProofs only [go_sem, h5, h6, s3, g3]) | (refine SW.cond (by simp -implicitDefEqProofs only [go_sem, h5, h6, s3, g3]; rfl) (fun ht => ?_) (fun ht => ?_) <;> (try with_reducible contradiction))))
          all_goals first | omega | skip
          refine ⟨⟨i + 1, by omega⟩, Weak.of [(2, 2), (3, 3), (4, 4), (5, 5)] (by rfl) ?_ ?_, by dsimp only; omega⟩
          · simp -implicitDefEqProofs only [go_sem]
            all_goals (repeat' (first | exact rfl | exact trivial | refine And.intro ?_ ?_))
          · rw [hmi]
            simp -implicitDefEqProofs only [go_sem]
            all_goals (repeat' (first | exact rfl | exact trivial | refine And.intro ?_ ?_))
      · have hc := eq_false (show ¬ ((4 : Nat) : Int) < 4 by omega)
        repeat' (first
          | apply_assumption -exfalso -symm (transparency := .reducible) only [*]
          | (with_reducible refine And.intro ?_ ?_)
          | (refine drawIt ?_; kernel_rfl)
          | ((with_reducible refine opsF_id ?_); simp -implicitDefEqProofs only [go_sem, hc])
          | ((with_reducible refine SW.id ?_); first | with_reducible refine SW.seqK fun K hK => ?_ | with_reducible refine SW.block ?_ | with_reducible refine SW.scope ?_ | ((first | with_reducible refine SW.skip ?_ | with_reducible refine SW.exit ?_ | with_reducible refine SW.label ?_ | with_reducible refine SW.ret ?_ | with_reducible refine SW.go MR ?_ | refine SW.goDrawF MR (by rfl) (by kernel_rfl) ?_); simp -implicitDefEqProofs only [go_sem, hc]) | (refine SW.cond (by simp -implicitDefEqProofs only [go_sem, hc]; rfl) (fun ht => ?_) (fun ht => ?_) <;> (try with_reducible contradiction))))
        refine ⟨(), Weak.of [(4, 4), (5, 5)] (by rfl) ?_ ?_⟩
        · simp -implicitDefEqProofs only [go_sem]
          all_goals (repeat' (first | exact rfl | exact trivial | refine And.intro ?_ ?_))
        · simp -implicitDefEqProofs only [go_sem]
          all_goals (repeat' (first | exact rfl | exact trivial | refine And.intro ?_ ?_))
  · obtain ⟨m1, m2⟩ := hm 4
    generalize mulI x y 4 = t at *
    obtain ⟨f1, f2, _⟩ := fold_sum m1 m2
    have h2 := settle_FS _ f1 _ f2
    repeat' (first
      | apply_assumption -exfalso -symm (transparency := .reducible) only [*]
      | with_reducible refine SW.stopI 13 ?_
      | (with_reducible refine And.intro ?_ ?_)
      | (refine drawIt ?_; kernel_rfl)
      | ((with_reducible refine opsF_id ?_); simp -implicitDefEqProofs only [go_sem])
      | ((with_reducible refine SW.id ?_); first | with_reducible refine SW.seqK fun K hK => ?_ | with_reducible refine SW.block ?_ | with_reducible refine SW.scope ?_ | ((first | with_reducible refine SW.skip ?_ | with_reducible refine SW.exit ?_ | with_reducible refine SW.label ?_ | with_reducible refine SW.ret ?_ | with_reducible refine SW.go MR ?_ | refine SW.goDrawF MR (by rfl) (by kernel_rfl) ?_); simp -implicitDefEqProofs only [go_sem]) | (refine SW.cond (by simp -implicitDefEqProofs only [go_sem]; rfl) (fun ht => ?_) (fun ht => ?_) <;> (try with_reducible contradiction))))
    refine Stop.go ?_
    refine SW.cutS (γ := Unit) (fun _ => St.of [(4, .ptr 4 []), (9, .ptr 9 []), (10, .v (.int .u64 (((foldI t 4).1 : Nat) : Int)))] [(4, .var (.agg [.arr 4 (nA .u64 ([0, 0, 0, 0]))])), (9, .var (.arr 4 (nA .u64 ((foldI t 4).2))))] 64) (fun K hK => ?_) fun _ => ?_
    · repeat' (first
        | apply_assumption -exfalso -symm (transparency := .reducible) only [*]
        | (with_reducible refine And.intro ?_ ?_)
        | (refine drawIt ?_; kernel_rfl)
        | ((with_reducible refine opsF_id ?_); simp -implicitDefEqProofs only [go_sem])
        | ((with_reducible refine SW.id ?_); first | with_reducible refine SW.seqK fun K hK => ?_ | with_reducible refine SW.block ?_ | with_reducible refine SW.scope ?_ | ((first | with_reducible refine SW.skip ?_ | with_reducible refine SW.exit ?_ | with_reducible refine SW.label ?_ | with_reducible refine SW.ret ?_ | with_reducible refine SW.go MR ?_ | refine SW.goDrawF MR (by rfl) (by kernel_rfl) ?_); simp -implicitDefEqProofs only [go_sem]) | (refine SW.cond (by simp -implicitDefEqProofs only [go_sem]; rfl) (fun ht => ?_) (fun ht => ?_) <;> (try with_reducible contradiction))))
      refine SW.loop (α := { i : Nat // i ≤ 4 }) (fun i => St.of [(4, .ptr 4 []), (5, .ptr 5 []), (9, .ptr 9 []), (10, .v (.int .u64 (((foldI t i.1).1 : Nat) : Int))), (11, .v (.int .i64 ((i.1 : Nat) : Int)))] [(4, .var (.agg [.arr 4 (nA .u64 ([0, 0, 0, 0]))])), (5, .var (.arr 8 (nA .u64 t))), (9, .var (.arr 4 (nA .u64 ((foldI t i.1).2))))] 64) (fun i => 4 - i.1) ⟨0, by omega⟩
        (Weak.of [(4, 4), (5, 5), (64, 9)] (by rfl) ?_ ?_) fun ⟨i, hi⟩ => ?_
      · simp -implicitDefEqProofs only [go_sem]
        all_goals (repeat' (first | exact rfl | exact trivial | refine And.intro ?_ ?_))
      · simp -implicitDefEqProofs only [go_sem]
        all_goals (repeat' (first | exact rfl | exact trivial | refine And.intro ?_ ?_))
      · rcases Nat.lt_or_eq_of_le hi with h4 | rfl
        · have hc := eq_true (show (i : Int) < 4 by omega)
          have h5 := i64_up (a := i) (by omega)
          have h6 : IntKind.i64.wrap ((i : Int) + 4) = ((i + 4 : Nat) : Int) := i64_plus (b := 4) (by omega)
          have fl : (foldI t i).2.length = 4 := by
            have : ∀ i, (foldI t i).2.length = 4 := by
              intro i
              induction i with
              | zero => rfl
              | succ i ih => simp only [foldI, List.length_set, ih]
            exact this i
          have fb : (foldI t i).1 < 18446744073709551616 := by
            have : ∀ i, (foldI t i).1 < 18446744073709551616 := by
              intro i
              induction i with
              | zero => show 0 < 18446744073709551616; decide
              | succ i ih =>
                have := timesN_lt (show 38 < 18446744073709551616 by decide) (getD_lt (by decide) m2 (i + 4)) (getD_lt (by decide) m2 i) ih
                simp only [foldI]
                generalize timesN 38 (t.getD (i + 4) 0) (t.getD i 0) (foldI t i).1 = s at *
                omega
            exact this i
          obtain ⟨c, hc'⟩ : ∃ c, (foldI t i).1 = c := ⟨_, rfl⟩
          obtain ⟨u, hu⟩ : ∃ u, (foldI t i).2 = u := ⟨_, rfl⟩
          rw [hc'] at fb
          rw [hu] at fl
          have g1 := nA_getD (k := .u64) (l := t) (i := i) (by omega)
          have s1 := eq_true (nA_szAt (k := .u64) (l := t) (i := i) (by omega))
          have g2 := nA_getD (k := .u64) (l := t) (i := i + 4) (by omega)
          have s2 := eq_true (nA_szAt (k := .u64) (l := t) (i := i + 4) (by omega))
          have g3 := nA_getD (k := .u64) (l := u) (i := i) (by omega)
          have s3 := eq_true (nA_szAt (k := .u64) (l := u) (i := i) (by omega))
          have ht2 := times_FS 38 (t.getD (i + 4) 0) (t.getD i 0) c (by decide) (getD_lt (by decide) m2 (i + 4)) (getD_lt (by decide) m2 i) fb
          dsimp only
          rw [hc', hu]
          repeat' (first
            | apply_assumption -exfalso -symm (transparency := .reducible) only [*]
            | (refine callEnd_of ht2 ?_ <;> (try simp -implicitDefEqProofs only [go_sem, hc, h5, h6, g1, g2, g3, s1, s2, s3]))
            | (with_reducible refine And.intro ?_ ?_)
            | (refine drawIt ?_; kernel_rfl)
            | ((with_reducible refine opsF_id ?_); simp -implicitDefEqProofs only [go_sem, hc, h5, h6, g1, g2, g3, s1, s2, s3])
            | ((with_reducible refine SW.id ?_); first | with_reducible refine SW.seqK fun K hK => ?_ | with_reducible refine SW.block ?_ | with_reducible refine SW.scope ?_ | ((first | with_reducible refine SW.skip ?_ | with_reducible refine SW.exit ?_ | with_reducible refine SW.label ?_ | with_reducible refine SW.ret ?_ | with_reducible refine SW.go MR ?_ | refine SW.goDrawF MR (by rfl) (by kernel_rfl) ?_); simp -implicitDefEqProofs only [go_sem, hc, h5, h6, g1, g2, g3, s1, s2, s3]) | (refine SW.cond (by simp -implicitDefEqProofs only [go_sem, hc, h5, h6, g1, g2, g3, s1, s2, s3]; rfl) (fun ht => ?_) (fun ht => ?_) <;> (try with_reducible contradiction))))
          all_goals first | omega | skip
          refine ⟨⟨i + 1, by omega⟩, Weak.of [(4, 4), (5, 5), (9, 9)] (by rfl) ?_ ?_, by dsimp only; omega⟩
          · simp only [foldI, hc', hu]
            simp -implicitDefEqProofs only [go_sem]
            all_goals (repeat' (first | exact rfl | exact trivial | refine And.intro ?_ ?_))
          · simp only [foldI, hc', hu]
            simp -implicitDefEqProofs only [go_sem]
            all_goals (repeat' (first | exact rfl | exact trivial | refine And.intro ?_ ?_))
        · have hc := eq_false (show ¬ ((4 : Nat) : Int) < 4 by omega)
          repeat' (first
            | apply_assumption -exfalso -symm (transparency := .reducible) only [*]
            | (with_reducible refine And.intro ?_ ?_)
            | (refine drawIt ?_; kernel_rfl)
            | ((with_reducible refine opsF_id ?_); simp -implicitDefEqProofs only [go_sem, hc])
            | ((with_reducible refine SW.id ?_); first | with_reducible refine SW.seqK fun K hK => ?_ | with_reducible refine SW.block ?_ | with_reducible refine SW.scope ?_ | ((first | with_reducible refine SW.skip ?_ | with_reducible refine SW.exit ?_ | with_reducible refine SW.label ?_ | with_reducible refine SW.ret ?_ | with_reducible refine SW.go MR ?_ | refine SW.goDrawF MR (by rfl) (by kernel_rfl) ?_); simp -implicitDefEqProofs only [go_sem, hc]) | (refine SW.cond (by simp -implicitDefEqProofs only [go_sem, hc]; rfl) (fun ht => ?_) (fun ht => ?_) <;> (try with_reducible contradiction))))
          refine ⟨(), Weak.of [(4, 4), (9, 9)] (by rfl) ?_ ?_⟩
          · simp -implicitDefEqProofs only [go_sem]
            all_goals (repeat' (first | exact rfl | exact trivial | refine And.intro ?_ ?_))
          · simp -implicitDefEqProofs only [go_sem]
            all_goals (repeat' (first | exact rfl | exact trivial | refine And.intro ?_ ?_))
    · repeat' (first
        | apply_assumption -exfalso -symm (transparency := .reducible) only [*]
        | (refine callEnd_of h2 ?_ <;> (try simp -implicitDefEqProofs only [go_sem]))
        | (with_reducible refine And.intro ?_ ?_)
        | (refine drawIt ?_; kernel_rfl)
        | ((with_reducible refine opsF_id ?_); simp -implicitDefEqProofs only [go_sem])
        | ((with_reducible refine SW.id ?_); first | with_reducible refine SW.seqK fun K hK => ?_ | with_reducible refine SW.block ?_ | with_reducible refine SW.scope ?_ | ((first | with_reducible refine SW.skip ?_ | with_reducible refine SW.exit ?_ | with_reducible refine SW.label ?_ | with_reducible refine SW.ret ?_ | with_reducible refine SW.go MR ?_ | refine SW.goDrawF MR (by rfl) (by kernel_rfl) ?_); simp -implicitDefEqProofs only [go_sem]) | (refine SW.cond (by simp -implicitDefEqProofs only [go_sem]; rfl) (fun ht => ?_) (fun ht => ?_) <;> (try with_reducible contradiction))))
theorem mul_FS {a b : Nat} (ha : a < p25519) (hb : b < p25519) : FS Try.prog 45 [.agg [.arr 4 (nA .u64 (dig4 a))], .agg [.arr 4 (nA .u64 (dig4 b))]] (.ret [.agg [.arr 4 (nA .u64 (dig4 (mulN a b)))]] [none, none]) := by
  have h := mulL_FS _ _ (D4.dig a) (D4.dig b)
  rw [mul_dig ha hb] at h
  exact h
theorem sq_FS {a : Nat} (ha : a < p25519) : FS Try.prog 52 [.agg [.arr 4 (nA .u64 (dig4 a))]] (.ret [.agg [.arr 4 (nA .u64 (dig4 (mulN a a)))]] [none]) := by
  refine FS_of_SW (kb := [false]) (st0 := ?st) Try.func52 rfl rfl ?he ?_
  case he =>
    simp only [entrySt, unfs, unf, A.noown, noowns, nA_noowns, bA_noowns, Option.map_some, if_true, reduceIte, List.nil_append, List.append_nil]
    rfl
  have h1 := mul_FS ha ha
  refine SW.weak (Weak.of [] (sls := [(0, .agg [.arr 4 (nA .u64 (dig4 a))])]) (bks := []) (ep := 64) (by rfl) (by repeat' (first | exact rfl | exact trivial | refine And.intro ?_ ?_)) trivial) ?_
  repeat' (first
    | apply_assumption -exfalso -symm (transparency := .reducible) only [*]
    | (refine callEnd_of h1 ?_ <;> (try simp -implicitDefEqProofs only [go_sem]))
    | (with_reducible refine And.intro ?_ ?_)
    | (refine drawIt ?_; kernel_rfl)
    | ((with_reducible refine opsF_id ?_); simp -implicitDefEqProofs only [go_sem])
    | ((with_reducible refine SW.id ?_); first | with_reducible refine SW.seqK fun K hK => ?_ | with_reducible refine SW.block ?_ | with_reducible refine SW.scope ?_ | ((first | with_reducible refine SW.skip ?_ | with_reducible refine SW.exit ?_ | with_reducible refine SW.label ?_ | with_reducible refine SW.ret ?_ | with_reducible refine SW.go MR ?_ | refine SW.goDrawF MR (by rfl) (by kernel_rfl) ?_); simp -implicitDefEqProofs only [go_sem]) | (refine SW.cond (by simp -implicitDefEqProofs only [go_sem]; rfl) (fun ht => ?_) (fun ht => ?_) <;> (try with_reducible contradiction))))
end Go.PA
