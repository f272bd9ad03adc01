/- The document's numbers of the field: digits of 64 bits. -/
import Derived.Test.YtopigdkgjobdiaaR2
import Derived.Test.YtopigdkgjobdiaaF6
namespace Go.PA
open Go.Proofs Go.Fe
set_option linter.unusedSimpArgs false
set_option linter.unusedVariables false
set_option maxRecDepth 100000
set_option maxHeartbeats 4000000
attribute [local go_sem] MR getP setP takesW
attribute [-go_sem] takeA roA

theorem i64_up {a : Nat} (h : a + 1 < 2 ^ 63) : IntKind.i64.wrap ((a : Int) + 1) = ((a + 1 : Nat) : Int) := by rw [IntWalk.i64_in _ (by omega)]; omega
theorem prime_FS : FS Try.prog 66 [] (.ret [.arr 4 (nA .u64 (primeL))] []) := by
  refine FS_of_SW (kb := []) Try.func66 rfl rfl (by rfl) ?_
  refine SW.weak (Weak.of [] (sls := []) (bks := []) (ep := 64) (by rfl) (by repeat' (first | exact rfl | exact trivial | refine And.intro ?_ ?_)) trivial) ?_
  repeat' (first
    | apply_assumption -exfalso -symm (transparency := .reducible) only [*]
    | (with_reducible refine And.intro ?_ ?_)
    | (refine drawIt ?_; kernel_rfl)
    | ((with_reducible refine opsF_id ?_); simp -implicitDefEqProofs only [go_sem])
    | ((with_reducible refine SW.id ?_); first | with_reducible refine SW.seqK fun K hK => ?_ | with_reducible refine SW.block ?_ | with_reducible refine SW.scope ?_ | ((first | with_reducible refine SW.skip ?_ | with_reducible refine SW.exit ?_ | with_reducible refine SW.label ?_ | with_reducible refine SW.ret ?_ | with_reducible refine SW.go MR ?_ | refine SW.goDrawF MR (by rfl) (by kernel_rfl) ?_); simp -implicitDefEqProofs only [go_sem]) | (refine SW.cond (by simp -implicitDefEqProofs only [go_sem]; rfl) (fun ht => ?_) (fun ht => ?_) <;> (try with_reducible contradiction))))
  rfl

theorem minus_FS (x y : List Nat) (hx : D4 x) (hy : D4 y) : FS Try.prog 65 [.arr 4 (nA .u64 (x)), .arr 4 (nA .u64 (y))] (.ret [.arr 4 (nA .u64 ((subI x y 4).1)), .v (.int .u64 (((subI x y 4).2 : Nat) : Int))] [none, none]) := by
  refine FS_of_SW (kb := [false, false]) (st0 := ?st) Try.func65 rfl rfl ?he ?_
  case he =>
    simp only [entrySt, unfs, unf, A.noown, noowns, nA_noowns, bA_noowns, Option.map_some, if_true, reduceIte, List.nil_append, List.append_nil]
    rfl
  refine SW.weak (Weak.of [] (sls := [(0, .arr 4 (nA .u64 (x))), (1, .arr 4 (nA .u64 (y)))]) (bks := []) (ep := 64) (by rfl) (by repeat' (first | exact rfl | exact trivial | refine And.intro ?_ ?_)) trivial) ?_
  repeat' (first
    | apply_assumption -exfalso -symm (transparency := .reducible) only [*]
    | with_reducible refine SW.stopI 2 ?_
    | (with_reducible refine And.intro ?_ ?_)
    | (refine drawIt ?_; kernel_rfl)
    | ((with_reducible refine opsF_id ?_); simp -implicitDefEqProofs only [go_sem])
    | ((with_reducible refine SW.id ?_); first | with_reducible refine SW.seqK fun K hK => ?_ | with_reducible refine SW.block ?_ | with_reducible refine SW.scope ?_ | ((first | with_reducible refine SW.skip ?_ | with_reducible refine SW.exit ?_ | with_reducible refine SW.label ?_ | with_reducible refine SW.ret ?_ | with_reducible refine SW.go MR ?_ | refine SW.goDrawF MR (by rfl) (by kernel_rfl) ?_); simp -implicitDefEqProofs only [go_sem]) | (refine SW.cond (by simp -implicitDefEqProofs only [go_sem]; rfl) (fun ht => ?_) (fun ht => ?_) <;> (try with_reducible contradiction))))
  refine Stop.go ?_
  refine SW.cutS (γ := Unit) (fun _ => St.of [(2, .ptr 2 []), (4, .ptr 4 []), (6, .v (.int .u64 (((subI x y 4).2 : Nat) : Int)))] [(2, .var (.arr 4 (nA .u64 ((subI x y 4).1)))), (4, .var (.arr 4 (nA .u64 ([0, 0, 0, 0]))))] 64) (fun K hK => ?_) fun _ => ?_
  · repeat' (first
      | apply_assumption -exfalso -symm (transparency := .reducible) only [*]
      | (with_reducible refine And.intro ?_ ?_)
      | (refine drawIt ?_; kernel_rfl)
      | ((with_reducible refine opsF_id ?_); simp -implicitDefEqProofs only [go_sem])
      | ((with_reducible refine SW.id ?_); first | with_reducible refine SW.seqK fun K hK => ?_ | with_reducible refine SW.block ?_ | with_reducible refine SW.scope ?_ | ((first | with_reducible refine SW.skip ?_ | with_reducible refine SW.exit ?_ | with_reducible refine SW.label ?_ | with_reducible refine SW.ret ?_ | with_reducible refine SW.go MR ?_ | refine SW.goDrawF MR (by rfl) (by kernel_rfl) ?_); simp -implicitDefEqProofs only [go_sem]) | (refine SW.cond (by simp -implicitDefEqProofs only [go_sem]; rfl) (fun ht => ?_) (fun ht => ?_) <;> (try with_reducible contradiction))))
    refine SW.loop (α := { i : Nat // i ≤ 4 }) (fun i => St.of [(2, .ptr 2 []), (3, .ptr 3 []), (4, .ptr 4 []), (6, .v (.int .u64 (((subI x y i.1).2 : Nat) : Int))), (7, .v (.int .i64 ((i.1 : Nat) : Int)))] [(2, .var (.arr 4 (nA .u64 ((subI x y i.1).1)))), (3, .var (.arr 4 (nA .u64 (y)))), (4, .var (.arr 4 (nA .u64 ([0, 0, 0, 0]))))] 64) (fun i => 4 - i.1) ⟨0, by omega⟩
      (Weak.of [(64, 2), (128, 3), (192, 4)] (by rfl) ?_ ?_) fun ⟨i, hi⟩ => ?_
    · simp -implicitDefEqProofs only [go_sem]
      all_goals (repeat' (first | exact rfl | exact trivial | refine And.intro ?_ ?_))
    · simp -implicitDefEqProofs only [go_sem]
      all_goals (repeat' (first | exact rfl | exact trivial | refine And.intro ?_ ?_))
    · rcases Nat.lt_or_eq_of_le hi with h4 | rfl
      · have hc := eq_true (show (i : Int) < 4 by omega)
        have h5 := i64_up (a := i) (by omega)
        have l1 := subI_len x y i
        rw [hx.len] at l1
        have l2 := hy.len
        have g1 := nA_getD (k := .u64) (l := (subI x y i).1) (i := i) (by omega)
        have g2 := nA_getD (k := .u64) (l := y) (i := i) (by omega)
        have s1 := eq_true (nA_szAt (k := .u64) (l := (subI x y i).1) (i := i) (by omega))
        have s2 := eq_true (nA_szAt (k := .u64) (l := y) (i := i) (by omega))
        have b1 := getD_lt (by decide) (subI_lt (y := y) hx.lt i) i
        have b2 := getD_lt (by decide) hy.lt i
        have b3 := subI_bor x y i
        obtain ⟨a, ha⟩ : ∃ a, (subI x y i).1.getD i 0 = a := ⟨_, rfl⟩
        obtain ⟨b, hb⟩ : ∃ b, y.getD i 0 = b := ⟨_, rfl⟩
        obtain ⟨c, hc'⟩ : ∃ c, (subI x y i).2 = c := ⟨_, rfl⟩
        rw [ha] at b1 g1
        rw [hb] at b2 g2
        rw [hc'] at b3
        have e1 : ((a : Int) + 18446744073709551616 - (b : Int) - (c : Int)) % 18446744073709551616 = (((a + 18446744073709551616 - b - c) % 18446744073709551616 : Nat) : Int) := by omega
        have e2 : (if (a : Int) < (b : Int) + (c : Int) then (1 : Int) else 0) = ((if a < b + c then 1 else 0 : Nat) : Int) := by split <;> split <;> omega
        dsimp only
        rw [hc']
        repeat' (first
          | apply_assumption -exfalso -symm (transparency := .reducible) only [*]
          | (with_reducible refine And.intro ?_ ?_)
          | (refine drawIt ?_; kernel_rfl)
          | ((with_reducible refine opsF_id ?_); simp -implicitDefEqProofs only [go_sem, hc, h5, g1, g2, s1, s2, e1, e2])
          | ((with_reducible refine SW.id ?_); first | with_reducible refine SW.seqK fun K hK => ?_ | with_reducible refine SW.block ?_ | with_reducible refine SW.scope ?_ | ((first | with_reducible refine SW.skip ?_ | with_reducible refine SW.exit ?_ | with_reducible refine SW.label ?_ | with_reducible refine SW.ret ?_ | with_reducible refine SW.go MR ?_ | refine SW.goDrawF MR (by rfl) (by kernel_rfl) ?_); simp -implicitDefEqProofs only [go_sem, hc, h5, g1, g2, s1, s2, e1, e2]) | (refine SW.cond (by simp -implicitDefEqProofs only [go_sem, hc, h5, g1, g2, s1, s2, e1, e2]; rfl) (fun ht => ?_) (fun ht => ?_) <;> (try with_reducible contradiction))))
        all_goals first | omega | skip
        refine ⟨⟨i + 1, by omega⟩, Weak.of [(2, 2), (3, 3), (4, 4)] (by rfl) ?_ ?_, by dsimp only; omega⟩
        · simp only [subI, ha, hb, hc']
          simp -implicitDefEqProofs only [go_sem]
          all_goals (repeat' (first | exact rfl | exact trivial | refine And.intro ?_ ?_))
        · simp only [subI, ha, hb, hc']
          simp -implicitDefEqProofs only [go_sem]
          all_goals (repeat' (first | exact rfl | exact trivial | refine And.intro ?_ ?_))
      · have hc := eq_false (show ¬ ((4 : Nat) : Int) < 4 by omega)
        repeat' (first
          | apply_assumption -exfalso -symm (transparency := .reducible) only [*]
          | (with_reducible refine And.intro ?_ ?_)
          | (refine drawIt ?_; kernel_rfl)
          | ((with_reducible refine opsF_id ?_); simp -implicitDefEqProofs only [go_sem, hc])
          | ((with_reducible refine SW.id ?_); first | with_reducible refine SW.seqK fun K hK => ?_ | with_reducible refine SW.block ?_ | with_reducible refine SW.scope ?_ | ((first | with_reducible refine SW.skip ?_ | with_reducible refine SW.exit ?_ | with_reducible refine SW.label ?_ | with_reducible refine SW.ret ?_ | with_reducible refine SW.go MR ?_ | refine SW.goDrawF MR (by rfl) (by kernel_rfl) ?_); simp -implicitDefEqProofs only [go_sem, hc]) | (refine SW.cond (by simp -implicitDefEqProofs only [go_sem, hc]; rfl) (fun ht => ?_) (fun ht => ?_) <;> (try with_reducible contradiction))))
        refine ⟨(), Weak.of [(2, 2), (4, 4)] (by rfl) ?_ ?_⟩
        · simp -implicitDefEqProofs only [go_sem]
          all_goals (repeat' (first | exact rfl | exact trivial | refine And.intro ?_ ?_))
        · simp -implicitDefEqProofs only [go_sem]
          all_goals (repeat' (first | exact rfl | exact trivial | refine And.intro ?_ ?_))
  · repeat' (first
      | apply_assumption -exfalso -symm (transparency := .reducible) only [*]
      | (with_reducible refine And.intro ?_ ?_)
      | (refine drawIt ?_; kernel_rfl)
      | ((with_reducible refine opsF_id ?_); simp -implicitDefEqProofs only [go_sem])
      | ((with_reducible refine SW.id ?_); first | with_reducible refine SW.seqK fun K hK => ?_ | with_reducible refine SW.block ?_ | with_reducible refine SW.scope ?_ | ((first | with_reducible refine SW.skip ?_ | with_reducible refine SW.exit ?_ | with_reducible refine SW.label ?_ | with_reducible refine SW.ret ?_ | with_reducible refine SW.go MR ?_ | refine SW.goDrawF MR (by rfl) (by kernel_rfl) ?_); simp -implicitDefEqProofs only [go_sem]) | (refine SW.cond (by simp -implicitDefEqProofs only [go_sem]; rfl) (fun ht => ?_) (fun ht => ?_) <;> (try with_reducible contradiction))))

theorem below_FS (d : List Nat) (hd : D4 d) : FS Try.prog 49 [.arr 4 (nA .u64 (d))] (.ret [.agg [.arr 4 (nA .u64 (belowL d))]] [none]) := by
  refine FS_of_SW (kb := [false]) (st0 := ?st) Try.func49 rfl rfl ?he ?_
  case he =>
    simp only [entrySt, unfs, unf, A.noown, noowns, nA_noowns, bA_noowns, Option.map_some, if_true, reduceIte, List.nil_append, List.append_nil]
    rfl
  have h1 := prime_FS
  have h2 := minus_FS d primeL hd primeL_D4
  refine SW.weak (Weak.of [] (sls := [(0, .arr 4 (nA .u64 (d)))]) (bks := []) (ep := 64) (by rfl) (by repeat' (first | exact rfl | exact trivial | refine And.intro ?_ ?_)) trivial) ?_
  rcases subI_bor d primeL 4 with hb | hb <;> rw [hb] at h2
  · have hc := eq_false (show ¬ ((0 : Nat) : Int) = 1 by decide)
    have he : belowL d = (subI d primeL 4).1 := by unfold belowL; rw [if_neg (by omega)]
    rw [he]
    repeat' (first
      | apply_assumption -exfalso -symm (transparency := .reducible) only [*]
      | (refine callEnd_of h1 ?_ <;> (try simp -implicitDefEqProofs only [go_sem, hc]))
      | (refine callEnd_of h2 ?_ <;> (try simp -implicitDefEqProofs only [go_sem, hc]))
      | (with_reducible refine And.intro ?_ ?_)
      | (refine drawIt ?_; kernel_rfl)
      | ((with_reducible refine opsF_id ?_); simp -implicitDefEqProofs only [go_sem, hc])
      | ((with_reducible refine SW.id ?_); first | with_reducible refine SW.seqK fun K hK => ?_ | with_reducible refine SW.block ?_ | with_reducible refine SW.scope ?_ | ((first | with_reducible refine SW.skip ?_ | with_reducible refine SW.exit ?_ | with_reducible refine SW.label ?_ | with_reducible refine SW.ret ?_ | with_reducible refine SW.go MR ?_ | refine SW.goDrawF MR (by rfl) (by kernel_rfl) ?_); simp -implicitDefEqProofs only [go_sem, hc]) | (refine SW.cond (by simp -implicitDefEqProofs only [go_sem, hc]; rfl) (fun ht => ?_) (fun ht => ?_) <;> (try with_reducible contradiction))))
  · have hc := eq_true (show ((1 : Nat) : Int) = 1 by decide)
    have he : belowL d = d := by unfold belowL; rw [if_pos hb]
    rw [he]
    repeat' (first
      | apply_assumption -exfalso -symm (transparency := .reducible) only [*]
      | (refine callEnd_of h1 ?_ <;> (try simp -implicitDefEqProofs only [go_sem, hc]))
      | (refine callEnd_of h2 ?_ <;> (try simp -implicitDefEqProofs only [go_sem, hc]))
      | (with_reducible refine And.intro ?_ ?_)
      | (refine drawIt ?_; kernel_rfl)
      | ((with_reducible refine opsF_id ?_); simp -implicitDefEqProofs only [go_sem, hc])
      | ((with_reducible refine SW.id ?_); first | with_reducible refine SW.seqK fun K hK => ?_ | with_reducible refine SW.block ?_ | with_reducible refine SW.scope ?_ | ((first | with_reducible refine SW.skip ?_ | with_reducible refine SW.exit ?_ | with_reducible refine SW.label ?_ | with_reducible refine SW.ret ?_ | with_reducible refine SW.go MR ?_ | refine SW.goDrawF MR (by rfl) (by kernel_rfl) ?_); simp -implicitDefEqProofs only [go_sem, hc]) | (refine SW.cond (by simp -implicitDefEqProofs only [go_sem, hc]; rfl) (fun ht => ?_) (fun ht => ?_) <;> (try with_reducible contradiction))))

theorem addL_FS (x y : List Nat) (hx : D4 x) (hy : D4 y) : FS Try.prog 50 [.agg [.arr 4 (nA .u64 (x))], .agg [.arr 4 (nA .u64 (y))]] (.ret [.agg [.arr 4 (nA .u64 (belowL (addI x y 0 4).1))]] [none, none]) := by
  refine FS_of_SW (kb := [false, false]) (st0 := ?st) Try.func50 rfl rfl ?he ?_
  case he =>
    simp only [entrySt, unfs, unf, A.noown, noowns, nA_noowns, bA_noowns, Option.map_some, if_true, reduceIte, List.nil_append, List.append_nil]
    rfl
  refine SW.weak (Weak.of [] (sls := [(0, .agg [.arr 4 (nA .u64 (x))]), (1, .agg [.arr 4 (nA .u64 (y))])]) (bks := []) (ep := 64) (by rfl) (by repeat' (first | exact rfl | exact trivial | refine And.intro ?_ ?_)) trivial) ?_
  repeat' (first
    | apply_assumption -exfalso -symm (transparency := .reducible) only [*]
    | with_reducible refine SW.stopI 2 ?_
    | (with_reducible refine And.intro ?_ ?_)
    | (refine drawIt ?_; kernel_rfl)
    | ((with_reducible refine opsF_id ?_); simp -implicitDefEqProofs only [go_sem])
    | ((with_reducible refine SW.id ?_); first | with_reducible refine SW.seqK fun K hK => ?_ | with_reducible refine SW.block ?_ | with_reducible refine SW.scope ?_ | ((first | with_reducible refine SW.skip ?_ | with_reducible refine SW.exit ?_ | with_reducible refine SW.label ?_ | with_reducible refine SW.ret ?_ | with_reducible refine SW.go MR ?_ | refine SW.goDrawF MR (by rfl) (by kernel_rfl) ?_); simp -implicitDefEqProofs only [go_sem]) | (refine SW.cond (by simp -implicitDefEqProofs only [go_sem]; rfl) (fun ht => ?_) (fun ht => ?_) <;> (try with_reducible contradiction))))
  refine Stop.go ?_
  refine SW.cutS (γ := Unit) (fun _ => St.of [(2, .ptr 2 []), (4, .ptr 4 [])] [(2, .var (.agg [.arr 4 (nA .u64 ((addI x y 0 4).1))])), (4, .var (.agg [.arr 4 (nA .u64 ([0, 0, 0, 0]))]))] 64) (fun K hK => ?_) fun _ => ?_
  · repeat' (first
      | apply_assumption -exfalso -symm (transparency := .reducible) only [*]
      | (with_reducible refine And.intro ?_ ?_)
      | (refine drawIt ?_; kernel_rfl)
      | ((with_reducible refine opsF_id ?_); simp -implicitDefEqProofs only [go_sem])
      | ((with_reducible refine SW.id ?_); first | with_reducible refine SW.seqK fun K hK => ?_ | with_reducible refine SW.block ?_ | with_reducible refine SW.scope ?_ | ((first | with_reducible refine SW.skip ?_ | with_reducible refine SW.exit ?_ | with_reducible refine SW.label ?_ | with_reducible refine SW.ret ?_ | with_reducible refine SW.go MR ?_ | refine SW.goDrawF MR (by rfl) (by kernel_rfl) ?_); simp -implicitDefEqProofs only [go_sem]) | (refine SW.cond (by simp -implicitDefEqProofs only [go_sem]; rfl) (fun ht => ?_) (fun ht => ?_) <;> (try with_reducible contradiction))))
    refine SW.loop (α := { i : Nat // i ≤ 4 }) (fun i => St.of [(2, .ptr 2 []), (3, .ptr 3 []), (4, .ptr 4 []), (5, .v (.int .u64 (((addI x y 0 i.1).2 : Nat) : Int))), (6, .v (.int .i64 ((i.1 : Nat) : Int)))] [(2, .var (.agg [.arr 4 (nA .u64 ((addI x y 0 i.1).1))])), (3, .var (.agg [.arr 4 (nA .u64 (y))])), (4, .var (.agg [.arr 4 (nA .u64 ([0, 0, 0, 0]))]))] 64) (fun i => 4 - i.1) ⟨0, by omega⟩
      (Weak.of [(64, 2), (128, 3), (192, 4)] (by rfl) ?_ ?_) fun ⟨i, hi⟩ => ?_
    · simp -implicitDefEqProofs only [go_sem]
      all_goals (repeat' (first | exact rfl | exact trivial | refine And.intro ?_ ?_))
    · simp -implicitDefEqProofs only [go_sem]
      all_goals (repeat' (first | exact rfl | exact trivial | refine And.intro ?_ ?_))
    · rcases Nat.lt_or_eq_of_le hi with h4 | rfl
      · have hc := eq_true (show (i : Int) < 4 by omega)
        have h5 := i64_up (a := i) (by omega)
        have l1 := addI_len x y 0 i
        rw [hx.len] at l1
        have l2 := hy.len
        have g1 := nA_getD (k := .u64) (l := (addI x y 0 i).1) (i := i) (by omega)
        have g2 := nA_getD (k := .u64) (l := y) (i := i) (by omega)
        have s1 := eq_true (nA_szAt (k := .u64) (l := (addI x y 0 i).1) (i := i) (by omega))
        have s2 := eq_true (nA_szAt (k := .u64) (l := y) (i := i) (by omega))
        have b3 := addI_carry hx.lt hy.lt (c := 0) (by decide) i
        obtain ⟨a, ha⟩ : ∃ a, (addI x y 0 i).1.getD i 0 = a := ⟨_, rfl⟩
        obtain ⟨b, hb⟩ : ∃ b, y.getD i 0 = b := ⟨_, rfl⟩
        obtain ⟨c, hc'⟩ : ∃ c, (addI x y 0 i).2 = c := ⟨_, rfl⟩
        rw [ha] at g1
        rw [hb] at g2
        rw [hc'] at b3
        have e1 : ((a : Int) + (b : Int) + (c : Int)) % 18446744073709551616 = (((a + b + c) % 18446744073709551616 : Nat) : Int) := by omega
        have e2 : ((a : Int) + (b : Int) + (c : Int)) / 18446744073709551616 = (((a + b + c) / 18446744073709551616 : Nat) : Int) := by omega
        dsimp only
        rw [hc']
        repeat' (first
          | apply_assumption -exfalso -symm (transparency := .reducible) only [*]
          | (with_reducible refine And.intro ?_ ?_)
          | (refine drawIt ?_; kernel_rfl)
          | ((with_reducible refine opsF_id ?_); simp -implicitDefEqProofs only [go_sem, hc, h5, g1, g2, s1, s2, e1, e2])
          | ((with_reducible refine SW.id ?_); first | with_reducible refine SW.seqK fun K hK => ?_ | with_reducible refine SW.block ?_ | with_reducible refine SW.scope ?_ | ((first | with_reducible refine SW.skip ?_ | with_reducible refine SW.exit ?_ | with_reducible refine SW.label ?_ | with_reducible refine SW.ret ?_ | with_reducible refine SW.go MR ?_ | refine SW.goDrawF MR (by rfl) (by kernel_rfl) ?_); simp -implicitDefEqProofs only [go_sem, hc, h5, g1, g2, s1, s2, e1, e2]) | (refine SW.cond (by simp -implicitDefEqProofs only [go_sem, hc, h5, g1, g2, s1, s2, e1, e2]; rfl) (fun ht => ?_) (fun ht => ?_) <;> (try with_reducible contradiction))))
        all_goals first | omega | skip
        refine ⟨⟨i + 1, by omega⟩, Weak.of [(2, 2), (3, 3), (4, 4)] (by rfl) ?_ ?_, by dsimp only; omega⟩
        · simp only [addI, ha, hb, hc']
          simp -implicitDefEqProofs only [go_sem]
          all_goals (repeat' (first | exact rfl | exact trivial | refine And.intro ?_ ?_))
        · simp only [addI, ha, hb, hc']
          simp -implicitDefEqProofs only [go_sem]
          all_goals (repeat' (first | exact rfl | exact trivial | refine And.intro ?_ ?_))
      · have hc := eq_false (show ¬ ((4 : Nat) : Int) < 4 by omega)
        repeat' (first
          | apply_assumption -exfalso -symm (transparency := .reducible) only [*]
          | (with_reducible refine And.intro ?_ ?_)
          | (refine drawIt ?_; kernel_rfl)
          | ((with_reducible refine opsF_id ?_); simp -implicitDefEqProofs only [go_sem, hc])
          | ((with_reducible refine SW.id ?_); first | with_reducible refine SW.seqK fun K hK => ?_ | with_reducible refine SW.block ?_ | with_reducible refine SW.scope ?_ | ((first | with_reducible refine SW.skip ?_ | with_reducible refine SW.exit ?_ | with_reducible refine SW.label ?_ | with_reducible refine SW.ret ?_ | with_reducible refine SW.go MR ?_ | refine SW.goDrawF MR (by rfl) (by kernel_rfl) ?_); simp -implicitDefEqProofs only [go_sem, hc]) | (refine SW.cond (by simp -implicitDefEqProofs only [go_sem, hc]; rfl) (fun ht => ?_) (fun ht => ?_) <;> (try with_reducible contradiction))))
        refine ⟨(), Weak.of [(2, 2), (4, 4)] (by rfl) ?_ ?_⟩
        · simp -implicitDefEqProofs only [go_sem]
          all_goals (repeat' (first | exact rfl | exact trivial | refine And.intro ?_ ?_))
        · simp -implicitDefEqProofs only [go_sem]
          all_goals (repeat' (first | exact rfl | exact trivial | refine And.intro ?_ ?_))
  · have h2 := below_FS _ (addI_val (c := 0) hx hy).1
    repeat' (first
      | apply_assumption -exfalso -symm (transparency := .reducible) only [*]
      | (refine callEnd_of h2 ?_ <;> (try simp -implicitDefEqProofs only [go_sem]))
      | (with_reducible refine And.intro ?_ ?_)
      | (refine drawIt ?_; kernel_rfl)
      | ((with_reducible refine opsF_id ?_); simp -implicitDefEqProofs only [go_sem])
      | ((with_reducible refine SW.id ?_); first | with_reducible refine SW.seqK fun K hK => ?_ | with_reducible refine SW.block ?_ | with_reducible refine SW.scope ?_ | ((first | with_reducible refine SW.skip ?_ | with_reducible refine SW.exit ?_ | with_reducible refine SW.label ?_ | with_reducible refine SW.ret ?_ | with_reducible refine SW.go MR ?_ | refine SW.goDrawF MR (by rfl) (by kernel_rfl) ?_); simp -implicitDefEqProofs only [go_sem]) | (refine SW.cond (by simp -implicitDefEqProofs only [go_sem]; rfl) (fun ht => ?_) (fun ht => ?_) <;> (try with_reducible contradiction))))
theorem add_FS {a b : Nat} (ha : a < p25519) (hb : b < p25519) : FS Try.prog 50 [.agg [.arr 4 (nA .u64 (dig4 a))], .agg [.arr 4 (nA .u64 (dig4 b))]] (.ret [.agg [.arr 4 (nA .u64 (dig4 (addN a b)))]] [none, none]) := by
  have h := addL_FS _ _ (D4.dig a) (D4.dig b)
  rw [add_dig ha hb] at h
  exact h

theorem neg_FS {b : Nat} (hb : b < p25519) : FS Try.prog 68 [.agg [.arr 4 (nA .u64 (dig4 b))]] (.ret [.agg [.arr 4 (nA .u64 (dig4 ((p25519 - b) % p25519)))]] [none]) := by
  refine FS_of_SW (kb := [false]) (st0 := ?st) Try.func68 rfl rfl ?he ?_
  case he =>
    simp only [entrySt, unfs, unf, A.noown, noowns, nA_noowns, bA_noowns, Option.map_some, if_true, reduceIte, List.nil_append, List.append_nil]
    rfl
  have h1 := prime_FS
  have h2 := minus_FS primeL (dig4 b) primeL_D4 (D4.dig b)
  have h3 := below_FS _ (subI_val primeL_D4 (D4.dig b)).1
  rw [neg_dig hb] at h3
  generalize dig4 ((p25519 - b) % p25519) = r at *
  refine SW.weak (Weak.of [] (sls := [(0, .agg [.arr 4 (nA .u64 (dig4 b))])]) (bks := []) (ep := 64) (by rfl) (by repeat' (first | exact rfl | exact trivial | refine And.intro ?_ ?_)) trivial) ?_
  repeat' (first
    | apply_assumption -exfalso -symm (transparency := .reducible) only [*]
    | (refine callEnd_of h1 ?_ <;> (try simp -implicitDefEqProofs only [go_sem]))
    | (refine callEnd_of h2 ?_ <;> (try simp -implicitDefEqProofs only [go_sem]))
    | (refine callEnd_of h3 ?_ <;> (try simp -implicitDefEqProofs only [go_sem]))
    | (with_reducible refine And.intro ?_ ?_)
    | (refine drawIt ?_; kernel_rfl)
    | ((with_reducible refine opsF_id ?_); simp -implicitDefEqProofs only [go_sem])
    | ((with_reducible refine SW.id ?_); first | with_reducible refine SW.seqK fun K hK => ?_ | with_reducible refine SW.block ?_ | with_reducible refine SW.scope ?_ | ((first | with_reducible refine SW.skip ?_ | with_reducible refine SW.exit ?_ | with_reducible refine SW.label ?_ | with_reducible refine SW.ret ?_ | with_reducible refine SW.go MR ?_ | refine SW.goDrawF MR (by rfl) (by kernel_rfl) ?_); simp -implicitDefEqProofs only [go_sem]) | (refine SW.cond (by simp -implicitDefEqProofs only [go_sem]; rfl) (fun ht => ?_) (fun ht => ?_) <;> (try with_reducible contradiction))))

theorem sub_FS {a b : Nat} (ha : a < p25519) (hb : b < p25519) : FS Try.prog 51 [.agg [.arr 4 (nA .u64 (dig4 a))], .agg [.arr 4 (nA .u64 (dig4 b))]] (.ret [.agg [.arr 4 (nA .u64 (dig4 (subN a b)))]] [none, none]) := by
  refine FS_of_SW (kb := [false, false]) (st0 := ?st) Try.func51 rfl rfl ?he ?_
  case he =>
    simp only [entrySt, unfs, unf, A.noown, noowns, nA_noowns, bA_noowns, Option.map_some, if_true, reduceIte, List.nil_append, List.append_nil]
    rfl
  have h1 := neg_FS hb
  have h2 := add_FS ha (show (p25519 - b) % p25519 < p25519 from Nat.mod_lt _ (by decide))
  rw [sub_neg] at h2
  generalize dig4 ((p25519 - b) % p25519) = r at *
  refine SW.weak (Weak.of [] (sls := [(0, .agg [.arr 4 (nA .u64 (dig4 a))]), (1, .agg [.arr 4 (nA .u64 (dig4 b))])]) (bks := []) (ep := 64) (by rfl) (by repeat' (first | exact rfl | exact trivial | refine And.intro ?_ ?_)) trivial) ?_
  repeat' (first
    | apply_assumption -exfalso -symm (transparency := .reducible) only [*]
    | (refine callEnd_of h1 ?_ <;> (try simp -implicitDefEqProofs only [go_sem]))
    | (refine callEnd_of h2 ?_ <;> (try simp -implicitDefEqProofs only [go_sem]))
    | (with_reducible refine And.intro ?_ ?_)
    | (refine drawIt ?_; kernel_rfl)
    | ((with_reducible refine opsF_id ?_); simp -implicitDefEqProofs only [go_sem])
    | ((with_reducible refine SW.id ?_); first | with_reducible refine SW.seqK fun K hK => ?_ | with_reducible refine SW.block ?_ | with_reducible refine SW.scope ?_ | ((first | with_reducible refine SW.skip ?_ | with_reducible refine SW.exit ?_ | with_reducible refine SW.label ?_ | with_reducible refine SW.ret ?_ | with_reducible refine SW.go MR ?_ | refine SW.goDrawF MR (by rfl) (by kernel_rfl) ?_); simp -implicitDefEqProofs only [go_sem]) | (refine SW.cond (by simp -implicitDefEqProofs only [go_sem]; rfl) (fun ht => ?_) (fun ht => ?_) <;> (try with_reducible contradiction))))

theorem small_FS (n : Nat) (hn : n < 18446744073709551616) : FS Try.prog 41 [.v (.int .u64 ((n : Nat) : Int))] (.ret [.agg [.arr 4 (nA .u64 (dig4 n))]] [none]) := by
  refine FS_of_SW (kb := [false]) (st0 := ?st) Try.func41 rfl rfl ?he ?_
  case he =>
    simp only [entrySt, unfs, unf, A.noown, noowns, nA_noowns, bA_noowns, Option.map_some, if_true, reduceIte, List.nil_append, List.append_nil]
    rfl
  have e : dig4 n = [n, 0, 0, 0] := by simp only [dig4, List.cons.injEq, and_true]; omega
  rw [e]
  refine SW.weak (Weak.of [] (sls := [(0, .v (.int .u64 ((n : Nat) : Int)))]) (bks := []) (ep := 64) (by rfl) (by repeat' (first | exact rfl | exact trivial | refine And.intro ?_ ?_)) trivial) ?_
  repeat' (first
    | apply_assumption -exfalso -symm (transparency := .reducible) only [*]
    | (with_reducible refine And.intro ?_ ?_)
    | (refine drawIt ?_; kernel_rfl)
    | ((with_reducible refine opsF_id ?_); simp -implicitDefEqProofs only [go_sem])
    | ((with_reducible refine SW.id ?_); first | with_reducible refine SW.seqK fun K hK => ?_ | with_reducible refine SW.block ?_ | with_reducible refine SW.scope ?_ | ((first | with_reducible refine SW.skip ?_ | with_reducible refine SW.exit ?_ | with_reducible refine SW.label ?_ | with_reducible refine SW.ret ?_ | with_reducible refine SW.go MR ?_ | refine SW.goDrawF MR (by rfl) (by kernel_rfl) ?_); simp -implicitDefEqProofs only [go_sem]) | (refine SW.cond (by simp -implicitDefEqProofs only [go_sem]; rfl) (fun ht => ?_) (fun ht => ?_) <;> (try with_reducible contradiction))))
  all_goals first | rfl | omega

theorem times_FS (x y c d : Nat) (hx : x < 18446744073709551616) (hy : y < 18446744073709551616) (hc : c < 18446744073709551616) (hd : d < 18446744073709551616) :
    FS Try.prog 53 [.v (.int .u64 ((x : Nat) : Int)), .v (.int .u64 ((y : Nat) : Int)), .v (.int .u64 ((c : Nat) : Int)), .v (.int .u64 ((d : Nat) : Int))] (.ret [.v (.int .u64 ((timesN x y c d / 18446744073709551616 : Nat) : Int)), .v (.int .u64 ((timesN x y c d % 18446744073709551616 : Nat) : Int))] [none, none, none, none]) := by
  refine FS_of_SW (kb := [false, false, false, false]) (st0 := ?st) Try.func53 rfl rfl ?he ?_
  case he =>
    simp only [entrySt, unfs, unf, A.noown, noowns, nA_noowns, bA_noowns, Option.map_some, if_true, reduceIte, List.nil_append, List.append_nil]
    rfl
  have h1 := mul64_FS x y hx hy
  simp only [uT] at h1
  have hp : x * y ≤ 18446744073709551615 * 18446744073709551615 := Nat.mul_le_mul (Nat.le_of_lt_succ hx) (Nat.le_of_lt_succ hy)
  unfold timesN
  generalize x * y = p at *
  have e1 : (((p % 18446744073709551616 : Nat) : Int) + (c : Int) + 0) % 18446744073709551616 = (((p % 18446744073709551616 + c) % 18446744073709551616 : Nat) : Int) := by omega
  have e2 : (((p % 18446744073709551616 : Nat) : Int) + (c : Int) + 0) / 18446744073709551616 = (((p % 18446744073709551616 + c) / 18446744073709551616 : Nat) : Int) := by omega
  have e3 : IntKind.u64.wrap (((p / 18446744073709551616 : Nat) : Int) + (((p % 18446744073709551616 + c) / 18446744073709551616 : Nat) : Int)) = ((p / 18446744073709551616 + (p % 18446744073709551616 + c) / 18446744073709551616 : Nat) : Int) := by simp only [uwrap]; omega
  have e4 : ((((p % 18446744073709551616 + c) % 18446744073709551616 : Nat) : Int) + (d : Int) + 0) % 18446744073709551616 = (((p + c + d) % 18446744073709551616 : Nat) : Int) := by omega
  have e5 : ((((p % 18446744073709551616 + c) % 18446744073709551616 : Nat) : Int) + (d : Int) + 0) / 18446744073709551616 = ((((p % 18446744073709551616 + c) % 18446744073709551616 + d) / 18446744073709551616 : Nat) : Int) := by omega
  have e6 : IntKind.u64.wrap (((p / 18446744073709551616 + (p % 18446744073709551616 + c) / 18446744073709551616 : Nat) : Int) + ((((p % 18446744073709551616 + c) % 18446744073709551616 + d) / 18446744073709551616 : Nat) : Int)) = (((p + c + d) / 18446744073709551616 : Nat) : Int) := by simp only [uwrap]; omega
  refine SW.weak (Weak.of [] (sls := [(0, .v (.int .u64 ((x : Nat) : Int))), (1, .v (.int .u64 ((y : Nat) : Int))), (2, .v (.int .u64 ((c : Nat) : Int))), (3, .v (.int .u64 ((d : Nat) : Int)))]) (bks := []) (ep := 64) (by rfl) (by repeat' (first | exact rfl | exact trivial | refine And.intro ?_ ?_)) trivial) ?_
  repeat' (first
    | apply_assumption -exfalso -symm (transparency := .reducible) only [*]
    | (refine callEnd_of h1 ?_ <;> (try simp -implicitDefEqProofs only [go_sem, e1, e2, e3, e4, e5, e6]))
    | (with_reducible refine And.intro ?_ ?_)
    | (refine drawIt ?_; kernel_rfl)
    | ((with_reducible refine opsF_id ?_); simp -implicitDefEqProofs only [go_sem, e1, e2, e3, e4, e5, e6])
    | ((with_reducible refine SW.id ?_); first | with_reducible refine SW.seqK fun K hK => ?_ | with_reducible refine SW.block ?_ | with_reducible refine SW.scope ?_ | ((first | with_reducible refine SW.skip ?_ | with_reducible refine SW.exit ?_ | with_reducible refine SW.label ?_ | with_reducible refine SW.ret ?_ | with_reducible refine SW.go MR ?_ | refine SW.goDrawF MR (by rfl) (by kernel_rfl) ?_); simp -implicitDefEqProofs only [go_sem, e1, e2, e3, e4, e5, e6]) | (refine SW.cond (by simp -implicitDefEqProofs only [go_sem, e1, e2, e3, e4, e5, e6]; rfl) (fun ht => ?_) (fun ht => ?_) <;> (try with_reducible contradiction))))
  all_goals first | omega | skip

theorem settle_FS (d : List Nat) (hd : D4 d) (over : Nat) (ho : over ≤ 38) : FS Try.prog 54 [.arr 4 (nA .u64 (d)), .v (.int .u64 ((over : Nat) : Int))] (.ret [.agg [.arr 4 (nA .u64 (settleL d over))]] [none, none]) := by
  refine FS_of_SW (kb := [false, false]) (st0 := ?st) Try.func54 rfl rfl ?he ?_
  case he =>
    simp only [entrySt, unfs, unf, A.noown, noowns, nA_noowns, bA_noowns, Option.map_some, if_true, reduceIte, List.nil_append, List.append_nil]
    rfl
  obtain ⟨d0, d1, d2, d3, rfl, k0, k1, k2, k3⟩ := hd.ex
  have hd' : D4 [d0, d1, d2, d3 % 9223372036854775808] := D4.mk' k0 k1 k2 (by omega)
  have hz4 : D4 zeros4 := D4.mk' (by decide) (by decide) (by decide) (by decide)
  have hf : foldC [d0, d1, d2, d3] over = 19 * (2 * over + d3 / 9223372036854775808) := rfl
  have hs : settleL [d0, d1, d2, d3] over = belowL (addI [d0, d1, d2, d3 % 9223372036854775808] zeros4 (19 * (2 * over + d3 / 9223372036854775808)) 4).1 := rfl
  rw [hs]
  generalize hC : 19 * (2 * over + d3 / 9223372036854775808) = C
  have w1 : IntKind.u64.wrap (2 * (over : Int)) = ((2 * over : Nat) : Int) := by simp only [uwrap]; omega
  have w2 : ishr .u64 (d3 : Int) 63 = ((d3 / 9223372036854775808 : Nat) : Int) := shr_u64 d3 63 (by decide)
  have w3 : IntKind.u64.wrap (((2 * over : Nat) : Int) + ((d3 / 9223372036854775808 : Nat) : Int)) = ((2 * over + d3 / 9223372036854775808 : Nat) : Int) := by simp only [uwrap]; omega
  have w4 : IntKind.u64.wrap (19 * ((2 * over + d3 / 9223372036854775808 : Nat) : Int)) = (C : Int) := by simp only [uwrap]; omega
  have w5 : iand .u64 (d3 : Int) 9223372036854775807 = ((d3 % 9223372036854775808 : Nat) : Int) := and_mask d3 63 k3 (by decide)
  refine SW.weak (Weak.of [] (sls := [(0, .arr 4 [.v (.int .u64 ((d0 : Nat) : Int)), .v (.int .u64 ((d1 : Nat) : Int)), .v (.int .u64 ((d2 : Nat) : Int)), .v (.int .u64 ((d3 : Nat) : Int))]), (1, .v (.int .u64 ((over : Nat) : Int)))]) (bks := []) (ep := 64) (by rfl) (by repeat' (first | exact rfl | exact trivial | refine And.intro ?_ ?_)) trivial) ?_
  repeat' (first
    | apply_assumption -exfalso -symm (transparency := .reducible) only [*]
    | with_reducible refine SW.stopI 3 ?_
    | (with_reducible refine And.intro ?_ ?_)
    | (refine drawIt ?_; kernel_rfl)
    | ((with_reducible refine opsF_id ?_); simp -implicitDefEqProofs only [go_sem, w1, w2, w3, w4, w5, Int.reduceToNat])
    | ((with_reducible refine SW.id ?_); first | with_reducible refine SW.seqK fun K hK => ?_ | with_reducible refine SW.block ?_ | with_reducible refine SW.scope ?_ | ((first | with_reducible refine SW.skip ?_ | with_reducible refine SW.exit ?_ | with_reducible refine SW.label ?_ | with_reducible refine SW.ret ?_ | with_reducible refine SW.go MR ?_ | refine SW.goDrawF MR (by rfl) (by kernel_rfl) ?_); simp -implicitDefEqProofs only [go_sem, w1, w2, w3, w4, w5, Int.reduceToNat]) | (refine SW.cond (by simp -implicitDefEqProofs only [go_sem, w1, w2, w3, w4, w5, Int.reduceToNat]; rfl) (fun ht => ?_) (fun ht => ?_) <;> (try with_reducible contradiction))))
  all_goals first | omega | skip
  refine Stop.go ?_
  generalize hxs : [d0, d1, d2, d3 % 9223372036854775808] = xs at *
  refine SW.cutS (γ := Unit) (fun _ => St.of [(2, .ptr 2 []), (4, .ptr 4 [])] [(2, .var (.arr 4 (nA .u64 ((addI xs zeros4 C 4).1)))), (4, .var (.agg [.arr 4 (nA .u64 ([0, 0, 0, 0]))]))] 64) (fun K hK => ?_) fun _ => ?_
  · repeat' (first
      | apply_assumption -exfalso -symm (transparency := .reducible) only [*]
      | (with_reducible refine And.intro ?_ ?_)
      | (refine drawIt ?_; kernel_rfl)
      | ((with_reducible refine opsF_id ?_); simp -implicitDefEqProofs only [go_sem])
      | ((with_reducible refine SW.id ?_); first | with_reducible refine SW.seqK fun K hK => ?_ | with_reducible refine SW.block ?_ | with_reducible refine SW.scope ?_ | ((first | with_reducible refine SW.skip ?_ | with_reducible refine SW.exit ?_ | with_reducible refine SW.label ?_ | with_reducible refine SW.ret ?_ | with_reducible refine SW.go MR ?_ | refine SW.goDrawF MR (by rfl) (by kernel_rfl) ?_); simp -implicitDefEqProofs only [go_sem]) | (refine SW.cond (by simp -implicitDefEqProofs only [go_sem]; rfl) (fun ht => ?_) (fun ht => ?_) <;> (try with_reducible contradiction))))
    refine SW.loop (α := { i : Nat // i ≤ 4 }) (fun i => St.of [(2, .ptr 2 []), (4, .ptr 4 []), (5, .v (.int .u64 (((addI xs zeros4 C i.1).2 : Nat) : Int))), (6, .v (.int .i64 ((i.1 : Nat) : Int)))] [(2, .var (.arr 4 (nA .u64 ((addI xs zeros4 C i.1).1)))), (4, .var (.agg [.arr 4 (nA .u64 ([0, 0, 0, 0]))]))] 64) (fun i => 4 - i.1) ⟨0, by omega⟩
      (Weak.of [(64, 2), (128, 4)] (by rfl) ?_ ?_) fun ⟨i, hi⟩ => ?_
    · simp -implicitDefEqProofs only [go_sem]
      all_goals (repeat' (first | exact rfl | exact trivial | refine And.intro ?_ ?_))
    · subst hxs
      simp -implicitDefEqProofs only [go_sem]
      all_goals (repeat' (first | exact rfl | exact trivial | refine And.intro ?_ ?_))
    · rcases Nat.lt_or_eq_of_le hi with h4 | rfl
      · have hc := eq_true (show (i : Int) < 4 by omega)
        have h5 := i64_up (a := i) (by omega)
        have l1 := addI_len xs zeros4 C i
        rw [hd'.len] at l1
        have g1 := nA_getD (k := .u64) (l := (addI xs zeros4 C i).1) (i := i) (by omega)
        have s1 := eq_true (nA_szAt (k := .u64) (l := (addI xs zeros4 C i).1) (i := i) (by omega))
        have hz : zeros4.getD i 0 = 0 := by
          have : i = 0 ∨ i = 1 ∨ i = 2 ∨ i = 3 := by omega
          rcases this with rfl | rfl | rfl | rfl <;> rfl
        obtain ⟨a, ha⟩ : ∃ a, (addI xs zeros4 C i).1.getD i 0 = a := ⟨_, rfl⟩
        obtain ⟨c, hc'⟩ : ∃ c, (addI xs zeros4 C i).2 = c := ⟨_, rfl⟩
        rw [ha] at g1
        have e1 : ((a : Int) + (c : Int) + 0) % 18446744073709551616 = (((a + 0 + c) % 18446744073709551616 : Nat) : Int) := by omega
        have e2 : ((a : Int) + (c : Int) + 0) / 18446744073709551616 = (((a + 0 + c) / 18446744073709551616 : Nat) : Int) := by omega
        dsimp only
        rw [hc']
        repeat' (first
          | apply_assumption -exfalso -symm (transparency := .reducible) only [*]
          | (with_reducible refine And.intro ?_ ?_)
          | (refine drawIt ?_; kernel_rfl)
          | ((with_reducible refine opsF_id ?_); simp -implicitDefEqProofs only [go_sem, hc, h5, g1, s1, e1, e2])
          | ((with_reducible refine SW.id ?_); first | with_reducible refine SW.seqK fun K hK => ?_ | with_reducible refine SW.block ?_ | with_reducible refine SW.scope ?_ | ((first | with_reducible refine SW.skip ?_ | with_reducible refine SW.exit ?_ | with_reducible refine SW.label ?_ | with_reducible refine SW.ret ?_ | with_reducible refine SW.go MR ?_ | refine SW.goDrawF MR (by rfl) (by kernel_rfl) ?_); simp -implicitDefEqProofs only [go_sem, hc, h5, g1, s1, e1, e2]) | (refine SW.cond (by simp -implicitDefEqProofs only [go_sem, hc, h5, g1, s1, e1, e2]; rfl) (fun ht => ?_) (fun ht => ?_) <;> (try with_reducible contradiction))))
        all_goals first | omega | skip
        refine ⟨⟨i + 1, by omega⟩, Weak.of [(2, 2), (4, 4)] (by rfl) ?_ ?_, by dsimp only; omega⟩
        · simp only [addI, ha, hz, hc']
          simp -implicitDefEqProofs only [go_sem]
          all_goals (repeat' (first | exact rfl | exact trivial | refine And.intro ?_ ?_))
        · simp only [addI, ha, hz, hc']
          simp -implicitDefEqProofs only [go_sem]
          all_goals (repeat' (first | exact rfl | exact trivial | refine And.intro ?_ ?_))
      · have hc := eq_false (show ¬ ((4 : Nat) : Int) < 4 by omega)
        repeat' (first
          | apply_assumption -exfalso -symm (transparency := .reducible) only [*]
          | (with_reducible refine And.intro ?_ ?_)
          | (refine drawIt ?_; kernel_rfl)
          | ((with_reducible refine opsF_id ?_); simp -implicitDefEqProofs only [go_sem, hc])
          | ((with_reducible refine SW.id ?_); first | with_reducible refine SW.seqK fun K hK => ?_ | with_reducible refine SW.block ?_ | with_reducible refine SW.scope ?_ | ((first | with_reducible refine SW.skip ?_ | with_reducible refine SW.exit ?_ | with_reducible refine SW.label ?_ | with_reducible refine SW.ret ?_ | with_reducible refine SW.go MR ?_ | refine SW.goDrawF MR (by rfl) (by kernel_rfl) ?_); simp -implicitDefEqProofs only [go_sem, hc]) | (refine SW.cond (by simp -implicitDefEqProofs only [go_sem, hc]; rfl) (fun ht => ?_) (fun ht => ?_) <;> (try with_reducible contradiction))))
        refine ⟨(), Weak.of [(2, 2), (4, 4)] (by rfl) ?_ ?_⟩
        · simp -implicitDefEqProofs only [go_sem]
          all_goals (repeat' (first | exact rfl | exact trivial | refine And.intro ?_ ?_))
        · simp -implicitDefEqProofs only [go_sem]
          all_goals (repeat' (first | exact rfl | exact trivial | refine And.intro ?_ ?_))
  · have h2 := below_FS _ (addI_val (c := C) hd' hz4).1
    repeat' (first
      | apply_assumption -exfalso -symm (transparency := .reducible) only [*]
      | (refine callEnd_of h2 ?_ <;> (try simp -implicitDefEqProofs only [go_sem]))
      | (with_reducible refine And.intro ?_ ?_)
      | (refine drawIt ?_; kernel_rfl)
      | ((with_reducible refine opsF_id ?_); simp -implicitDefEqProofs only [go_sem])
      | ((with_reducible refine SW.id ?_); first | with_reducible refine SW.seqK fun K hK => ?_ | with_reducible refine SW.block ?_ | with_reducible refine SW.scope ?_ | ((first | with_reducible refine SW.skip ?_ | with_reducible refine SW.exit ?_ | with_reducible refine SW.label ?_ | with_reducible refine SW.ret ?_ | with_reducible refine SW.go MR ?_ | refine SW.goDrawF MR (by rfl) (by kernel_rfl) ?_); simp -implicitDefEqProofs only [go_sem]) | (refine SW.cond (by simp -implicitDefEqProofs only [go_sem]; rfl) (fun ht => ?_) (fun ht => ?_) <;> (try with_reducible contradiction))))
end Go.PA
