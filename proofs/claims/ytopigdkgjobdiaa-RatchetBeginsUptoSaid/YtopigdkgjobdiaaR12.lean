/- The program's curve: bytes, clamp, bits, the ladder, pairs. -/
import Derived.Test.YtopigdkgjobdiaaR10
import Derived.Test.YtopigdkgjobdiaaR6
import Derived.Test.YtopigdkgjobdiaaR11
namespace Go.PA
open Go.Proofs Go.Fe
set_option linter.unusedSimpArgs false
set_option linter.unusedVariables false
set_option maxRecDepth 100000
set_option maxHeartbeats 4000000
attribute [local go_sem] MR getP setP takesW
attribute [-go_sem] takeA roA A.good A.isAgg

theorem bytesP (a : N5) (n : Nat) (ha : NumIs a n) : FS Try.prog 64 [numT a] (.ret [.arr 32 (bA (bytesN n))] [none]) := by
  refine FS_of_SW (kb := [false]) Try.func64 rfl rfl (by rfl) ?_
  have q1 := leastP a ha.ok
  rw [least_eq ha.ok, ha.val] at q1
  have hn : n < 2 ^ 255 := by have := ha.lt; unfold p25519 at this; omega
  have hw5 : ∀ z ∈ w5 n, z < 2251799813685248 := by
    intro z hz
    simp only [w5, List.mem_cons, List.not_mem_nil, or_false] at hz
    omega
  have hwl : (w5 n).length = 5 := rfl
  have hout : ∀ i, i < 32 → outW (w5 n) i = n / 256 ^ i % 256 := fun i hi => outW_eq hn hi
  clear ha
  generalize w5 n = w at *
  refine SW.weak (Weak.of [] (sls := [(0, numT a)]) (bks := []) (ep := 64) (by rfl) (by repeat' (first | exact rfl | exact trivial | refine And.intro ?_ ?_)) trivial) ?_
  repeat' (first
    | apply_assumption -exfalso -symm (transparency := .reducible) only [*]
    | with_reducible refine SW.stopI 3 ?_
    | (with_reducible refine callEnd_of q1 ?_ <;> (try simp -implicitDefEqProofs only [go_sem]))
    | (with_reducible refine And.intro ?_ ?_)
    | (refine drawIt ?_; kernel_rfl)
    | ((with_reducible refine opsF_id ?_); simp -implicitDefEqProofs only [go_sem])
    | ((with_reducible refine SW.id ?_); first | with_reducible refine SW.seqK fun K hK => ?_ | with_reducible refine SW.block ?_ | with_reducible refine SW.scope ?_ | ((first | with_reducible refine SW.skip ?_ | with_reducible refine SW.exit ?_ | with_reducible refine SW.label ?_ | with_reducible refine SW.ret ?_ | with_reducible refine SW.go MR ?_ | refine SW.goDrawF MR (by rfl) (by kernel_rfl) ?_); simp -implicitDefEqProofs only [go_sem]) | (refine SW.cond (by simp -implicitDefEqProofs only [go_sem]; rfl) (fun ht => ?_) (fun ht => ?_) <;> (try simp only [decide_eq_true_eq, decide_eq_false_iff_not, beq_iff_eq, bne_iff_ne, beq_eq_false_iff_ne, bne_eq_false_iff_eq, Bool.or_eq_true, Bool.and_eq_true, Bool.or_eq_false_iff, Bool.and_eq_false_imp, Bool.not_eq_true, Bool.not_eq_false, Bool.not_true, Bool.not_false, Bool.not_eq_true', Bool.not_eq_false', Bool.or_false, Bool.false_or, Bool.or_true, Bool.true_or, Bool.and_true, Bool.true_and, reduceCtorEq] at ht) <;> (try with_reducible contradiction)))
    | ((with_reducible refine guardSplit (fun hg => ?_) (fun hg => ?_)) <;> (try simp only [Bool.not_true, Bool.not_false] at hg) <;> (have hc := hg) <;> simp -implicitDefEqProofs only [go_sem, hg] <;> (try simp only [decide_eq_true_eq, decide_eq_false_iff_not, beq_iff_eq, bne_iff_ne, beq_eq_false_iff_ne, bne_eq_false_iff_eq, Bool.or_eq_true, Bool.and_eq_true, Bool.or_eq_false_iff, Bool.and_eq_false_imp, Bool.not_eq_true, Bool.not_eq_false, Bool.not_true, Bool.not_false, Bool.not_eq_true', Bool.not_eq_false', Bool.or_false, Bool.false_or, Bool.or_true, Bool.true_or, Bool.and_true, Bool.true_and, reduceCtorEq] at hc) <;> (try with_reducible contradiction)))
  refine Stop.go ?_
  refine SW.cutS (γ := Unit) (fun _ => St.of [(2, .ptr 2 []), (4, .ptr 4 [])] [(2, .var (.arr 32 (bA (List.replicate 32 0)))), (4, .var (.arr 32 (bA (bytesN n))))] 64) (fun K hK => ?_) fun _ => ?_
  · repeat' (first
      | apply_assumption -exfalso -symm (transparency := .reducible) only [*]
      | (with_reducible refine And.intro ?_ ?_)
      | (refine drawIt ?_; kernel_rfl)
      | ((with_reducible refine opsF_id ?_); simp -implicitDefEqProofs only [go_sem])
      | ((with_reducible refine SW.id ?_); first | with_reducible refine SW.seqK fun K hK => ?_ | with_reducible refine SW.block ?_ | with_reducible refine SW.scope ?_ | ((first | with_reducible refine SW.skip ?_ | with_reducible refine SW.exit ?_ | with_reducible refine SW.label ?_ | with_reducible refine SW.ret ?_ | with_reducible refine SW.go MR ?_ | refine SW.goDrawF MR (by rfl) (by kernel_rfl) ?_); simp -implicitDefEqProofs only [go_sem]) | (refine SW.cond (by simp -implicitDefEqProofs only [go_sem]; rfl) (fun ht => ?_) (fun ht => ?_) <;> (try simp only [decide_eq_true_eq, decide_eq_false_iff_not, beq_iff_eq, bne_iff_ne, beq_eq_false_iff_ne, bne_eq_false_iff_eq, Bool.or_eq_true, Bool.and_eq_true, Bool.or_eq_false_iff, Bool.and_eq_false_imp, Bool.not_eq_true, Bool.not_eq_false, Bool.not_true, Bool.not_false, Bool.not_eq_true', Bool.not_eq_false', Bool.or_false, Bool.false_or, Bool.or_true, Bool.true_or, Bool.and_true, Bool.true_and, reduceCtorEq] at ht) <;> (try with_reducible contradiction)))
      | ((with_reducible refine guardSplit (fun hg => ?_) (fun hg => ?_)) <;> (try simp only [Bool.not_true, Bool.not_false] at hg) <;> (have hc := hg) <;> simp -implicitDefEqProofs only [go_sem, hg] <;> (try simp only [decide_eq_true_eq, decide_eq_false_iff_not, beq_iff_eq, bne_iff_ne, beq_eq_false_iff_ne, bne_eq_false_iff_eq, Bool.or_eq_true, Bool.and_eq_true, Bool.or_eq_false_iff, Bool.and_eq_false_imp, Bool.not_eq_true, Bool.not_eq_false, Bool.not_true, Bool.not_false, Bool.not_eq_true', Bool.not_eq_false', Bool.or_false, Bool.false_or, Bool.or_true, Bool.true_or, Bool.and_true, Bool.true_and, reduceCtorEq] at hc) <;> (try with_reducible contradiction)))
    refine SW.loop (α := { i : Nat // i ≤ 32 }) (fun i => St.of [(2, .ptr 2 []), (3, .ptr 3 []), (4, .ptr 4 []), (12, .v (.int .i64 ((i.1 : Nat) : Int)))] [(2, .var (.arr 32 (bA (List.replicate 32 0)))), (3, .var (.arr 5 (nA .u64 w))), (4, .var (.arr 32 (bA (bytesI n i.1))))] 64) (fun i => 32 - i.1) ⟨0, by omega⟩
      (Weak.of [(128, 2), (320, 3), (448, 4)] (by rfl) ?_ ?_) fun ⟨i, hi⟩ => ?_
    · simp -implicitDefEqProofs only [go_sem]
      all_goals (repeat' (first | exact rfl | exact trivial | refine And.intro ?_ ?_))
    · dsimp only
      rw [bytesI_zero]
      simp -implicitDefEqProofs only [go_sem]
      all_goals (repeat' (first | exact rfl | exact trivial | refine And.intro ?_ ?_))
    · rcases Nat.lt_or_eq_of_le hi with h4 | rfl
      · have hc := eq_true (show (i : Int) < 32 by omega)
        have h5 := i64_up (a := i) (by omega)
        have h6 := i64_eight h4
        have ho := hout i h4
        unfold outW at ho
        obtain ⟨p, hp⟩ : ∃ p, 8 * i / 51 = p := ⟨_, rfl⟩
        obtain ⟨q, hq⟩ : ∃ q, 8 * i % 51 = q := ⟨_, rfl⟩
        have h7 : IntKind.i64.wrap (((8 * i : Nat) : Int).tdiv 51) = (p : Int) := by rw [show ((8 * i : Nat) : Int).tdiv 51 = ((8 * i / 51 : Nat) : Int) from rfl, hp]; exact i64_same (by omega)
        have h8 : ((8 * i : Nat) : Int).tmod 51 = (q : Int) := by rw [show ((8 * i : Nat) : Int).tmod 51 = ((8 * i % 51 : Nat) : Int) from rfl, hq]
        have hp5 : p < 5 := by omega
        have hq5 : q < 51 := by omega
        have h9 : IntKind.i64.wrap ((p : Int) + 1) = ((p + 1 : Nat) : Int) := i64_up (by omega)
        have h10 : IntKind.i64.wrap (51 - (q : Int)) = ((51 - q : Nat) : Int) := by rw [IntWalk.i64_in _ (by omega)]; omega
        rw [hp, hq] at ho
        have g1 := nA_getD (k := .u64) (l := w) (i := p) (by omega)
        have s1 := eq_true (nA_szAt (k := .u64) (l := w) (i := p) (by omega))
        have b1 := getD_lt (by decide) hw5 p
        have b2 := getD_lt (by decide) hw5 (p + 1)
        have bl := bytesI_len n hi
        have g2 := bA_getD (l := bytesI n i) (i := i) (by omega)
        have s2 := eq_true (szAt_bA (l := bytesI n i) (i := i) (by omega))
        have hnext := bytesI_succ n h4
        obtain ⟨w', hw'⟩ : ∃ w', bytesI n (i + 1) = w' := ⟨_, rfl⟩
        rw [hw'] at hnext
        generalize n / 256 ^ i % 256 = y at *
        obtain ⟨a1, ha1⟩ : ∃ x, w.getD p 0 = x := ⟨_, rfl⟩
        obtain ⟨a2, ha2⟩ : ∃ x, w.getD (p + 1) 0 = x := ⟨_, rfl⟩
        rw [ha1] at g1 b1 ho
        rw [ha2] at b2 ho
        have e1 := shr_u64 a1 q (by omega)
        have d1 := Nat.div_le_self a1 (2 ^ q)
        have wr (z : Nat) (hz : z % 256 = y) : IntKind.u8.wrap (z : Int) = (y : Int) := by rw [IntKind.wrap_u8]; omega
        dsimp only
        by_cases k1 : 43 < q
        · have hk1 := eq_true (show (q : Int) > 43 by omega)
          by_cases k2 : p + 1 < 5
          · have hk2 := eq_true (show ((p + 1 : Nat) : Int) < 5 by omega)
            rw [if_pos ⟨k1, k2⟩] at ho
            have hpow : 2 ^ (51 - q) ≤ 2 ^ 7 := Nat.pow_le_pow_right (by decide) (by omega)
            have hmul : a2 * 2 ^ (51 - q) ≤ 2251799813685248 * 128 := Nat.mul_le_mul (by omega) hpow
            have e2 : ishl .u64 (a2 : Int) ((51 - q : Nat) : Int) = ((a2 * 2 ^ (51 - q) : Nat) : Int) := by rw [ishl_nat a2 (51 - q) (by omega), Nat.mod_eq_of_lt (by omega)]
            have e3 : ior .u64 ((a1 / 2 ^ q : Nat) : Int) ((a2 * 2 ^ (51 - q) : Nat) : Int) = ((a1 / 2 ^ q ||| a2 * 2 ^ (51 - q) : Nat) : Int) := ior_nat (by omega) (by omega)
            have e4 := wr _ ho
            have g3 := nA_getD (k := .u64) (l := w) (i := p + 1) (by omega)
            rw [ha2] at g3
            have s3 := eq_true (nA_szAt (k := .u64) (l := w) (i := p + 1) (by omega))
            repeat' (first
              | apply_assumption -exfalso -symm (transparency := .reducible) only [*]
              | (with_reducible refine And.intro ?_ ?_)
              | (refine drawIt ?_; kernel_rfl)
              | ((with_reducible refine opsF_id ?_); simp -implicitDefEqProofs only [go_sem, hc, h5, h6, h7, h8, h9, h10, g1, g2, g3, s1, s2, s3, e1, e2, e3, e4, hk1, hk2])
              | ((with_reducible refine SW.id ?_); first | with_reducible refine SW.seqK fun K hK => ?_ | with_reducible refine SW.block ?_ | with_reducible refine SW.scope ?_ | ((first | with_reducible refine SW.skip ?_ | with_reducible refine SW.exit ?_ | with_reducible refine SW.label ?_ | with_reducible refine SW.ret ?_ | with_reducible refine SW.go MR ?_ | refine SW.goDrawF MR (by rfl) (by kernel_rfl) ?_); simp -implicitDefEqProofs only [go_sem, hc, h5, h6, h7, h8, h9, h10, g1, g2, g3, s1, s2, s3, e1, e2, e3, e4, hk1, hk2]) | (refine SW.cond (by simp -implicitDefEqProofs only [go_sem, hc, h5, h6, h7, h8, h9, h10, g1, g2, g3, s1, s2, s3, e1, e2, e3, e4, hk1, hk2]; rfl) (fun ht => ?_) (fun ht => ?_) <;> (try simp only [decide_eq_true_eq, decide_eq_false_iff_not, beq_iff_eq, bne_iff_ne, beq_eq_false_iff_ne, bne_eq_false_iff_eq, Bool.or_eq_true, Bool.and_eq_true, Bool.or_eq_false_iff, Bool.and_eq_false_imp, Bool.not_eq_true, Bool.not_eq_false, Bool.not_true, Bool.not_false, Bool.not_eq_true', Bool.not_eq_false', Bool.or_false, Bool.false_or, Bool.or_true, Bool.true_or, Bool.and_true, Bool.true_and, reduceCtorEq] at ht) <;> (try with_reducible contradiction)))
              | ((with_reducible refine guardSplit (fun hg => ?_) (fun hg => ?_)) <;> (try simp only [Bool.not_true, Bool.not_false] at hg) <;> (have hc := hg) <;> simp -implicitDefEqProofs only [go_sem, hg, hc, h5, h6, h7, h8, h9, h10, g1, g2, g3, s1, s2, s3, e1, e2, e3, e4, hk1, hk2] <;> (try simp only [decide_eq_true_eq, decide_eq_false_iff_not, beq_iff_eq, bne_iff_ne, beq_eq_false_iff_ne, bne_eq_false_iff_eq, Bool.or_eq_true, Bool.and_eq_true, Bool.or_eq_false_iff, Bool.and_eq_false_imp, Bool.not_eq_true, Bool.not_eq_false, Bool.not_true, Bool.not_false, Bool.not_eq_true', Bool.not_eq_false', Bool.or_false, Bool.false_or, Bool.or_true, Bool.true_or, Bool.and_true, Bool.true_and, reduceCtorEq] at hc) <;> (try with_reducible contradiction)))
            all_goals first | omega | skip
            refine ⟨⟨i + 1, by omega⟩, Weak.of [(2, 2), (3, 3), (4, 4)] (by rfl) ?_ ?_, by dsimp only; omega⟩
            · simp -implicitDefEqProofs only [go_sem]
              all_goals (repeat' (first | exact rfl | exact trivial | refine And.intro ?_ ?_))
            · dsimp only
              rw [hw', ← hnext]
              simp -implicitDefEqProofs only [go_sem]
              all_goals (repeat' (first | exact rfl | exact trivial | refine And.intro ?_ ?_))
          · have hk2 := eq_false (show ¬ ((p + 1 : Nat) : Int) < 5 by omega)
            rw [if_neg (fun h => k2 h.2)] at ho
            have e4 := wr _ ho
            repeat' (first
              | apply_assumption -exfalso -symm (transparency := .reducible) only [*]
              | (with_reducible refine And.intro ?_ ?_)
              | (refine drawIt ?_; kernel_rfl)
              | ((with_reducible refine opsF_id ?_); simp -implicitDefEqProofs only [go_sem, hc, h5, h6, h7, h8, h9, h10, g1, g2, s1, s2, e1, e4, hk1, hk2])
              | ((with_reducible refine SW.id ?_); first | with_reducible refine SW.seqK fun K hK => ?_ | with_reducible refine SW.block ?_ | with_reducible refine SW.scope ?_ | ((first | with_reducible refine SW.skip ?_ | with_reducible refine SW.exit ?_ | with_reducible refine SW.label ?_ | with_reducible refine SW.ret ?_ | with_reducible refine SW.go MR ?_ | refine SW.goDrawF MR (by rfl) (by kernel_rfl) ?_); simp -implicitDefEqProofs only [go_sem, hc, h5, h6, h7, h8, h9, h10, g1, g2, s1, s2, e1, e4, hk1, hk2]) | (refine SW.cond (by simp -implicitDefEqProofs only [go_sem, hc, h5, h6, h7, h8, h9, h10, g1, g2, s1, s2, e1, e4, hk1, hk2]; rfl) (fun ht => ?_) (fun ht => ?_) <;> (try simp only [decide_eq_true_eq, decide_eq_false_iff_not, beq_iff_eq, bne_iff_ne, beq_eq_false_iff_ne, bne_eq_false_iff_eq, Bool.or_eq_true, Bool.and_eq_true, Bool.or_eq_false_iff, Bool.and_eq_false_imp, Bool.not_eq_true, Bool.not_eq_false, Bool.not_true, Bool.not_false, Bool.not_eq_true', Bool.not_eq_false', Bool.or_false, Bool.false_or, Bool.or_true, Bool.true_or, Bool.and_true, Bool.true_and, reduceCtorEq] at ht) <;> (try with_reducible contradiction)))
              | ((with_reducible refine guardSplit (fun hg => ?_) (fun hg => ?_)) <;> (try simp only [Bool.not_true, Bool.not_false] at hg) <;> (have hc := hg) <;> simp -implicitDefEqProofs only [go_sem, hg, hc, h5, h6, h7, h8, h9, h10, g1, g2, s1, s2, e1, e4, hk1, hk2] <;> (try simp only [decide_eq_true_eq, decide_eq_false_iff_not, beq_iff_eq, bne_iff_ne, beq_eq_false_iff_ne, bne_eq_false_iff_eq, Bool.or_eq_true, Bool.and_eq_true, Bool.or_eq_false_iff, Bool.and_eq_false_imp, Bool.not_eq_true, Bool.not_eq_false, Bool.not_true, Bool.not_false, Bool.not_eq_true', Bool.not_eq_false', Bool.or_false, Bool.false_or, Bool.or_true, Bool.true_or, Bool.and_true, Bool.true_and, reduceCtorEq] at hc) <;> (try with_reducible contradiction)))
            all_goals first | omega | skip
            refine ⟨⟨i + 1, by omega⟩, Weak.of [(2, 2), (3, 3), (4, 4)] (by rfl) ?_ ?_, by dsimp only; omega⟩
            · simp -implicitDefEqProofs only [go_sem]
              all_goals (repeat' (first | exact rfl | exact trivial | refine And.intro ?_ ?_))
            · dsimp only
              rw [hw', ← hnext]
              simp -implicitDefEqProofs only [go_sem]
              all_goals (repeat' (first | exact rfl | exact trivial | refine And.intro ?_ ?_))
        · have hk1 := eq_false (show ¬ (q : Int) > 43 by omega)
          rw [if_neg (fun h => k1 h.1)] at ho
          have e4 := wr _ ho
          repeat' (first
            | apply_assumption -exfalso -symm (transparency := .reducible) only [*]
            | (with_reducible refine And.intro ?_ ?_)
            | (refine drawIt ?_; kernel_rfl)
            | ((with_reducible refine opsF_id ?_); simp -implicitDefEqProofs only [go_sem, hc, h5, h6, h7, h8, h9, h10, g1, g2, s1, s2, e1, e4, hk1])
            | ((with_reducible refine SW.id ?_); first | with_reducible refine SW.seqK fun K hK => ?_ | with_reducible refine SW.block ?_ | with_reducible refine SW.scope ?_ | ((first | with_reducible refine SW.skip ?_ | with_reducible refine SW.exit ?_ | with_reducible refine SW.label ?_ | with_reducible refine SW.ret ?_ | with_reducible refine SW.go MR ?_ | refine SW.goDrawF MR (by rfl) (by kernel_rfl) ?_); simp -implicitDefEqProofs only [go_sem, hc, h5, h6, h7, h8, h9, h10, g1, g2, s1, s2, e1, e4, hk1]) | (refine SW.cond (by simp -implicitDefEqProofs only [go_sem, hc, h5, h6, h7, h8, h9, h10, g1, g2, s1, s2, e1, e4, hk1]; rfl) (fun ht => ?_) (fun ht => ?_) <;> (try simp only [decide_eq_true_eq, decide_eq_false_iff_not, beq_iff_eq, bne_iff_ne, beq_eq_false_iff_ne, bne_eq_false_iff_eq, Bool.or_eq_true, Bool.and_eq_true, Bool.or_eq_false_iff, Bool.and_eq_false_imp, Bool.not_eq_true, Bool.not_eq_false, Bool.not_true, Bool.not_false, Bool.not_eq_true', Bool.not_eq_false', Bool.or_false, Bool.false_or, Bool.or_true, Bool.true_or, Bool.and_true, Bool.true_and, reduceCtorEq] at ht) <;> (try with_reducible contradiction)))
            | ((with_reducible refine guardSplit (fun hg => ?_) (fun hg => ?_)) <;> (try simp only [Bool.not_true, Bool.not_false] at hg) <;> (have hc := hg) <;> simp -implicitDefEqProofs only [go_sem, hg, hc, h5, h6, h7, h8, h9, h10, g1, g2, s1, s2, e1, e4, hk1] <;> (try simp only [decide_eq_true_eq, decide_eq_false_iff_not, beq_iff_eq, bne_iff_ne, beq_eq_false_iff_ne, bne_eq_false_iff_eq, Bool.or_eq_true, Bool.and_eq_true, Bool.or_eq_false_iff, Bool.and_eq_false_imp, Bool.not_eq_true, Bool.not_eq_false, Bool.not_true, Bool.not_false, Bool.not_eq_true', Bool.not_eq_false', Bool.or_false, Bool.false_or, Bool.or_true, Bool.true_or, Bool.and_true, Bool.true_and, reduceCtorEq] at hc) <;> (try with_reducible contradiction)))
          all_goals first | omega | skip
          refine ⟨⟨i + 1, by omega⟩, Weak.of [(2, 2), (3, 3), (4, 4)] (by rfl) ?_ ?_, by dsimp only; omega⟩
          · simp -implicitDefEqProofs only [go_sem]
            all_goals (repeat' (first | exact rfl | exact trivial | refine And.intro ?_ ?_))
          · dsimp only
            rw [hw', ← hnext]
            simp -implicitDefEqProofs only [go_sem]
            all_goals (repeat' (first | exact rfl | exact trivial | refine And.intro ?_ ?_))
      · have hc := eq_false (show ¬ ((32 : Nat) : Int) < 32 by omega)
        repeat' (first
          | apply_assumption -exfalso -symm (transparency := .reducible) only [*]
          | (with_reducible refine And.intro ?_ ?_)
          | (refine drawIt ?_; kernel_rfl)
          | ((with_reducible refine opsF_id ?_); simp -implicitDefEqProofs only [go_sem, hc])
          | ((with_reducible refine SW.id ?_); first | with_reducible refine SW.seqK fun K hK => ?_ | with_reducible refine SW.block ?_ | with_reducible refine SW.scope ?_ | ((first | with_reducible refine SW.skip ?_ | with_reducible refine SW.exit ?_ | with_reducible refine SW.label ?_ | with_reducible refine SW.ret ?_ | with_reducible refine SW.go MR ?_ | refine SW.goDrawF MR (by rfl) (by kernel_rfl) ?_); simp -implicitDefEqProofs only [go_sem, hc]) | (refine SW.cond (by simp -implicitDefEqProofs only [go_sem, hc]; rfl) (fun ht => ?_) (fun ht => ?_) <;> (try simp only [decide_eq_true_eq, decide_eq_false_iff_not, beq_iff_eq, bne_iff_ne, beq_eq_false_iff_ne, bne_eq_false_iff_eq, Bool.or_eq_true, Bool.and_eq_true, Bool.or_eq_false_iff, Bool.and_eq_false_imp, Bool.not_eq_true, Bool.not_eq_false, Bool.not_true, Bool.not_false, Bool.not_eq_true', Bool.not_eq_false', Bool.or_false, Bool.false_or, Bool.or_true, Bool.true_or, Bool.and_true, Bool.true_and, reduceCtorEq] at ht) <;> (try with_reducible contradiction)))
          | ((with_reducible refine guardSplit (fun hg => ?_) (fun hg => ?_)) <;> (try simp only [Bool.not_true, Bool.not_false] at hg) <;> (have hc := hg) <;> simp -implicitDefEqProofs only [go_sem, hg, hc] <;> (try simp only [decide_eq_true_eq, decide_eq_false_iff_not, beq_iff_eq, bne_iff_ne, beq_eq_false_iff_ne, bne_eq_false_iff_eq, Bool.or_eq_true, Bool.and_eq_true, Bool.or_eq_false_iff, Bool.and_eq_false_imp, Bool.not_eq_true, Bool.not_eq_false, Bool.not_true, Bool.not_false, Bool.not_eq_true', Bool.not_eq_false', Bool.or_false, Bool.false_or, Bool.or_true, Bool.true_or, Bool.and_true, Bool.true_and, reduceCtorEq] at hc) <;> (try with_reducible contradiction)))
        refine ⟨(), Weak.of [(2, 2), (4, 4)] (by rfl) ?_ ?_⟩
        · simp -implicitDefEqProofs only [go_sem]
          all_goals (repeat' (first | exact rfl | exact trivial | refine And.intro ?_ ?_))
        · rw [← bytesI_all n]
          simp -implicitDefEqProofs only [go_sem]
          all_goals (repeat' (first | exact rfl | exact trivial | refine And.intro ?_ ?_))
  · repeat' (first
      | apply_assumption -exfalso -symm (transparency := .reducible) only [*]
      | (with_reducible refine And.intro ?_ ?_)
      | (refine drawIt ?_; kernel_rfl)
      | ((with_reducible refine opsF_id ?_); simp -implicitDefEqProofs only [go_sem])
      | ((with_reducible refine SW.id ?_); first | with_reducible refine SW.seqK fun K hK => ?_ | with_reducible refine SW.block ?_ | with_reducible refine SW.scope ?_ | ((first | with_reducible refine SW.skip ?_ | with_reducible refine SW.exit ?_ | with_reducible refine SW.label ?_ | with_reducible refine SW.ret ?_ | with_reducible refine SW.go MR ?_ | refine SW.goDrawF MR (by rfl) (by kernel_rfl) ?_); simp -implicitDefEqProofs only [go_sem]) | (refine SW.cond (by simp -implicitDefEqProofs only [go_sem]; rfl) (fun ht => ?_) (fun ht => ?_) <;> (try simp only [decide_eq_true_eq, decide_eq_false_iff_not, beq_iff_eq, bne_iff_ne, beq_eq_false_iff_ne, bne_eq_false_iff_eq, Bool.or_eq_true, Bool.and_eq_true, Bool.or_eq_false_iff, Bool.and_eq_false_imp, Bool.not_eq_true, Bool.not_eq_false, Bool.not_true, Bool.not_false, Bool.not_eq_true', Bool.not_eq_false', Bool.or_false, Bool.false_or, Bool.or_true, Bool.true_or, Bool.and_true, Bool.true_and, reduceCtorEq] at ht) <;> (try with_reducible contradiction)))
      | ((with_reducible refine guardSplit (fun hg => ?_) (fun hg => ?_)) <;> (try simp only [Bool.not_true, Bool.not_false] at hg) <;> (have hc := hg) <;> simp -implicitDefEqProofs only [go_sem, hg] <;> (try simp only [decide_eq_true_eq, decide_eq_false_iff_not, beq_iff_eq, bne_iff_ne, beq_eq_false_iff_ne, bne_eq_false_iff_eq, Bool.or_eq_true, Bool.and_eq_true, Bool.or_eq_false_iff, Bool.and_eq_false_imp, Bool.not_eq_true, Bool.not_eq_false, Bool.not_true, Bool.not_false, Bool.not_eq_true', Bool.not_eq_false', Bool.or_false, Bool.false_or, Bool.or_true, Bool.true_or, Bool.and_true, Bool.true_and, reduceCtorEq] at hc) <;> (try with_reducible contradiction)))

theorem bits8 : ∀ x : Nat, x < 256 → iand .u8 (x : Int) 248 = ((x / 8 * 8 : Nat) : Int) ∧ ior .u8 (iand .u8 (x : Int) 127) 64 = ((x % 64 + 64 : Nat) : Int) ∧ iand .u8 (x : Int) 1 = ((x % 2 : Nat) : Int) := by decide +kernel

theorem clampP (k : List Nat) (hl : k.length = 32) (hk : ∀ x ∈ k, x < 256) : FS Try.prog 38 [.arr 32 (bA (k))] (.ret [.arr 32 (bA (clampL k))] [none]) := by
  refine FS_of_SW (kb := [false]) (st0 := ?st) Try.func38 rfl rfl ?he ?_
  case he =>
    simp only [entrySt, unfs, unf, A.noown, noowns, nA_noowns, bA_noowns, Option.map_some, if_true, reduceIte, List.nil_append, List.append_nil]
    rfl
  have g1 := bA_getD (l := k) (i := 0) (by omega)
  have s1 := eq_true (szAt_bA (l := k) (i := 0) (by omega))
  have b1 := getD_lt (by decide) hk 0
  have b2 := getD_lt (by decide) hk 31
  obtain ⟨x, hx⟩ : ∃ x, k.getD 0 0 = x := ⟨_, rfl⟩
  have g2 (z : Nat) : (bA (k.set 0 z)).getD 31 .und = A.v (.int .u8 ((k.getD 31 0 : Nat) : Int)) := by
    rw [bA_getD (by rw [List.length_set]; omega)]
    congr 3
    rw [List.getD_eq_getElem?_getD, List.getElem?_set_ne (by omega), ← List.getD_eq_getElem?_getD]
  have s2 (z : Nat) := eq_true (szAt_bA (l := k.set 0 z) (i := 31) (by rw [List.length_set]; omega))
  obtain ⟨y, hy⟩ : ∃ y, k.getD 31 0 = y := ⟨_, rfl⟩
  have hcl : clampL k = (k.set 0 (x / 8 * 8)).set 31 (y % 64 + 64) := by unfold clampL; rw [hx, hy]
  rw [hcl]
  rw [hx] at g1 b1
  rw [hy] at g2 b2
  have e1 := (bits8 x b1).1
  have e2 := (bits8 y b2).2.1
  refine SW.weak (Weak.of [] (sls := [(0, .arr 32 (bA (k)))]) (bks := []) (ep := 64) (by rfl) (by repeat' (first | exact rfl | exact trivial | refine And.intro ?_ ?_)) trivial) ?_
  repeat' (first
    | apply_assumption -exfalso -symm (transparency := .reducible) only [*]
    | (with_reducible refine And.intro ?_ ?_)
    | (refine drawIt ?_; kernel_rfl)
    | ((with_reducible refine opsF_id ?_); simp -implicitDefEqProofs only [go_sem, g1, g2, s1, s2, e1, e2, Int.reduceToNat])
    | ((with_reducible refine SW.id ?_); first | with_reducible refine SW.seqK fun K hK => ?_ | with_reducible refine SW.block ?_ | with_reducible refine SW.scope ?_ | ((first | with_reducible refine SW.skip ?_ | with_reducible refine SW.exit ?_ | with_reducible refine SW.label ?_ | with_reducible refine SW.ret ?_ | with_reducible refine SW.go MR ?_ | refine SW.goDrawF MR (by rfl) (by kernel_rfl) ?_); simp -implicitDefEqProofs only [go_sem, g1, g2, s1, s2, e1, e2, Int.reduceToNat]) | (refine SW.cond (by simp -implicitDefEqProofs only [go_sem, g1, g2, s1, s2, e1, e2, Int.reduceToNat]; rfl) (fun ht => ?_) (fun ht => ?_) <;> (try simp only [decide_eq_true_eq, decide_eq_false_iff_not, beq_iff_eq, bne_iff_ne, beq_eq_false_iff_ne, bne_eq_false_iff_eq, Bool.or_eq_true, Bool.and_eq_true, Bool.or_eq_false_iff, Bool.and_eq_false_imp, Bool.not_eq_true, Bool.not_eq_false, Bool.not_true, Bool.not_false, Bool.not_eq_true', Bool.not_eq_false', Bool.or_false, Bool.false_or, Bool.or_true, Bool.true_or, Bool.and_true, Bool.true_and, reduceCtorEq] at ht) <;> (try with_reducible contradiction)))
    | ((with_reducible refine guardSplit (fun hg => ?_) (fun hg => ?_)) <;> (try simp only [Bool.not_true, Bool.not_false] at hg) <;> (have hc := hg) <;> simp -implicitDefEqProofs only [go_sem, hg, g1, g2, s1, s2, e1, e2, Int.reduceToNat] <;> (try simp only [decide_eq_true_eq, decide_eq_false_iff_not, beq_iff_eq, bne_iff_ne, beq_eq_false_iff_ne, bne_eq_false_iff_eq, Bool.or_eq_true, Bool.and_eq_true, Bool.or_eq_false_iff, Bool.and_eq_false_imp, Bool.not_eq_true, Bool.not_eq_false, Bool.not_true, Bool.not_false, Bool.not_eq_true', Bool.not_eq_false', Bool.or_false, Bool.false_or, Bool.or_true, Bool.true_or, Bool.and_true, Bool.true_and, reduceCtorEq] at hc) <;> (try with_reducible contradiction)))
  all_goals first | omega | decide | skip

theorem idx_rp25 {q : Bool} {m : Nat} {xs : List A} {n : Int} : aIndexAddr Try.prog 25 (.rp q (.arr m xs)) n = .req (0 ≤ n ∧ n < (32 : Nat) ∧ szAt xs n.toNat 1) (effV (.rp q (xs.getD n.toNat .und))) := by
  unfold aIndexAddr
  rw [tSlice25, tArr25]
theorem bitP (q : Bool) (k : List Nat) (t : Nat) (hl : k.length = 32) (hk : ∀ x ∈ k, x < 256) (ht : t < 256) : FS Try.prog 57 [.v (.int .i64 ((t : Nat) : Int)), .rp q (.arr 32 (bA (k)))] (.ret [.v (.bool (bitL k t))] [none, none]) := by
  refine FS_of_SW (kb := [false, false]) (st0 := ?st) Try.func57 rfl rfl ?he ?_
  case he =>
    simp only [entrySt, unfs, unf, A.noown, noowns, nA_noowns, bA_noowns, Option.map_some, if_true, reduceIte, List.nil_append, List.append_nil]
    rfl
  have h6 : IntKind.i64.wrap ((t : Int).tdiv 8) = ((t / 8 : Nat) : Int) := by rw [show (t : Int).tdiv 8 = ((t / 8 : Nat) : Int) from rfl]; exact i64_same (by omega)
  have h7 : (t : Int).tmod 8 = ((t % 8 : Nat) : Int) := rfl
  have g1 := bA_getD (l := k) (i := t / 8) (by omega)
  have s1 := eq_true (szAt_bA (l := k) (i := t / 8) (by omega))
  have bx := getD_lt (by decide) hk (t / 8)
  have hb : bitL k t = (k.getD (t / 8) 0 / 2 ^ (t % 8) % 2 == 1) := rfl
  rw [hb]
  obtain ⟨x, hx⟩ : ∃ x, k.getD (t / 8) 0 = x := ⟨_, rfl⟩
  rw [hx] at g1 bx ⊢
  have e1 : ishr .u8 (x : Int) ((t % 8 : Nat) : Int) = ((x / 2 ^ (t % 8) : Nat) : Int) := by
    simp only [ishr, IntKind.bits, Int.toNat_natCast, Nat.min_eq_left (show t % 8 ≤ 8 by omega)]
    rw [Int.fdiv_eq_ediv_of_nonneg _ (by exact_mod_cast Nat.zero_le _)]
    norm_cast
  have e2 := (bits8 (x / 2 ^ (t % 8)) (Nat.lt_of_le_of_lt (Nat.div_le_self _ _) bx)).2.2
  have e3 (y : Nat) : ((y : Int) == 1) = (y == 1) := by
    by_cases h : y = 1
    · subst h; rfl
    · have : ¬ (y : Int) = 1 := by omega
      rw [beq_eq_false_iff_ne.2 this, beq_eq_false_iff_ne.2 h]
  refine SW.weak (Weak.of [] (sls := [(0, .v (.int .i64 ((t : Nat) : Int))), (1, .rp q (.arr 32 (bA (k))))]) (bks := []) (ep := 64) (by rfl) (by repeat' (first | exact rfl | exact trivial | refine And.intro ?_ ?_)) trivial) ?_
  repeat' (first
    | apply_assumption -exfalso -symm (transparency := .reducible) only [*]
    | (with_reducible refine And.intro ?_ ?_)
    | (refine drawIt ?_; kernel_rfl)
    | ((with_reducible refine opsF_id ?_); simp -implicitDefEqProofs only [go_sem, h6, h7, g1, s1, e1, e2, e3, idx_rp25])
    | ((with_reducible refine SW.id ?_); first | with_reducible refine SW.seqK fun K hK => ?_ | with_reducible refine SW.block ?_ | with_reducible refine SW.scope ?_ | ((first | with_reducible refine SW.skip ?_ | with_reducible refine SW.exit ?_ | with_reducible refine SW.label ?_ | with_reducible refine SW.ret ?_ | with_reducible refine SW.go MR ?_ | refine SW.goDrawF MR (by rfl) (by kernel_rfl) ?_); simp -implicitDefEqProofs only [go_sem, h6, h7, g1, s1, e1, e2, e3, idx_rp25]) | (refine SW.cond (by simp -implicitDefEqProofs only [go_sem, h6, h7, g1, s1, e1, e2, e3, idx_rp25]; rfl) (fun ht => ?_) (fun ht => ?_) <;> (try simp only [decide_eq_true_eq, decide_eq_false_iff_not, beq_iff_eq, bne_iff_ne, beq_eq_false_iff_ne, bne_eq_false_iff_eq, Bool.or_eq_true, Bool.and_eq_true, Bool.or_eq_false_iff, Bool.and_eq_false_imp, Bool.not_eq_true, Bool.not_eq_false, Bool.not_true, Bool.not_false, Bool.not_eq_true', Bool.not_eq_false', Bool.or_false, Bool.false_or, Bool.or_true, Bool.true_or, Bool.and_true, Bool.true_and, reduceCtorEq] at ht) <;> (try with_reducible contradiction)))
    | ((with_reducible refine guardSplit (fun hg => ?_) (fun hg => ?_)) <;> (try simp only [Bool.not_true, Bool.not_false] at hg) <;> (have hc := hg) <;> simp -implicitDefEqProofs only [go_sem, hg, h6, h7, g1, s1, e1, e2, e3, idx_rp25] <;> (try simp only [decide_eq_true_eq, decide_eq_false_iff_not, beq_iff_eq, bne_iff_ne, beq_eq_false_iff_ne, bne_eq_false_iff_eq, Bool.or_eq_true, Bool.and_eq_true, Bool.or_eq_false_iff, Bool.and_eq_false_imp, Bool.not_eq_true, Bool.not_eq_false, Bool.not_true, Bool.not_false, Bool.not_eq_true', Bool.not_eq_false', Bool.or_false, Bool.false_or, Bool.or_true, Bool.true_or, Bool.and_true, Bool.true_and, reduceCtorEq] at hc) <;> (try with_reducible contradiction)))
  all_goals first | omega | decide | skip

theorem swappedP (r : R5) (on : Bool) : FS Try.prog 60 [.agg [numT r.a, numT r.b, numT r.c, numT r.d], .v (.bool on)] (.ret [.agg [numT (r.sw on).a, numT (r.sw on).b, numT (r.sw on).c, numT (r.sw on).d]] [none, none]) := by
  refine FS_of_SW (kb := [false, false]) Try.func60 rfl rfl (by rfl) ?_
  obtain ⟨a, b, c, d⟩ := r
  have q1 := swap_FSr a c on
  have q2 := swap_FSr b d on
  refine SW.weak (Weak.of [] (sls := [(0, .agg [numT a, numT b, numT c, numT d]), (1, .v (.bool on))]) (bks := []) (ep := 64) (by rfl) (by repeat' (first | exact rfl | exact trivial | refine And.intro ?_ ?_)) trivial) ?_
  cases on
  · simp only [Bool.false_eq_true, if_false] at q1 q2
    repeat' (first
      | apply_assumption -exfalso -symm (transparency := .reducible) only [*]
      | (with_reducible refine callEnd_of q1 ?_ <;> (try simp -implicitDefEqProofs only [go_sem]))
      | (with_reducible refine callEnd_of q2 ?_ <;> (try simp -implicitDefEqProofs only [go_sem]))
      | (with_reducible refine And.intro ?_ ?_)
      | (refine drawIt ?_; kernel_rfl)
      | ((with_reducible refine opsF_id ?_); simp -implicitDefEqProofs only [go_sem])
      | ((with_reducible refine SW.id ?_); first | with_reducible refine SW.seqK fun K hK => ?_ | with_reducible refine SW.block ?_ | with_reducible refine SW.scope ?_ | ((first | with_reducible refine SW.skip ?_ | with_reducible refine SW.exit ?_ | with_reducible refine SW.label ?_ | with_reducible refine SW.ret ?_ | with_reducible refine SW.go MR ?_ | refine SW.goDrawF MR (by rfl) (by kernel_rfl) ?_); simp -implicitDefEqProofs only [go_sem]) | (refine SW.cond (by simp -implicitDefEqProofs only [go_sem]; rfl) (fun ht => ?_) (fun ht => ?_) <;> (try simp only [decide_eq_true_eq, decide_eq_false_iff_not, beq_iff_eq, bne_iff_ne, beq_eq_false_iff_ne, bne_eq_false_iff_eq, Bool.or_eq_true, Bool.and_eq_true, Bool.or_eq_false_iff, Bool.and_eq_false_imp, Bool.not_eq_true, Bool.not_eq_false, Bool.not_true, Bool.not_false, Bool.not_eq_true', Bool.not_eq_false', Bool.or_false, Bool.false_or, Bool.or_true, Bool.true_or, Bool.and_true, Bool.true_and, reduceCtorEq] at ht) <;> (try with_reducible contradiction)))
      | ((with_reducible refine guardSplit (fun hg => ?_) (fun hg => ?_)) <;> (try simp only [Bool.not_true, Bool.not_false] at hg) <;> (have hc := hg) <;> simp -implicitDefEqProofs only [go_sem, hg] <;> (try simp only [decide_eq_true_eq, decide_eq_false_iff_not, beq_iff_eq, bne_iff_ne, beq_eq_false_iff_ne, bne_eq_false_iff_eq, Bool.or_eq_true, Bool.and_eq_true, Bool.or_eq_false_iff, Bool.and_eq_false_imp, Bool.not_eq_true, Bool.not_eq_false, Bool.not_true, Bool.not_false, Bool.not_eq_true', Bool.not_eq_false', Bool.or_false, Bool.false_or, Bool.or_true, Bool.true_or, Bool.and_true, Bool.true_and, reduceCtorEq] at hc) <;> (try with_reducible contradiction)))
    all_goals first | rfl | skip
  · simp only [if_true] at q1 q2
    repeat' (first
      | apply_assumption -exfalso -symm (transparency := .reducible) only [*]
      | (with_reducible refine callEnd_of q1 ?_ <;> (try simp -implicitDefEqProofs only [go_sem]))
      | (with_reducible refine callEnd_of q2 ?_ <;> (try simp -implicitDefEqProofs only [go_sem]))
      | (with_reducible refine And.intro ?_ ?_)
      | (refine drawIt ?_; kernel_rfl)
      | ((with_reducible refine opsF_id ?_); simp -implicitDefEqProofs only [go_sem])
      | ((with_reducible refine SW.id ?_); first | with_reducible refine SW.seqK fun K hK => ?_ | with_reducible refine SW.block ?_ | with_reducible refine SW.scope ?_ | ((first | with_reducible refine SW.skip ?_ | with_reducible refine SW.exit ?_ | with_reducible refine SW.label ?_ | with_reducible refine SW.ret ?_ | with_reducible refine SW.go MR ?_ | refine SW.goDrawF MR (by rfl) (by kernel_rfl) ?_); simp -implicitDefEqProofs only [go_sem]) | (refine SW.cond (by simp -implicitDefEqProofs only [go_sem]; rfl) (fun ht => ?_) (fun ht => ?_) <;> (try simp only [decide_eq_true_eq, decide_eq_false_iff_not, beq_iff_eq, bne_iff_ne, beq_eq_false_iff_ne, bne_eq_false_iff_eq, Bool.or_eq_true, Bool.and_eq_true, Bool.or_eq_false_iff, Bool.and_eq_false_imp, Bool.not_eq_true, Bool.not_eq_false, Bool.not_true, Bool.not_false, Bool.not_eq_true', Bool.not_eq_false', Bool.or_false, Bool.false_or, Bool.or_true, Bool.true_or, Bool.and_true, Bool.true_and, reduceCtorEq] at ht) <;> (try with_reducible contradiction)))
      | ((with_reducible refine guardSplit (fun hg => ?_) (fun hg => ?_)) <;> (try simp only [Bool.not_true, Bool.not_false] at hg) <;> (have hc := hg) <;> simp -implicitDefEqProofs only [go_sem, hg] <;> (try simp only [decide_eq_true_eq, decide_eq_false_iff_not, beq_iff_eq, bne_iff_ne, beq_eq_false_iff_ne, bne_eq_false_iff_eq, Bool.or_eq_true, Bool.and_eq_true, Bool.or_eq_false_iff, Bool.and_eq_false_imp, Bool.not_eq_true, Bool.not_eq_false, Bool.not_true, Bool.not_false, Bool.not_eq_true', Bool.not_eq_false', Bool.or_false, Bool.false_or, Bool.or_true, Bool.true_or, Bool.and_true, Bool.true_and, reduceCtorEq] at hc) <;> (try with_reducible contradiction)))
    all_goals first | rfl | skip

theorem step_FSr (r : R5) (x : N5) (hx : x.ok) (h1 : r.a.ok) (h2 : r.b.ok) (h3 : r.c.ok) (h4 : r.d.ok) :
    FS Try.prog 61 [.agg [numT r.a, numT r.b, numT r.c, numT r.d], numT x] (.ret [.agg [numT (r.step x).a, numT (r.step x).b, numT (r.step x).c, numT (r.step x).d]] [none, none]) := by
  refine FS_of_SW (kb := [false, false]) Try.func61 rfl rfl (by rfl) ?_
  obtain ⟨a, b, c, d⟩ := r
  simp only [R5.step]
  dsimp only at h1 h2 h3 h4
  have k1 := N5.add_ok h1 h2
  have k2 := N5.sub_ok h1 h2
  have k3 := N5.add_ok h3 h4
  have k4 := N5.sub_ok h3 h4
  have q1 := add_FSr a b h1 h2
  have q2 := sub_FSr a b h1 h2
  have q3 := add_FSr c d h3 h4
  have q4 := sub_FSr c d h3 h4
  generalize N5.add a b = e at *
  generalize N5.sub a b = f at *
  generalize N5.add c d = g at *
  generalize N5.sub c d = h at *
  have k5 := N5.mul_ok k1 k1
  have k6 := N5.mul_ok k2 k2
  have k7 := N5.mul_ok k4 k1
  have k8 := N5.mul_ok k3 k2
  have q5 := square_FSr e k1
  have q6 := square_FSr f k2
  have q7 := mul_FSr h e k4 k1
  have q8 := mul_FSr g f k3 k2
  generalize N5.mul e e = y at *
  generalize N5.mul f f = z at *
  generalize N5.mul h e = m at *
  generalize N5.mul g f = n at *
  have k9 := N5.sub_ok k5 k6
  have q9 := sub_FSr y z k5 k6
  have q10 := mul_FSr y z k5 k6
  generalize N5.sub y z = w at *
  have k10 := N5.times_ok k9 (n := 121665) (by decide)
  have q12 : FS Try.prog 75 [numT w, .v (.int .u32 121665)] (.ret [numT (w.times 121665)] [none, none]) := times_FSr w 121665 k9 (by decide)
  generalize N5.times w 121665 = w2 at *
  have k11 := N5.add_ok k5 k10
  have q13 := add_FSr y w2 k5 k10
  generalize N5.add y w2 = w3 at *
  have q14 := mul_FSr w w3 k9 k11
  have q15 := add_FSr m n k7 k8
  have k12 := N5.add_ok k7 k8
  generalize N5.add m n = mn at *
  have q16 := square_FSr mn k12
  have q17 := sub_FSr m n k7 k8
  have k13 := N5.sub_ok k7 k8
  generalize N5.sub m n = m2 at *
  have q18 := square_FSr m2 k13
  have k14 := N5.mul_ok k13 k13
  generalize N5.mul m2 m2 = m3 at *
  have q19 := mul_FSr x m3 hx k14
  clear h1 h2 h3 h4 k1 k2 k3 k4 k5 k6 k7 k8 k9 k10 k11 k12 k13 k14
  generalize N5.mul x m3 = r4 at *
  generalize N5.mul y z = r1 at *
  generalize N5.mul w w3 = r2 at *
  generalize N5.mul mn mn = r3 at *
  refine SW.weak (Weak.of [] (sls := [(0, .agg [numT a, numT b, numT c, numT d]), (1, numT x)]) (bks := []) (ep := 64) (by rfl) (by repeat' (first | exact rfl | exact trivial | refine And.intro ?_ ?_)) trivial) ?_
  repeat' (first
    | apply_assumption -exfalso -symm (transparency := .reducible) only [*]
    | (with_reducible refine callEnd_of q1 ?_ <;> (try simp -implicitDefEqProofs only [go_sem]))
    | (with_reducible refine callEnd_of q2 ?_ <;> (try simp -implicitDefEqProofs only [go_sem]))
    | (with_reducible refine callEnd_of q3 ?_ <;> (try simp -implicitDefEqProofs only [go_sem]))
    | (with_reducible refine callEnd_of q4 ?_ <;> (try simp -implicitDefEqProofs only [go_sem]))
    | (with_reducible refine callEnd_of q5 ?_ <;> (try simp -implicitDefEqProofs only [go_sem]))
    | (with_reducible refine callEnd_of q6 ?_ <;> (try simp -implicitDefEqProofs only [go_sem]))
    | (with_reducible refine callEnd_of q7 ?_ <;> (try simp -implicitDefEqProofs only [go_sem]))
    | (with_reducible refine callEnd_of q8 ?_ <;> (try simp -implicitDefEqProofs only [go_sem]))
    | (with_reducible refine callEnd_of q9 ?_ <;> (try simp -implicitDefEqProofs only [go_sem]))
    | (with_reducible refine callEnd_of q10 ?_ <;> (try simp -implicitDefEqProofs only [go_sem]))
    | (with_reducible refine callEnd_of q12 ?_ <;> (try simp -implicitDefEqProofs only [go_sem]))
    | (with_reducible refine callEnd_of q13 ?_ <;> (try simp -implicitDefEqProofs only [go_sem]))
    | (with_reducible refine callEnd_of q14 ?_ <;> (try simp -implicitDefEqProofs only [go_sem]))
    | (with_reducible refine callEnd_of q15 ?_ <;> (try simp -implicitDefEqProofs only [go_sem]))
    | (with_reducible refine callEnd_of q16 ?_ <;> (try simp -implicitDefEqProofs only [go_sem]))
    | (with_reducible refine callEnd_of q17 ?_ <;> (try simp -implicitDefEqProofs only [go_sem]))
    | (with_reducible refine callEnd_of q18 ?_ <;> (try simp -implicitDefEqProofs only [go_sem]))
    | (with_reducible refine callEnd_of q19 ?_ <;> (try simp -implicitDefEqProofs only [go_sem]))
    | (with_reducible refine And.intro ?_ ?_)
    | (refine drawIt ?_; kernel_rfl)
    | ((with_reducible refine opsF_id ?_); simp -implicitDefEqProofs only [go_sem])
    | ((with_reducible refine SW.id ?_); first | with_reducible refine SW.seqK fun K hK => ?_ | with_reducible refine SW.block ?_ | with_reducible refine SW.scope ?_ | ((first | with_reducible refine SW.skip ?_ | with_reducible refine SW.exit ?_ | with_reducible refine SW.label ?_ | with_reducible refine SW.ret ?_ | with_reducible refine SW.go MR ?_ | refine SW.goDrawF MR (by rfl) (by kernel_rfl) ?_); simp -implicitDefEqProofs only [go_sem]) | (refine SW.cond (by simp -implicitDefEqProofs only [go_sem]; rfl) (fun ht => ?_) (fun ht => ?_) <;> (try simp only [decide_eq_true_eq, decide_eq_false_iff_not, beq_iff_eq, bne_iff_ne, beq_eq_false_iff_ne, bne_eq_false_iff_eq, Bool.or_eq_true, Bool.and_eq_true, Bool.or_eq_false_iff, Bool.and_eq_false_imp, Bool.not_eq_true, Bool.not_eq_false, Bool.not_true, Bool.not_false, Bool.not_eq_true', Bool.not_eq_false', Bool.or_false, Bool.false_or, Bool.or_true, Bool.true_or, Bool.and_true, Bool.true_and, reduceCtorEq] at ht) <;> (try with_reducible contradiction)))
    | ((with_reducible refine guardSplit (fun hg => ?_) (fun hg => ?_)) <;> (try simp only [Bool.not_true, Bool.not_false] at hg) <;> (have hc := hg) <;> simp -implicitDefEqProofs only [go_sem, hg] <;> (try simp only [decide_eq_true_eq, decide_eq_false_iff_not, beq_iff_eq, bne_iff_ne, beq_eq_false_iff_ne, bne_eq_false_iff_eq, Bool.or_eq_true, Bool.and_eq_true, Bool.or_eq_false_iff, Bool.and_eq_false_imp, Bool.not_eq_true, Bool.not_eq_false, Bool.not_true, Bool.not_false, Bool.not_eq_true', Bool.not_eq_false', Bool.or_false, Bool.false_or, Bool.or_true, Bool.true_or, Bool.and_true, Bool.true_and, reduceCtorEq] at hc) <;> (try with_reducible contradiction)))

theorem scaleP (k u : List Nat) (hk : k.length = 32) (hk' : ∀ x ∈ k, x < 256) (hu : u.length = 32) (hu' : ∀ x ∈ u, x < 256) : FS Try.prog 48 [.arr 32 (bA (k)), .arr 32 (bA (u))] (.ret [.arr 32 (bA (scaleL k u))] [none, none]) := by
  refine FS_of_SW (kb := [false, false]) (st0 := ?st) Try.func48 rfl rfl ?he ?_
  case he =>
    simp only [entrySt, unfs, unf, A.noown, noowns, nA_noowns, bA_noowns, Option.map_some, if_true, reduceIte, List.nil_append, List.append_nil]
    rfl
  have q1 := clampP k hk hk'
  have q2 := fromP u hu hu'
  have q3 : FS Try.prog 59 [.v (.int .u64 1)] (.ret [numT (N5.small 1)] [none]) := small_FSr 1 (by decide)
  have hx : NumIs (fromN5 u) (fromL u) := from_is hu hu'
  have hs : scaleL k u = bytesN (mulN (ladOf k u).a ((ladOf k u).b ^ (2 ^ 255 - 21) % p25519)) := rfl
  have hc1 : (clampL k).length = 32 := by rw [clampL_len, hk]
  have hc2 := clampL_lt hk'
  have hL : ladOf k u = lad (fromL u) (bitL (clampL k)) 255 ⟨1, 0, fromL u, 1⟩ := rfl
  rw [hs]
  obtain ⟨L, hL'⟩ : ∃ L, ladOf k u = L := ⟨_, rfl⟩
  rw [hL'] at hL ⊢
  have h1 : NumIs (N5.small 1) 1 := NumIs.small (by decide)
  have h0 : NumIs ⟨0, 0, 0, 0, 0⟩ 0 := ⟨⟨by decide, by decide, by decide, by decide, by decide⟩, by decide⟩
  generalize clampL k = ck at *
  generalize fromL u = x at *
  generalize fromN5 u = fx at *
  generalize N5.small 1 = one at *
  clear hs hL'
  obtain ⟨fin, hfin⟩ : ∃ n, mulN L.a (L.b ^ (2 ^ 255 - 21) % p25519) = n := ⟨_, rfl⟩
  rw [hfin]
  have hend : ∀ (a b : N5), NumIs a L.a → NumIs b L.b → NumIs (a.mul b.inv) fin := fun a b ha hb => by rw [← hfin]; exact ha.mul hb.inv
  clear hfin
  have q7 : ∀ a : N5, NumIs a fin → FS Try.prog 64 [numT a] (.ret [.arr 32 (bA (bytesN fin))] [none]) := fun a h => bytesP a fin h
  generalize bytesN fin = out at *
  have hz : numT ⟨0, 0, 0, 0, 0⟩ = .agg [.arr 5 [.v (.int .u64 0), .v (.int .u64 0), .v (.int .u64 0), .v (.int .u64 0), .v (.int .u64 0)]] := rfl
  refine SW.weak (Weak.of [] (sls := [(0, .arr 32 (bA (k))), (1, .arr 32 (bA (u)))]) (bks := []) (ep := 64) (by rfl) (by repeat' (first | exact rfl | exact trivial | refine And.intro ?_ ?_)) trivial) ?_
  repeat' (first
    | apply_assumption -exfalso -symm (transparency := .reducible) only [*]
    | with_reducible refine SW.stopI 7 ?_
    | (with_reducible refine callEnd_of q1 ?_ <;> (try simp -implicitDefEqProofs only [go_sem]))
    | (with_reducible refine callEnd_of q2 ?_ <;> (try simp -implicitDefEqProofs only [go_sem]))
    | (with_reducible refine callEnd_of q3 ?_ <;> (try simp -implicitDefEqProofs only [go_sem]))
    | (with_reducible refine And.intro ?_ ?_)
    | (refine drawIt ?_; kernel_rfl)
    | ((with_reducible refine opsF_id ?_); simp -implicitDefEqProofs only [go_sem])
    | ((with_reducible refine SW.id ?_); first | with_reducible refine SW.seqK fun K hK => ?_ | with_reducible refine SW.block ?_ | with_reducible refine SW.scope ?_ | ((first | with_reducible refine SW.skip ?_ | with_reducible refine SW.exit ?_ | with_reducible refine SW.label ?_ | with_reducible refine SW.ret ?_ | with_reducible refine SW.go MR ?_ | refine SW.goDrawF MR (by rfl) (by kernel_rfl) ?_); simp -implicitDefEqProofs only [go_sem]) | (refine SW.cond (by simp -implicitDefEqProofs only [go_sem]; rfl) (fun ht => ?_) (fun ht => ?_) <;> (try simp only [decide_eq_true_eq, decide_eq_false_iff_not, beq_iff_eq, bne_iff_ne, beq_eq_false_iff_ne, bne_eq_false_iff_eq, Bool.or_eq_true, Bool.and_eq_true, Bool.or_eq_false_iff, Bool.and_eq_false_imp, Bool.not_eq_true, Bool.not_eq_false, Bool.not_true, Bool.not_false, Bool.not_eq_true', Bool.not_eq_false', Bool.or_false, Bool.false_or, Bool.or_true, Bool.true_or, Bool.and_true, Bool.true_and, reduceCtorEq] at ht) <;> (try with_reducible contradiction)))
    | ((with_reducible refine guardSplit (fun hg => ?_) (fun hg => ?_)) <;> (try simp only [Bool.not_true, Bool.not_false] at hg) <;> (have hc := hg) <;> simp -implicitDefEqProofs only [go_sem, hg] <;> (try simp only [decide_eq_true_eq, decide_eq_false_iff_not, beq_iff_eq, bne_iff_ne, beq_eq_false_iff_ne, bne_eq_false_iff_eq, Bool.or_eq_true, Bool.and_eq_true, Bool.or_eq_false_iff, Bool.and_eq_false_imp, Bool.not_eq_true, Bool.not_eq_false, Bool.not_true, Bool.not_false, Bool.not_eq_true', Bool.not_eq_false', Bool.or_false, Bool.false_or, Bool.or_true, Bool.true_or, Bool.and_true, Bool.true_and, reduceCtorEq] at hc) <;> (try with_reducible contradiction)))
  refine Stop.go ?_
  refine SW.cutS (γ := { q : R5 × Bool // RungIs (q.1.sw q.2) L }) (fun q => St.of [(4, .ptr 4 []), (8, .ptr 8 []), (9, .v (.bool q.1.2))] [(4, .var (.arr 32 (bA (List.replicate 32 0)))), (8, .var (.agg [numT q.1.1.a, numT q.1.1.b, numT q.1.1.c, numT q.1.1.d]))] 64) (fun K hK => ?_) fun ⟨⟨r, before⟩, hr⟩ => ?_
  · repeat' (first
      | apply_assumption -exfalso -symm (transparency := .reducible) only [*]
      | (with_reducible refine And.intro ?_ ?_)
      | (refine drawIt ?_; kernel_rfl)
      | ((with_reducible refine opsF_id ?_); simp -implicitDefEqProofs only [go_sem])
      | ((with_reducible refine SW.id ?_); first | with_reducible refine SW.seqK fun K hK => ?_ | with_reducible refine SW.block ?_ | with_reducible refine SW.scope ?_ | ((first | with_reducible refine SW.skip ?_ | with_reducible refine SW.exit ?_ | with_reducible refine SW.label ?_ | with_reducible refine SW.ret ?_ | with_reducible refine SW.go MR ?_ | refine SW.goDrawF MR (by rfl) (by kernel_rfl) ?_); simp -implicitDefEqProofs only [go_sem]) | (refine SW.cond (by simp -implicitDefEqProofs only [go_sem]; rfl) (fun ht => ?_) (fun ht => ?_) <;> (try simp only [decide_eq_true_eq, decide_eq_false_iff_not, beq_iff_eq, bne_iff_ne, beq_eq_false_iff_ne, bne_eq_false_iff_eq, Bool.or_eq_true, Bool.and_eq_true, Bool.or_eq_false_iff, Bool.and_eq_false_imp, Bool.not_eq_true, Bool.not_eq_false, Bool.not_true, Bool.not_false, Bool.not_eq_true', Bool.not_eq_false', Bool.or_false, Bool.false_or, Bool.or_true, Bool.true_or, Bool.and_true, Bool.true_and, reduceCtorEq] at ht) <;> (try with_reducible contradiction)))
      | ((with_reducible refine guardSplit (fun hg => ?_) (fun hg => ?_)) <;> (try simp only [Bool.not_true, Bool.not_false] at hg) <;> (have hc := hg) <;> simp -implicitDefEqProofs only [go_sem, hg] <;> (try simp only [decide_eq_true_eq, decide_eq_false_iff_not, beq_iff_eq, bne_iff_ne, beq_eq_false_iff_ne, bne_eq_false_iff_eq, Bool.or_eq_true, Bool.and_eq_true, Bool.or_eq_false_iff, Bool.and_eq_false_imp, Bool.not_eq_true, Bool.not_eq_false, Bool.not_true, Bool.not_false, Bool.not_eq_true', Bool.not_eq_false', Bool.or_false, Bool.false_or, Bool.or_true, Bool.true_or, Bool.and_true, Bool.true_and, reduceCtorEq] at hc) <;> (try with_reducible contradiction)))
    refine SW.loop (α := { q : Nat × R5 × Bool × Rung // q.1 ≤ 255 ∧ RungIs (q.2.1.sw q.2.2.1) q.2.2.2 ∧ L = lad x (bitL ck) q.1 q.2.2.2 }) (fun q => St.of [(4, .ptr 4 []), (5, .clo (.func 57) [] [.ptr 2 []]), (6, .ptr 6 []), (8, .ptr 8 []), (9, .v (.bool q.1.2.2.1)), (10, .v (.int .i64 ((q.1.1 : Int) - 1)))] [(2, .var (.arr 32 (bA (ck)))), (4, .var (.arr 32 (bA (List.replicate 32 0)))), (6, .var (numT fx)), (8, .var (.agg [numT q.1.2.1.a, numT q.1.2.1.b, numT q.1.2.1.c, numT q.1.2.1.d]))] 64) (fun q => q.1.1) ⟨(255, ⟨one, ⟨0, 0, 0, 0, 0⟩, fx, one⟩, false, ⟨1, 0, x, 1⟩), Nat.le_refl 255, ⟨h1, h0, hx, h1⟩, hL⟩
      (Weak.of [(64, 2), (192, 4), (704, 6), (1280, 8)] (by rfl) ?_ ?_) fun ⟨⟨n, r, before, s⟩, hn, hr, hlad⟩ => ?_
    · simp -implicitDefEqProofs only [go_sem]
      all_goals (repeat' (first | exact rfl | exact trivial | refine And.intro ?_ ?_))
    · simp -implicitDefEqProofs only [go_sem]
      all_goals (repeat' (first | exact rfl | exact trivial | refine And.intro ?_ ?_))
    · dsimp only at hn hr hlad
      rcases n with _ | t
      · have hc := eq_false (show ¬ (((0 : Nat) : Int) - 1) ≥ 0 by omega)
        obtain rfl : L = s := hlad
        repeat' (first
          | apply_assumption -exfalso -symm (transparency := .reducible) only [*]
          | (with_reducible refine And.intro ?_ ?_)
          | (refine drawIt ?_; kernel_rfl)
          | ((with_reducible refine opsF_id ?_); simp -implicitDefEqProofs only [go_sem, hc])
          | ((with_reducible refine SW.id ?_); first | with_reducible refine SW.seqK fun K hK => ?_ | with_reducible refine SW.block ?_ | with_reducible refine SW.scope ?_ | ((first | with_reducible refine SW.skip ?_ | with_reducible refine SW.exit ?_ | with_reducible refine SW.label ?_ | with_reducible refine SW.ret ?_ | with_reducible refine SW.go MR ?_ | refine SW.goDrawF MR (by rfl) (by kernel_rfl) ?_); simp -implicitDefEqProofs only [go_sem, hc]) | (refine SW.cond (by simp -implicitDefEqProofs only [go_sem, hc]; rfl) (fun ht => ?_) (fun ht => ?_) <;> (try simp only [decide_eq_true_eq, decide_eq_false_iff_not, beq_iff_eq, bne_iff_ne, beq_eq_false_iff_ne, bne_eq_false_iff_eq, Bool.or_eq_true, Bool.and_eq_true, Bool.or_eq_false_iff, Bool.and_eq_false_imp, Bool.not_eq_true, Bool.not_eq_false, Bool.not_true, Bool.not_false, Bool.not_eq_true', Bool.not_eq_false', Bool.or_false, Bool.false_or, Bool.or_true, Bool.true_or, Bool.and_true, Bool.true_and, reduceCtorEq] at ht) <;> (try with_reducible contradiction)))
          | ((with_reducible refine guardSplit (fun hg => ?_) (fun hg => ?_)) <;> (try simp only [Bool.not_true, Bool.not_false] at hg) <;> (have hc := hg) <;> simp -implicitDefEqProofs only [go_sem, hg, hc] <;> (try simp only [decide_eq_true_eq, decide_eq_false_iff_not, beq_iff_eq, bne_iff_ne, beq_eq_false_iff_ne, bne_eq_false_iff_eq, Bool.or_eq_true, Bool.and_eq_true, Bool.or_eq_false_iff, Bool.and_eq_false_imp, Bool.not_eq_true, Bool.not_eq_false, Bool.not_true, Bool.not_false, Bool.not_eq_true', Bool.not_eq_false', Bool.or_false, Bool.false_or, Bool.or_true, Bool.true_or, Bool.and_true, Bool.true_and, reduceCtorEq] at hc) <;> (try with_reducible contradiction)))
        refine ⟨⟨(r, before), hr⟩, Weak.of [(4, 4), (8, 8)] (by rfl) ?_ ?_⟩
        · simp -implicitDefEqProofs only [go_sem]
          all_goals (repeat' (first | exact rfl | exact trivial | refine And.intro ?_ ?_))
        · simp -implicitDefEqProofs only [go_sem]
          all_goals (repeat' (first | exact rfl | exact trivial | refine And.intro ?_ ?_))
      · have hn' : (((t + 1 : Nat) : Int) - 1) = (t : Int) := by omega
        have hc := eq_true (show (t : Int) ≥ 0 by omega)
        have h5 := i64_down (a := t) (by omega)
        have hb := bitP false ck t hc1 hc2 (by omega)
        have hl2 : L = lad x (bitL ck) t (((s.sw (bitL ck t)).step x).sw (bitL ck t)) := hlad
        dsimp only
        clear hlad
        generalize bitL ck t = on at hb hl2
        have q5 := swappedP r (!(on == before))
        have hsw : RungIs (r.sw (!(on == before))) (s.sw on) := by
          have := hr.sw on
          have e : (r.sw before).sw on = r.sw (!(on == before)) := by cases before <;> cases on <;> rfl
          rwa [e] at this
        generalize r.sw (!(on == before)) = r2 at *
        have q6 := step_FSr r2 fx hx.ok hsw.a.ok hsw.b.ok hsw.c.ok hsw.d.ok
        have hst : RungIs ((r2.step fx).sw on) (((s.sw on).step x).sw on) := (hsw.step hx).sw on
        generalize r2.step fx = r3 at *
        generalize ((s.sw on).step x).sw on = s3 at *
        rw [hn']
        repeat' (first
          | apply_assumption -exfalso -symm (transparency := .reducible) only [*]
          | (with_reducible refine callEnd_of hb ?_ <;> (try simp -implicitDefEqProofs only [go_sem, hc, h5]))
          | (with_reducible refine callEnd_of q5 ?_ <;> (try simp -implicitDefEqProofs only [go_sem, hc, h5]))
          | (with_reducible refine callEnd_of q6 ?_ <;> (try simp -implicitDefEqProofs only [go_sem, hc, h5]))
          | (with_reducible refine And.intro ?_ ?_)
          | (refine drawIt ?_; kernel_rfl)
          | ((with_reducible refine opsF_id ?_); simp -implicitDefEqProofs only [go_sem, hc, h5])
          | ((with_reducible refine SW.id ?_); first | with_reducible refine SW.seqK fun K hK => ?_ | with_reducible refine SW.block ?_ | with_reducible refine SW.scope ?_ | ((first | with_reducible refine SW.skip ?_ | with_reducible refine SW.exit ?_ | with_reducible refine SW.label ?_ | with_reducible refine SW.ret ?_ | with_reducible refine SW.go MR ?_ | refine SW.goDrawF MR (by rfl) (by kernel_rfl) ?_); simp -implicitDefEqProofs only [go_sem, hc, h5]) | (refine SW.cond (by simp -implicitDefEqProofs only [go_sem, hc, h5]; rfl) (fun ht => ?_) (fun ht => ?_) <;> (try simp only [decide_eq_true_eq, decide_eq_false_iff_not, beq_iff_eq, bne_iff_ne, beq_eq_false_iff_ne, bne_eq_false_iff_eq, Bool.or_eq_true, Bool.and_eq_true, Bool.or_eq_false_iff, Bool.and_eq_false_imp, Bool.not_eq_true, Bool.not_eq_false, Bool.not_true, Bool.not_false, Bool.not_eq_true', Bool.not_eq_false', Bool.or_false, Bool.false_or, Bool.or_true, Bool.true_or, Bool.and_true, Bool.true_and, reduceCtorEq] at ht) <;> (try with_reducible contradiction)))
          | ((with_reducible refine guardSplit (fun hg => ?_) (fun hg => ?_)) <;> (try simp only [Bool.not_true, Bool.not_false] at hg) <;> (have hc := hg) <;> simp -implicitDefEqProofs only [go_sem, hg, hc, h5] <;> (try simp only [decide_eq_true_eq, decide_eq_false_iff_not, beq_iff_eq, bne_iff_ne, beq_eq_false_iff_ne, bne_eq_false_iff_eq, Bool.or_eq_true, Bool.and_eq_true, Bool.or_eq_false_iff, Bool.and_eq_false_imp, Bool.not_eq_true, Bool.not_eq_false, Bool.not_true, Bool.not_false, Bool.not_eq_true', Bool.not_eq_false', Bool.or_false, Bool.false_or, Bool.or_true, Bool.true_or, Bool.and_true, Bool.true_and, reduceCtorEq] at hc) <;> (try with_reducible contradiction)))
        all_goals first | omega | skip
        refine ⟨⟨(t, r3, on, s3), by dsimp only; omega, hst, hl2⟩, Weak.of [(2, 2), (4, 4), (6, 6), (8, 8)] (by rfl) ?_ ?_, by dsimp only; omega⟩
        · simp -implicitDefEqProofs only [go_sem]
          all_goals (repeat' (first | exact rfl | exact trivial | refine And.intro ?_ ?_))
        · simp -implicitDefEqProofs only [go_sem]
          all_goals (repeat' (first | exact rfl | exact trivial | refine And.intro ?_ ?_))
  · dsimp only at hr ⊢
    have q5 := swappedP r before
    generalize r.sw before = r2 at *
    have q8 := invert_FSr r2.b hr.b.ok
    have hm := hend r2.a r2.b hr.a hr.b
    have q9 := mul_FSr r2.a r2.b.inv hr.a.ok hr.b.inv.ok
    have q10 := q7 _ hm
    generalize r2.a.mul r2.b.inv = r3 at *
    generalize r2.b.inv = r4 at *
    clear q7 hend
    repeat' (first
      | apply_assumption -exfalso -symm (transparency := .reducible) only [*]
      | (with_reducible refine callEnd_of q5 ?_ <;> (try simp -implicitDefEqProofs only [go_sem]))
      | (with_reducible refine callEnd_of q8 ?_ <;> (try simp -implicitDefEqProofs only [go_sem]))
      | (with_reducible refine callEnd_of q9 ?_ <;> (try simp -implicitDefEqProofs only [go_sem]))
      | (with_reducible refine callEnd_of q10 ?_ <;> (try simp -implicitDefEqProofs only [go_sem]))
      | (with_reducible refine And.intro ?_ ?_)
      | (refine drawIt ?_; kernel_rfl)
      | ((with_reducible refine opsF_id ?_); simp -implicitDefEqProofs only [go_sem])
      | ((with_reducible refine SW.id ?_); first | with_reducible refine SW.seqK fun K hK => ?_ | with_reducible refine SW.block ?_ | with_reducible refine SW.scope ?_ | ((first | with_reducible refine SW.skip ?_ | with_reducible refine SW.exit ?_ | with_reducible refine SW.label ?_ | with_reducible refine SW.ret ?_ | with_reducible refine SW.go MR ?_ | refine SW.goDrawF MR (by rfl) (by kernel_rfl) ?_); simp -implicitDefEqProofs only [go_sem]) | (refine SW.cond (by simp -implicitDefEqProofs only [go_sem]; rfl) (fun ht => ?_) (fun ht => ?_) <;> (try simp only [decide_eq_true_eq, decide_eq_false_iff_not, beq_iff_eq, bne_iff_ne, beq_eq_false_iff_ne, bne_eq_false_iff_eq, Bool.or_eq_true, Bool.and_eq_true, Bool.or_eq_false_iff, Bool.and_eq_false_imp, Bool.not_eq_true, Bool.not_eq_false, Bool.not_true, Bool.not_false, Bool.not_eq_true', Bool.not_eq_false', Bool.or_false, Bool.false_or, Bool.or_true, Bool.true_or, Bool.and_true, Bool.true_and, reduceCtorEq] at ht) <;> (try with_reducible contradiction)))
      | ((with_reducible refine guardSplit (fun hg => ?_) (fun hg => ?_)) <;> (try simp only [Bool.not_true, Bool.not_false] at hg) <;> (have hc := hg) <;> simp -implicitDefEqProofs only [go_sem, hg] <;> (try simp only [decide_eq_true_eq, decide_eq_false_iff_not, beq_iff_eq, bne_iff_ne, beq_eq_false_iff_ne, bne_eq_false_iff_eq, Bool.or_eq_true, Bool.and_eq_true, Bool.or_eq_false_iff, Bool.and_eq_false_imp, Bool.not_eq_true, Bool.not_eq_false, Bool.not_true, Bool.not_false, Bool.not_eq_true', Bool.not_eq_false', Bool.or_false, Bool.false_or, Bool.or_true, Bool.true_or, Bool.and_true, Bool.true_and, reduceCtorEq] at hc) <;> (try with_reducible contradiction)))

theorem publicP (k : List Nat) (hk : k.length = 32) (hk' : ∀ x ∈ k, x < 256) : FS Try.prog 39 [.arr 32 (bA (k))] (.ret [.arr 32 (bA (scaleL k nineL))] [none]) := by
  refine FS_of_SW (kb := [false]) (st0 := ?st) Try.func39 rfl rfl ?he ?_
  case he =>
    simp only [entrySt, unfs, unf, A.noown, noowns, nA_noowns, bA_noowns, Option.map_some, if_true, reduceIte, List.nil_append, List.append_nil]
    rfl
  have q2 := scaleP k nineL hk hk' (by decide) (by decide)
  have q3 : FS Try.prog 48 [.arr 32 (bA (k)), .arr 32 (A.v (.int .u8 9) :: bA (List.replicate 31 0))] (.ret [.arr 32 (bA (scaleL k nineL))] [none, none]) := q2
  clear q2
  generalize scaleL k nineL = r at *
  refine SW.weak (Weak.of [] (sls := [(0, .arr 32 (bA (k)))]) (bks := []) (ep := 64) (by rfl) (by repeat' (first | exact rfl | exact trivial | refine And.intro ?_ ?_)) trivial) ?_
  repeat' (first
    | apply_assumption -exfalso -symm (transparency := .reducible) only [*]
    | (refine callEnd_of q3 ?_ <;> (try simp -implicitDefEqProofs only [go_sem, bA_cons]))
    | (with_reducible refine And.intro ?_ ?_)
    | (refine drawIt ?_; kernel_rfl)
    | ((with_reducible refine opsF_id ?_); simp -implicitDefEqProofs only [go_sem, bA_cons])
    | ((with_reducible refine SW.id ?_); first | with_reducible refine SW.seqK fun K hK => ?_ | with_reducible refine SW.block ?_ | with_reducible refine SW.scope ?_ | ((first | with_reducible refine SW.skip ?_ | with_reducible refine SW.exit ?_ | with_reducible refine SW.label ?_ | with_reducible refine SW.ret ?_ | with_reducible refine SW.go MR ?_ | refine SW.goDrawF MR (by rfl) (by kernel_rfl) ?_); simp -implicitDefEqProofs only [go_sem, bA_cons]) | (refine SW.cond (by simp -implicitDefEqProofs only [go_sem, bA_cons]; rfl) (fun ht => ?_) (fun ht => ?_) <;> (try simp only [decide_eq_true_eq, decide_eq_false_iff_not, beq_iff_eq, bne_iff_ne, beq_eq_false_iff_ne, bne_eq_false_iff_eq, Bool.or_eq_true, Bool.and_eq_true, Bool.or_eq_false_iff, Bool.and_eq_false_imp, Bool.not_eq_true, Bool.not_eq_false, Bool.not_true, Bool.not_false, Bool.not_eq_true', Bool.not_eq_false', Bool.or_false, Bool.false_or, Bool.or_true, Bool.true_or, Bool.and_true, Bool.true_and, reduceCtorEq] at ht) <;> (try with_reducible contradiction)))
    | ((with_reducible refine guardSplit (fun hg => ?_) (fun hg => ?_)) <;> (try simp only [Bool.not_true, Bool.not_false] at hg) <;> (have hc := hg) <;> simp -implicitDefEqProofs only [go_sem, hg, bA_cons] <;> (try simp only [decide_eq_true_eq, decide_eq_false_iff_not, beq_iff_eq, bne_iff_ne, beq_eq_false_iff_ne, bne_eq_false_iff_eq, Bool.or_eq_true, Bool.and_eq_true, Bool.or_eq_false_iff, Bool.and_eq_false_imp, Bool.not_eq_true, Bool.not_eq_false, Bool.not_true, Bool.not_false, Bool.not_eq_true', Bool.not_eq_false', Bool.or_false, Bool.false_or, Bool.or_true, Bool.true_or, Bool.and_true, Bool.true_and, reduceCtorEq] at hc) <;> (try with_reducible contradiction)))
  all_goals trace_state

theorem paired_FS (r u : List Nat) (hr : r.length = 32) (hr' : ∀ x ∈ r, x < 256) (hu : u.length = 32) : FS Try.prog 31 [.agg [.arr 32 (bA (r)), .arr 32 (bA (u))]] (.ret [.v (.bool (pairB r u))] [none]) := by
  refine FS_of_SW (kb := [false]) (st0 := ?st) Try.func31 rfl rfl ?he ?_
  case he =>
    simp only [entrySt, unfs, unf, A.noown, noowns, nA_noowns, bA_noowns, Option.map_some, if_true, reduceIte, List.nil_append, List.append_nil]
    rfl
  have q1 := clampP r hr hr'
  have q2 := publicP r hr hr'
  have hl : (clampL r).length = 32 := by rw [clampL_len, hr]
  have hl2 : (scaleL r nineL).length = 32 := bytesN_len _
  have hp : pairB r u = (decide (clampL r = r) && decide (scaleL r nineL = u)) := by
    unfold pairB
    congr 1 <;> exact decide_eq_decide.2 eq_comm
  rw [hp]
  clear hp
  generalize clampL r = c at *
  generalize scaleL r nineL = s at *
  refine SW.weak (Weak.of [] (sls := [(0, .agg [.arr 32 (bA (r)), .arr 32 (bA (u))])]) (bks := []) (ep := 64) (by rfl) (by repeat' (first | exact rfl | exact trivial | refine And.intro ?_ ?_)) trivial) ?_
  repeat' (first
    | apply_assumption -exfalso -symm (transparency := .reducible) only [*]
    | (refine callEnd_of q1 ?_ <;> (try simp -implicitDefEqProofs only [go_sem, hr, hu, hl, hl2]))
    | (refine callEnd_of q2 ?_ <;> (try simp -implicitDefEqProofs only [go_sem, hr, hu, hl, hl2]))
    | (with_reducible refine And.intro ?_ ?_)
    | (refine drawIt ?_; kernel_rfl)
    | ((with_reducible refine opsF_id ?_); simp -implicitDefEqProofs only [go_sem, hr, hu, hl, hl2])
    | ((with_reducible refine SW.id ?_); first | with_reducible refine SW.seqK fun K hK => ?_ | with_reducible refine SW.block ?_ | with_reducible refine SW.scope ?_ | ((first | with_reducible refine SW.skip ?_ | with_reducible refine SW.exit ?_ | with_reducible refine SW.label ?_ | with_reducible refine SW.ret ?_ | with_reducible refine SW.go MR ?_ | refine SW.goDrawF MR (by rfl) (by kernel_rfl) ?_); simp -implicitDefEqProofs only [go_sem, hr, hu, hl, hl2]) | (refine SW.cond (by simp -implicitDefEqProofs only [go_sem, hr, hu, hl, hl2]; rfl) (fun ht => ?_) (fun ht => ?_) <;> (try simp only [decide_eq_true_eq, decide_eq_false_iff_not, beq_iff_eq, bne_iff_ne, beq_eq_false_iff_ne, bne_eq_false_iff_eq, Bool.or_eq_true, Bool.and_eq_true, Bool.or_eq_false_iff, Bool.and_eq_false_imp, Bool.not_eq_true, Bool.not_eq_false, Bool.not_true, Bool.not_false, Bool.not_eq_true', Bool.not_eq_false', Bool.or_false, Bool.false_or, Bool.or_true, Bool.true_or, Bool.and_true, Bool.true_and, reduceCtorEq] at ht) <;> (try with_reducible contradiction)))
    | ((with_reducible refine guardSplit (fun hg => ?_) (fun hg => ?_)) <;> (try simp only [Bool.not_true, Bool.not_false] at hg) <;> (have hc := hg) <;> simp -implicitDefEqProofs only [go_sem, hg, hr, hu, hl, hl2] <;> (try simp only [decide_eq_true_eq, decide_eq_false_iff_not, beq_iff_eq, bne_iff_ne, beq_eq_false_iff_ne, bne_eq_false_iff_eq, Bool.or_eq_true, Bool.and_eq_true, Bool.or_eq_false_iff, Bool.and_eq_false_imp, Bool.not_eq_true, Bool.not_eq_false, Bool.not_true, Bool.not_false, Bool.not_eq_true', Bool.not_eq_false', Bool.or_false, Bool.false_or, Bool.or_true, Bool.true_or, Bool.and_true, Bool.true_and, reduceCtorEq] at hc) <;> (try with_reducible contradiction)))
  all_goals (clear q1 q2; simp_all)
end Go.PA
