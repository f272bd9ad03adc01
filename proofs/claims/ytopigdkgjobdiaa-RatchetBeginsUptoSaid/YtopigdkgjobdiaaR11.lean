/- The program's numbers of the field: of bytes, to bytes. -/
import Derived.Test.YtopigdkgjobdiaaR5
import Derived.Test.YtopigdkgjobdiaaR9
namespace Go.PA
open Go.Proofs Go.Fe
set_option linter.unusedSimpArgs false
set_option linter.unusedVariables false
set_option maxRecDepth 100000
set_option maxHeartbeats 4000000
attribute [local go_sem] MR getP setP takesW
attribute [-go_sem] takeA roA A.good A.isAgg

theorem num5_plain (a : N5) : (numT a).plain = true := rfl
theorem num5_sz (a : N5) : (numT a).sz = 5 := rfl
theorem num5_agg (a : N5) : (numT a).isAgg = true := rfl
attribute [local go_sem] num5_plain num5_sz num5_agg
def fromN5 (b : List Nat) : N5 := settled (n5of (fromW b 32))
theorem i64_eight {i : Nat} (h : i < 32) : IntKind.i64.wrap (8 * (i : Int)) = ((8 * i : Nat) : Int) := by rw [IntWalk.i64_in _ (by omega)]; omega
theorem pow_le51 {q : Nat} (h : q ≤ 51) : 2 ^ q ≤ 2251799813685248 := Nat.pow_le_pow_right (n := 2) (by decide) h
theorem fromW_len (b : List Nat) : ∀ i, (fromW b i).length = 5
  | 0 => rfl
  | i + 1 => by
    rw [fromW]
    unfold putW
    dsimp only
    split <;> simp only [List.length_set, fromW_len b i]

theorem fromP (b : List Nat) (hl : b.length = 32) (hb : ∀ x ∈ b, x < 256) : FS Try.prog 58 [.arr 32 (bA (b))] (.ret [numT (fromN5 b)] [none]) := by
  refine FS_of_SW (kb := [false]) (st0 := ?st) Try.func58 rfl rfl ?he ?_
  case he =>
    simp only [entrySt, unfs, unf, A.noown, noowns, nA_noowns, bA_noowns, Option.map_some, if_true, reduceIte, List.nil_append, List.append_nil]
    rfl
  refine SW.weak (Weak.of [] (sls := [(0, .arr 32 (bA (b)))]) (bks := []) (ep := 64) (by rfl) (by repeat' (first | exact rfl | exact trivial | refine And.intro ?_ ?_)) trivial) ?_
  repeat' (first
    | apply_assumption -exfalso -symm (transparency := .reducible) only [*]
    | with_reducible refine SW.stopI 2 ?_
    | (with_reducible refine And.intro ?_ ?_)
    | (refine drawIt ?_; kernel_rfl)
    | ((with_reducible refine opsF_id ?_); simp -implicitDefEqProofs only [go_sem])
    | ((with_reducible refine SW.id ?_); first | with_reducible refine SW.seqK fun K hK => ?_ | with_reducible refine SW.block ?_ | with_reducible refine SW.scope ?_ | ((first | with_reducible refine SW.skip ?_ | with_reducible refine SW.exit ?_ | with_reducible refine SW.label ?_ | with_reducible refine SW.ret ?_ | with_reducible refine SW.go MR ?_ | refine SW.goDrawF MR (by rfl) (by kernel_rfl) ?_); simp -implicitDefEqProofs only [go_sem]) | (refine SW.cond (by simp -implicitDefEqProofs only [go_sem]; rfl) (fun ht => ?_) (fun ht => ?_) <;> (try with_reducible contradiction))))
  refine Stop.go ?_
  refine SW.cutS (γ := Unit) (fun _ => St.of [(2, .ptr 2 []), (3, .ptr 3 [])] [(2, .var (numT ⟨0, 0, 0, 0, 0⟩)), (3, .var (.arr 5 (nA .u64 (fromW b 32))))] 64) (fun K hK => ?_) fun _ => ?_
  · repeat' (first
      | apply_assumption -exfalso -symm (transparency := .reducible) only [*]
      | (with_reducible refine And.intro ?_ ?_)
      | (refine drawIt ?_; kernel_rfl)
      | ((with_reducible refine opsF_id ?_); simp -implicitDefEqProofs only [go_sem])
      | ((with_reducible refine SW.id ?_); first | with_reducible refine SW.seqK fun K hK => ?_ | with_reducible refine SW.block ?_ | with_reducible refine SW.scope ?_ | ((first | with_reducible refine SW.skip ?_ | with_reducible refine SW.exit ?_ | with_reducible refine SW.label ?_ | with_reducible refine SW.ret ?_ | with_reducible refine SW.go MR ?_ | refine SW.goDrawF MR (by rfl) (by kernel_rfl) ?_); simp -implicitDefEqProofs only [go_sem]) | (refine SW.cond (by simp -implicitDefEqProofs only [go_sem]; rfl) (fun ht => ?_) (fun ht => ?_) <;> (try with_reducible contradiction))))
    refine SW.loop (α := { i : Nat // i ≤ 32 }) (fun i => St.of [(1, .ptr 1 []), (2, .ptr 2 []), (3, .ptr 3 []), (9, .v (.int .i64 ((i.1 : Nat) : Int)))] [(1, .var (.arr 32 (bA (b)))), (2, .var (numT ⟨0, 0, 0, 0, 0⟩)), (3, .var (.arr 5 (nA .u64 (fromW b i.1))))] 64) (fun i => 32 - i.1) ⟨0, by omega⟩
      (Weak.of [(64, 1), (128, 2), (192, 3)] (by rfl) ?_ ?_) fun ⟨i, hi⟩ => ?_
    · simp -implicitDefEqProofs only [go_sem]
      all_goals (repeat' (first | exact rfl | exact trivial | refine And.intro ?_ ?_))
    · simp -implicitDefEqProofs only [go_sem]
      all_goals (repeat' (first | exact rfl | exact trivial | refine And.intro ?_ ?_))
    · rcases Nat.lt_or_eq_of_le hi with h4 | rfl
      · have hc := eq_true (show (i : Int) < 32 by omega)
        have h5 := i64_up (a := i) (by omega)
        have h6 := i64_eight h4
        obtain ⟨p, hp⟩ : ∃ p, 8 * i / 51 = p := ⟨_, rfl⟩
        obtain ⟨q, hq⟩ : ∃ q, 8 * i % 51 = q := ⟨_, rfl⟩
        have h7 : IntKind.i64.wrap (((8 * i : Nat) : Int).tdiv 51) = (p : Int) := by rw [show ((8 * i : Nat) : Int).tdiv 51 = ((8 * i / 51 : Nat) : Int) from rfl, hp]; exact i64_same (by omega)
        have h8 : ((8 * i : Nat) : Int).tmod 51 = (q : Int) := by rw [show ((8 * i : Nat) : Int).tmod 51 = ((8 * i % 51 : Nat) : Int) from rfl, hq]
        have hp5 : p < 5 := by omega
        have hq5 : q < 51 := by omega
        have h9 : IntKind.i64.wrap ((p : Int) + 1) = ((p + 1 : Nat) : Int) := i64_up (by omega)
        have h10 : IntKind.i64.wrap (51 - (q : Int)) = ((51 - q : Nat) : Int) := by rw [IntWalk.i64_in _ (by omega)]; omega
        have g2 := bA_getD (l := b) (i := i) (by omega)
        have s2 := eq_true (szAt_bA (l := b) (i := i) (by omega))
        have bl := getD_lt (by decide) hb i
        have xl := byteAt_lt hb i
        have hby : byteAt b i = if i = 31 then b.getD i 0 % 128 else b.getD i 0 := rfl
        have hnext : fromW b (i + 1) = putW (fromW b i) i (byteAt b i) := rfl
        have lw := fromW_len b i
        have hwlt : ∀ z ∈ fromW b i, z < 2251799813685248 := by
          rw [fromW_eq hb i (by omega)]
          have := lowI_lt hb i
          have h31 : 256 ^ i ≤ 256 ^ 31 := Nat.pow_le_pow_right (by decide) (by omega)
          intro z hz
          simp only [w5, List.mem_cons, List.not_mem_nil, or_false] at hz
          omega
        obtain ⟨y, hy⟩ : ∃ y, b.getD i 0 = y := ⟨_, rfl⟩
        obtain ⟨x, hx⟩ : ∃ x, byteAt b i = x := ⟨_, rfl⟩
        rw [hy] at g2 bl hby
        rw [hx] at xl hby hnext
        unfold putW at hnext
        rw [hp, hq] at hnext
        dsimp only at hnext ⊢
        generalize fromW b i = w at *
        obtain ⟨w', hw'⟩ : ∃ w', fromW b (i + 1) = w' := ⟨_, rfl⟩
        rw [hw'] at hnext
        have g1 := nA_getD (k := .u64) (l := w) (i := p) (by omega)
        have s1 := eq_true (nA_szAt (k := .u64) (l := w) (i := p) (by omega))
        have wl := getD_lt (by decide) hwlt p
        obtain ⟨a, ha⟩ : ∃ a, w.getD p 0 = a := ⟨_, rfl⟩
        rw [ha] at g1 wl hnext
        have hpow := pow_le51 (Nat.le_of_lt hq5)
        have hxp : x * 2 ^ q ≤ 255 * 2251799813685248 := Nat.mul_le_mul (by omega) hpow
        have e1 : IntKind.u64.wrap (y : Int) = (y : Int) := by rw [uwrap]; omega
        have e2 : iand .u64 (y : Int) 127 = ((y % 128 : Nat) : Int) := and_mask y 7 (by omega) (by decide)
        have e3 : ishl .u64 (x : Int) (q : Int) = ((x * 2 ^ q : Nat) : Int) := by rw [ishl_nat x q (by omega), Nat.mod_eq_of_lt (by omega)]
        have e4 := and51 (x * 2 ^ q) (by omega)
        have e5 : ior .u64 (a : Int) ((x * 2 ^ q % 2251799813685248 : Nat) : Int) = ((a ||| x * 2 ^ q % 2251799813685248 : Nat) : Int) := ior_nat (by omega) (by omega)
        obtain ⟨v, hv⟩ : ∃ v, w.set p (a ||| x * 2 ^ q % 2251799813685248) = v := ⟨_, rfl⟩
        have lv : v.length = 5 := by rw [← hv, List.length_set, lw]
        rw [hv] at hnext
        have e6 := shr_u64 x (51 - q) (by omega)
        have e7 : ior .u64 ((v.getD (p + 1) 0 : Nat) : Int) ((x / 2 ^ (51 - q) : Nat) : Int) = ((v.getD (p + 1) 0 ||| x / 2 ^ (51 - q) : Nat) : Int) := by
          refine ior_nat ?_ (by have := Nat.div_le_self x (2 ^ (51 - q)); omega)
          rw [← hv, List.getD_eq_getElem?_getD, List.getElem?_set_ne (by omega), ← List.getD_eq_getElem?_getD]
          have := getD_lt (by decide) hwlt (p + 1)
          omega
        have cast31 (n : Nat) (h : n = x) : (n : Int) = (x : Int) := by rw [h]
        have fin : ∀ (c : Bool), (43 < q ∧ p + 1 < 5) = (c = true) → w' = bif c then v.set (p + 1) (v.getD (p + 1) 0 ||| x / 2 ^ (51 - q)) else v := by
          intro c hc
          rw [hnext]
          cases c
          · rw [if_neg (by rw [hc]; decide)]; rfl
          · rw [if_pos (by rw [hc])]; rfl
        clear hnext
        by_cases h31 : i = 31
        · have hc2 := eq_true (show (i : Int) = 31 by omega)
          rw [if_pos h31] at hby
          have e2' : iand .u64 (y : Int) 127 = (x : Int) := by rw [e2, hby]
          have hk1 := eq_true (show (q : Int) > 43 by omega)
          have hk2 := eq_false (show ¬ ((p + 1 : Nat) : Int) < 5 by omega)
          have k2 : ¬ p + 1 < 5 := by omega
          have hw := fin false (by simp [k2])
          dsimp only [cond] at hw
          repeat' (first
            | apply_assumption -exfalso -symm (transparency := .reducible) only [*]
            | (with_reducible refine And.intro ?_ ?_)
            | (refine drawIt ?_; kernel_rfl)
            | ((with_reducible refine opsF_id ?_); simp -implicitDefEqProofs only [go_sem, hc, hc2, h5, h6, h7, h8, h9, h10, g1, g2, s1, s2, e1, e2', e3, e4, e5, e6, e7, hv, hk1, hk2])
            | ((with_reducible refine SW.id ?_); first | with_reducible refine SW.seqK fun K hK => ?_ | with_reducible refine SW.block ?_ | with_reducible refine SW.scope ?_ | ((first | with_reducible refine SW.skip ?_ | with_reducible refine SW.exit ?_ | with_reducible refine SW.label ?_ | with_reducible refine SW.ret ?_ | with_reducible refine SW.go MR ?_ | refine SW.goDrawF MR (by rfl) (by kernel_rfl) ?_); simp -implicitDefEqProofs only [go_sem, hc, hc2, h5, h6, h7, h8, h9, h10, g1, g2, s1, s2, e1, e2', e3, e4, e5, e6, e7, hv, hk1, hk2]) | (refine SW.cond (by simp -implicitDefEqProofs only [go_sem, hc, hc2, h5, h6, h7, h8, h9, h10, g1, g2, s1, s2, e1, e2', e3, e4, e5, e6, e7, hv, hk1, hk2]; rfl) (fun ht => ?_) (fun ht => ?_) <;> (try simp only [decide_eq_true_eq, decide_eq_false_iff_not, beq_iff_eq, bne_iff_ne, beq_eq_false_iff_ne, bne_eq_false_iff_eq, Bool.or_eq_true, Bool.and_eq_true, Bool.or_eq_false_iff, Bool.and_eq_false_imp, Bool.not_eq_true, Bool.not_eq_false, Bool.not_true, Bool.not_false, Bool.not_eq_true', Bool.not_eq_false', Bool.or_false, Bool.false_or, Bool.or_true, Bool.true_or, Bool.and_true, Bool.true_and, reduceCtorEq] at ht) <;> (try with_reducible contradiction)))
            | ((with_reducible refine guardSplit (fun hg => ?_) (fun hg => ?_)) <;> (try simp only [Bool.not_true, Bool.not_false] at hg) <;> (have hc := hg) <;> simp -implicitDefEqProofs only [go_sem, hg, hc, hc2, h5, h6, h7, h8, h9, h10, g1, g2, s1, s2, e1, e2', e3, e4, e5, e6, e7, hv, hk1, hk2] <;> (try simp only [decide_eq_true_eq, decide_eq_false_iff_not, beq_iff_eq, bne_iff_ne, beq_eq_false_iff_ne, bne_eq_false_iff_eq, Bool.or_eq_true, Bool.and_eq_true, Bool.or_eq_false_iff, Bool.and_eq_false_imp, Bool.not_eq_true, Bool.not_eq_false, Bool.not_true, Bool.not_false, Bool.not_eq_true', Bool.not_eq_false', Bool.or_false, Bool.false_or, Bool.or_true, Bool.true_or, Bool.and_true, Bool.true_and, reduceCtorEq] at hc) <;> (try with_reducible contradiction)))
          all_goals first | omega | skip
          refine ⟨⟨i + 1, by omega⟩, Weak.of [(1, 1), (2, 2), (3, 3)] (by rfl) ?_ ?_, by dsimp only; omega⟩
          · simp -implicitDefEqProofs only [go_sem]
            all_goals (repeat' (first | exact rfl | exact trivial | refine And.intro ?_ ?_))
          · dsimp only
            rw [hw', hw]
            simp -implicitDefEqProofs only [go_sem]
            all_goals (repeat' (first | exact rfl | exact trivial | refine And.intro ?_ ?_))
        · have hc2 := eq_false (show ¬ (i : Int) = 31 by omega)
          rw [if_neg h31] at hby
          subst hby
          by_cases k1 : 43 < q
          · have hk1 := eq_true (show (q : Int) > 43 by omega)
            by_cases k2 : p + 1 < 5
            · have hk2 := eq_true (show ((p + 1 : Nat) : Int) < 5 by omega)
              have hw := fin true (by simp [k1, k2])
              dsimp only [cond] at hw
              have g3 := nA_getD (k := .u64) (l := v) (i := p + 1) (by omega)
              have s3 := eq_true (nA_szAt (k := .u64) (l := v) (i := p + 1) (by omega))
              repeat' (first
                | apply_assumption -exfalso -symm (transparency := .reducible) only [*]
                | (with_reducible refine And.intro ?_ ?_)
                | (refine drawIt ?_; kernel_rfl)
                | ((with_reducible refine opsF_id ?_); simp -implicitDefEqProofs only [go_sem, hc, hc2, h5, h6, h7, h8, h9, h10, g1, g2, g3, s1, s2, s3, e1, e3, e4, e5, e6, e7, hv, hk1, hk2])
                | ((with_reducible refine SW.id ?_); first | with_reducible refine SW.seqK fun K hK => ?_ | with_reducible refine SW.block ?_ | with_reducible refine SW.scope ?_ | ((first | with_reducible refine SW.skip ?_ | with_reducible refine SW.exit ?_ | with_reducible refine SW.label ?_ | with_reducible refine SW.ret ?_ | with_reducible refine SW.go MR ?_ | refine SW.goDrawF MR (by rfl) (by kernel_rfl) ?_); simp -implicitDefEqProofs only [go_sem, hc, hc2, h5, h6, h7, h8, h9, h10, g1, g2, g3, s1, s2, s3, e1, e3, e4, e5, e6, e7, hv, hk1, hk2]) | (refine SW.cond (by simp -implicitDefEqProofs only [go_sem, hc, hc2, h5, h6, h7, h8, h9, h10, g1, g2, g3, s1, s2, s3, e1, e3, e4, e5, e6, e7, hv, hk1, hk2]; rfl) (fun ht => ?_) (fun ht => ?_) <;> (try simp only [decide_eq_true_eq, decide_eq_false_iff_not, beq_iff_eq, bne_iff_ne, beq_eq_false_iff_ne, bne_eq_false_iff_eq, Bool.or_eq_true, Bool.and_eq_true, Bool.or_eq_false_iff, Bool.and_eq_false_imp, Bool.not_eq_true, Bool.not_eq_false, Bool.not_true, Bool.not_false, Bool.not_eq_true', Bool.not_eq_false', Bool.or_false, Bool.false_or, Bool.or_true, Bool.true_or, Bool.and_true, Bool.true_and, reduceCtorEq] at ht) <;> (try with_reducible contradiction)))
                | ((with_reducible refine guardSplit (fun hg => ?_) (fun hg => ?_)) <;> (try simp only [Bool.not_true, Bool.not_false] at hg) <;> (have hc := hg) <;> simp -implicitDefEqProofs only [go_sem, hg, hc, hc2, h5, h6, h7, h8, h9, h10, g1, g2, g3, s1, s2, s3, e1, e3, e4, e5, e6, e7, hv, hk1, hk2] <;> (try simp only [decide_eq_true_eq, decide_eq_false_iff_not, beq_iff_eq, bne_iff_ne, beq_eq_false_iff_ne, bne_eq_false_iff_eq, Bool.or_eq_true, Bool.and_eq_true, Bool.or_eq_false_iff, Bool.and_eq_false_imp, Bool.not_eq_true, Bool.not_eq_false, Bool.not_true, Bool.not_false, Bool.not_eq_true', Bool.not_eq_false', Bool.or_false, Bool.false_or, Bool.or_true, Bool.true_or, Bool.and_true, Bool.true_and, reduceCtorEq] at hc) <;> (try with_reducible contradiction)))
              all_goals first | omega | skip
              refine ⟨⟨i + 1, by omega⟩, Weak.of [(1, 1), (2, 2), (3, 3)] (by rfl) ?_ ?_, by dsimp only; omega⟩
              · simp -implicitDefEqProofs only [go_sem]
                all_goals (repeat' (first | exact rfl | exact trivial | refine And.intro ?_ ?_))
              · dsimp only
                rw [hw', hw]
                simp -implicitDefEqProofs only [go_sem]
                all_goals (repeat' (first | exact rfl | exact trivial | refine And.intro ?_ ?_))
            · exfalso; omega
          · have hk1 := eq_false (show ¬ (q : Int) > 43 by omega)
            have hw := fin false (by simp [k1])
            dsimp only [cond] at hw
            repeat' (first
              | apply_assumption -exfalso -symm (transparency := .reducible) only [*]
              | (with_reducible refine And.intro ?_ ?_)
              | (refine drawIt ?_; kernel_rfl)
              | ((with_reducible refine opsF_id ?_); simp -implicitDefEqProofs only [go_sem, hc, hc2, h5, h6, h7, h8, h9, h10, g1, g2, s1, s2, e1, e3, e4, e5, e6, e7, hv, hk1])
              | ((with_reducible refine SW.id ?_); first | with_reducible refine SW.seqK fun K hK => ?_ | with_reducible refine SW.block ?_ | with_reducible refine SW.scope ?_ | ((first | with_reducible refine SW.skip ?_ | with_reducible refine SW.exit ?_ | with_reducible refine SW.label ?_ | with_reducible refine SW.ret ?_ | with_reducible refine SW.go MR ?_ | refine SW.goDrawF MR (by rfl) (by kernel_rfl) ?_); simp -implicitDefEqProofs only [go_sem, hc, hc2, h5, h6, h7, h8, h9, h10, g1, g2, s1, s2, e1, e3, e4, e5, e6, e7, hv, hk1]) | (refine SW.cond (by simp -implicitDefEqProofs only [go_sem, hc, hc2, h5, h6, h7, h8, h9, h10, g1, g2, s1, s2, e1, e3, e4, e5, e6, e7, hv, hk1]; rfl) (fun ht => ?_) (fun ht => ?_) <;> (try simp only [decide_eq_true_eq, decide_eq_false_iff_not, beq_iff_eq, bne_iff_ne, beq_eq_false_iff_ne, bne_eq_false_iff_eq, Bool.or_eq_true, Bool.and_eq_true, Bool.or_eq_false_iff, Bool.and_eq_false_imp, Bool.not_eq_true, Bool.not_eq_false, Bool.not_true, Bool.not_false, Bool.not_eq_true', Bool.not_eq_false', Bool.or_false, Bool.false_or, Bool.or_true, Bool.true_or, Bool.and_true, Bool.true_and, reduceCtorEq] at ht) <;> (try with_reducible contradiction)))
              | ((with_reducible refine guardSplit (fun hg => ?_) (fun hg => ?_)) <;> (try simp only [Bool.not_true, Bool.not_false] at hg) <;> (have hc := hg) <;> simp -implicitDefEqProofs only [go_sem, hg, hc, hc2, h5, h6, h7, h8, h9, h10, g1, g2, s1, s2, e1, e3, e4, e5, e6, e7, hv, hk1] <;> (try simp only [decide_eq_true_eq, decide_eq_false_iff_not, beq_iff_eq, bne_iff_ne, beq_eq_false_iff_ne, bne_eq_false_iff_eq, Bool.or_eq_true, Bool.and_eq_true, Bool.or_eq_false_iff, Bool.and_eq_false_imp, Bool.not_eq_true, Bool.not_eq_false, Bool.not_true, Bool.not_false, Bool.not_eq_true', Bool.not_eq_false', Bool.or_false, Bool.false_or, Bool.or_true, Bool.true_or, Bool.and_true, Bool.true_and, reduceCtorEq] at hc) <;> (try with_reducible contradiction)))
            all_goals first | omega | skip
            refine ⟨⟨i + 1, by omega⟩, Weak.of [(1, 1), (2, 2), (3, 3)] (by rfl) ?_ ?_, by dsimp only; omega⟩
            · simp -implicitDefEqProofs only [go_sem]
              all_goals (repeat' (first | exact rfl | exact trivial | refine And.intro ?_ ?_))
            · dsimp only
              rw [hw', hw]
              simp -implicitDefEqProofs only [go_sem]
              all_goals (repeat' (first | exact rfl | exact trivial | refine And.intro ?_ ?_))
      · have hc := eq_false (show ¬ ((32 : Nat) : Int) < 32 by omega)
        repeat' (first
          | apply_assumption -exfalso -symm (transparency := .reducible) only [*]
          | (with_reducible refine And.intro ?_ ?_)
          | (refine drawIt ?_; kernel_rfl)
          | ((with_reducible refine opsF_id ?_); simp -implicitDefEqProofs only [go_sem, hc])
          | ((with_reducible refine SW.id ?_); first | with_reducible refine SW.seqK fun K hK => ?_ | with_reducible refine SW.block ?_ | with_reducible refine SW.scope ?_ | ((first | with_reducible refine SW.skip ?_ | with_reducible refine SW.exit ?_ | with_reducible refine SW.label ?_ | with_reducible refine SW.ret ?_ | with_reducible refine SW.go MR ?_ | refine SW.goDrawF MR (by rfl) (by kernel_rfl) ?_); simp -implicitDefEqProofs only [go_sem, hc]) | (refine SW.cond (by simp -implicitDefEqProofs only [go_sem, hc]; rfl) (fun ht => ?_) (fun ht => ?_) <;> (try with_reducible contradiction))))
        refine ⟨(), Weak.of [(2, 2), (3, 3)] (by rfl) ?_ ?_⟩
        · simp -implicitDefEqProofs only [go_sem]
          all_goals (repeat' (first | exact rfl | exact trivial | refine And.intro ?_ ?_))
        · simp -implicitDefEqProofs only [go_sem]
          all_goals (repeat' (first | exact rfl | exact trivial | refine And.intro ?_ ?_))
  · have hW := fromW_eq hb 32 (Nat.le_refl _)
    have hV : lowI b 32 < 2 ^ 255 := by rw [lowI_all hl hb]; exact Nat.mod_lt _ (by decide)
    have hlt : ∀ z ∈ fromW b 32, z < 2251799813685248 := by
      rw [hW]
      generalize lowI b 32 = V at *
      intro z hz
      simp only [w5, List.mem_cons, List.not_mem_nil, or_false] at hz
      omega
    have hlen := fromW_len b 32
    unfold fromN5
    clear hW hV
    generalize fromW b 32 = l at *
    match l, hlen with
    | [d0, d1, d2, d3, d4], _ =>
      have k0 := hlt d0 (by simp)
      have k1 := hlt d1 (by simp)
      have k2 := hlt d2 (by simp)
      have k3 := hlt d3 (by simp)
      have k4 := hlt d4 (by simp)
      have hs := settled_FS ⟨d0, d1, d2, d3, d4⟩ (by dsimp only; omega) (by dsimp only; omega) (by dsimp only; omega) (by dsimp only; omega) (by dsimp only; omega)
      dsimp only at hs
      have e : settled (n5of [d0, d1, d2, d3, d4]) = carried d0 d1 d2 d3 d4 := rfl
      rw [e]
      generalize carried d0 d1 d2 d3 d4 = r at *
      clear e hlt
      repeat' (first
        | apply_assumption -exfalso -symm (transparency := .reducible) only [*]
        | (with_reducible refine callEnd_of hs ?_ <;> (try simp -implicitDefEqProofs only [go_sem, nA_cons]))
        | (with_reducible refine And.intro ?_ ?_)
        | (refine drawIt ?_; kernel_rfl)
        | ((with_reducible refine opsF_id ?_); simp -implicitDefEqProofs only [go_sem, nA_cons])
        | ((with_reducible refine SW.id ?_); first | with_reducible refine SW.seqK fun K hK => ?_ | with_reducible refine SW.block ?_ | with_reducible refine SW.scope ?_ | ((first | with_reducible refine SW.skip ?_ | with_reducible refine SW.exit ?_ | with_reducible refine SW.label ?_ | with_reducible refine SW.ret ?_ | with_reducible refine SW.go MR ?_ | refine SW.goDrawF MR (by rfl) (by kernel_rfl) ?_); simp -implicitDefEqProofs only [go_sem, nA_cons]) | (refine SW.cond (by simp -implicitDefEqProofs only [go_sem, nA_cons]; rfl) (fun ht => ?_) (fun ht => ?_) <;> (try with_reducible contradiction))))

theorem carI_le {w : List Nat} (hw : ∀ z ∈ w, z < 4503599627370496) : ∀ i, carI w i ≤ 19
  | 0 => Nat.le_refl _
  | i + 1 => by
    have h1 := getD_lt (by decide) hw i
    have h2 := carI_le hw i
    rw [carI]
    omega
theorem propI_len (w : List Nat) : ∀ i, (propI w i).length = w.length
  | 0 => by simp only [propI, List.length_set]
  | i + 1 => by simp only [propI, List.length_set, propI_len w i]
theorem propI_lt {w : List Nat} (hw : ∀ z ∈ w, z < 4503599627370496) : ∀ i, i ≤ 8 → ∀ z ∈ propI w i, z < 4503599627370496 + 400 + 8 * i
  | 0, _, z, hz => by
    have h1 := getD_lt (by decide) hw 0
    have h2 := carI_le hw 5
    rw [propI] at hz
    rcases List.mem_or_eq_of_mem_set hz with h | h
    · have := hw z h; omega
    · omega
  | i + 1, hi, z, hz => by
    have h0 := propI_lt hw i (by omega)
    have h1 := getD_lt (by omega) h0 (i + 1)
    have h2 := getD_lt (by omega) h0 i
    rw [propI] at hz
    rcases List.mem_or_eq_of_mem_set hz with h | h
    · rcases List.mem_or_eq_of_mem_set h with h | h
      · have := h0 z h; omega
      · omega
    · omega

theorem leastP (a : N5) (ha : a.ok) : FS Try.prog 81 [numT a] (.ret [.arr 5 (nA .u64 (leastL a))] [none]) := by
  refine FS_of_SW (kb := [false]) Try.func81 rfl rfl (by rfl) ?_
  obtain ⟨h0, h1, h2, h3, h4⟩ := id ha
  have hs := settled_FS a (by omega) (by omega) (by omega) (by omega) (by omega)
  have hok : (settled a).ok := carried_ok (by omega) (by omega) (by omega) (by omega) (by omega)
  have hl : leastL a = (propI (n5L (settled a)) 4).set 4 ((propI (n5L (settled a)) 4).getD 4 0 % 2251799813685248) := rfl
  rw [hl]
  have he : carried a.w0 a.w1 a.w2 a.w3 a.w4 = settled a := rfl
  rw [he] at hs
  clear hl he
  have hs' : FS Try.prog 70 [.arr 5 (nA .u64 (n5L a))] (.ret [.agg [.arr 5 (nA .u64 (n5L (settled a)))]] [none]) := hs
  clear hs
  have hw : ∀ z ∈ n5L (settled a), z < 4503599627370496 := by
    obtain ⟨k0, k1, k2, k3, k4⟩ := hok
    intro z hz
    simp only [n5L, List.mem_cons, List.not_mem_nil, or_false] at hz
    omega
  have hwl : (n5L (settled a)).length = 5 := rfl
  clear hok h0 h1 h2 h3 h4
  refine SW.weak (Weak.of [] (sls := [(0, .agg [.arr 5 (nA .u64 (n5L a))])]) (bks := []) (ep := 64) (by rfl) (by all_goals (repeat' (first | exact rfl | exact trivial | refine And.intro ?_ ?_))) trivial) ?_
  generalize n5L (settled a) = w at *
  generalize n5L a = al at *
  have hcl := carI_le hw
  repeat' (first
    | apply_assumption -exfalso -symm (transparency := .reducible) only [*]
    | with_reducible refine SW.stopI 3 ?_
    | (with_reducible refine callEnd_of hs' ?_ <;> (try simp -implicitDefEqProofs only [go_sem]))
    | (with_reducible refine And.intro ?_ ?_)
    | (refine drawIt ?_; kernel_rfl)
    | ((with_reducible refine opsF_id ?_); simp -implicitDefEqProofs only [go_sem])
    | ((with_reducible refine SW.id ?_); first | with_reducible refine SW.seqK fun K hK => ?_ | with_reducible refine SW.block ?_ | with_reducible refine SW.scope ?_ | ((first | with_reducible refine SW.skip ?_ | with_reducible refine SW.exit ?_ | with_reducible refine SW.label ?_ | with_reducible refine SW.ret ?_ | with_reducible refine SW.go MR ?_ | refine SW.goDrawF MR (by rfl) (by kernel_rfl) ?_); simp -implicitDefEqProofs only [go_sem]) | (refine SW.cond (by simp -implicitDefEqProofs only [go_sem]; rfl) (fun ht => ?_) (fun ht => ?_) <;> (try with_reducible contradiction))))
  refine Stop.go ?_
  refine SW.cutS (γ := Unit) (fun _ => St.of [(2, .ptr 2 []), (3, .ptr 3 []), (4, .v (.int .u64 ((carI w 5 : Nat) : Int)))] [(2, .var (.arr 5 (nA .u64 [0, 0, 0, 0, 0]))), (3, .var (.arr 5 (nA .u64 w)))] 64) (fun K hK => ?_) fun _ => ?_
  · repeat' (first
      | apply_assumption -exfalso -symm (transparency := .reducible) only [*]
      | (with_reducible refine And.intro ?_ ?_)
      | (refine drawIt ?_; kernel_rfl)
      | ((with_reducible refine opsF_id ?_); simp -implicitDefEqProofs only [go_sem])
      | ((with_reducible refine SW.id ?_); first | with_reducible refine SW.seqK fun K hK => ?_ | with_reducible refine SW.block ?_ | with_reducible refine SW.scope ?_ | ((first | with_reducible refine SW.skip ?_ | with_reducible refine SW.exit ?_ | with_reducible refine SW.label ?_ | with_reducible refine SW.ret ?_ | with_reducible refine SW.go MR ?_ | refine SW.goDrawF MR (by rfl) (by kernel_rfl) ?_); simp -implicitDefEqProofs only [go_sem]) | (refine SW.cond (by simp -implicitDefEqProofs only [go_sem]; rfl) (fun ht => ?_) (fun ht => ?_) <;> (try with_reducible contradiction))))
    refine SW.loop (α := { i : Nat // i ≤ 5 }) (fun i => St.of [(2, .ptr 2 []), (3, .ptr 3 []), (4, .v (.int .u64 ((carI w i.1 : Nat) : Int))), (11, .v (.int .i64 ((i.1 : Nat) : Int)))] [(2, .var (.arr 5 (nA .u64 [0, 0, 0, 0, 0]))), (3, .var (.arr 5 (nA .u64 w)))] 64) (fun i => 5 - i.1) ⟨0, by omega⟩
      (Weak.of [(128, 2), (448, 3)] (by rfl) ?_ ?_) fun ⟨i, hi⟩ => ?_
    · simp -implicitDefEqProofs only [go_sem]
      all_goals (repeat' (first | exact rfl | exact trivial | refine And.intro ?_ ?_))
    · simp -implicitDefEqProofs only [go_sem]
      all_goals (repeat' (first | exact rfl | exact trivial | refine And.intro ?_ ?_))
    · rcases Nat.lt_or_eq_of_le hi with h4 | rfl
      · have hc := eq_true (show (i : Int) < 5 by omega)
        have h5 := i64_up (a := i) (by omega)
        have g1 := nA_getD (k := .u64) (l := w) (i := i) (by omega)
        have s1 := eq_true (nA_szAt (k := .u64) (l := w) (i := i) (by omega))
        have b1 := getD_lt (by decide) hw i
        have b2 := hcl i
        have hn : carI w (i + 1) = (w.getD i 0 + carI w i) / 2251799813685248 := rfl
        obtain ⟨x, hx⟩ : ∃ x, w.getD i 0 = x := ⟨_, rfl⟩
        obtain ⟨c, hc'⟩ : ∃ c, carI w i = c := ⟨_, rfl⟩
        rw [hx] at g1 b1 hn
        rw [hc'] at b2 hn
        have e1 : IntKind.u64.wrap ((x : Int) + (c : Int)) = ((x + c : Nat) : Int) := by rw [uwrap]; omega
        dsimp only
        rw [hc']
        repeat' (first
          | apply_assumption -exfalso -symm (transparency := .reducible) only [*]
          | (with_reducible refine And.intro ?_ ?_)
          | (refine drawIt ?_; kernel_rfl)
          | ((with_reducible refine opsF_id ?_); simp -implicitDefEqProofs only [go_sem, hc, h5, g1, s1, e1, shr51])
          | ((with_reducible refine SW.id ?_); first | with_reducible refine SW.seqK fun K hK => ?_ | with_reducible refine SW.block ?_ | with_reducible refine SW.scope ?_ | ((first | with_reducible refine SW.skip ?_ | with_reducible refine SW.exit ?_ | with_reducible refine SW.label ?_ | with_reducible refine SW.ret ?_ | with_reducible refine SW.go MR ?_ | refine SW.goDrawF MR (by rfl) (by kernel_rfl) ?_); simp -implicitDefEqProofs only [go_sem, hc, h5, g1, s1, e1, shr51]) | (refine SW.cond (by simp -implicitDefEqProofs only [go_sem, hc, h5, g1, s1, e1, shr51]; rfl) (fun ht => ?_) (fun ht => ?_) <;> (try with_reducible contradiction))))
        all_goals first | omega | skip
        refine ⟨⟨i + 1, by omega⟩, Weak.of [(2, 2), (3, 3)] (by rfl) ?_ ?_, by dsimp only; omega⟩
        · dsimp only
          rw [hn]
          simp -implicitDefEqProofs only [go_sem]
          all_goals (repeat' (first | exact rfl | exact trivial | refine And.intro ?_ ?_))
        · simp -implicitDefEqProofs only [go_sem]
          all_goals (repeat' (first | exact rfl | exact trivial | refine And.intro ?_ ?_))
      · have hc := eq_false (show ¬ ((5 : Nat) : Int) < 5 by omega)
        repeat' (first
          | apply_assumption -exfalso -symm (transparency := .reducible) only [*]
          | (with_reducible refine And.intro ?_ ?_)
          | (refine drawIt ?_; kernel_rfl)
          | ((with_reducible refine opsF_id ?_); simp -implicitDefEqProofs only [go_sem, hc])
          | ((with_reducible refine SW.id ?_); first | with_reducible refine SW.seqK fun K hK => ?_ | with_reducible refine SW.block ?_ | with_reducible refine SW.scope ?_ | ((first | with_reducible refine SW.skip ?_ | with_reducible refine SW.exit ?_ | with_reducible refine SW.label ?_ | with_reducible refine SW.ret ?_ | with_reducible refine SW.go MR ?_ | refine SW.goDrawF MR (by rfl) (by kernel_rfl) ?_); simp -implicitDefEqProofs only [go_sem, hc]) | (refine SW.cond (by simp -implicitDefEqProofs only [go_sem, hc]; rfl) (fun ht => ?_) (fun ht => ?_) <;> (try with_reducible contradiction))))
        refine ⟨(), Weak.of [(2, 2), (3, 3)] (by rfl) ?_ ?_⟩
        · simp -implicitDefEqProofs only [go_sem]
          all_goals (repeat' (first | exact rfl | exact trivial | refine And.intro ?_ ?_))
        · simp -implicitDefEqProofs only [go_sem]
          all_goals (repeat' (first | exact rfl | exact trivial | refine And.intro ?_ ?_))
  · have g1 := nA_getD (k := .u64) (l := w) (i := 0) (by omega)
    have s1 := eq_true (nA_szAt (k := .u64) (l := w) (i := 0) (by omega))
    have b1 := getD_lt (by decide) hw 0
    have b2 := hcl 5
    have hp0 : propI w 0 = w.set 0 (w.getD 0 0 + 19 * carI w 5) := rfl
    obtain ⟨x, hx⟩ : ∃ x, w.getD 0 0 = x := ⟨_, rfl⟩
    rw [hx] at g1 b1 hp0
    obtain ⟨c, hc'⟩ : ∃ c, carI w 5 = c := ⟨_, rfl⟩
    rw [hc'] at b2 hp0 ⊢
    have e1 : IntKind.u64.wrap ((x : Int) + IntKind.u64.wrap (19 * (c : Int))) = ((x + 19 * c : Nat) : Int) := by simp only [uwrap]; omega
    have hpl := propI_len w
    have hpw := propI_lt hw
    rw [hwl] at hpl
    clear hc'
    repeat' (first
      | apply_assumption -exfalso -symm (transparency := .reducible) only [*]
      | with_reducible refine SW.stopI 9 ?_
      | (with_reducible refine And.intro ?_ ?_)
      | (refine drawIt ?_; kernel_rfl)
      | ((with_reducible refine opsF_id ?_); simp -implicitDefEqProofs only [go_sem, g1, s1, e1, Int.reduceToNat])
      | ((with_reducible refine SW.id ?_); first | with_reducible refine SW.seqK fun K hK => ?_ | with_reducible refine SW.block ?_ | with_reducible refine SW.scope ?_ | ((first | with_reducible refine SW.skip ?_ | with_reducible refine SW.exit ?_ | with_reducible refine SW.label ?_ | with_reducible refine SW.ret ?_ | with_reducible refine SW.go MR ?_ | refine SW.goDrawF MR (by rfl) (by kernel_rfl) ?_); simp -implicitDefEqProofs only [go_sem, g1, s1, e1, Int.reduceToNat]) | (refine SW.cond (by simp -implicitDefEqProofs only [go_sem, g1, s1, e1, Int.reduceToNat]; rfl) (fun ht => ?_) (fun ht => ?_) <;> (try with_reducible contradiction))))
    all_goals first | omega | skip
    refine Stop.go ?_
    refine SW.cutS (γ := Unit) (fun _ => St.of [(2, .ptr 2 []), (3, .ptr 3 [])] [(2, .var (.arr 5 (nA .u64 [0, 0, 0, 0, 0]))), (3, .var (.arr 5 (nA .u64 (propI w 4))))] 64) (fun K hK => ?_) fun _ => ?_
    · repeat' (first
        | apply_assumption -exfalso -symm (transparency := .reducible) only [*]
        | (with_reducible refine And.intro ?_ ?_)
        | (refine drawIt ?_; kernel_rfl)
        | ((with_reducible refine opsF_id ?_); simp -implicitDefEqProofs only [go_sem])
        | ((with_reducible refine SW.id ?_); first | with_reducible refine SW.seqK fun K hK => ?_ | with_reducible refine SW.block ?_ | with_reducible refine SW.scope ?_ | ((first | with_reducible refine SW.skip ?_ | with_reducible refine SW.exit ?_ | with_reducible refine SW.label ?_ | with_reducible refine SW.ret ?_ | with_reducible refine SW.go MR ?_ | refine SW.goDrawF MR (by rfl) (by kernel_rfl) ?_); simp -implicitDefEqProofs only [go_sem]) | (refine SW.cond (by simp -implicitDefEqProofs only [go_sem]; rfl) (fun ht => ?_) (fun ht => ?_) <;> (try with_reducible contradiction))))
      refine SW.loop (α := { i : Nat // i ≤ 4 }) (fun i => St.of [(2, .ptr 2 []), (3, .ptr 3 []), (27, .v (.int .i64 ((i.1 : Nat) : Int)))] [(2, .var (.arr 5 (nA .u64 [0, 0, 0, 0, 0]))), (3, .var (.arr 5 (nA .u64 (propI w i.1))))] 64) (fun i => 4 - i.1) ⟨0, by omega⟩
        (Weak.of [(2, 2), (3, 3)] (by rfl) ?_ ?_) fun ⟨i, hi⟩ => ?_
      · simp -implicitDefEqProofs only [go_sem]
        all_goals (repeat' (first | exact rfl | exact trivial | refine And.intro ?_ ?_))
      · dsimp only
        rw [hp0]
        simp -implicitDefEqProofs only [go_sem]
        all_goals (repeat' (first | exact rfl | exact trivial | refine And.intro ?_ ?_))
      · rcases Nat.lt_or_eq_of_le hi with h4 | rfl
        · have hc := eq_true (show (i : Int) < 4 by omega)
          have h5 := i64_up (a := i) (by omega)
          have ul := hpl i
          have uw := hpw i (by omega)
          have hn : propI w (i + 1) = ((propI w i).set (i + 1) ((propI w i).getD (i + 1) 0 + (propI w i).getD i 0 / 2251799813685248)).set i ((propI w i).getD i 0 % 2251799813685248) := rfl
          dsimp only
          generalize propI w i = u at *
          obtain ⟨w', hw'⟩ : ∃ w', propI w (i + 1) = w' := ⟨_, rfl⟩
          rw [hw'] at hn
          have g2 := nA_getD (k := .u64) (l := u) (i := i) (by omega)
          have s2 := eq_true (nA_szAt (k := .u64) (l := u) (i := i) (by omega))
          have g3 := nA_getD (k := .u64) (l := u) (i := i + 1) (by omega)
          have s3 := eq_true (nA_szAt (k := .u64) (l := u) (i := i + 1) (by omega))
          have b3 := getD_lt (by omega) uw i
          have b4 := getD_lt (by omega) uw (i + 1)
          obtain ⟨y, hy⟩ : ∃ y, u.getD i 0 = y := ⟨_, rfl⟩
          obtain ⟨z, hz⟩ : ∃ z, u.getD (i + 1) 0 = z := ⟨_, rfl⟩
          rw [hy] at g2 b3 hn
          rw [hz] at g3 b4 hn
          have e2 : IntKind.u64.wrap ((z : Int) + ((y / 2251799813685248 : Nat) : Int)) = ((z + y / 2251799813685248 : Nat) : Int) := by rw [uwrap]; omega
          have g4 : (nA .u64 (u.set (i + 1) (z + y / 2251799813685248))).getD i .und = A.v (.int .u64 (y : Int)) := by
            rw [nA_getD (by rw [List.length_set]; omega), List.getD_eq_getElem?_getD, List.getElem?_set_ne (by omega), ← List.getD_eq_getElem?_getD, hy]
          have s4 := eq_true (nA_szAt (k := .u64) (l := u.set (i + 1) (z + y / 2251799813685248)) (i := i) (by rw [List.length_set]; omega))
          have e5 := and51 y (by omega)
          repeat' (first
            | apply_assumption -exfalso -symm (transparency := .reducible) only [*]
            | (with_reducible refine And.intro ?_ ?_)
            | (refine drawIt ?_; kernel_rfl)
            | ((with_reducible refine opsF_id ?_); simp -implicitDefEqProofs only [go_sem, hc, h5, g2, g3, g4, s2, s3, s4, e2, e5, shr51])
            | ((with_reducible refine SW.id ?_); first | with_reducible refine SW.seqK fun K hK => ?_ | with_reducible refine SW.block ?_ | with_reducible refine SW.scope ?_ | ((first | with_reducible refine SW.skip ?_ | with_reducible refine SW.exit ?_ | with_reducible refine SW.label ?_ | with_reducible refine SW.ret ?_ | with_reducible refine SW.go MR ?_ | refine SW.goDrawF MR (by rfl) (by kernel_rfl) ?_); simp -implicitDefEqProofs only [go_sem, hc, h5, g2, g3, g4, s2, s3, s4, e2, e5, shr51]) | (refine SW.cond (by simp -implicitDefEqProofs only [go_sem, hc, h5, g2, g3, g4, s2, s3, s4, e2, e5, shr51]; rfl) (fun ht => ?_) (fun ht => ?_) <;> (try with_reducible contradiction))))
          all_goals first | omega | skip
          refine ⟨⟨i + 1, by omega⟩, Weak.of [(2, 2), (3, 3)] (by rfl) ?_ ?_, by dsimp only; omega⟩
          · simp -implicitDefEqProofs only [go_sem]
            all_goals (repeat' (first | exact rfl | exact trivial | refine And.intro ?_ ?_))
          · dsimp only
            rw [hw', hn]
            simp -implicitDefEqProofs only [go_sem]
            all_goals (repeat' (first | exact rfl | exact trivial | refine And.intro ?_ ?_))
        · have hc := eq_false (show ¬ ((4 : Nat) : Int) < 4 by omega)
          repeat' (first
            | apply_assumption -exfalso -symm (transparency := .reducible) only [*]
            | (with_reducible refine And.intro ?_ ?_)
            | (refine drawIt ?_; kernel_rfl)
            | ((with_reducible refine opsF_id ?_); simp -implicitDefEqProofs only [go_sem, hc])
            | ((with_reducible refine SW.id ?_); first | with_reducible refine SW.seqK fun K hK => ?_ | with_reducible refine SW.block ?_ | with_reducible refine SW.scope ?_ | ((first | with_reducible refine SW.skip ?_ | with_reducible refine SW.exit ?_ | with_reducible refine SW.label ?_ | with_reducible refine SW.ret ?_ | with_reducible refine SW.go MR ?_ | refine SW.goDrawF MR (by rfl) (by kernel_rfl) ?_); simp -implicitDefEqProofs only [go_sem, hc]) | (refine SW.cond (by simp -implicitDefEqProofs only [go_sem, hc]; rfl) (fun ht => ?_) (fun ht => ?_) <;> (try with_reducible contradiction))))
          refine ⟨(), Weak.of [(2, 2), (3, 3)] (by rfl) ?_ ?_⟩
          · simp -implicitDefEqProofs only [go_sem]
            all_goals (repeat' (first | exact rfl | exact trivial | refine And.intro ?_ ?_))
          · simp -implicitDefEqProofs only [go_sem]
            all_goals (repeat' (first | exact rfl | exact trivial | refine And.intro ?_ ?_))
    · have ul := hpl 4
      have uw := hpw 4 (by omega)
      clear hp0
      generalize propI w 4 = u at *
      have g2 := nA_getD (k := .u64) (l := u) (i := 4) (by omega)
      have s2 := eq_true (nA_szAt (k := .u64) (l := u) (i := 4) (by omega))
      have b3 := getD_lt (by omega) uw 4
      obtain ⟨y, hy⟩ : ∃ y, u.getD 4 0 = y := ⟨_, rfl⟩
      rw [hy] at g2 b3 ⊢
      have e5 := and51 y (by omega)
      repeat' (first
        | apply_assumption -exfalso -symm (transparency := .reducible) only [*]
        | (with_reducible refine And.intro ?_ ?_)
        | (refine drawIt ?_; kernel_rfl)
        | ((with_reducible refine opsF_id ?_); simp -implicitDefEqProofs only [go_sem, g2, s2, e5, Int.reduceToNat])
        | ((with_reducible refine SW.id ?_); first | with_reducible refine SW.seqK fun K hK => ?_ | with_reducible refine SW.block ?_ | with_reducible refine SW.scope ?_ | ((first | with_reducible refine SW.skip ?_ | with_reducible refine SW.exit ?_ | with_reducible refine SW.label ?_ | with_reducible refine SW.ret ?_ | with_reducible refine SW.go MR ?_ | refine SW.goDrawF MR (by rfl) (by kernel_rfl) ?_); simp -implicitDefEqProofs only [go_sem, g2, s2, e5, Int.reduceToNat]) | (refine SW.cond (by simp -implicitDefEqProofs only [go_sem, g2, s2, e5, Int.reduceToNat]; rfl) (fun ht => ?_) (fun ht => ?_) <;> (try with_reducible contradiction))))
      all_goals first | omega | skip
end Go.PA
