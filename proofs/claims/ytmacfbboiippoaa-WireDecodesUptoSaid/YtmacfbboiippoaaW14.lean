/- WireBack: a number that was put is read; no number's bytes begin another's. -/
import Derived.Test.YtmacfbboiippoaaW11
import Derived.Test.YtmacfbboiippoaaW12
namespace Go.PA
open Go.Proofs
set_option linter.unusedSimpArgs false
set_option linter.unusedVariables false
set_option maxRecDepth 100000
set_option maxHeartbeats 4000000
attribute [local go_sem] MM

/-- What was put is read, whatever stands behind. -/
theorem rd_enc : ∀ (k : Nat) (f : Bool) (n : Nat) (t : List Nat), n < 2 * 128 ^ k → (f = false → 0 < n) → rd (k + 1) f (enc k n ++ t) = .ok (n, (enc k n).length)
  | 0, f, n, t, h, hf => by
    have hn : n % 256 = n := Nat.mod_eq_of_lt (by omega)
    simp only [enc, List.cons_append, List.nil_append, rd, hn]
    rw [if_neg, if_pos (by omega)]
    · rfl
    · rintro (h1 | ⟨h1, h2⟩)
      · omega
      · have := hf h1; omega
  | k + 1, f, n, t, h, hf => by
    simp only [enc]
    split
    · rename_i hn
      simp only [List.cons_append, List.nil_append, rd]
      rw [if_neg, if_pos hn]
      · rfl
      · rintro (h1 | ⟨h1, h2⟩)
        · omega
        · have := hf h1; omega
    · rename_i hn
      rw [Nat.pow_succ] at h
      have ih := rd_enc k false (n / 128) t (by omega) (by omega)
      simp only [List.cons_append, List.nil_append, rd]
      rw [if_neg (by omega), if_neg (by omega), ih]
      simp only [List.length_cons, Except.ok.injEq, Prod.mk.injEq, and_true]
      omega

theorem rd_put (n : Nat) (hn : n < 2 ^ 64) (t : List Nat) : rd 10 true (enc 9 n ++ t) = .ok (n, (enc 9 n).length) := rd_enc 9 true n t (by omega) (by simp)

theorem numP_put (a : List Nat) (n : Nat) (hn : n < 2 ^ 64) (t : List Nat) : numP (a ++ (enc 9 n ++ t)) (a.length : Int) = (n, a.length + (enc 9 n).length, 0) := by
  rw [numP, if_neg (by simp; omega), Int.toNat_natCast, List.drop_left, rd_put n hn]
  simp [comb]

theorem enc_pos (k n : Nat) : 1 ≤ (enc k n).length := by
  cases k with
  | zero => simp [enc]
  | succ k =>
    simp only [enc]
    split <;> simp

/-- No number's bytes begin another's. -/
theorem enc_begins (n m : Nat) (hn : n < 2 ^ 64) (hm : m < 2 ^ 64) (h1 : (enc 9 n).length ≤ (enc 9 m).length) (h2 : (enc 9 n).take (enc 9 n).length = (enc 9 m).take (enc 9 n).length) : n = m := by
  rw [List.take_length] at h2
  have h3 := rd_put m hm []
  rw [List.append_nil, ← List.take_append_drop (enc 9 n).length (enc 9 m), ← h2, rd_put n hn] at h3
  injection h3 with h3
  injection h3

theorem nat_beq (a b : Nat) : ((a : Int) == (b : Int)) = decide (a = b) := by
  by_cases h : a = b
  · simp [h]
  · have : ((a : Int) == (b : Int)) = false := by simp; omega
    simp [h, this]

theorem put_nilT (n : Nat) (hn : n < 2 ^ 64) : FS Try.prog 16 [.sl true [], .v (.int .u64 n)] (.ret [.osl 1 (bA (enc 9 n))] [none, none]) := put_nil n hn

theorem back_FS (n m : Nat) (a : List Nat) (hn : n < 2 ^ 64) (hm : m < 2 ^ 64) (ha : a.length < 2 ^ 30) : FS Try.prog 6 [.v (.int .u64 n), .v (.int .u64 m), .sl true (bA a)] (.ret [.v (.bool true)] [none, none, none]) := by
  have hl := enc_length 9 n
  have hl2 := enc_pos 9 n
  have hl3 := enc_length 9 m
  refine FS_of_SW (kb := [false, false, false]) Try.func6 rfl rfl (by rfl) ?_
  refine SW.weak (Weak.of [] (sls := [(0, .v (.int .u64 n)), (1, .v (.int .u64 m)), (2, .sl true (bA a))]) (bks := []) (ep := 64) (by rfl) ⟨rfl, rfl, rfl, trivial⟩ trivial) ?_
  have hnum := number_FS false (a ++ enc 9 n) a.length (by rw [List.length_append]; omega)
  have hp := numP_put a n hn []
  rw [List.append_nil] at hp
  rw [hp] at hnum
  have hput := put_FS false a n hn (by omega)
  have hbl : (a ++ enc 9 n).length = a.length + (enc 9 n).length := List.length_append
  have hbg : ∀ i, i < a.length → (a ++ enc 9 n).getD i 0 = a.getD i 0 := fun i h => getD_app_left h
  rw [← hbl] at hnum
  generalize a ++ enc 9 n = b at *
  simp only [numA] at hnum
  have hw : IntKind.i64.wrap ((b.length : Int) - (a.length : Int)) = ((enc 9 n).length : Int) := by rw [IntWalk.i64_in _ (by omega)]; omega
  have e : ∀ x : Int, (x == x) = true := fun x => by simp
  have e2 : ∀ x : Int, (x != x) = false := fun x => by simp
  have e3 : decide (((enc 9 n).length : Int) < 1) = false := by simp; omega
  have e4 : decide (((enc 9 n).length : Int) > 10) = false := by simp; omega
  repeat' (first
    | apply_assumption -exfalso -symm (transparency := .reducible) only [*]
    | with_reducible refine SW.stopI 5 ?_
    | (refine ⟨_, _, hput, ?_⟩ <;> (try simp -implicitDefEqProofs only [go_sem, e, e2, e3, e4, hw]))
    | (refine ⟨_, _, hnum, ?_⟩ <;> (try simp -implicitDefEqProofs only [go_sem, e, e2, e3, e4, hw]))
    | (refine ⟨_, _, size_FS n hn, ?_⟩ <;> (try simp -implicitDefEqProofs only [go_sem, e, e2, e3, e4, hw]))
    | (with_reducible refine And.intro ?_ ?_)
    | (refine drawOf ?_; kernel_rfl)
    | ((with_reducible refine SW.id ?_); first | with_reducible refine SW.seqK fun K hK => ?_ | with_reducible refine SW.block ?_ | ((first | with_reducible refine SW.skip ?_ | with_reducible refine SW.exit ?_ | with_reducible refine SW.label ?_ | with_reducible refine SW.ret ?_ | with_reducible refine SW.go MM ?_ | refine SW.goDrawF MM (by rfl) (by kernel_rfl) ?_); simp -implicitDefEqProofs only [go_sem, e, e2, e3, e4, hw]) | (refine SW.cond (by simp -implicitDefEqProofs only [go_sem, e, e2, e3, e4, hw]; rfl) (fun ht => ?_) (fun ht => ?_) <;> (try simp only [decide_eq_true_eq, decide_eq_false_iff_not, beq_iff_eq, bne_iff_ne, beq_eq_false_iff_ne, bne_eq_false_iff_eq, Bool.or_eq_true, Bool.and_eq_true, Bool.or_eq_false_iff, Bool.and_eq_false_imp, Bool.not_eq_true, Bool.not_eq_false, Bool.not_true, Bool.not_false, Bool.not_eq_true', Bool.not_eq_false', Bool.or_false, Bool.false_or, Bool.or_true, Bool.true_or, Bool.and_true, Bool.true_and, reduceCtorEq] at ht) <;> (try contradiction)))
    | ((with_reducible refine guardSplit (fun hg => ?_) (fun hg => ?_)) <;> (try simp only [Bool.not_true, Bool.not_false] at hg) <;> (have hc := hg) <;> simp -implicitDefEqProofs only [go_sem, hg, e, e2, e3, e4, hw] <;> (try simp only [decide_eq_true_eq, decide_eq_false_iff_not, beq_iff_eq, bne_iff_ne, beq_eq_false_iff_ne, bne_eq_false_iff_eq, Bool.or_eq_true, Bool.and_eq_true, Bool.or_eq_false_iff, Bool.and_eq_false_imp, Bool.not_eq_true, Bool.not_eq_false, Bool.not_true, Bool.not_false, Bool.not_eq_true', Bool.not_eq_false', Bool.or_false, Bool.false_or, Bool.or_true, Bool.true_or, Bool.and_true, Bool.true_and, reduceCtorEq] at hc) <;> (try contradiction)))
  · exact roomy_of (by omega) (by decide)
  refine Stop.go (SW.cutS (γ := Unit) (fun _ => St.of [(0, .v (.int .u64 n)), (1, .v (.int .u64 m))] [] 64) (fun K hK => ?_) fun _ => ?_)
  · repeat' (first
      | apply_assumption -exfalso -symm (transparency := .reducible) only [*]
      | (with_reducible refine And.intro ?_ ?_)
      | (refine drawOf ?_; kernel_rfl)
      | ((with_reducible refine SW.id ?_); first | with_reducible refine SW.seqK fun K hK => ?_ | with_reducible refine SW.block ?_ | ((first | with_reducible refine SW.skip ?_ | with_reducible refine SW.exit ?_ | with_reducible refine SW.label ?_ | with_reducible refine SW.ret ?_ | with_reducible refine SW.go MM ?_ | refine SW.goDrawF MM (by rfl) (by kernel_rfl) ?_); simp -implicitDefEqProofs only [go_sem]) | (refine SW.cond (by simp -implicitDefEqProofs only [go_sem]; rfl) (fun ht => ?_) (fun ht => ?_) <;> (try simp only [decide_eq_true_eq, decide_eq_false_iff_not, beq_iff_eq, bne_iff_ne, beq_eq_false_iff_ne, bne_eq_false_iff_eq, Bool.or_eq_true, Bool.and_eq_true, Bool.or_eq_false_iff, Bool.and_eq_false_imp, Bool.not_eq_true, Bool.not_eq_false, Bool.not_true, Bool.not_false, Bool.not_eq_true', Bool.not_eq_false', Bool.or_false, Bool.false_or, Bool.or_true, Bool.true_or, Bool.and_true, Bool.true_and, reduceCtorEq] at ht) <;> (try contradiction)))
      | ((with_reducible refine guardSplit (fun hg => ?_) (fun hg => ?_)) <;> (try simp only [Bool.not_true, Bool.not_false] at hg) <;> (have hc := hg) <;> simp -implicitDefEqProofs only [go_sem, hg] <;> (try simp only [decide_eq_true_eq, decide_eq_false_iff_not, beq_iff_eq, bne_iff_ne, beq_eq_false_iff_ne, bne_eq_false_iff_eq, Bool.or_eq_true, Bool.and_eq_true, Bool.or_eq_false_iff, Bool.and_eq_false_imp, Bool.not_eq_true, Bool.not_eq_false, Bool.not_true, Bool.not_false, Bool.not_eq_true', Bool.not_eq_false', Bool.or_false, Bool.false_or, Bool.or_true, Bool.true_or, Bool.and_true, Bool.true_and, reduceCtorEq] at hc) <;> (try contradiction)))
    refine SW.loop (α := { i : Nat // i ≤ a.length }) (fun i => St.of [(0, .v (.int .u64 n)), (1, .v (.int .u64 m)), (2, .sl true (bA a)), (7, .ref 0 1 0 b.length false), (11, .v (.int .i64 i.1))] [(0, .row 1 (bA b))] 64) (fun i => a.length - i.1)
      ⟨0, by omega⟩ (Weak.of [(384, 0)] (by rfl) ?_ ?_) fun ⟨i, hi⟩ => ?_
    · simp -implicitDefEqProofs only [go_sem]
      rfl
    · simp -implicitDefEqProofs only [go_sem]
    · have h5 := i64_one (a := i) (by omega)
      have h6 := hbg i
      repeat' (first
        | apply_assumption -exfalso -symm (transparency := .reducible) only [*]
        | (with_reducible refine And.intro ?_ ?_)
        | (refine drawOf ?_; kernel_rfl)
        | ((with_reducible refine SW.id ?_); first | with_reducible refine SW.seqK fun K hK => ?_ | with_reducible refine SW.block ?_ | ((first | with_reducible refine SW.skip ?_ | with_reducible refine SW.exit ?_ | with_reducible refine SW.label ?_ | with_reducible refine SW.ret ?_ | with_reducible refine SW.go MM ?_ | refine SW.goDrawF MM (by rfl) (by kernel_rfl) ?_); simp -implicitDefEqProofs only [go_sem, h5]) | (refine SW.cond (by simp -implicitDefEqProofs only [go_sem, h5]; rfl) (fun ht => ?_) (fun ht => ?_) <;> (try simp only [decide_eq_true_eq, decide_eq_false_iff_not, beq_iff_eq, bne_iff_ne, beq_eq_false_iff_ne, bne_eq_false_iff_eq, Bool.or_eq_true, Bool.and_eq_true, Bool.or_eq_false_iff, Bool.and_eq_false_imp, Bool.not_eq_true, Bool.not_eq_false, Bool.not_true, Bool.not_false, Bool.not_eq_true', Bool.not_eq_false', Bool.or_false, Bool.false_or, Bool.or_true, Bool.true_or, Bool.and_true, Bool.true_and, reduceCtorEq] at ht) <;> (try contradiction)))
        | ((with_reducible refine guardSplit (fun hg => ?_) (fun hg => ?_)) <;> (try simp only [Bool.not_true, Bool.not_false] at hg) <;> (have hc := hg) <;> simp -implicitDefEqProofs only [go_sem, hg, h5] <;> (try simp only [decide_eq_true_eq, decide_eq_false_iff_not, beq_iff_eq, bne_iff_ne, beq_eq_false_iff_ne, bne_eq_false_iff_eq, Bool.or_eq_true, Bool.and_eq_true, Bool.or_eq_false_iff, Bool.and_eq_false_imp, Bool.not_eq_true, Bool.not_eq_false, Bool.not_true, Bool.not_false, Bool.not_eq_true', Bool.not_eq_false', Bool.or_false, Bool.false_or, Bool.or_true, Bool.true_or, Bool.and_true, Bool.true_and, reduceCtorEq] at hc) <;> (try contradiction)))
      all_goals try omega
      · refine ⟨⟨i + 1, by omega⟩, Weak.of [(0, 0)] (by rfl) ?_ ?_, by dsimp only; omega⟩
        · simp -implicitDefEqProofs only [go_sem, h5]
        · simp -implicitDefEqProofs only [go_sem]
      · refine ⟨(), Weak.of [] (by rfl) ?_ trivial⟩
        simp -implicitDefEqProofs only [go_sem]
  · have hxy := enc_begins n m hn hm
    have hself : n = m → enc 9 n = enc 9 m := fun h => by rw [h]
    repeat' (first
      | apply_assumption -exfalso -symm (transparency := .reducible) only [*]
      | with_reducible refine SW.stopI 12 ?_
      | (refine ⟨_, _, put_nil n hn, ?_⟩ <;> (try simp -implicitDefEqProofs only [go_sem]))
      | (refine ⟨_, _, put_nil m hm, ?_⟩ <;> (try simp -implicitDefEqProofs only [go_sem]))
      | (with_reducible refine And.intro ?_ ?_)
      | (refine drawOf ?_; kernel_rfl)
      | ((with_reducible refine SW.id ?_); first | with_reducible refine SW.seqK fun K hK => ?_ | with_reducible refine SW.block ?_ | ((first | with_reducible refine SW.skip ?_ | with_reducible refine SW.exit ?_ | with_reducible refine SW.label ?_ | with_reducible refine SW.ret ?_ | with_reducible refine SW.go MM ?_ | refine SW.goDrawF MM (by rfl) (by kernel_rfl) ?_); simp -implicitDefEqProofs only [go_sem]) | (refine SW.cond (by simp -implicitDefEqProofs only [go_sem]; rfl) (fun ht => ?_) (fun ht => ?_) <;> (try simp only [decide_eq_true_eq, decide_eq_false_iff_not, beq_iff_eq, bne_iff_ne, beq_eq_false_iff_ne, bne_eq_false_iff_eq, Bool.or_eq_true, Bool.and_eq_true, Bool.or_eq_false_iff, Bool.and_eq_false_imp, Bool.not_eq_true, Bool.not_eq_false, Bool.not_true, Bool.not_false, Bool.not_eq_true', Bool.not_eq_false', Bool.or_false, Bool.false_or, Bool.or_true, Bool.true_or, Bool.and_true, Bool.true_and, reduceCtorEq] at ht) <;> (try contradiction)))
      | ((with_reducible refine guardSplit (fun hg => ?_) (fun hg => ?_)) <;> (try simp only [Bool.not_true, Bool.not_false] at hg) <;> (have hc := hg) <;> simp -implicitDefEqProofs only [go_sem, hg] <;> (try simp only [decide_eq_true_eq, decide_eq_false_iff_not, beq_iff_eq, bne_iff_ne, beq_eq_false_iff_ne, bne_eq_false_iff_eq, Bool.or_eq_true, Bool.and_eq_true, Bool.or_eq_false_iff, Bool.and_eq_false_imp, Bool.not_eq_true, Bool.not_eq_false, Bool.not_true, Bool.not_false, Bool.not_eq_true', Bool.not_eq_false', Bool.or_false, Bool.false_or, Bool.or_true, Bool.true_or, Bool.and_true, Bool.true_and, reduceCtorEq] at hc) <;> (try contradiction)))
    generalize enc 9 n = x at *
    generalize enc 9 m = y at *
    have hfin : ∀ i, i ≤ x.length → i ≤ y.length → (¬ i < x.length ∨ ¬ i < y.length) → decide (x.length ≤ y.length ∧ x.take i = y.take i) = decide (n = m) := by
      intro i h1 h2 h3
      rw [decide_eq_decide]
      constructor
      · rintro ⟨h4, h5⟩
        have : i = x.length := by omega
        subst this
        exact hxy h4 h5
      · intro h
        rw [hself h]
        exact ⟨Nat.le_refl _, rfl⟩
    have hstep : ∀ i, i < x.length → i < y.length → (x.take (i + 1) = y.take (i + 1) ↔ x.take i = y.take i ∧ x.getD i 0 = y.getD i 0) := by
      intro i h1 h2
      constructor
      · intro h
        refine ⟨?_, ?_⟩
        · have := congrArg (List.take i) h
          rwa [List.take_take, List.take_take, show min i (i + 1) = i by omega] at this
        · have := congrArg (fun l => l.getD i 0) h
          simp only [List.getD_eq_getElem?_getD] at this ⊢
          rwa [List.getElem?_take_of_lt (by omega), List.getElem?_take_of_lt (by omega)] at this
      · rintro ⟨h3, h4⟩
        exact take_succ_eq h1 h2 h3 h4
    refine Stop.go (SW.cutS (γ := Unit) (fun _ => St.of [(0, .v (.int .u64 n)), (1, .v (.int .u64 m)), (14, .v (.bool (decide (n = m))))] [] 64) (fun K hK => ?_) fun _ => ?_)
    · repeat' (first
        | apply_assumption -exfalso -symm (transparency := .reducible) only [*]
        | (with_reducible refine And.intro ?_ ?_)
        | (refine drawOf ?_; kernel_rfl)
        | ((with_reducible refine SW.id ?_); first | with_reducible refine SW.seqK fun K hK => ?_ | with_reducible refine SW.block ?_ | ((first | with_reducible refine SW.skip ?_ | with_reducible refine SW.exit ?_ | with_reducible refine SW.label ?_ | with_reducible refine SW.ret ?_ | with_reducible refine SW.go MM ?_ | refine SW.goDrawF MM (by rfl) (by kernel_rfl) ?_); simp -implicitDefEqProofs only [go_sem]) | (refine SW.cond (by simp -implicitDefEqProofs only [go_sem]; rfl) (fun ht => ?_) (fun ht => ?_) <;> (try simp only [decide_eq_true_eq, decide_eq_false_iff_not, beq_iff_eq, bne_iff_ne, beq_eq_false_iff_ne, bne_eq_false_iff_eq, Bool.or_eq_true, Bool.and_eq_true, Bool.or_eq_false_iff, Bool.and_eq_false_imp, Bool.not_eq_true, Bool.not_eq_false, Bool.not_true, Bool.not_false, Bool.not_eq_true', Bool.not_eq_false', Bool.or_false, Bool.false_or, Bool.or_true, Bool.true_or, Bool.and_true, Bool.true_and, reduceCtorEq] at ht) <;> (try contradiction)))
        | ((with_reducible refine guardSplit (fun hg => ?_) (fun hg => ?_)) <;> (try simp only [Bool.not_true, Bool.not_false] at hg) <;> (have hc := hg) <;> simp -implicitDefEqProofs only [go_sem, hg] <;> (try simp only [decide_eq_true_eq, decide_eq_false_iff_not, beq_iff_eq, bne_iff_ne, beq_eq_false_iff_ne, bne_eq_false_iff_eq, Bool.or_eq_true, Bool.and_eq_true, Bool.or_eq_false_iff, Bool.and_eq_false_imp, Bool.not_eq_true, Bool.not_eq_false, Bool.not_true, Bool.not_false, Bool.not_eq_true', Bool.not_eq_false', Bool.or_false, Bool.false_or, Bool.or_true, Bool.true_or, Bool.and_true, Bool.true_and, reduceCtorEq] at hc) <;> (try contradiction)))
      refine SW.loop (α := { i : Nat // i ≤ x.length ∧ i ≤ y.length }) (fun i => St.of [(0, .v (.int .u64 n)), (1, .v (.int .u64 m)), (12, .ref 0 1 0 x.length false), (13, .ref 1 1 0 y.length false), (14, .v (.bool (decide (x.length ≤ y.length ∧ x.take i.1 = y.take i.1)))), (15, .v (.int .i64 i.1))] [(0, .row 1 (bA x)), (1, .row 1 (bA y))] 64) (fun i => x.length - i.1)
        ⟨0, by omega, by omega⟩ (Weak.of [(128, 0), (256, 1)] (by rfl) ?_ ?_) fun ⟨i, hi, hi2⟩ => ?_
      · simp -implicitDefEqProofs only [go_sem]
        simp
      · simp -implicitDefEqProofs only [go_sem]
      · have h5 := i64_one (a := i) (by omega)
        repeat' (first
          | apply_assumption -exfalso -symm (transparency := .reducible) only [*]
          | (with_reducible refine And.intro ?_ ?_)
          | (refine drawOf ?_; kernel_rfl)
          | ((with_reducible refine SW.id ?_); first | with_reducible refine SW.seqK fun K hK => ?_ | with_reducible refine SW.block ?_ | ((first | with_reducible refine SW.skip ?_ | with_reducible refine SW.exit ?_ | with_reducible refine SW.label ?_ | with_reducible refine SW.ret ?_ | with_reducible refine SW.go MM ?_ | refine SW.goDrawF MM (by rfl) (by kernel_rfl) ?_); simp -implicitDefEqProofs only [go_sem, h5]) | (refine SW.cond (by simp -implicitDefEqProofs only [go_sem, h5]; rfl) (fun ht => ?_) (fun ht => ?_) <;> (try simp only [decide_eq_true_eq, decide_eq_false_iff_not, beq_iff_eq, bne_iff_ne, beq_eq_false_iff_ne, bne_eq_false_iff_eq, Bool.or_eq_true, Bool.and_eq_true, Bool.or_eq_false_iff, Bool.and_eq_false_imp, Bool.not_eq_true, Bool.not_eq_false, Bool.not_true, Bool.not_false, Bool.not_eq_true', Bool.not_eq_false', Bool.or_false, Bool.false_or, Bool.or_true, Bool.true_or, Bool.and_true, Bool.true_and, reduceCtorEq] at ht) <;> (try contradiction)))
          | ((with_reducible refine guardSplit (fun hg => ?_) (fun hg => ?_)) <;> (try simp only [Bool.not_true, Bool.not_false] at hg) <;> (have hc := hg) <;> simp -implicitDefEqProofs only [go_sem, hg, h5] <;> (try simp only [decide_eq_true_eq, decide_eq_false_iff_not, beq_iff_eq, bne_iff_ne, beq_eq_false_iff_ne, bne_eq_false_iff_eq, Bool.or_eq_true, Bool.and_eq_true, Bool.or_eq_false_iff, Bool.and_eq_false_imp, Bool.not_eq_true, Bool.not_eq_false, Bool.not_true, Bool.not_false, Bool.not_eq_true', Bool.not_eq_false', Bool.or_false, Bool.false_or, Bool.or_true, Bool.true_or, Bool.and_true, Bool.true_and, reduceCtorEq] at hc) <;> (try contradiction)))
        all_goals try omega
        · refine ⟨⟨i + 1, by omega, by omega⟩, Weak.of [(0, 0), (1, 1)] (by rfl) ?_ ?_, by dsimp only; omega⟩
          · simp -implicitDefEqProofs only [go_sem, h5, hstep i (by omega) (by omega), hc]
            simp [nat_beq]
          · simp -implicitDefEqProofs only [go_sem]
        · refine ⟨⟨i + 1, by omega, by omega⟩, Weak.of [(0, 0), (1, 1)] (by rfl) ?_ ?_, by dsimp only; omega⟩
          · have : decide (x.length ≤ y.length ∧ x.take (i + 1) = y.take (i + 1)) = false := by
              rw [decide_eq_false_iff_not, hstep i (by omega) (by omega)]
              exact fun h => hc ⟨h.1, h.2.1⟩
            simp -implicitDefEqProofs only [go_sem, h5, this]
          · simp -implicitDefEqProofs only [go_sem]
        all_goals
          refine ⟨(), Weak.of [] (by rfl) ?_ trivial⟩
          simp -implicitDefEqProofs only [go_sem, hfin i hi hi2 (by omega)]
    · repeat' (first
        | apply_assumption -exfalso -symm (transparency := .reducible) only [*]
        | (with_reducible refine And.intro ?_ ?_)
        | (refine drawOf ?_; kernel_rfl)
        | ((with_reducible refine SW.id ?_); first | with_reducible refine SW.seqK fun K hK => ?_ | with_reducible refine SW.block ?_ | ((first | with_reducible refine SW.skip ?_ | with_reducible refine SW.exit ?_ | with_reducible refine SW.label ?_ | with_reducible refine SW.ret ?_ | with_reducible refine SW.go MM ?_ | refine SW.goDrawF MM (by rfl) (by kernel_rfl) ?_); simp -implicitDefEqProofs only [go_sem]) | (refine SW.cond (by simp -implicitDefEqProofs only [go_sem]; rfl) (fun ht => ?_) (fun ht => ?_) <;> (try simp only [decide_eq_true_eq, decide_eq_false_iff_not, beq_iff_eq, bne_iff_ne, beq_eq_false_iff_ne, bne_eq_false_iff_eq, Bool.or_eq_true, Bool.and_eq_true, Bool.or_eq_false_iff, Bool.and_eq_false_imp, Bool.not_eq_true, Bool.not_eq_false, Bool.not_true, Bool.not_false, Bool.not_eq_true', Bool.not_eq_false', Bool.or_false, Bool.false_or, Bool.or_true, Bool.true_or, Bool.and_true, Bool.true_and, reduceCtorEq] at ht) <;> (try contradiction)))
        | ((with_reducible refine guardSplit (fun hg => ?_) (fun hg => ?_)) <;> (try simp only [Bool.not_true, Bool.not_false] at hg) <;> (have hc := hg) <;> simp -implicitDefEqProofs only [go_sem, hg] <;> (try simp only [decide_eq_true_eq, decide_eq_false_iff_not, beq_iff_eq, bne_iff_ne, beq_eq_false_iff_ne, bne_eq_false_iff_eq, Bool.or_eq_true, Bool.and_eq_true, Bool.or_eq_false_iff, Bool.and_eq_false_imp, Bool.not_eq_true, Bool.not_eq_false, Bool.not_true, Bool.not_false, Bool.not_eq_true', Bool.not_eq_false', Bool.or_false, Bool.false_or, Bool.or_true, Bool.true_or, Bool.and_true, Bool.true_and, reduceCtorEq] at hc) <;> (try contradiction)))
      by_cases h : n = m
      · subst h
        simp
      · have : ((n : Int) == (m : Int)) = false := by simp; omega
        simp [h, this]

theorem back_law {H : Type} (ds : List (DataW H)) (xs : List A) (h : DAs [.int .u64, .int .u64, .slice (.int .u8)] ds xs) (hk : dBulks ds ≤ 1048576) : ∃ back, FS Try.prog 6 xs (.ret [.v (.bool true)] back) := by
  obtain ⟨d0, ds, a0, xs, rfl, rfl, h0, h⟩ := h.cons_inv
  obtain ⟨d1, ds, a1, xs, rfl, rfl, h1, h⟩ := h.cons_inv
  obtain ⟨d2, ds, a2, xs, rfl, rfl, h2, h⟩ := h.cons_inv
  obtain ⟨rfl, rfl⟩ := h.nil_inv
  obtain ⟨n, rfl, hn, _⟩ := h0.nat_inv rfl
  obtain ⟨m, rfl, hm, _⟩ := h1.nat_inv rfl
  obtain ⟨b, rfl, hb, h8⟩ := h2.bytes_inv
  have hmax : IntKind.max .u64 = 18446744073709551615 := rfl
  simp only [dBulks] at hk
  exact ⟨_, back_FS n m b (by omega) (by omega) (by omega)⟩
end Go.PA
