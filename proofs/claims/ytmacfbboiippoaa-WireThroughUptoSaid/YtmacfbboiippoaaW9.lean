/- wire.Number. -/
import Derived.Test.YtmacfbboiippoaaW8
namespace Go.PA
open Go.Proofs
set_option linter.unusedSimpArgs false
set_option linter.unusedVariables false
set_option maxRecDepth 100000
set_option maxHeartbeats 4000000
attribute [local go_sem] MM

/-- A number at the head of a list: at most k bytes more; 'f': is it the first? Value and length, or an error's number. -/
def rd : Nat → Bool → List Nat → Except Nat (Nat × Nat)
  | 0, _, _ => .error 70
  | _ + 1, _, [] => .error 73
  | k + 1, f, x :: t => if (k = 0 ∧ 1 < x) ∨ (f = false ∧ x = 0) then .error 70
    else if x < 128 then .ok (x, 1)
    else match rd k false t with
      | .ok (v, c) => .ok (x % 128 + 128 * v, c + 1)
      | .error e => .error e

/-- What Number answers, with what has been read already. -/
def comb (acc m pos : Nat) : Except Nat (Nat × Nat) → Nat × Nat × Nat
  | .ok (v, c) => (acc + m * v, pos + c, 0)
  | .error e => (0, 0, e)

def numP (b : List Nat) (p : Int) : Nat × Nat × Nat :=
  if p < 0 ∨ b.length < p then (0, 0, 1) else comb 0 1 p.toNat (rd 10 true (b.drop p.toNat))

def numA (r : Nat × Nat × Nat) : List A := [.v (.int .u64 r.1), .v (.int .i64 r.2.1), .v (.int .i64 r.2.2)]

theorem drop_cons {b : List Nat} {p : Nat} (h : p < b.length) : b.drop p = b.getD p 0 :: b.drop (p + 1) := by
  rw [List.drop_eq_getElem_cons h, List.getD_eq_getElem?_getD, List.getElem?_eq_getElem h]; rfl

theorem num_or (acc i x : Nat) (ha : acc < 128 ^ i) (hi : i < 9 ∨ i = 9 ∧ x ≤ 1) :
    ior .u64 (acc : Int) (ishl .u64 (IntKind.u64.wrap ((x : Int).tmod 128)) ((7 * i : Nat) : Int)) = ((acc + 128 ^ i * (x % 128) : Nat) : Int) := by
  have h1 : IntKind.u64.wrap ((x : Int).tmod 128) = ((x % 128 : Nat) : Int) := by
    rw [Int.tmod_eq_emod_of_nonneg (by omega), IntKind.wrap_u64]; omega
  have h3 : 128 ^ i = 2 ^ (7 * i) := by rw [show (128 : Nat) = 2 ^ 7 from rfl, ← Nat.pow_mul]
  have h4 : x % 128 * 2 ^ (7 * i) + acc < 2 ^ 64 := by
    rw [h3] at ha
    rcases hi with hi | ⟨rfl, hx⟩
    · have h5 : 2 ^ (7 * i) ≤ 2 ^ 56 := Nat.pow_le_pow_right (by decide) (by omega)
      have h6 : x % 128 * 2 ^ (7 * i) ≤ 127 * 2 ^ 56 := Nat.mul_le_mul (by omega) h5
      omega
    · have h6 : x % 128 * 2 ^ (7 * 9) ≤ 1 * 2 ^ (7 * 9) := Nat.mul_le_mul (by omega) (Nat.le_refl _)
      omega
  rw [h1, or_shl _ _ _ (by rw [← h3]; exact ha) (by omega) h4, h3, Nat.mul_comm, Nat.add_comm]

theorem number_FS (q : Bool) (b : List Nat) (p : Int) (hb : b.length < 2 ^ 40) : FS Try.prog 23 [.sl q (bA b), .v (.int .i64 p)] (.ret (numA (numP b p)) [none, none]) := by
  refine FS_of_SW (kb := [false, false]) Try.func23 rfl rfl (by rfl) ?_
  refine SW.weak (Weak.of [] (sls := [(0, .sl q (bA b)), (1, .v (.int .i64 p))]) (bks := []) (ep := 64) (by rfl) ⟨rfl, rfl, trivial⟩ trivial) ?_
  repeat' (first
    | apply_assumption -exfalso -symm (transparency := .reducible) only [*]
    | (with_reducible refine And.intro ?_ ?_)
    | (refine drawOf ?_; kernel_rfl)
    | ((with_reducible refine SW.id ?_); first | with_reducible refine SW.seqK fun K hK => ?_ | with_reducible refine SW.block ?_ | ((first | with_reducible refine SW.skip ?_ | with_reducible refine SW.exit ?_ | with_reducible refine SW.label ?_ | with_reducible refine SW.ret ?_ | with_reducible refine SW.go MM ?_ | refine SW.goDrawF MM (by rfl) (by kernel_rfl) ?_); simp -implicitDefEqProofs only [go_sem]) | (refine SW.cond (by simp -implicitDefEqProofs only [go_sem]; rfl) (fun ht => ?_) (fun ht => ?_) <;> (try simp only [decide_eq_true_eq, decide_eq_false_iff_not, beq_iff_eq, bne_iff_ne, beq_eq_false_iff_ne, bne_eq_false_iff_eq, Bool.or_eq_true, Bool.and_eq_true, Bool.or_eq_false_iff, Bool.and_eq_false_imp, Bool.not_eq_true, Bool.not_eq_false, Bool.not_true, Bool.not_false, Bool.not_eq_true', Bool.not_eq_false', Bool.or_false, Bool.false_or, Bool.or_true, Bool.true_or, Bool.and_true, Bool.true_and, reduceCtorEq] at ht) <;> (try contradiction)))
    | ((with_reducible refine guardSplit (fun hg => ?_) (fun hg => ?_)) <;> (try simp only [Bool.not_true, Bool.not_false] at hg) <;> (have hc := hg) <;> simp -implicitDefEqProofs only [go_sem, hg] <;> (try simp only [decide_eq_true_eq, decide_eq_false_iff_not, beq_iff_eq, bne_iff_ne, beq_eq_false_iff_ne, bne_eq_false_iff_eq, Bool.or_eq_true, Bool.and_eq_true, Bool.or_eq_false_iff, Bool.and_eq_false_imp, Bool.not_eq_true, Bool.not_eq_false, Bool.not_true, Bool.not_false, Bool.not_eq_true', Bool.not_eq_false', Bool.or_false, Bool.false_or, Bool.or_true, Bool.true_or, Bool.and_true, Bool.true_and, reduceCtorEq] at hc) <;> (try contradiction)))
  · rw [numP, if_pos (by omega)]
    rfl
  · obtain ⟨n, rfl⟩ : ∃ n : Nat, p = n := ⟨p.toNat, by omega⟩
    have hn : n ≤ b.length := by omega
    refine SW.loop (α := { x : Nat × Nat // x.1 < 128 ^ x.2 ∧ x.2 ≤ 10 ∧ n + x.2 ≤ b.length ∧ numP b n = comb x.1 (128 ^ x.2) (n + x.2) (rd (10 - x.2) (x.2 == 0) (b.drop (n + x.2))) })
      (fun x => St.of [(0, .sl q (bA b)), (1, .v (.int .i64 n)), (7, .v (.int .u64 x.1.1)), (18, .v (.int .i64 x.1.2))] [] 64) (fun x => 10 - x.1.2)
      ⟨(0, 0), by dsimp only; decide, by dsimp only; decide, hn, ?_⟩ (Weak.of [] (by rfl) ?_ trivial) fun ⟨⟨acc, i⟩, ha, hi, hni, he⟩ => ?_
    · rw [numP, if_neg (by omega)]
      rfl
    · simp -implicitDefEqProofs only [go_sem]
      rfl
    · dsimp only at ha hi hni he
      have hw : IntKind.i64.wrap ((n : Int) + i) = ((n + i : Nat) : Int) := by rw [IntWalk.i64_in _ (by omega)]; omega
      have hw2 : IntKind.i64.wrap (((n + i : Nat) : Int) + 1) = ((n + i + 1 : Nat) : Int) := by rw [IntWalk.i64_in _ (by omega)]; omega
      have hw3 : IntKind.i64.wrap ((i : Int) + 1) = ((i + 1 : Nat) : Int) := by rw [IntWalk.i64_in _ (by omega)]; omega
      have hw7 : IntKind.i64.wrap (7 * (i : Int)) = ((7 * i : Nat) : Int) := by rw [IntWalk.i64_in _ (by omega)]; omega
      have hend : n + i = b.length → i < 10 → numP b n = (0, 0, 73) := fun h h2 => by
        rw [he, h, List.drop_length, show 10 - i = (9 - i) + 1 by omega]
        rfl
      have hten : i = 10 → numP b n = (0, 0, 70) := fun h => by
        rw [he, h]
        rfl
      have hx : n + i < b.length → i < 10 → numP b n = comb acc (128 ^ i) (n + i) (if (9 - i = 0 ∧ 1 < b.getD (n + i) 0) ∨ (0 < i ∧ b.getD (n + i) 0 = 0) then .error 70 else
          if b.getD (n + i) 0 < 128 then .ok (b.getD (n + i) 0, 1) else match rd (9 - i) false (b.drop (n + i + 1)) with
            | .ok (v, c) => .ok (b.getD (n + i) 0 % 128 + 128 * v, c + 1)
            | .error e => .error e) := fun h h2 => by
        rw [he, drop_cons h, show 10 - i = (9 - i) + 1 by omega]
        have h0 : ((i == 0) = false) = (0 < i) := by simp [Nat.pos_iff_ne_zero]
        simp only [rd, h0]
      generalize hy : b.getD (n + i) 0 = y at *
      have hval : (i < 9 ∨ i = 9 ∧ y ≤ 1) → _ := fun h => num_or acc i y ha h
      have hstep : n + i < b.length → i < 10 → ¬ (9 - i = 0 ∧ 1 < y) → ¬ y < 128 → acc + 128 ^ i * (y % 128) < 128 ^ (i + 1) ∧
          numP b n = comb (acc + 128 ^ i * (y % 128)) (128 ^ (i + 1)) (n + i + 1) (rd (9 - i) false (b.drop (n + i + 1))) := fun h h2 h3 h4 => by
        constructor
        · have : 128 ^ i * (y % 128) ≤ 128 ^ i * 127 := Nat.mul_le_mul (Nat.le_refl _) (by omega)
          rw [Nat.pow_succ]
          omega
        · rw [hx h h2, if_neg (by omega), if_neg h4]
          cases rd (9 - i) false (b.drop (n + i + 1)) with
          | error e => rfl
          | ok r =>
            simp only [comb, Nat.pow_succ, Prod.mk.injEq, and_true]
            constructor
            · rw [Nat.mul_add, Nat.mul_assoc, Nat.add_assoc]
            · omega
      repeat' (first
        | apply_assumption -exfalso -symm (transparency := .reducible) only [*]
        | (with_reducible refine And.intro ?_ ?_)
        | (refine drawOf ?_; kernel_rfl)
        | ((with_reducible refine SW.id ?_); first | with_reducible refine SW.seqK fun K hK => ?_ | with_reducible refine SW.block ?_ | ((first | with_reducible refine SW.skip ?_ | with_reducible refine SW.exit ?_ | with_reducible refine SW.label ?_ | with_reducible refine SW.ret ?_ | with_reducible refine SW.go MM ?_ | refine SW.goDrawF MM (by rfl) (by kernel_rfl) ?_); simp -implicitDefEqProofs only [go_sem, hw, hw2, hw3, hw7, hy]) | (refine SW.cond (by simp -implicitDefEqProofs only [go_sem, hw, hw2, hw3, hw7, hy]; rfl) (fun ht => ?_) (fun ht => ?_) <;> (try simp only [decide_eq_true_eq, decide_eq_false_iff_not, beq_iff_eq, bne_iff_ne, beq_eq_false_iff_ne, bne_eq_false_iff_eq, Bool.or_eq_true, Bool.and_eq_true, Bool.or_eq_false_iff, Bool.and_eq_false_imp, Bool.not_eq_true, Bool.not_eq_false, Bool.not_true, Bool.not_false, Bool.not_eq_true', Bool.not_eq_false', Bool.or_false, Bool.false_or, Bool.or_true, Bool.true_or, Bool.and_true, Bool.true_and, reduceCtorEq] at ht) <;> (try contradiction)))
        | ((with_reducible refine guardSplit (fun hg => ?_) (fun hg => ?_)) <;> (try simp only [Bool.not_true, Bool.not_false] at hg) <;> (have hc := hg) <;> simp -implicitDefEqProofs only [go_sem, hg, hw, hw2, hw3, hw7, hy] <;> (try simp only [decide_eq_true_eq, decide_eq_false_iff_not, beq_iff_eq, bne_iff_ne, beq_eq_false_iff_ne, bne_eq_false_iff_eq, Bool.or_eq_true, Bool.and_eq_true, Bool.or_eq_false_iff, Bool.and_eq_false_imp, Bool.not_eq_true, Bool.not_eq_false, Bool.not_true, Bool.not_false, Bool.not_eq_true', Bool.not_eq_false', Bool.or_false, Bool.false_or, Bool.or_true, Bool.true_or, Bool.and_true, Bool.true_and, reduceCtorEq] at hc) <;> (try contradiction)))
      all_goals first
        | omega
        | (rw [hend (by omega) (by omega)]; rfl)
        | (rw [hten (by omega)]; rfl)
        | (rw [hx (by omega) (by omega), if_pos (by omega)]; rfl)
        | (rw [hx (by omega) (by omega), if_neg (by omega), if_pos (by omega), hval (by omega)]; rw [Nat.mod_eq_of_lt (by omega)]; rfl)
        | skip
      all_goals
        obtain ⟨k1, k2⟩ := hstep (by omega) (by omega) (by omega) (by omega)
        refine ⟨⟨(acc + 128 ^ i * (y % 128), i + 1), k1, by dsimp only; omega, by dsimp only; omega, ?_⟩, Weak.of [] (by rfl) ?_ trivial, by dsimp only; omega⟩
        · rw [k2, show 10 - (i + 1) = 9 - i by omega]
          rfl
        · simp -implicitDefEqProofs only [go_sem, hw3]
          rw [hval (by omega)]
  · rw [numP, if_pos (by omega)]
    rfl
end Go.PA
