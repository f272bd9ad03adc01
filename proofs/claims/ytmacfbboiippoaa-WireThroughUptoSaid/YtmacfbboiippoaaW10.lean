/- The reference's Number. -/
import Derived.Test.YtmacfbboiippoaaW9
import Derived.Test.YtmacfbboiippoaaPAd
namespace Go.PA
open Go.Proofs
set_option linter.unusedSimpArgs false
set_option linter.unusedVariables false
set_option maxRecDepth 100000
set_option maxHeartbeats 4000000
attribute [local go_sem] MM

/-- The value of what stands ahead of the last byte, upon the last one's. -/
def upv : List Nat → Nat → Nat
  | [], v => v
  | x :: t, v => x % 128 + 128 * upv t v

theorem upv_app (l : List Nat) (x v : Nat) : upv (l ++ [x]) v = upv l (x % 128 + 128 * v) := by
  induction l with
  | nil => rfl
  | cons y t ih => simp [upv, ih]

theorem upv_lt (l : List Nat) (v : Nat) : upv l v < 128 ^ l.length * (v + 1) := by
  induction l with
  | nil => simp [upv]
  | cons y t ih =>
    simp only [upv, List.length_cons, Nat.pow_succ]
    have : upv t v + 1 ≤ 128 ^ t.length * (v + 1) := ih
    have h : 128 * (upv t v + 1) ≤ 128 * (128 ^ t.length * (v + 1)) := Nat.mul_le_mul_left _ this
    rw [← Nat.mul_assoc, Nat.mul_comm 128 (128 ^ t.length)] at h
    omega

/-- What a run of great bytes leads to. -/
theorem rd_run : ∀ (l : List Nat) (k : Nat) (f : Bool) (s : List Nat), (∀ x ∈ l, 128 ≤ x) → l.length < k →
    rd k f (l ++ s) = match rd (k - l.length) (f && l.isEmpty) s with
      | .ok (v, c) => .ok (upv l v, c + l.length)
      | .error e => .error e
  | [], k, f, s, _, _ => by
    simp only [List.nil_append, List.length_nil, Nat.sub_zero, List.isEmpty_nil, Bool.and_true]
    cases rd k f s with
    | error e => rfl
    | ok r => rfl
  | x :: l, k + 1, f, s, h, hk => by
    have hx : 128 ≤ x := h x (by simp)
    have ih := rd_run l k false s (fun y hy => h y (by simp [hy])) (by simpa using hk)
    simp only [List.length_cons] at hk
    simp only [List.cons_append, rd]
    rw [if_neg (by omega), if_neg (by omega), ih]
    simp only [List.length_cons, Nat.add_sub_add_right, List.isEmpty_cons, Bool.and_false, Bool.false_and]
    cases rd (k - l.length) false s with
    | error e => rfl
    | ok r => simp [upv]; omega

theorem rd_long : ∀ (k : Nat) (f : Bool) (l s : List Nat), (∀ x ∈ l, 128 ≤ x) → l.length = k → rd k f (l ++ s) = .error 70
  | 0, f, l, s, _, _ => rfl
  | k + 1, f, [], s, _, h => by simp at h
  | k + 1, f, x :: l, s, h, hk => by
    have hx : 128 ≤ x := h x (by simp)
    simp only [List.cons_append, rd]
    split
    · rfl
    · rw [if_neg (by omega), rd_long k false l s (fun y hy => h y (by simp [hy])) (by simpa using hk)]

theorem refNumber_FS (q : Bool) (b : List Nat) (p : Int) (hb : b.length < 2 ^ 40) (h8 : ∀ x ∈ b, x < 256) : FS Try.prog 24 [.sl q (bA b), .v (.int .i64 p)] (.ret (numA (numP b p)) [none, none]) := by
  refine FS_of_SW (kb := [false, false]) Try.func24 rfl rfl (by rfl) ?_
  refine SW.weak (Weak.of [] (sls := [(0, .sl q (bA b)), (1, .v (.int .i64 p))]) (bks := []) (ep := 64) (by rfl) ⟨rfl, rfl, trivial⟩ trivial) ?_
  repeat' (first
    | apply_assumption -exfalso -symm (transparency := .reducible) only [*]
    | with_reducible refine SW.stopB 0 ?_
    | (with_reducible refine And.intro ?_ ?_)
    | (refine drawOf ?_; kernel_rfl)
    | ((with_reducible refine SW.id ?_); first | with_reducible refine SW.seqK fun K hK => ?_ | with_reducible refine SW.block ?_ | ((first | with_reducible refine SW.skip ?_ | with_reducible refine SW.exit ?_ | with_reducible refine SW.label ?_ | with_reducible refine SW.ret ?_ | with_reducible refine SW.go MM ?_ | refine SW.goDrawF MM (by rfl) (by kernel_rfl) ?_); simp -implicitDefEqProofs only [go_sem]) | (refine SW.cond (by simp -implicitDefEqProofs only [go_sem]; rfl) (fun ht => ?_) (fun ht => ?_) <;> (try simp only [decide_eq_true_eq, decide_eq_false_iff_not, beq_iff_eq, bne_iff_ne, beq_eq_false_iff_ne, bne_eq_false_iff_eq, Bool.or_eq_true, Bool.and_eq_true, Bool.or_eq_false_iff, Bool.and_eq_false_imp, Bool.not_eq_true, Bool.not_eq_false, Bool.not_true, Bool.not_false, Bool.not_eq_true', Bool.not_eq_false', Bool.or_false, Bool.false_or, Bool.or_true, Bool.true_or, Bool.and_true, Bool.true_and, reduceCtorEq] at ht) <;> (try contradiction)))
    | ((with_reducible refine guardSplit (fun hg => ?_) (fun hg => ?_)) <;> (try simp only [Bool.not_true, Bool.not_false] at hg) <;> (have hc := hg) <;> simp -implicitDefEqProofs only [go_sem, hg] <;> (try simp only [decide_eq_true_eq, decide_eq_false_iff_not, beq_iff_eq, bne_iff_ne, beq_eq_false_iff_ne, bne_eq_false_iff_eq, Bool.or_eq_true, Bool.and_eq_true, Bool.or_eq_false_iff, Bool.and_eq_false_imp, Bool.not_eq_true, Bool.not_eq_false, Bool.not_true, Bool.not_false, Bool.not_eq_true', Bool.not_eq_false', Bool.or_false, Bool.false_or, Bool.or_true, Bool.true_or, Bool.and_true, Bool.true_and, reduceCtorEq] at hc) <;> (try contradiction)))
  · rw [numP, if_pos (by omega)]
    rfl
  · obtain ⟨n, rfl⟩ : ∃ n : Nat, p = n := ⟨p.toNat, by omega⟩
    have hn : n ≤ b.length := by omega
    have hP : numP b n = comb 0 1 n (rd 10 true (b.drop n)) := by
      rw [numP, if_neg (by omega)]
      rfl
    refine Stop.go (SW.cutS (γ := { i : Nat // i ≤ 10 ∧ n + i ≤ b.length ∧ (∀ x ∈ (b.drop n).take i, 128 ≤ x) ∧ (i < 10 → n + i < b.length → b.getD (n + i) 0 < 128) })
      (fun x => St.of [(0, .sl q (bA b)), (1, .v (.int .i64 n)), (7, .v (.int .i64 x.1))] [] 64) (fun K hK => SW.block ?_) fun ⟨i, hi, hni, hall, hlast⟩ => ?_)
    · refine SW.loop (α := { i : Nat // i ≤ 10 ∧ n + i ≤ b.length ∧ ∀ x ∈ (b.drop n).take i, 128 ≤ x })
        (fun x => St.of [(0, .sl q (bA b)), (1, .v (.int .i64 n)), (7, .v (.int .i64 x.1))] [] 64) (fun x => 10 - x.1)
        ⟨0, by decide, hn, by simp⟩ (Weak.of [] (by rfl) ?_ trivial) fun ⟨i, hi, hni, hall⟩ => ?_
      · simp -implicitDefEqProofs only [go_sem]
        rfl
      · have hw : IntKind.i64.wrap ((n : Int) + i) = ((n + i : Nat) : Int) := by rw [IntWalk.i64_in _ (by omega)]; omega
        have hw3 : IntKind.i64.wrap ((i : Int) + 1) = ((i + 1 : Nat) : Int) := by rw [IntWalk.i64_in _ (by omega)]; omega
        repeat' (first
          | apply_assumption -exfalso -symm (transparency := .reducible) only [*]
          | (with_reducible refine And.intro ?_ ?_)
          | (refine drawOf ?_; kernel_rfl)
          | ((with_reducible refine SW.id ?_); first | with_reducible refine SW.seqK fun K hK => ?_ | with_reducible refine SW.block ?_ | ((first | with_reducible refine SW.skip ?_ | with_reducible refine SW.exit ?_ | with_reducible refine SW.label ?_ | with_reducible refine SW.ret ?_ | with_reducible refine SW.go MM ?_ | refine SW.goDrawF MM (by rfl) (by kernel_rfl) ?_); simp -implicitDefEqProofs only [go_sem, hw, hw3]) | (refine SW.cond (by simp -implicitDefEqProofs only [go_sem, hw, hw3]; rfl) (fun ht => ?_) (fun ht => ?_) <;> (try simp only [decide_eq_true_eq, decide_eq_false_iff_not, beq_iff_eq, bne_iff_ne, beq_eq_false_iff_ne, bne_eq_false_iff_eq, Bool.or_eq_true, Bool.and_eq_true, Bool.or_eq_false_iff, Bool.and_eq_false_imp, Bool.not_eq_true, Bool.not_eq_false, Bool.not_true, Bool.not_false, Bool.not_eq_true', Bool.not_eq_false', Bool.or_false, Bool.false_or, Bool.or_true, Bool.true_or, Bool.and_true, Bool.true_and, reduceCtorEq] at ht) <;> (try contradiction)))
          | ((with_reducible refine guardSplit (fun hg => ?_) (fun hg => ?_)) <;> (try simp only [Bool.not_true, Bool.not_false] at hg) <;> (have hc := hg) <;> simp -implicitDefEqProofs only [go_sem, hg, hw, hw3] <;> (try simp only [decide_eq_true_eq, decide_eq_false_iff_not, beq_iff_eq, bne_iff_ne, beq_eq_false_iff_ne, bne_eq_false_iff_eq, Bool.or_eq_true, Bool.and_eq_true, Bool.or_eq_false_iff, Bool.and_eq_false_imp, Bool.not_eq_true, Bool.not_eq_false, Bool.not_true, Bool.not_false, Bool.not_eq_true', Bool.not_eq_false', Bool.or_false, Bool.false_or, Bool.or_true, Bool.true_or, Bool.and_true, Bool.true_and, reduceCtorEq] at hc) <;> (try contradiction)))
        all_goals try omega
        · refine ⟨⟨i + 1, by omega, by omega, ?_⟩, Weak.of [] (by rfl) ?_ trivial, by dsimp only; omega⟩
          · rw [List.take_add_one]
            intro x hx
            rcases List.mem_append.1 hx with hx | hx
            · exact hall x hx
            · rw [List.getElem?_drop, List.getElem?_eq_getElem (by omega)] at hx
              have : x = b.getD (n + i) 0 := by
                rw [List.getD_eq_getElem?_getD, List.getElem?_eq_getElem (by omega)]
                simpa using hx
              omega
          · simp -implicitDefEqProofs only [go_sem, hw3]
        all_goals
          refine ⟨⟨i, by omega, by omega, hall, by omega⟩, Weak.of [] (by rfl) ?_ trivial⟩
          simp -implicitDefEqProofs only [go_sem]
    · have hw : IntKind.i64.wrap ((n : Int) + i) = ((n + i : Nat) : Int) := by rw [IntWalk.i64_in _ (by omega)]; omega
      have hlen : ((b.drop n).take i).length = i := by simp; omega
      have hsplit : b.drop n = (b.drop n).take i ++ b.drop (n + i) := by
        rw [← List.drop_drop, List.take_append_drop]
      repeat' (first
        | apply_assumption -exfalso -symm (transparency := .reducible) only [*]
        | with_reducible refine SW.stopI 11 ?_
        | (with_reducible refine And.intro ?_ ?_)
        | (refine drawOf ?_; kernel_rfl)
        | ((with_reducible refine SW.id ?_); first | with_reducible refine SW.seqK fun K hK => ?_ | with_reducible refine SW.block ?_ | ((first | with_reducible refine SW.skip ?_ | with_reducible refine SW.exit ?_ | with_reducible refine SW.label ?_ | with_reducible refine SW.ret ?_ | with_reducible refine SW.go MM ?_ | refine SW.goDrawF MM (by rfl) (by kernel_rfl) ?_); simp -implicitDefEqProofs only [go_sem, hw]) | (refine SW.cond (by simp -implicitDefEqProofs only [go_sem, hw]; rfl) (fun ht => ?_) (fun ht => ?_) <;> (try simp only [decide_eq_true_eq, decide_eq_false_iff_not, beq_iff_eq, bne_iff_ne, beq_eq_false_iff_ne, bne_eq_false_iff_eq, Bool.or_eq_true, Bool.and_eq_true, Bool.or_eq_false_iff, Bool.and_eq_false_imp, Bool.not_eq_true, Bool.not_eq_false, Bool.not_true, Bool.not_false, Bool.not_eq_true', Bool.not_eq_false', Bool.or_false, Bool.false_or, Bool.or_true, Bool.true_or, Bool.and_true, Bool.true_and, reduceCtorEq] at ht) <;> (try contradiction)))
        | ((with_reducible refine guardSplit (fun hg => ?_) (fun hg => ?_)) <;> (try simp only [Bool.not_true, Bool.not_false] at hg) <;> (have hc := hg) <;> simp -implicitDefEqProofs only [go_sem, hg, hw] <;> (try simp only [decide_eq_true_eq, decide_eq_false_iff_not, beq_iff_eq, bne_iff_ne, beq_eq_false_iff_ne, bne_eq_false_iff_eq, Bool.or_eq_true, Bool.and_eq_true, Bool.or_eq_false_iff, Bool.and_eq_false_imp, Bool.not_eq_true, Bool.not_eq_false, Bool.not_true, Bool.not_false, Bool.not_eq_true', Bool.not_eq_false', Bool.or_false, Bool.false_or, Bool.or_true, Bool.true_or, Bool.and_true, Bool.true_and, reduceCtorEq] at hc) <;> (try contradiction)))
      · rw [hP, hsplit, rd_long 10 true _ _ hall (by omega)]
        rfl
      · rw [hP, hsplit, rd_run _ 10 true _ hall (by omega), show n + i = b.length by omega, List.drop_length, hlen, show 10 - i = (9 - i) + 1 by omega]
        rfl
      · omega
      · omega
      have hi10 : i < 10 := by omega
      have hni2 : n + i < b.length := by omega
      have hnum := hP
      rw [hsplit, rd_run _ 10 true _ hall (by omega), hlen, show 10 - i = (9 - i) + 1 by omega, drop_cons hni2] at hnum
      have h0 : ((true && ((b.drop n).take i).isEmpty) = false) = (0 < i) := by
        rw [Bool.true_and, List.isEmpty_eq_false_iff, ne_eq, ← List.length_eq_zero_iff, hlen, Nat.pos_iff_ne_zero]
      simp only [rd, h0] at hnum
      have hl := hlast hi10 hni2
      generalize hy : b.getD (n + i) 0 = y at *
      refine Stop.go (SW.cutS (γ := PLift (¬ ((9 - i = 0 ∧ 1 < y) ∨ (0 < i ∧ y = 0))))
        (fun _ => St.of [(0, .sl q (bA b)), (1, .v (.int .i64 n)), (7, .v (.int .i64 i)), (8, .v (.int .u8 y))] [] 64) (fun K hK => ?_) fun ⟨hgood⟩ => ?_)
      · repeat' (first
          | apply_assumption -exfalso -symm (transparency := .reducible) only [*]
          | (with_reducible refine And.intro ?_ ?_)
          | (refine drawOf ?_; kernel_rfl)
          | ((with_reducible refine SW.id ?_); first | with_reducible refine SW.seqK fun K hK => ?_ | with_reducible refine SW.block ?_ | ((first | with_reducible refine SW.skip ?_ | with_reducible refine SW.exit ?_ | with_reducible refine SW.label ?_ | with_reducible refine SW.ret ?_ | with_reducible refine SW.go MM ?_ | refine SW.goDrawF MM (by rfl) (by kernel_rfl) ?_); simp -implicitDefEqProofs only [go_sem, hy]) | (refine SW.cond (by simp -implicitDefEqProofs only [go_sem, hy]; rfl) (fun ht => ?_) (fun ht => ?_) <;> (try simp only [decide_eq_true_eq, decide_eq_false_iff_not, beq_iff_eq, bne_iff_ne, beq_eq_false_iff_ne, bne_eq_false_iff_eq, Bool.or_eq_true, Bool.and_eq_true, Bool.or_eq_false_iff, Bool.and_eq_false_imp, Bool.not_eq_true, Bool.not_eq_false, Bool.not_true, Bool.not_false, Bool.not_eq_true', Bool.not_eq_false', Bool.or_false, Bool.false_or, Bool.or_true, Bool.true_or, Bool.and_true, Bool.true_and, reduceCtorEq] at ht) <;> (try contradiction)))
          | ((with_reducible refine guardSplit (fun hg => ?_) (fun hg => ?_)) <;> (try simp only [Bool.not_true, Bool.not_false] at hg) <;> (have hc := hg) <;> simp -implicitDefEqProofs only [go_sem, hg, hy] <;> (try simp only [decide_eq_true_eq, decide_eq_false_iff_not, beq_iff_eq, bne_iff_ne, beq_eq_false_iff_ne, bne_eq_false_iff_eq, Bool.or_eq_true, Bool.and_eq_true, Bool.or_eq_false_iff, Bool.and_eq_false_imp, Bool.not_eq_true, Bool.not_eq_false, Bool.not_true, Bool.not_false, Bool.not_eq_true', Bool.not_eq_false', Bool.or_false, Bool.false_or, Bool.or_true, Bool.true_or, Bool.and_true, Bool.true_and, reduceCtorEq] at hc) <;> (try contradiction)))
        all_goals first
          | (rw [hnum, if_pos (by omega)]; rfl)
          | (refine ⟨⟨by omega⟩, Weak.of [] (by rfl) ?_ trivial⟩
             simp -implicitDefEqProofs only [go_sem, hy])
      · rw [if_neg hgood, if_pos hl] at hnum
        have hb64 : ∀ j, j ≤ i → upv ((((b.drop n).take i).drop j)) y < 2 ^ 64 := fun j hj => by
          have h1 := upv_lt (((b.drop n).take i).drop j) y
          have h2 : (((b.drop n).take i).drop j).length = i - j := by rw [List.length_drop, hlen]
          rw [h2] at h1
          have h3 : 128 ^ (i - j) ≤ 128 ^ i := Nat.pow_le_pow_right (by decide) (by omega)
          rcases Nat.lt_or_ge i 9 with h9 | h9
          · have h4 : 128 ^ i ≤ 128 ^ 8 := Nat.pow_le_pow_right (by decide) (by omega)
            have h5 : 128 ^ (i - j) * (y + 1) ≤ 128 ^ 8 * 128 := Nat.mul_le_mul (by omega) (by omega)
            omega
          · have h4 : 128 ^ i ≤ 128 ^ 9 := Nat.pow_le_pow_right (by decide) (by omega)
            have h5 : 128 ^ (i - j) * (y + 1) ≤ 128 ^ 9 * 2 := Nat.mul_le_mul (by omega) (by omega)
            omega
        repeat' (first
          | apply_assumption -exfalso -symm (transparency := .reducible) only [*]
          | with_reducible refine SW.stopI 14 ?_
          | (with_reducible refine And.intro ?_ ?_)
          | (refine drawOf ?_; kernel_rfl)
          | ((with_reducible refine SW.id ?_); first | with_reducible refine SW.seqK fun K hK => ?_ | with_reducible refine SW.block ?_ | ((first | with_reducible refine SW.skip ?_ | with_reducible refine SW.exit ?_ | with_reducible refine SW.label ?_ | with_reducible refine SW.ret ?_ | with_reducible refine SW.go MM ?_ | refine SW.goDrawF MM (by rfl) (by kernel_rfl) ?_); simp -implicitDefEqProofs only [go_sem]) | (refine SW.cond (by simp -implicitDefEqProofs only [go_sem]; rfl) (fun ht => ?_) (fun ht => ?_) <;> (try simp only [decide_eq_true_eq, decide_eq_false_iff_not, beq_iff_eq, bne_iff_ne, beq_eq_false_iff_ne, bne_eq_false_iff_eq, Bool.or_eq_true, Bool.and_eq_true, Bool.or_eq_false_iff, Bool.and_eq_false_imp, Bool.not_eq_true, Bool.not_eq_false, Bool.not_true, Bool.not_false, Bool.not_eq_true', Bool.not_eq_false', Bool.or_false, Bool.false_or, Bool.or_true, Bool.true_or, Bool.and_true, Bool.true_and, reduceCtorEq] at ht) <;> (try contradiction)))
          | ((with_reducible refine guardSplit (fun hg => ?_) (fun hg => ?_)) <;> (try simp only [Bool.not_true, Bool.not_false] at hg) <;> (have hc := hg) <;> simp -implicitDefEqProofs only [go_sem, hg] <;> (try simp only [decide_eq_true_eq, decide_eq_false_iff_not, beq_iff_eq, bne_iff_ne, beq_eq_false_iff_ne, bne_eq_false_iff_eq, Bool.or_eq_true, Bool.and_eq_true, Bool.or_eq_false_iff, Bool.and_eq_false_imp, Bool.not_eq_true, Bool.not_eq_false, Bool.not_true, Bool.not_false, Bool.not_eq_true', Bool.not_eq_false', Bool.or_false, Bool.false_or, Bool.or_true, Bool.true_or, Bool.and_true, Bool.true_and, reduceCtorEq] at hc) <;> (try contradiction)))
        refine Stop.go (SW.cutS (γ := Unit) (fun _ => St.of [(1, .v (.int .i64 n)), (7, .v (.int .i64 i)), (9, .v (.int .u64 (upv ((b.drop n).take i) y : Nat)))] [] 64) (fun K hK => ?_) fun _ => ?_)
        · repeat' (first
            | apply_assumption -exfalso -symm (transparency := .reducible) only [*]
            | (with_reducible refine And.intro ?_ ?_)
            | (refine drawOf ?_; kernel_rfl)
            | ((with_reducible refine SW.id ?_); first | with_reducible refine SW.seqK fun K hK => ?_ | with_reducible refine SW.block ?_ | ((first | with_reducible refine SW.skip ?_ | with_reducible refine SW.exit ?_ | with_reducible refine SW.label ?_ | with_reducible refine SW.ret ?_ | with_reducible refine SW.go MM ?_ | refine SW.goDrawF MM (by rfl) (by kernel_rfl) ?_); simp -implicitDefEqProofs only [go_sem]) | (refine SW.cond (by simp -implicitDefEqProofs only [go_sem]; rfl) (fun ht => ?_) (fun ht => ?_) <;> (try simp only [decide_eq_true_eq, decide_eq_false_iff_not, beq_iff_eq, bne_iff_ne, beq_eq_false_iff_ne, bne_eq_false_iff_eq, Bool.or_eq_true, Bool.and_eq_true, Bool.or_eq_false_iff, Bool.and_eq_false_imp, Bool.not_eq_true, Bool.not_eq_false, Bool.not_true, Bool.not_false, Bool.not_eq_true', Bool.not_eq_false', Bool.or_false, Bool.false_or, Bool.or_true, Bool.true_or, Bool.and_true, Bool.true_and, reduceCtorEq] at ht) <;> (try contradiction)))
            | ((with_reducible refine guardSplit (fun hg => ?_) (fun hg => ?_)) <;> (try simp only [Bool.not_true, Bool.not_false] at hg) <;> (have hc := hg) <;> simp -implicitDefEqProofs only [go_sem, hg] <;> (try simp only [decide_eq_true_eq, decide_eq_false_iff_not, beq_iff_eq, bne_iff_ne, beq_eq_false_iff_ne, bne_eq_false_iff_eq, Bool.or_eq_true, Bool.and_eq_true, Bool.or_eq_false_iff, Bool.and_eq_false_imp, Bool.not_eq_true, Bool.not_eq_false, Bool.not_true, Bool.not_false, Bool.not_eq_true', Bool.not_eq_false', Bool.or_false, Bool.false_or, Bool.or_true, Bool.true_or, Bool.and_true, Bool.true_and, reduceCtorEq] at hc) <;> (try contradiction)))
          refine SW.loop (α := { j : Nat // j ≤ i })
            (fun x => St.of [(0, .sl q (bA b)), (1, .v (.int .i64 n)), (7, .v (.int .i64 i)), (9, .v (.int .u64 (upv (((b.drop n).take i).drop x.1) y : Nat))), (10, .v (.int .i64 ((x.1 : Int) - 1)))] [] 64) (fun x => x.1)
            ⟨i, Nat.le_refl _⟩ (Weak.of [] (by rfl) ?_ trivial) fun ⟨j, hj⟩ => ?_
          · simp -implicitDefEqProofs only [go_sem]
            rw [List.drop_of_length_le (by omega), IntKind.wrap_u64, IntWalk.i64_in _ (by omega)]
            simp only [upv, and_self, and_true, true_and]
            omega
          · have hw5 : IntKind.i64.wrap ((n : Int) + ((j : Int) - 1)) = (n : Int) + ((j : Int) - 1) := IntWalk.i64_in _ (by omega)
            have hw6 : 0 < j → ((n : Int) + ((j : Int) - 1)).toNat = n + (j - 1) := fun h => by omega
            repeat' (first
              | apply_assumption -exfalso -symm (transparency := .reducible) only [*]
              | (with_reducible refine And.intro ?_ ?_)
              | (refine drawOf ?_; kernel_rfl)
              | ((with_reducible refine SW.id ?_); first | with_reducible refine SW.seqK fun K hK => ?_ | with_reducible refine SW.block ?_ | ((first | with_reducible refine SW.skip ?_ | with_reducible refine SW.exit ?_ | with_reducible refine SW.label ?_ | with_reducible refine SW.ret ?_ | with_reducible refine SW.go MM ?_ | refine SW.goDrawF MM (by rfl) (by kernel_rfl) ?_); simp -implicitDefEqProofs only [go_sem, hw5]) | (refine SW.cond (by simp -implicitDefEqProofs only [go_sem, hw5]; rfl) (fun ht => ?_) (fun ht => ?_) <;> (try simp only [decide_eq_true_eq, decide_eq_false_iff_not, beq_iff_eq, bne_iff_ne, beq_eq_false_iff_ne, bne_eq_false_iff_eq, Bool.or_eq_true, Bool.and_eq_true, Bool.or_eq_false_iff, Bool.and_eq_false_imp, Bool.not_eq_true, Bool.not_eq_false, Bool.not_true, Bool.not_false, Bool.not_eq_true', Bool.not_eq_false', Bool.or_false, Bool.false_or, Bool.or_true, Bool.true_or, Bool.and_true, Bool.true_and, reduceCtorEq] at ht) <;> (try contradiction)))
              | ((with_reducible refine guardSplit (fun hg => ?_) (fun hg => ?_)) <;> (try simp only [Bool.not_true, Bool.not_false] at hg) <;> (have hc := hg) <;> simp -implicitDefEqProofs only [go_sem, hg, hw5] <;> (try simp only [decide_eq_true_eq, decide_eq_false_iff_not, beq_iff_eq, bne_iff_ne, beq_eq_false_iff_ne, bne_eq_false_iff_eq, Bool.or_eq_true, Bool.and_eq_true, Bool.or_eq_false_iff, Bool.and_eq_false_imp, Bool.not_eq_true, Bool.not_eq_false, Bool.not_true, Bool.not_false, Bool.not_eq_true', Bool.not_eq_false', Bool.or_false, Bool.false_or, Bool.or_true, Bool.true_or, Bool.and_true, Bool.true_and, reduceCtorEq] at hc) <;> (try contradiction)))
            all_goals try omega
            · obtain ⟨k, rfl⟩ : ∃ k, j = k + 1 := ⟨j - 1, by omega⟩
              have hx : (((b.drop n).take i)).drop k = b.getD (n + k) 0 :: ((b.drop n).take i).drop (k + 1) := by
                rw [drop_cons (by omega)]
                congr 1
                simp only [List.getD_eq_getElem?_getD]
                rw [List.getElem?_take_of_lt (by omega), List.getElem?_drop]
              have hge : 128 ≤ b.getD (n + k) 0 := hall _ (List.mem_of_mem_drop (by rw [hx]; exact List.mem_cons_self))
              have hle : b.getD (n + k) 0 < 256 := by
                rw [List.getD_eq_getElem?_getD, List.getElem?_eq_getElem (by omega)]
                exact h8 _ (List.getElem_mem _)
              have hbig := hb64 k (by omega)
              refine ⟨⟨k, by omega⟩, Weak.of [] (by rfl) ?_ trivial, by dsimp only; omega⟩
              rw [hx] at hbig
              simp only [upv] at hbig
              simp -implicitDefEqProofs only [go_sem, hw5, hx, upv]
              rw [show ((n : Int) + (((k + 1 : Nat) : Int) - 1)).toNat = n + k by omega, IntWalk.i64_in _ (by omega)]
              generalize b.getD (n + k) 0 = z at *
              generalize upv (((b.drop n).take i).drop (k + 1)) y = v at *
              rw [IntKind.wrap_u64, IntKind.wrap_u64, IntKind.wrap_u64, IntKind.wrap_u8]
              omega
            · obtain rfl : j = 0 := by omega
              refine ⟨(), Weak.of [] (by rfl) ?_ trivial⟩
              simp -implicitDefEqProofs only [go_sem]
        · have hw4 : IntKind.i64.wrap (((n + i : Nat) : Int) + 1) = ((n + i + 1 : Nat) : Int) := by rw [IntWalk.i64_in _ (by omega)]; omega
          repeat' (first
            | apply_assumption -exfalso -symm (transparency := .reducible) only [*]
            | (with_reducible refine And.intro ?_ ?_)
            | (refine drawOf ?_; kernel_rfl)
            | ((with_reducible refine SW.id ?_); first | with_reducible refine SW.seqK fun K hK => ?_ | with_reducible refine SW.block ?_ | ((first | with_reducible refine SW.skip ?_ | with_reducible refine SW.exit ?_ | with_reducible refine SW.label ?_ | with_reducible refine SW.ret ?_ | with_reducible refine SW.go MM ?_ | refine SW.goDrawF MM (by rfl) (by kernel_rfl) ?_); simp -implicitDefEqProofs only [go_sem, hw, hw4]) | (refine SW.cond (by simp -implicitDefEqProofs only [go_sem, hw, hw4]; rfl) (fun ht => ?_) (fun ht => ?_) <;> (try simp only [decide_eq_true_eq, decide_eq_false_iff_not, beq_iff_eq, bne_iff_ne, beq_eq_false_iff_ne, bne_eq_false_iff_eq, Bool.or_eq_true, Bool.and_eq_true, Bool.or_eq_false_iff, Bool.and_eq_false_imp, Bool.not_eq_true, Bool.not_eq_false, Bool.not_true, Bool.not_false, Bool.not_eq_true', Bool.not_eq_false', Bool.or_false, Bool.false_or, Bool.or_true, Bool.true_or, Bool.and_true, Bool.true_and, reduceCtorEq] at ht) <;> (try contradiction)))
            | ((with_reducible refine guardSplit (fun hg => ?_) (fun hg => ?_)) <;> (try simp only [Bool.not_true, Bool.not_false] at hg) <;> (have hc := hg) <;> simp -implicitDefEqProofs only [go_sem, hg, hw, hw4] <;> (try simp only [decide_eq_true_eq, decide_eq_false_iff_not, beq_iff_eq, bne_iff_ne, beq_eq_false_iff_ne, bne_eq_false_iff_eq, Bool.or_eq_true, Bool.and_eq_true, Bool.or_eq_false_iff, Bool.and_eq_false_imp, Bool.not_eq_true, Bool.not_eq_false, Bool.not_true, Bool.not_false, Bool.not_eq_true', Bool.not_eq_false', Bool.or_false, Bool.false_or, Bool.or_true, Bool.true_or, Bool.and_true, Bool.true_and, reduceCtorEq] at hc) <;> (try contradiction)))
          rw [hnum]
          simp only [comb, numA, Nat.zero_add, Nat.one_mul]
          rw [Nat.add_assoc, Nat.add_comm 1 i]
          rfl
  · rw [numP, if_pos (by omega)]
    rfl
end Go.PA
