/- The reference's Split. -/
import Derived.Test.YtmacfbboiippoaaW28
namespace Go.PA
open Go.Proofs
set_option linter.unusedSimpArgs false
set_option linter.unusedVariables false
set_option maxRecDepth 100000
set_option maxHeartbeats 4000000
attribute [local go_sem] MM getP setP takesW
attribute [-go_sem] takeA

theorem refSplit_FS (q : Bool) (b : List Nat) (hb : b.length < 2 ^ 30) (hB : ∀ x ∈ b, x < 256) :
    FS Try.prog 29 [.sl q (bA b)] (.ret [.osl 1 ((splitD b).1.map iO), .v (.int .i64 (splitD b).2.1), .v (.int .i64 (splitD b).2.2)] [none]) := by
  refine FS_of_SW (kb := [false]) Try.func29 rfl rfl (by rfl) ?_
  refine SW.weak (Weak.of [] (sls := [(0, .sl q (bA b))]) (bks := []) (ep := 64) (by rfl) ⟨rfl, trivial⟩ trivial) ?_
  have hD : 4194304 < b.length → splitD b = ([], 0, 2) := fun h => by unfold splitD; rw [if_pos h]
  have hE : ¬ 4194304 < b.length → splitD b = if (piecesD b).2.2 ≠ 0 then ([], (piecesD b).2) else ((piecesD b).1, 0, 0) := fun h => by unfold splitD; rw [if_neg h]
  repeat' (first
    | apply_assumption -exfalso -symm (transparency := .reducible) only [*]
    | with_reducible refine SW.stopI 4 ?_
    | (with_reducible refine And.intro ?_ ?_)
    | (refine drawOf ?_; kernel_rfl)
    | ((with_reducible refine opsF_id ?_); simp -implicitDefEqProofs only [go_sem])
    | ((with_reducible refine SW.id ?_); first | with_reducible refine SW.seqK fun K hK => ?_ | with_reducible refine SW.block ?_ | with_reducible refine SW.scope ?_ | ((first | with_reducible refine SW.skip ?_ | with_reducible refine SW.exit ?_ | with_reducible refine SW.label ?_ | with_reducible refine SW.ret ?_ | with_reducible refine SW.go MM ?_ | refine SW.goDrawF MM (by rfl) (by kernel_rfl) ?_); simp -implicitDefEqProofs only [go_sem]) | (refine SW.cond (by simp -implicitDefEqProofs only [go_sem]; rfl) (fun ht => ?_) (fun ht => ?_) <;> (try simp only [decide_eq_true_eq, decide_eq_false_iff_not, beq_iff_eq, bne_iff_ne, beq_eq_false_iff_ne, bne_eq_false_iff_eq, Bool.or_eq_true, Bool.and_eq_true, Bool.or_eq_false_iff, Bool.and_eq_false_imp, Bool.not_eq_true, Bool.not_eq_false, Bool.not_true, Bool.not_false, Bool.not_eq_true', Bool.not_eq_false', Bool.or_false, Bool.false_or, Bool.or_true, Bool.true_or, Bool.and_true, Bool.true_and, reduceCtorEq] at ht) <;> (try contradiction)))
    | ((with_reducible refine guardSplit (fun hg => ?_) (fun hg => ?_)) <;> (try simp only [Bool.not_true, Bool.not_false] at hg) <;> (have hc := hg) <;> simp -implicitDefEqProofs only [go_sem, hg] <;> (try simp only [decide_eq_true_eq, decide_eq_false_iff_not, beq_iff_eq, bne_iff_ne, beq_eq_false_iff_ne, bne_eq_false_iff_eq, Bool.or_eq_true, Bool.and_eq_true, Bool.or_eq_false_iff, Bool.and_eq_false_imp, Bool.not_eq_true, Bool.not_eq_false, Bool.not_true, Bool.not_false, Bool.not_eq_true', Bool.not_eq_false', Bool.or_false, Bool.false_or, Bool.or_true, Bool.true_or, Bool.and_true, Bool.true_and, reduceCtorEq] at hc) <;> (try contradiction)))
  any_goals solve | (rw [hD (by omega)] <;> rfl)
  refine Stop.go ?_
  have hE := hE (by omega)
  refine SW.cutS (γ := PLift ((piecesD b).2.2 = 0)) (fun _ => St.of [(0, .sl q (bA b)), (5, .ref 0 1 0 (piecesD b).1.length false)] [(0, .row 1 ((piecesD b).1.map iO))] 64) (fun K hK => ?_) fun ⟨hz⟩ => ?_
  · repeat' (first
      | apply_assumption -exfalso -symm (transparency := .reducible) only [*]
      | (with_reducible refine And.intro ?_ ?_)
      | (refine drawOf ?_; kernel_rfl)
      | ((with_reducible refine opsF_id ?_); simp -implicitDefEqProofs only [go_sem])
      | ((with_reducible refine SW.id ?_); first | with_reducible refine SW.seqK fun K hK => ?_ | with_reducible refine SW.block ?_ | with_reducible refine SW.scope ?_ | ((first | with_reducible refine SW.skip ?_ | with_reducible refine SW.exit ?_ | with_reducible refine SW.label ?_ | with_reducible refine SW.ret ?_ | with_reducible refine SW.go MM ?_ | refine SW.goDrawF MM (by rfl) (by kernel_rfl) ?_); simp -implicitDefEqProofs only [go_sem]) | (refine SW.cond (by simp -implicitDefEqProofs only [go_sem]; rfl) (fun ht => ?_) (fun ht => ?_) <;> (try simp only [decide_eq_true_eq, decide_eq_false_iff_not, beq_iff_eq, bne_iff_ne, beq_eq_false_iff_ne, bne_eq_false_iff_eq, Bool.or_eq_true, Bool.and_eq_true, Bool.or_eq_false_iff, Bool.and_eq_false_imp, Bool.not_eq_true, Bool.not_eq_false, Bool.not_true, Bool.not_false, Bool.not_eq_true', Bool.not_eq_false', Bool.or_false, Bool.false_or, Bool.or_true, Bool.true_or, Bool.and_true, Bool.true_and, reduceCtorEq] at ht) <;> (try contradiction)))
      | ((with_reducible refine guardSplit (fun hg => ?_) (fun hg => ?_)) <;> (try simp only [Bool.not_true, Bool.not_false] at hg) <;> (have hc := hg) <;> simp -implicitDefEqProofs only [go_sem, hg] <;> (try simp only [decide_eq_true_eq, decide_eq_false_iff_not, beq_iff_eq, bne_iff_ne, beq_eq_false_iff_ne, bne_eq_false_iff_eq, Bool.or_eq_true, Bool.and_eq_true, Bool.or_eq_false_iff, Bool.and_eq_false_imp, Bool.not_eq_true, Bool.not_eq_false, Bool.not_true, Bool.not_false, Bool.not_eq_true', Bool.not_eq_false', Bool.or_false, Bool.false_or, Bool.or_true, Bool.true_or, Bool.and_true, Bool.true_and, reduceCtorEq] at hc) <;> (try contradiction)))
    refine SW.loop (α := { x : List (List Nat) × Nat × Nat × Nat // x.2.1 ≤ b.length ∧ x.1.length ≤ 4096 ∧ b.length - x.2.1 < x.2.2.2 ∧ piecesD b = (x.1 ++ (piecesP b x.2.2.2 x.2.1 x.1.length x.2.2.1).1, (piecesP b x.2.2.2 x.2.1 x.1.length x.2.2.1).2) }) (fun x => St.of [(0, .sl q (bA b)), (5, .ref 0 1 0 x.1.1.length false), (6, .v (.int .i64 x.1.2.1))] [(0, .row 1 (x.1.1.map iO))] 64) (fun x => x.1.2.2.2) ⟨([], 0, 0, b.length + 1), by dsimp only; omega, by simp, by dsimp only; omega, rfl⟩ (Weak.of [(448, 0)] (by rfl) ?_ ?_) fun ⟨⟨acc, p, at', k⟩, hp, hacc, hk, hw⟩ => ?_
    · simp -implicitDefEqProofs only [go_sem]
      rfl
    · simp -implicitDefEqProofs only [go_sem]
    dsimp only at hp hacc hk hw
    obtain ⟨k, rfl⟩ : ∃ k', k = k' + 1 := ⟨k - 1, by omega⟩
    rw [piecesP] at hw
    have hS : ∀ w, (piecesD b).2 = (p, w) → w ≠ 0 → splitD b = ([], p, w) := fun w h1 h2 => by rw [hE, h1, if_pos h2]
    have hnum := refNumber_FS q b p (by omega) hB
    obtain ⟨⟨n, e, er⟩, hr⟩ : ∃ r, numP b p = r := ⟨_, rfl⟩
    obtain ⟨n1, n2, n3, n4⟩ := numP_ok hp hr
    rw [hr] at hnum hw
    simp only [numA] at hnum
    dsimp only at hw
    have h6 : IntKind.i64.wrap ((b.length : Int) - (e : Int)) = ((b.length - e : Nat) : Int) := by rw [IntWalk.i64_in _ (by omega)]; omega
    have h7 := u64_len (n := b.length - e) (by omega)
    repeat' (first
      | apply_assumption -exfalso -symm (transparency := .reducible) only [*]
      | with_reducible refine SW.stopR 13 ?_
      | (refine ⟨_, _, hnum, ?_⟩ <;> (try simp -implicitDefEqProofs only [go_sem, h6, h7]))
      | (with_reducible refine And.intro ?_ ?_)
      | (refine drawOf ?_; kernel_rfl)
      | ((with_reducible refine opsF_id ?_); simp -implicitDefEqProofs only [go_sem, h6, h7])
      | ((with_reducible refine SW.id ?_); first | with_reducible refine SW.seqK fun K hK => ?_ | with_reducible refine SW.block ?_ | with_reducible refine SW.scope ?_ | ((first | with_reducible refine SW.skip ?_ | with_reducible refine SW.exit ?_ | with_reducible refine SW.label ?_ | with_reducible refine SW.ret ?_ | with_reducible refine SW.go MM ?_ | refine SW.goDrawF MM (by rfl) (by kernel_rfl) ?_); simp -implicitDefEqProofs only [go_sem, h6, h7]) | (refine SW.cond (by simp -implicitDefEqProofs only [go_sem, h6, h7]; rfl) (fun ht => ?_) (fun ht => ?_) <;> (try simp only [decide_eq_true_eq, decide_eq_false_iff_not, beq_iff_eq, bne_iff_ne, beq_eq_false_iff_ne, bne_eq_false_iff_eq, Bool.or_eq_true, Bool.and_eq_true, Bool.or_eq_false_iff, Bool.and_eq_false_imp, Bool.not_eq_true, Bool.not_eq_false, Bool.not_true, Bool.not_false, Bool.not_eq_true', Bool.not_eq_false', Bool.or_false, Bool.false_or, Bool.or_true, Bool.true_or, Bool.and_true, Bool.true_and, reduceCtorEq] at ht) <;> (try contradiction)))
      | ((with_reducible refine guardSplit (fun hg => ?_) (fun hg => ?_)) <;> (try simp only [Bool.not_true, Bool.not_false] at hg) <;> (have hc := hg) <;> simp -implicitDefEqProofs only [go_sem, hg, h6, h7] <;> (try simp only [decide_eq_true_eq, decide_eq_false_iff_not, beq_iff_eq, bne_iff_ne, beq_eq_false_iff_ne, bne_eq_false_iff_eq, Bool.or_eq_true, Bool.and_eq_true, Bool.or_eq_false_iff, Bool.and_eq_false_imp, Bool.not_eq_true, Bool.not_eq_false, Bool.not_true, Bool.not_false, Bool.not_eq_true', Bool.not_eq_false', Bool.or_false, Bool.false_or, Bool.or_true, Bool.true_or, Bool.and_true, Bool.true_and, reduceCtorEq] at hc) <;> (try contradiction)))
    all_goals first | (rw [hS 2 (by rw [hw, if_pos (show p < b.length by omega), if_pos (show acc.length = 4096 by omega)]) (by decide)] <;> rfl) | skip
    all_goals first | (rw [hS er (by rw [hw, if_pos (show p < b.length by omega), if_neg (show ¬acc.length = 4096 by omega), if_pos (show er ≠ 0 by omega)]) (by omega)] <;> rfl) | skip
    all_goals first | (rw [hS 73 (by rw [hw, if_pos (show p < b.length by omega), if_neg (show ¬acc.length = 4096 by omega), if_neg (show ¬er ≠ 0 by omega), if_pos (show b.length - e < n by omega)]) (by decide)] <;> rfl) | skip
    · refine Stop.go ?_
      have he : er = 0 := by omega
      obtain ⟨he1, he2⟩ := n2 he
      rw [if_pos (show p < b.length by omega), if_neg (show ¬acc.length = 4096 by omega), if_neg (show ¬er ≠ 0 by omega), if_neg (show ¬b.length - e < n by omega)] at hw
      have h8 : IntKind.i64.wrap (n : Int) = (n : Int) := IntWalk.i64_in _ (by omega)
      have h9 : IntKind.i64.wrap ((e : Int) + (n : Int)) = ((e + n : Nat) : Int) := by rw [IntWalk.i64_in _ (by omega)]; omega
      have h10 : e + n - e = n := by omega
      repeat' (first
        | apply_assumption -exfalso -symm (transparency := .reducible) only [*]
        | (with_reducible refine And.intro ?_ ?_)
        | (refine drawOf ?_; kernel_rfl)
        | ((with_reducible refine opsF_id ?_); simp -implicitDefEqProofs only [go_sem, h8, h9, h10])
        | ((with_reducible refine SW.id ?_); first | with_reducible refine SW.seqK fun K hK => ?_ | with_reducible refine SW.block ?_ | with_reducible refine SW.scope ?_ | ((first | with_reducible refine SW.skip ?_ | with_reducible refine SW.exit ?_ | with_reducible refine SW.label ?_ | with_reducible refine SW.ret ?_ | with_reducible refine SW.go MM ?_ | refine SW.goDrawF MM (by rfl) (by kernel_rfl) ?_); simp -implicitDefEqProofs only [go_sem, h8, h9, h10]) | (refine SW.cond (by simp -implicitDefEqProofs only [go_sem, h8, h9, h10]; rfl) (fun ht => ?_) (fun ht => ?_) <;> (try simp only [decide_eq_true_eq, decide_eq_false_iff_not, beq_iff_eq, bne_iff_ne, beq_eq_false_iff_ne, bne_eq_false_iff_eq, Bool.or_eq_true, Bool.and_eq_true, Bool.or_eq_false_iff, Bool.and_eq_false_imp, Bool.not_eq_true, Bool.not_eq_false, Bool.not_true, Bool.not_false, Bool.not_eq_true', Bool.not_eq_false', Bool.or_false, Bool.false_or, Bool.or_true, Bool.true_or, Bool.and_true, Bool.true_and, reduceCtorEq] at ht) <;> (try contradiction)))
        | ((with_reducible refine guardSplit (fun hg => ?_) (fun hg => ?_)) <;> (try simp only [Bool.not_true, Bool.not_false] at hg) <;> (have hc := hg) <;> simp -implicitDefEqProofs only [go_sem, hg, h8, h9, h10] <;> (try simp only [decide_eq_true_eq, decide_eq_false_iff_not, beq_iff_eq, bne_iff_ne, beq_eq_false_iff_ne, bne_eq_false_iff_eq, Bool.or_eq_true, Bool.and_eq_true, Bool.or_eq_false_iff, Bool.and_eq_false_imp, Bool.not_eq_true, Bool.not_eq_false, Bool.not_true, Bool.not_false, Bool.not_eq_true', Bool.not_eq_false', Bool.or_false, Bool.false_or, Bool.or_true, Bool.true_or, Bool.and_true, Bool.true_and, reduceCtorEq] at hc) <;> (try contradiction)))
      any_goals omega
      any_goals solve | (refine roomy_of ?_ (by decide); (try simp only [List.length_take]); omega)
      refine ⟨⟨(acc ++ [(b.drop e).take n], e + n, p, k), by dsimp only; omega, by simp; omega, by dsimp only; omega, by
          rw [hw]; simp⟩, Weak.absorbW (d := 2432) (s := 1) (pre := acc.map iO) (y := .ref 2304 1 0 ((b.drop e).take n).length false) (post := []) (by simp -implicitDefEqProofs only [go_sem]) ?_, by dsimp only; omega⟩
      simp -implicitDefEqProofs only [go_sem]
      refine Weak.of [(2432, 0)] (by rfl) ?_ ?_
      · simp -implicitDefEqProofs only [go_sem, h8, h9]
        rw [List.length_append]
        rfl
      · simp -implicitDefEqProofs only [go_sem]
        rfl
    · refine ⟨⟨by rw [hw, if_neg (show ¬p < b.length by omega)]⟩, Weak.of [(0, 0)] (by rfl) ?_ ?_⟩
      · simp -implicitDefEqProofs only [go_sem]
        rw [hw, if_neg (show ¬p < b.length by omega), List.append_nil]
      · simp -implicitDefEqProofs only [go_sem]
        rw [hw, if_neg (show ¬p < b.length by omega), List.append_nil]
  · rw [if_neg (by omega)] at hE
    repeat' (first
      | apply_assumption -exfalso -symm (transparency := .reducible) only [*]
      | (with_reducible refine And.intro ?_ ?_)
      | (refine drawOf ?_; kernel_rfl)
      | ((with_reducible refine opsF_id ?_); simp -implicitDefEqProofs only [go_sem])
      | ((with_reducible refine SW.id ?_); first | with_reducible refine SW.seqK fun K hK => ?_ | with_reducible refine SW.block ?_ | with_reducible refine SW.scope ?_ | ((first | with_reducible refine SW.skip ?_ | with_reducible refine SW.exit ?_ | with_reducible refine SW.label ?_ | with_reducible refine SW.ret ?_ | with_reducible refine SW.go MM ?_ | refine SW.goDrawF MM (by rfl) (by kernel_rfl) ?_); simp -implicitDefEqProofs only [go_sem]) | (refine SW.cond (by simp -implicitDefEqProofs only [go_sem]; rfl) (fun ht => ?_) (fun ht => ?_) <;> (try simp only [decide_eq_true_eq, decide_eq_false_iff_not, beq_iff_eq, bne_iff_ne, beq_eq_false_iff_ne, bne_eq_false_iff_eq, Bool.or_eq_true, Bool.and_eq_true, Bool.or_eq_false_iff, Bool.and_eq_false_imp, Bool.not_eq_true, Bool.not_eq_false, Bool.not_true, Bool.not_false, Bool.not_eq_true', Bool.not_eq_false', Bool.or_false, Bool.false_or, Bool.or_true, Bool.true_or, Bool.and_true, Bool.true_and, reduceCtorEq] at ht) <;> (try contradiction)))
      | ((with_reducible refine guardSplit (fun hg => ?_) (fun hg => ?_)) <;> (try simp only [Bool.not_true, Bool.not_false] at hg) <;> (have hc := hg) <;> simp -implicitDefEqProofs only [go_sem, hg] <;> (try simp only [decide_eq_true_eq, decide_eq_false_iff_not, beq_iff_eq, bne_iff_ne, beq_eq_false_iff_ne, bne_eq_false_iff_eq, Bool.or_eq_true, Bool.and_eq_true, Bool.or_eq_false_iff, Bool.and_eq_false_imp, Bool.not_eq_true, Bool.not_eq_false, Bool.not_true, Bool.not_false, Bool.not_eq_true', Bool.not_eq_false', Bool.or_false, Bool.false_or, Bool.or_true, Bool.true_or, Bool.and_true, Bool.true_and, reduceCtorEq] at hc) <;> (try contradiction)))
    any_goals solve | (rw [hE] <;> rfl)
end Go.PA
