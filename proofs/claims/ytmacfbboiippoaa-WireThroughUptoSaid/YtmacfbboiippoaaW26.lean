/- Messages read: the reference's Whole and Decode. -/
import Derived.Test.YtmacfbboiippoaaW25
import Derived.Test.YtmacfbboiippoaaW22
import Derived.Test.YtmacfbboiippoaaPAg
namespace Go.PA
open Go.Proofs
set_option linter.unusedSimpArgs false
set_option linter.unusedVariables false
set_option maxRecDepth 100000
set_option maxHeartbeats 4000000
attribute [local go_sem] MM getP setP takesW
attribute [-go_sem] takeA

theorem nextP_ok {b : List Nat} {p count : Nat} {last : Int} {f : Fld} {e : Nat} (hp : p ≤ b.length) (h : nextP b p count last = (f, e, 0)) : p < e ∧ e ≤ b.length ∧ count ≠ 64 ∧ f.data.length ≤ b.length ∧
    ∃ f0 q, headP b p count last = .ok (f0, q) ∧ valueP b f0 q = (f, e, 0) ∧ f0.no = f.no := by
  unfold nextP at h
  cases hh : headP b p count last with
  | error x =>
    rw [hh] at h
    simp only [Prod.mk.injEq] at h
    exact absurd h.2.2 (headP_err hh)
  | ok r =>
    obtain ⟨f0, qq⟩ := r
    rw [hh] at h
    dsimp only at h
    obtain ⟨no, ty, rfl, g1, g2, g3, g4, g5, g6, g7⟩ := headP_ok hp hh
    obtain ⟨⟨f', e', er⟩, hv⟩ : ∃ r, valueP b ⟨no, ty, 0, []⟩ qq = r := ⟨_, rfl⟩
    obtain ⟨v1, v2, v3, v4⟩ := valueP_ok g6 hv rfl
    rw [hv] at h
    split at h
    · rename_i hne
      simp only [Prod.mk.injEq] at h
      exact absurd h.2.2 hne
    · simp only [Prod.mk.injEq] at h
      obtain ⟨rfl, rfl, rfl⟩ := h
      have := v4 rfl
      exact ⟨by omega, by omega, by omega, by omega, _, _, rfl, hv, v1.symm⟩
theorem walkP_next (b : List Nat) (k p count : Nat) (last : Int) (hp : p ≤ b.length) : walkP b (k + 1) p count last = if p < b.length then
      (if (nextP b p count last).2.2 ≠ 0 then ([], (nextP b p count last).2) else
        ((nextP b p count last).1 :: (walkP b k (nextP b p count last).2.1 (count + 1) (nextP b p count last).1.no).1, (walkP b k (nextP b p count last).2.1 (count + 1) (nextP b p count last).1.no).2)) else ([], 0, 0) := by
  rw [walkP]
  split
  · unfold nextP
    cases hh : headP b p count last with
    | error x => dsimp only; rw [if_pos (headP_err hh)]
    | ok r =>
      obtain ⟨f0, qq⟩ := r
      obtain ⟨no, ty, rfl, g1, g2, g3, g4, g5, g6, g7⟩ := headP_ok hp hh
      obtain ⟨⟨f', e', er⟩, hv⟩ : ∃ r, valueP b ⟨no, ty, 0, []⟩ qq = r := ⟨_, rfl⟩
      obtain ⟨v1, v2, v3, v4⟩ := valueP_ok g6 hv rfl
      simp only [hv]
      dsimp only at v1
      by_cases he : er = 0
      · subst he
        simp [v1]
      · simp [he]
  · rfl
/-- Where the fields begin. -/
def placesP (b : List Nat) : Nat → Nat → Nat → Int → List Nat
  | 0, _, _, _ => []
  | k + 1, p, count, last => if p < b.length then (if (nextP b p count last).2.2 ≠ 0 then [] else p :: placesP b k (nextP b p count last).2.1 (count + 1) (nextP b p count last).1.no) else []
def placesD (b : List Nat) : List Nat := if 4194304 < b.length then [] else placesP b (b.length + 1) 0 0 0
theorem whole_FS (q : Bool) (b : List Nat) (hb : b.length < 2 ^ 40) (hB : ∀ x ∈ b, x < 256) :
    FS Try.prog 34 [.sl q (bA b)] (.ret [.osl 4 ((walkD b).1.map fO), .osl 1 (nA .i64 (placesD b)), .v (.int .i64 (walkD b).2.1), .v (.int .i64 (walkD b).2.2)] [none]) := by
  refine FS_of_SW (kb := [false]) Try.func34 rfl rfl (by rfl) ?_
  refine SW.weak (Weak.of [] (sls := [(0, .sl q (bA b))]) (bks := []) (ep := 64) (by rfl) ⟨rfl, trivial⟩ trivial) ?_
  have hD2 : 4194304 < b.length → walkD b = ([], 0, 2) ∧ placesD b = [] := fun h => by unfold walkD placesD; rw [if_pos h, if_pos h]; exact ⟨rfl, rfl⟩
  repeat' (first
    | apply_assumption -exfalso -symm (transparency := .reducible) only [*]
    | with_reducible refine SW.stopR 4 ?_
    | (with_reducible refine And.intro ?_ ?_)
    | (refine drawOf ?_; kernel_rfl)
    | ((with_reducible refine SW.id ?_); first | with_reducible refine SW.seqK fun K hK => ?_ | with_reducible refine SW.block ?_ | with_reducible refine SW.scope ?_ | ((first | with_reducible refine SW.skip ?_ | with_reducible refine SW.exit ?_ | with_reducible refine SW.label ?_ | with_reducible refine SW.ret ?_ | with_reducible refine SW.go MM ?_ | refine SW.goDrawF MM (by rfl) (by kernel_rfl) ?_); simp -implicitDefEqProofs only [go_sem]) | (refine SW.cond (by simp -implicitDefEqProofs only [go_sem]; rfl) (fun ht => ?_) (fun ht => ?_) <;> (try simp only [decide_eq_true_eq, decide_eq_false_iff_not, beq_iff_eq, bne_iff_ne, beq_eq_false_iff_ne, bne_eq_false_iff_eq, Bool.or_eq_true, Bool.and_eq_true, Bool.or_eq_false_iff, Bool.and_eq_false_imp, Bool.not_eq_true, Bool.not_eq_false, Bool.not_true, Bool.not_false, Bool.not_eq_true', Bool.not_eq_false', Bool.or_false, Bool.false_or, Bool.or_true, Bool.true_or, Bool.and_true, Bool.true_and, reduceCtorEq] at ht) <;> (try contradiction)))
    | ((with_reducible refine guardSplit (fun hg => ?_) (fun hg => ?_)) <;> (try simp only [Bool.not_true, Bool.not_false] at hg) <;> (have hc := hg) <;> simp -implicitDefEqProofs only [go_sem, hg] <;> (try simp only [decide_eq_true_eq, decide_eq_false_iff_not, beq_iff_eq, bne_iff_ne, beq_eq_false_iff_ne, bne_eq_false_iff_eq, Bool.or_eq_true, Bool.and_eq_true, Bool.or_eq_false_iff, Bool.and_eq_false_imp, Bool.not_eq_true, Bool.not_eq_false, Bool.not_true, Bool.not_false, Bool.not_eq_true', Bool.not_eq_false', Bool.or_false, Bool.false_or, Bool.or_true, Bool.true_or, Bool.and_true, Bool.true_and, reduceCtorEq] at hc) <;> (try contradiction)))
  any_goals solve | (rw [(hD2 (by omega)).1] <;> rfl) | (rw [(hD2 (by omega)).2] <;> rfl)
  have hle : ¬ 4194304 < b.length := by omega
  have hD : walkD b = walkP b (b.length + 1) 0 0 0 ∧ placesD b = placesP b (b.length + 1) 0 0 0 := by unfold walkD placesD; rw [if_neg hle, if_neg hle]; exact ⟨rfl, rfl⟩
  clear hD2
  refine Stop.go ?_
  repeat' (first
    | apply_assumption -exfalso -symm (transparency := .reducible) only [*]
    | (with_reducible refine And.intro ?_ ?_)
    | (refine drawOf ?_; kernel_rfl)
    | ((with_reducible refine SW.id ?_); first | with_reducible refine SW.seqK fun K hK => ?_ | with_reducible refine SW.block ?_ | with_reducible refine SW.scope ?_ | ((first | with_reducible refine SW.skip ?_ | with_reducible refine SW.exit ?_ | with_reducible refine SW.label ?_ | with_reducible refine SW.ret ?_ | with_reducible refine SW.go MM ?_ | refine SW.goDrawF MM (by rfl) (by kernel_rfl) ?_); simp -implicitDefEqProofs only [go_sem]) | (refine SW.cond (by simp -implicitDefEqProofs only [go_sem]; rfl) (fun ht => ?_) (fun ht => ?_) <;> (try simp only [decide_eq_true_eq, decide_eq_false_iff_not, beq_iff_eq, bne_iff_ne, beq_eq_false_iff_ne, bne_eq_false_iff_eq, Bool.or_eq_true, Bool.and_eq_true, Bool.or_eq_false_iff, Bool.and_eq_false_imp, Bool.not_eq_true, Bool.not_eq_false, Bool.not_true, Bool.not_false, Bool.not_eq_true', Bool.not_eq_false', Bool.or_false, Bool.false_or, Bool.or_true, Bool.true_or, Bool.and_true, Bool.true_and, reduceCtorEq] at ht) <;> (try contradiction)))
    | ((with_reducible refine guardSplit (fun hg => ?_) (fun hg => ?_)) <;> (try simp only [Bool.not_true, Bool.not_false] at hg) <;> (have hc := hg) <;> simp -implicitDefEqProofs only [go_sem, hg] <;> (try simp only [decide_eq_true_eq, decide_eq_false_iff_not, beq_iff_eq, bne_iff_ne, beq_eq_false_iff_ne, bne_eq_false_iff_eq, Bool.or_eq_true, Bool.and_eq_true, Bool.or_eq_false_iff, Bool.and_eq_false_imp, Bool.not_eq_true, Bool.not_eq_false, Bool.not_true, Bool.not_false, Bool.not_eq_true', Bool.not_eq_false', Bool.or_false, Bool.false_or, Bool.or_true, Bool.true_or, Bool.and_true, Bool.true_and, reduceCtorEq] at hc) <;> (try contradiction)))
  refine SW.loop (α := { x : List Fld × Nat × Int × Nat × List Nat // x.2.1 ≤ b.length ∧ x.1.length ≤ 64 ∧ b.length - x.2.1 < x.2.2.2.1 ∧ x.2.2.2.2.length = x.1.length ∧
      walkD b = (x.1 ++ (walkP b x.2.2.2.1 x.2.1 x.1.length x.2.2.1).1, (walkP b x.2.2.2.1 x.2.1 x.1.length x.2.2.1).2) ∧ placesD b = x.2.2.2.2 ++ placesP b x.2.2.2.1 x.2.1 x.1.length x.2.2.1 })
    (fun x => St.of [(0, .sl q (bA b)), (6, .ref 0 4 0 x.1.1.length false), (7, .ref 1 1 0 x.1.2.2.2.2.length false), (8, .v (.int .i64 x.1.2.1)), (9, .v (.int .i64 x.1.2.2.1))] [(0, .row 4 (x.1.1.map fO)), (1, .row 1 (nA .i64 x.1.2.2.2.2))] 64) (fun x => x.1.2.2.2.1)
    ⟨([], 0, 0, b.length + 1, []), by dsimp only; omega, by simp, by dsimp only; omega, rfl, by rw [hD.1]; rfl, by rw [hD.2]; rfl⟩ (Weak.of [(320, 0), (384, 1)] (by rfl) ?_ ?_) fun ⟨⟨acc, p, last, k, pl⟩, hp, hacc, hk, hpl, hw, hpw⟩ => ?_
  · simp -implicitDefEqProofs only [go_sem]
    rfl
  · simp -implicitDefEqProofs only [go_sem]
  · dsimp only at hp hacc hk hpl hw hpw
    obtain ⟨k, rfl⟩ : ∃ k', k = k' + 1 := ⟨k - 1, by omega⟩
    rw [walkP_next b k p acc.length last hp] at hw
    rw [placesP] at hpw
    have hn := fun h => next_FS q b p acc.length last hb hB hp h
    have hn := hn hacc
    obtain ⟨⟨f, e, er⟩, hr⟩ : ∃ r, nextP b p acc.length last = r := ⟨_, rfl⟩
    have hok : er = 0 → _ := fun h => nextP_ok hp (by rw [hr, h])
    rw [hr] at hn hw hpw
    simp only [fO] at hn
    dsimp only at hw hpw
    have t1 : List.take pl.length pl = pl := List.take_of_length_le (by omega)
    have t2 : List.take acc.length (List.map fO acc) = List.map fO acc := List.take_of_length_le (by simp)
    repeat' (first
      | apply_assumption -exfalso -symm (transparency := .reducible) only [*]
      | with_reducible refine SW.stopR 9 ?_
      | (refine ⟨_, _, hn, ?_⟩ <;> (try simp -implicitDefEqProofs only [go_sem, t1, t2]))
      | (with_reducible refine And.intro ?_ ?_)
      | (refine drawOf ?_; kernel_rfl)
      | ((with_reducible refine SW.id ?_); first | with_reducible refine SW.seqK fun K hK => ?_ | with_reducible refine SW.block ?_ | with_reducible refine SW.scope ?_ | ((first | with_reducible refine SW.skip ?_ | with_reducible refine SW.exit ?_ | with_reducible refine SW.label ?_ | with_reducible refine SW.ret ?_ | with_reducible refine SW.go MM ?_ | refine SW.goDrawF MM (by rfl) (by kernel_rfl) ?_); simp -implicitDefEqProofs only [go_sem, t1, t2]) | (refine SW.cond (by simp -implicitDefEqProofs only [go_sem, t1, t2]; rfl) (fun ht => ?_) (fun ht => ?_) <;> (try simp only [decide_eq_true_eq, decide_eq_false_iff_not, beq_iff_eq, bne_iff_ne, beq_eq_false_iff_ne, bne_eq_false_iff_eq, Bool.or_eq_true, Bool.and_eq_true, Bool.or_eq_false_iff, Bool.and_eq_false_imp, Bool.not_eq_true, Bool.not_eq_false, Bool.not_true, Bool.not_false, Bool.not_eq_true', Bool.not_eq_false', Bool.or_false, Bool.false_or, Bool.or_true, Bool.true_or, Bool.and_true, Bool.true_and, reduceCtorEq] at ht) <;> (try contradiction)))
      | ((with_reducible refine guardSplit (fun hg => ?_) (fun hg => ?_)) <;> (try simp only [Bool.not_true, Bool.not_false] at hg) <;> (have hc := hg) <;> simp -implicitDefEqProofs only [go_sem, hg, t1, t2] <;> (try simp only [decide_eq_true_eq, decide_eq_false_iff_not, beq_iff_eq, bne_iff_ne, beq_eq_false_iff_ne, bne_eq_false_iff_eq, Bool.or_eq_true, Bool.and_eq_true, Bool.or_eq_false_iff, Bool.and_eq_false_imp, Bool.not_eq_true, Bool.not_eq_false, Bool.not_true, Bool.not_false, Bool.not_eq_true', Bool.not_eq_false', Bool.or_false, Bool.false_or, Bool.or_true, Bool.true_or, Bool.and_true, Bool.true_and, reduceCtorEq] at hc) <;> (try contradiction)))
    any_goals solve
      | (rw [hw, if_pos (by omega), if_pos (by omega)] <;> simp)
      | (rw [hpw, if_pos (by omega), if_pos (by omega)] <;> simp)
      | (rw [hw, if_neg (by omega)] <;> simp)
      | (rw [hpw, if_neg (by omega)] <;> simp)
    obtain ⟨n1, n2, n3, n4, _⟩ := hok (by omega)
    clear hok
    rw [if_pos (by omega), if_neg (by omega)] at hw hpw
    obtain rfl : er = 0 := by omega
    refine Stop.go ?_
    repeat' (first
      | apply_assumption -exfalso -symm (transparency := .reducible) only [*]
      | (with_reducible refine And.intro ?_ ?_)
      | (refine drawOf ?_; kernel_rfl)
      | ((with_reducible refine SW.id ?_); first | with_reducible refine SW.seqK fun K hK => ?_ | with_reducible refine SW.block ?_ | with_reducible refine SW.scope ?_ | ((first | with_reducible refine SW.skip ?_ | with_reducible refine SW.exit ?_ | with_reducible refine SW.label ?_ | with_reducible refine SW.ret ?_ | with_reducible refine SW.go MM ?_ | refine SW.goDrawF MM (by rfl) (by kernel_rfl) ?_); simp -implicitDefEqProofs only [go_sem, t1, t2]) | (refine SW.cond (by simp -implicitDefEqProofs only [go_sem, t1, t2]; rfl) (fun ht => ?_) (fun ht => ?_) <;> (try simp only [decide_eq_true_eq, decide_eq_false_iff_not, beq_iff_eq, bne_iff_ne, beq_eq_false_iff_ne, bne_eq_false_iff_eq, Bool.or_eq_true, Bool.and_eq_true, Bool.or_eq_false_iff, Bool.and_eq_false_imp, Bool.not_eq_true, Bool.not_eq_false, Bool.not_true, Bool.not_false, Bool.not_eq_true', Bool.not_eq_false', Bool.or_false, Bool.false_or, Bool.or_true, Bool.true_or, Bool.and_true, Bool.true_and, reduceCtorEq] at ht) <;> (try contradiction)))
      | ((with_reducible refine guardSplit (fun hg => ?_) (fun hg => ?_)) <;> (try simp only [Bool.not_true, Bool.not_false] at hg) <;> (have hc := hg) <;> simp -implicitDefEqProofs only [go_sem, hg, t1, t2] <;> (try simp only [decide_eq_true_eq, decide_eq_false_iff_not, beq_iff_eq, bne_iff_ne, beq_eq_false_iff_ne, bne_eq_false_iff_eq, Bool.or_eq_true, Bool.and_eq_true, Bool.or_eq_false_iff, Bool.and_eq_false_imp, Bool.not_eq_true, Bool.not_eq_false, Bool.not_true, Bool.not_false, Bool.not_eq_true', Bool.not_eq_false', Bool.or_false, Bool.false_or, Bool.or_true, Bool.true_or, Bool.and_true, Bool.true_and, reduceCtorEq] at hc) <;> (try contradiction)))
    all_goals try omega
    any_goals solve | exact roomy_of (by omega) (by decide)
    refine ⟨⟨(acc ++ [f], e, f.no, k, pl ++ [p]), by dsimp only; omega, by simp; omega, by dsimp only; omega, by simp; omega, by dsimp only; rw [hw]; simp, by dsimp only; rw [hpw]; simp⟩,
      Weak.absorbW (d := 1536) (s := 4) (pre := acc.map fO) (y := .agg [.v (.int .i64 f.no), .v (.int .i64 f.ty), .v (.int .u64 f.num), .ref 640 1 0 f.data.length false]) (post := []) (by simp -implicitDefEqProofs only [go_sem]) ?_, by dsimp only; omega⟩
    simp -implicitDefEqProofs only [go_sem]
    refine Weak.of [(1536, 0), (1856, 1)] (by rfl) ?_ ?_
    · simp -implicitDefEqProofs only [go_sem, List.length_append]
    · simp -implicitDefEqProofs only [go_sem, fO]

theorem refDecode_FS (q : Bool) (b : List Nat) (hb : b.length < 2 ^ 40) (hB : ∀ x ∈ b, x < 256) :
    FS Try.prog 37 [.sl q (bA b)] (.ret [.osl 4 ((decD b).1.map fO), .v (.int .i64 (decD b).2.1), .v (.int .i64 (decD b).2.2)] [none]) := by
  refine FS_of_SW (kb := [false]) Try.func37 rfl rfl (by rfl) ?_
  refine SW.weak (Weak.of [] (sls := [(0, .sl q (bA b))]) (bks := []) (ep := 64) (by rfl) ⟨rfl, trivial⟩ trivial) ?_
  have hw := whole_FS q b hb hB
  have hE : (walkD b).2.2 ≠ 0 → decD b = ([], (walkD b).2) := fun h => by unfold decD; rw [if_pos h]
  have hO : (walkD b).2.2 = 0 → decD b = ((walkD b).1, 0, 0) := fun h => by unfold decD; rw [if_neg (by omega)]
  have htk : List.take (walkD b).1.length (List.map fO (walkD b).1) = List.map fO (walkD b).1 := List.take_of_length_le (by simp)
  repeat' (first
    | apply_assumption -exfalso -symm (transparency := .reducible) only [*]
    | (refine ⟨_, _, hw, ?_⟩ <;> (try simp -implicitDefEqProofs only [go_sem, htk]))
    | (with_reducible refine And.intro ?_ ?_)
    | (refine drawOf ?_; kernel_rfl)
    | ((with_reducible refine SW.id ?_); first | with_reducible refine SW.seqK fun K hK => ?_ | with_reducible refine SW.block ?_ | with_reducible refine SW.scope ?_ | ((first | with_reducible refine SW.skip ?_ | with_reducible refine SW.exit ?_ | with_reducible refine SW.label ?_ | with_reducible refine SW.ret ?_ | with_reducible refine SW.go MM ?_ | refine SW.goDrawF MM (by rfl) (by kernel_rfl) ?_); simp -implicitDefEqProofs only [go_sem, htk]) | (refine SW.cond (by simp -implicitDefEqProofs only [go_sem, htk]; rfl) (fun ht => ?_) (fun ht => ?_) <;> (try simp only [decide_eq_true_eq, decide_eq_false_iff_not, beq_iff_eq, bne_iff_ne, beq_eq_false_iff_ne, bne_eq_false_iff_eq, Bool.or_eq_true, Bool.and_eq_true, Bool.or_eq_false_iff, Bool.and_eq_false_imp, Bool.not_eq_true, Bool.not_eq_false, Bool.not_true, Bool.not_false, Bool.not_eq_true', Bool.not_eq_false', Bool.or_false, Bool.false_or, Bool.or_true, Bool.true_or, Bool.and_true, Bool.true_and, reduceCtorEq] at ht) <;> (try contradiction)))
    | ((with_reducible refine guardSplit (fun hg => ?_) (fun hg => ?_)) <;> (try simp only [Bool.not_true, Bool.not_false] at hg) <;> (have hc := hg) <;> simp -implicitDefEqProofs only [go_sem, hg, htk] <;> (try simp only [decide_eq_true_eq, decide_eq_false_iff_not, beq_iff_eq, bne_iff_ne, beq_eq_false_iff_ne, bne_eq_false_iff_eq, Bool.or_eq_true, Bool.and_eq_true, Bool.or_eq_false_iff, Bool.and_eq_false_imp, Bool.not_eq_true, Bool.not_eq_false, Bool.not_true, Bool.not_false, Bool.not_eq_true', Bool.not_eq_false', Bool.or_false, Bool.false_or, Bool.or_true, Bool.true_or, Bool.and_true, Bool.true_and, reduceCtorEq] at hc) <;> (try contradiction)))
  any_goals solve | (rw [hE (by omega)] <;> rfl) | (rw [hO (by omega)] <;> rfl)
end Go.PA
