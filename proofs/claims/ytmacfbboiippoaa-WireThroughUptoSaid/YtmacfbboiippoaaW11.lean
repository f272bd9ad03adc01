/- WireReads. -/
import Derived.Test.YtmacfbboiippoaaW10
import Derived.Test.YtmacfbboiippoaaW6
import Derived.Test.YtmacfbboiippoaaPAe
namespace Go.PA
open Go.Proofs
set_option linter.unusedSimpArgs false
set_option linter.unusedVariables false
set_option maxRecDepth 100000
set_option maxHeartbeats 4000000
attribute [local go_sem] MM

theorem put_nil (n : Nat) (hn : n < 2 ^ 64) : FS Try.prog 16 [.sl true [], .v (.int .u64 n)] (.ret [.osl 1 (bA (enc 9 n))] [none, none]) := by
  have h := put_FS true [] n hn (by simp)
  simpa only [bA_nil, List.nil_append] using h

theorem put_300 : FS Try.prog 16 [.sl true [], .v (.int .u64 300)] (.ret [.osl 1 (bA [172, 2])] [none, none]) := put_nil 300 (by decide)

theorem number_300 : FS Try.prog 23 [.sl false (bA [172, 2]), .v (.int .i64 0)] (.ret [.v (.int .u64 300), .v (.int .i64 2), .v (.int .i64 0)] [none, none]) := number_FS false [172, 2] 0 (by decide)

theorem reads_FS (b : List Nat) (p : Int) (hb : b.length < 2 ^ 38) (h8 : ∀ x ∈ b, x < 256) : FS Try.prog 4 [.sl true (bA b), .v (.int .i64 p)] (.ret [.v (.bool true)] [none, none]) := by
  refine FS_of_SW (kb := [false, false]) Try.func4 rfl rfl (by rfl) ?_
  refine SW.weak (Weak.of [] (sls := [(0, .sl true (bA b)), (1, .v (.int .i64 p))]) (bks := []) (ep := 64) (by rfl) ⟨rfl, rfl, trivial⟩ trivial) ?_
  have h1 := number_FS true b p (by omega)
  have h2 := refNumber_FS true b p (by omega) h8
  generalize numP b p = r at h1 h2
  obtain ⟨r1, r2, r3⟩ := r
  simp only [numA] at h1 h2
  have e : ∀ x : Int, (x == x) = true := fun x => by simp
  repeat' (first
    | apply_assumption -exfalso -symm (transparency := .reducible) only [*]
    | (refine ⟨_, _, lent_FS true b (by omega), ?_⟩ <;> (try simp -implicitDefEqProofs only [go_sem, e]))
    | (refine ⟨_, _, h1, ?_⟩ <;> (try simp -implicitDefEqProofs only [go_sem, e]))
    | (refine ⟨_, _, h2, ?_⟩ <;> (try simp -implicitDefEqProofs only [go_sem, e]))
    | (refine ⟨_, _, put_300, ?_⟩ <;> (try simp -implicitDefEqProofs only [go_sem, e]))
    | (refine ⟨_, _, number_300, ?_⟩ <;> (try simp -implicitDefEqProofs only [go_sem, e]))
    | (refine ⟨_, _, kept_FS true true b (by omega), ?_⟩ <;> (try simp -implicitDefEqProofs only [go_sem, e]))
    | (with_reducible refine And.intro ?_ ?_)
    | (refine drawOf ?_; kernel_rfl)
    | ((with_reducible refine SW.id ?_); first | with_reducible refine SW.seqK fun K hK => ?_ | with_reducible refine SW.block ?_ | ((first | with_reducible refine SW.skip ?_ | with_reducible refine SW.exit ?_ | with_reducible refine SW.label ?_ | with_reducible refine SW.ret ?_ | with_reducible refine SW.go MM ?_ | refine SW.goDrawF MM (by rfl) (by kernel_rfl) ?_); simp -implicitDefEqProofs only [go_sem, e]) | (refine SW.cond (by simp -implicitDefEqProofs only [go_sem, e]; rfl) (fun ht => ?_) (fun ht => ?_) <;> (try simp only [decide_eq_true_eq, decide_eq_false_iff_not, beq_iff_eq, bne_iff_ne, beq_eq_false_iff_ne, bne_eq_false_iff_eq, Bool.or_eq_true, Bool.and_eq_true, Bool.or_eq_false_iff, Bool.and_eq_false_imp, Bool.not_eq_true, Bool.not_eq_false, Bool.not_true, Bool.not_false, Bool.not_eq_true', Bool.not_eq_false', Bool.or_false, Bool.false_or, Bool.or_true, Bool.true_or, Bool.and_true, Bool.true_and, reduceCtorEq] at ht) <;> (try contradiction)))
    | ((with_reducible refine guardSplit (fun hg => ?_) (fun hg => ?_)) <;> (try simp only [Bool.not_true, Bool.not_false] at hg) <;> (have hc := hg) <;> simp -implicitDefEqProofs only [go_sem, hg, e] <;> (try simp only [decide_eq_true_eq, decide_eq_false_iff_not, beq_iff_eq, bne_iff_ne, beq_eq_false_iff_ne, bne_eq_false_iff_eq, Bool.or_eq_true, Bool.and_eq_true, Bool.or_eq_false_iff, Bool.and_eq_false_imp, Bool.not_eq_true, Bool.not_eq_false, Bool.not_true, Bool.not_false, Bool.not_eq_true', Bool.not_eq_false', Bool.or_false, Bool.false_or, Bool.or_true, Bool.true_or, Bool.and_true, Bool.true_and, reduceCtorEq] at hc) <;> (try contradiction)))

theorem reads_law {H : Type} (ds : List (DataW H)) (xs : List A) (h : DAs [.slice (.int .u8), .int .i64] ds xs) (hk : dBulks ds ≤ 1048576) : ∃ back, FS Try.prog 4 xs (.ret [.v (.bool true)] back) := by
  obtain ⟨d0, ds, a0, xs, rfl, rfl, h0, h⟩ := h.cons_inv
  obtain ⟨d1, ds, a1, xs, rfl, rfl, h1, h⟩ := h.cons_inv
  obtain ⟨rfl, rfl⟩ := h.nil_inv
  obtain ⟨b, rfl, hb, h8⟩ := h0.bytes_inv
  obtain ⟨n, rfl, rfl, _, _⟩ := h1.int_inv
  simp only [dBulks] at hk
  exact ⟨_, reads_FS b n (by omega) h8⟩
end Go.PA
