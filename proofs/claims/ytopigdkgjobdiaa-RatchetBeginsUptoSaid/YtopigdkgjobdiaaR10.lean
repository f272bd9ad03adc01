/- The document's curve: clamp, bits, the ladder, pairs. -/
import Derived.Test.YtopigdkgjobdiaaR9
namespace Go.PA
open Go.Proofs Go.Fe
set_option linter.unusedSimpArgs false
set_option linter.unusedVariables false
set_option maxRecDepth 100000
set_option maxHeartbeats 4000000
attribute [local go_sem] MR getP setP takesW
attribute [-go_sem] takeA roA A.good A.isAgg

def numD (n : Nat) : A := .agg [.arr 4 (nA .u64 (dig4 n))]
theorem numD_plain (n : Nat) : (numD n).plain = true := rfl
theorem numD_sz (n : Nat) : (numD n).sz = 4 := rfl
theorem numD_agg (n : Nat) : (numD n).isAgg = true := rfl
attribute [go_sem] numD_plain numD_sz numD_agg
def rungT (r : Rung) : A := .agg [numD r.a, numD r.b, numD r.c, numD r.d]
theorem addD {a b : Nat} (ha : a < p25519) (hb : b < p25519) : FS Try.prog 50 [numD a, numD b] (.ret [numD (addN a b)] [none, none]) := add_FS ha hb
theorem subD {a b : Nat} (ha : a < p25519) (hb : b < p25519) : FS Try.prog 51 [numD a, numD b] (.ret [numD (subN a b)] [none, none]) := sub_FS ha hb
theorem mulD {a b : Nat} (ha : a < p25519) (hb : b < p25519) : FS Try.prog 45 [numD a, numD b] (.ret [numD (mulN a b)] [none, none]) := mul_FS ha hb
theorem sqD {a : Nat} (ha : a < p25519) : FS Try.prog 52 [numD a] (.ret [numD (mulN a a)] [none]) := sq_FS ha
theorem smallD {n : Nat} (ha : n < 18446744073709551616) : FS Try.prog 41 [.v (.int .u64 ((n : Nat) : Int))] (.ret [numD n] [none]) := small_FS n ha
theorem invD {a : Nat} (ha : a < p25519) : FS Try.prog 46 [numD a] (.ret [numD (a ^ (2 ^ 255 - 21) % p25519)] [none]) := invertD_FS ha
theorem bytesD (n : Nat) : FS Try.prog 47 [numD n] (.ret [.arr 32 (bA (bytesN n))] [none]) := bytes_FS n
theorem fromD (b : List Nat) (hl : b.length = 32) (hb : ∀ x ∈ b, x < 256) : FS Try.prog 40 [.arr 32 (bA (b))] (.ret [numD (fromL b)] [none]) := from_FS b hl hb

theorem turned_FS (a b c d : Nat) : FS Try.prog 43 [.agg [numD a, numD b, numD c, numD d]] (.ret [.agg [numD c, numD d, numD a, numD b]] [none]) := by
  refine FS_of_SW (kb := [false]) Try.func43 rfl rfl (by rfl) ?_
  refine SW.weak (Weak.of [] (sls := [(0, .agg [numD a, numD b, numD c, numD d])]) (bks := []) (ep := 64) (by rfl) (by repeat' (first | exact rfl | exact trivial | refine And.intro ?_ ?_)) trivial) ?_
  repeat' (first
    | apply_assumption -exfalso -symm (transparency := .reducible) only [*]
    | (with_reducible refine And.intro ?_ ?_)
    | (refine drawIt ?_; kernel_rfl)
    | ((with_reducible refine opsF_id ?_); simp -implicitDefEqProofs only [go_sem])
    | ((with_reducible refine SW.id ?_); first | with_reducible refine SW.seqK fun K hK => ?_ | with_reducible refine SW.block ?_ | with_reducible refine SW.scope ?_ | ((first | with_reducible refine SW.skip ?_ | with_reducible refine SW.exit ?_ | with_reducible refine SW.label ?_ | with_reducible refine SW.ret ?_ | with_reducible refine SW.go MR ?_ | refine SW.goDrawF MR (by rfl) (by kernel_rfl) ?_); simp -implicitDefEqProofs only [go_sem]) | (refine SW.cond (by simp -implicitDefEqProofs only [go_sem]; rfl) (fun ht => ?_) (fun ht => ?_) <;> (try simp only [decide_eq_true_eq, decide_eq_false_iff_not, beq_iff_eq, bne_iff_ne, beq_eq_false_iff_ne, bne_eq_false_iff_eq, Bool.or_eq_true, Bool.and_eq_true, Bool.or_eq_false_iff, Bool.and_eq_false_imp, Bool.not_eq_true, Bool.not_eq_false, Bool.not_true, Bool.not_false, Bool.not_eq_true', Bool.not_eq_false', Bool.or_false, Bool.false_or, Bool.or_true, Bool.true_or, Bool.and_true, Bool.true_and, reduceCtorEq] at ht) <;> (try with_reducible contradiction)))
    | ((with_reducible refine guardSplit (fun hg => ?_) (fun hg => ?_)) <;> (try simp only [Bool.not_true, Bool.not_false] at hg) <;> (have hc := hg) <;> simp -implicitDefEqProofs only [go_sem, hg] <;> (try simp only [decide_eq_true_eq, decide_eq_false_iff_not, beq_iff_eq, bne_iff_ne, beq_eq_false_iff_ne, bne_eq_false_iff_eq, Bool.or_eq_true, Bool.and_eq_true, Bool.or_eq_false_iff, Bool.and_eq_false_imp, Bool.not_eq_true, Bool.not_eq_false, Bool.not_true, Bool.not_false, Bool.not_eq_true', Bool.not_eq_false', Bool.or_false, Bool.false_or, Bool.or_true, Bool.true_or, Bool.and_true, Bool.true_and, reduceCtorEq] at hc) <;> (try with_reducible contradiction)))

theorem step_FS (x : Nat) (r : Rung) (hx : x < p25519) (hr : r.lt) : FS Try.prog 44 [numD x, .agg [numD r.a, numD r.b, numD r.c, numD r.d]] (.ret [.agg [numD (r.step x).a, numD (r.step x).b, numD (r.step x).c, numD (r.step x).d]] [none, none]) := by
  refine FS_of_SW (kb := [false, false]) Try.func44 rfl rfl (by rfl) ?_
  obtain ⟨a, b, c, d⟩ := r
  obtain ⟨ha, hb, hc, hd⟩ := hr
  simp only [Rung.step]
  dsimp only at ha hb hc hd
  have k1 := addN_lt a b
  have k2 := subN_lt a b
  have k3 := addN_lt c d
  have k4 := subN_lt c d
  have q1 := addD ha hb
  have q2 := subD ha hb
  have q3 := addD hc hd
  have q4 := subD hc hd
  generalize addN a b = e at *
  generalize subN a b = f at *
  generalize addN c d = g at *
  generalize subN c d = h at *
  have k5 := mulN_lt e e
  have k6 := mulN_lt f f
  have k7 := mulN_lt h e
  have k8 := mulN_lt g f
  have q5 := sqD k1
  have q6 := sqD k2
  have q7 := mulD k4 k1
  have q8 := mulD k3 k2
  generalize mulN e e = y at *
  generalize mulN f f = z at *
  generalize mulN h e = m at *
  generalize mulN g f = n at *
  have k9 := subN_lt y z
  have q9 := subD k5 k6
  have q10 := mulD k5 k6
  generalize subN y z = w at *
  have k10 := mulN_lt 121665 w
  have q11 := smallD (n := 121665) (by decide)
  have q12 := mulD (show 121665 < p25519 by decide) k9
  have k11 := addN_lt y (mulN 121665 w)
  have q13 := addD k5 k10
  have q14 := mulD k9 k11
  have q15 := addD k7 k8
  have q16 := sqD (addN_lt m n)
  have q17 := subD k7 k8
  have q18 := sqD (subN_lt m n)
  have q19 := mulD hx (mulN_lt (subN m n) (subN m n))
  refine SW.weak (Weak.of [] (sls := [(0, numD x), (1, .agg [numD a, numD b, numD c, numD d])]) (bks := []) (ep := 64) (by rfl) (by repeat' (first | exact rfl | exact trivial | refine And.intro ?_ ?_)) trivial) ?_
  repeat' (first
    | apply_assumption -exfalso -symm (transparency := .reducible) only [*]
    | (with_reducible refine callEnd_of q1 ?_ <;> (try simp -implicitDefEqProofs only [go_sem]))
    | (with_reducible refine callEnd_of q2 ?_ <;> (try simp -implicitDefEqProofs only [go_sem]))
    | (with_reducible refine callEnd_of q3 ?_ <;> (try simp -implicitDefEqProofs only [go_sem]))
    | (with_reducible refine callEnd_of q4 ?_ <;> (try simp -implicitDefEqProofs only [go_sem]))
    | (with_reducible refine callEnd_of q5 ?_ <;> (try simp -implicitDefEqProofs only [go_sem]))
    | (with_reducible refine callEnd_of q6 ?_ <;> (try simp -implicitDefEqProofs only [go_sem]))
    | (with_reducible refine callEnd_of q7 ?_ <;> (try simp -implicitDefEqProofs only [go_sem]))
    | (with_reducible refine callEnd_of q8 ?_ <;> (try simp -implicitDefEqProofs only [go_sem]))
    | (with_reducible refine callEnd_of q9 ?_ <;> (try simp -implicitDefEqProofs only [go_sem]))
    | (with_reducible refine callEnd_of q10 ?_ <;> (try simp -implicitDefEqProofs only [go_sem]))
    | (refine callEnd_of q11 ?_ <;> (try simp -implicitDefEqProofs only [go_sem]))
    | (with_reducible refine callEnd_of q12 ?_ <;> (try simp -implicitDefEqProofs only [go_sem]))
    | (with_reducible refine callEnd_of q13 ?_ <;> (try simp -implicitDefEqProofs only [go_sem]))
    | (with_reducible refine callEnd_of q14 ?_ <;> (try simp -implicitDefEqProofs only [go_sem]))
    | (with_reducible refine callEnd_of q15 ?_ <;> (try simp -implicitDefEqProofs only [go_sem]))
    | (with_reducible refine callEnd_of q16 ?_ <;> (try simp -implicitDefEqProofs only [go_sem]))
    | (with_reducible refine callEnd_of q17 ?_ <;> (try simp -implicitDefEqProofs only [go_sem]))
    | (with_reducible refine callEnd_of q18 ?_ <;> (try simp -implicitDefEqProofs only [go_sem]))
    | (with_reducible refine callEnd_of q19 ?_ <;> (try simp -implicitDefEqProofs only [go_sem]))
    | (with_reducible refine And.intro ?_ ?_)
    | (refine drawIt ?_; kernel_rfl)
    | ((with_reducible refine opsF_id ?_); simp -implicitDefEqProofs only [go_sem])
    | ((with_reducible refine SW.id ?_); first | with_reducible refine SW.seqK fun K hK => ?_ | with_reducible refine SW.block ?_ | with_reducible refine SW.scope ?_ | ((first | with_reducible refine SW.skip ?_ | with_reducible refine SW.exit ?_ | with_reducible refine SW.label ?_ | with_reducible refine SW.ret ?_ | with_reducible refine SW.go MR ?_ | refine SW.goDrawF MR (by rfl) (by kernel_rfl) ?_); simp -implicitDefEqProofs only [go_sem]) | (refine SW.cond (by simp -implicitDefEqProofs only [go_sem]; rfl) (fun ht => ?_) (fun ht => ?_) <;> (try simp only [decide_eq_true_eq, decide_eq_false_iff_not, beq_iff_eq, bne_iff_ne, beq_eq_false_iff_ne, bne_eq_false_iff_eq, Bool.or_eq_true, Bool.and_eq_true, Bool.or_eq_false_iff, Bool.and_eq_false_imp, Bool.not_eq_true, Bool.not_eq_false, Bool.not_true, Bool.not_false, Bool.not_eq_true', Bool.not_eq_false', Bool.or_false, Bool.false_or, Bool.or_true, Bool.true_or, Bool.and_true, Bool.true_and, reduceCtorEq] at ht) <;> (try with_reducible contradiction)))
    | ((with_reducible refine guardSplit (fun hg => ?_) (fun hg => ?_)) <;> (try simp only [Bool.not_true, Bool.not_false] at hg) <;> (have hc := hg) <;> simp -implicitDefEqProofs only [go_sem, hg] <;> (try simp only [decide_eq_true_eq, decide_eq_false_iff_not, beq_iff_eq, bne_iff_ne, beq_eq_false_iff_ne, bne_eq_false_iff_eq, Bool.or_eq_true, Bool.and_eq_true, Bool.or_eq_false_iff, Bool.and_eq_false_imp, Bool.not_eq_true, Bool.not_eq_false, Bool.not_true, Bool.not_false, Bool.not_eq_true', Bool.not_eq_false', Bool.or_false, Bool.false_or, Bool.or_true, Bool.true_or, Bool.and_true, Bool.true_and, reduceCtorEq] at hc) <;> (try with_reducible contradiction)))

theorem bit_FS (k : List Nat) (t : Nat) (hl : k.length = 32) (hk : ∀ x ∈ k, x < 256) (ht : t < 256) : FS Try.prog 42 [.arr 32 (bA (k)), .v (.int .i64 ((t : Nat) : Int))] (.ret [.v (.bool (bitL k t))] [none, none]) := by
  refine FS_of_SW (kb := [false, false]) (st0 := ?st) Try.func42 rfl rfl ?he ?_
  case he =>
    simp only [entrySt, unfs, unf, A.noown, noowns, nA_noowns, bA_noowns, Option.map_some, if_true, reduceIte, List.nil_append, List.append_nil]
    rfl
  have h6 : IntKind.i64.wrap ((t : Int).tdiv 8) = ((t / 8 : Nat) : Int) := by rw [show (t : Int).tdiv 8 = ((t / 8 : Nat) : Int) from rfl]; exact i64_same (by omega)
  have h7 : (t : Int).tmod 8 = ((t % 8 : Nat) : Int) := rfl
  have g1 := bA_getD (l := k) (i := t / 8) (by omega)
  have s1 := eq_true (szAt_bA (l := k) (i := t / 8) (by omega))
  have hb : bitL k t = (k.getD (t / 8) 0 / 2 ^ (t % 8) % 2 == 1) := rfl
  rw [hb]
  obtain ⟨x, hx⟩ : ∃ x, k.getD (t / 8) 0 = x := ⟨_, rfl⟩
  rw [hx] at g1 ⊢
  have e1 : ishr .u8 (x : Int) ((t % 8 : Nat) : Int) = ((x / 2 ^ (t % 8) : Nat) : Int) := by
    simp only [ishr, IntKind.bits, Int.toNat_natCast, Nat.min_eq_left (show t % 8 ≤ 8 by omega)]
    rw [Int.fdiv_eq_ediv_of_nonneg _ (by exact_mod_cast Nat.zero_le _)]
    norm_cast
  have e2 : ((x / 2 ^ (t % 8) : Nat) : Int).tmod 2 = ((x / 2 ^ (t % 8) % 2 : Nat) : Int) := rfl
  have e3 (y : Nat) : ((y : Int) == 1) = (y == 1) := by
    by_cases h : y = 1
    · subst h; rfl
    · have : ¬ (y : Int) = 1 := by omega
      rw [beq_eq_false_iff_ne.2 this, beq_eq_false_iff_ne.2 h]
  refine SW.weak (Weak.of [] (sls := [(0, .arr 32 (bA (k))), (1, .v (.int .i64 ((t : Nat) : Int)))]) (bks := []) (ep := 64) (by rfl) (by repeat' (first | exact rfl | exact trivial | refine And.intro ?_ ?_)) trivial) ?_
  repeat' (first
    | apply_assumption -exfalso -symm (transparency := .reducible) only [*]
    | (with_reducible refine And.intro ?_ ?_)
    | (refine drawIt ?_; kernel_rfl)
    | ((with_reducible refine opsF_id ?_); simp -implicitDefEqProofs only [go_sem, h6, h7, g1, s1, e1, e2, e3])
    | ((with_reducible refine SW.id ?_); first | with_reducible refine SW.seqK fun K hK => ?_ | with_reducible refine SW.block ?_ | with_reducible refine SW.scope ?_ | ((first | with_reducible refine SW.skip ?_ | with_reducible refine SW.exit ?_ | with_reducible refine SW.label ?_ | with_reducible refine SW.ret ?_ | with_reducible refine SW.go MR ?_ | refine SW.goDrawF MR (by rfl) (by kernel_rfl) ?_); simp -implicitDefEqProofs only [go_sem, h6, h7, g1, s1, e1, e2, e3]) | (refine SW.cond (by simp -implicitDefEqProofs only [go_sem, h6, h7, g1, s1, e1, e2, e3]; rfl) (fun ht => ?_) (fun ht => ?_) <;> (try simp only [decide_eq_true_eq, decide_eq_false_iff_not, beq_iff_eq, bne_iff_ne, beq_eq_false_iff_ne, bne_eq_false_iff_eq, Bool.or_eq_true, Bool.and_eq_true, Bool.or_eq_false_iff, Bool.and_eq_false_imp, Bool.not_eq_true, Bool.not_eq_false, Bool.not_true, Bool.not_false, Bool.not_eq_true', Bool.not_eq_false', Bool.or_false, Bool.false_or, Bool.or_true, Bool.true_or, Bool.and_true, Bool.true_and, reduceCtorEq] at ht) <;> (try with_reducible contradiction)))
    | ((with_reducible refine guardSplit (fun hg => ?_) (fun hg => ?_)) <;> (try simp only [Bool.not_true, Bool.not_false] at hg) <;> (have hc := hg) <;> simp -implicitDefEqProofs only [go_sem, hg, h6, h7, g1, s1, e1, e2, e3] <;> (try simp only [decide_eq_true_eq, decide_eq_false_iff_not, beq_iff_eq, bne_iff_ne, beq_eq_false_iff_ne, bne_eq_false_iff_eq, Bool.or_eq_true, Bool.and_eq_true, Bool.or_eq_false_iff, Bool.and_eq_false_imp, Bool.not_eq_true, Bool.not_eq_false, Bool.not_true, Bool.not_false, Bool.not_eq_true', Bool.not_eq_false', Bool.or_false, Bool.false_or, Bool.or_true, Bool.true_or, Bool.and_true, Bool.true_and, reduceCtorEq] at hc) <;> (try with_reducible contradiction)))
  all_goals first | omega | decide | skip

theorem clampD (k : List Nat) (hl : k.length = 32) (hk : ∀ x ∈ k, x < 256) : FS Try.prog 26 [.arr 32 (bA (k))] (.ret [.arr 32 (bA (clampL k))] [none]) := by
  refine FS_of_SW (kb := [false]) (st0 := ?st) Try.func26 rfl rfl ?he ?_
  case he =>
    simp only [entrySt, unfs, unf, A.noown, noowns, nA_noowns, bA_noowns, Option.map_some, if_true, reduceIte, List.nil_append, List.append_nil]
    rfl
  have g1 := bA_getD (l := k) (i := 0) (by omega)
  have s1 := eq_true (szAt_bA (l := k) (i := 0) (by omega))
  have b1 := getD_lt (by decide) hk 0
  have b2 := getD_lt (by decide) hk 31
  obtain ⟨x, hx⟩ : ∃ x, k.getD 0 0 = x := ⟨_, rfl⟩
  have g2 (z : Nat) : (bA (k.set 0 z)).getD 31 .und = A.v (.int .u8 ((k.getD 31 0 : Nat) : Int)) := by
    rw [bA_getD (by rw [List.length_set]; omega)]
    congr 3
    rw [List.getD_eq_getElem?_getD, List.getElem?_set_ne (by omega), ← List.getD_eq_getElem?_getD]
  have s2 (z : Nat) := eq_true (szAt_bA (l := k.set 0 z) (i := 31) (by rw [List.length_set]; omega))
  obtain ⟨y, hy⟩ : ∃ y, k.getD 31 0 = y := ⟨_, rfl⟩
  have hcl : clampL k = (k.set 0 (x / 8 * 8)).set 31 (y % 64 + 64) := by unfold clampL; rw [hx, hy]
  rw [hcl]
  rw [hx] at g1 b1
  rw [hy] at g2 b2
  have e1 : IntKind.u8.wrap (IntKind.u8.wrap ((x : Int).tdiv 8) * 8) = ((x / 8 * 8 : Nat) : Int) := by rw [show (x : Int).tdiv 8 = ((x / 8 : Nat) : Int) from rfl, IntKind.wrap_u8, IntKind.wrap_u8]; omega
  have e2 : IntKind.u8.wrap ((y : Int).tmod 64 + 64) = ((y % 64 + 64 : Nat) : Int) := by rw [show (y : Int).tmod 64 = ((y % 64 : Nat) : Int) from rfl, IntKind.wrap_u8]; omega
  refine SW.weak (Weak.of [] (sls := [(0, .arr 32 (bA (k)))]) (bks := []) (ep := 64) (by rfl) (by repeat' (first | exact rfl | exact trivial | refine And.intro ?_ ?_)) trivial) ?_
  repeat' (first
    | apply_assumption -exfalso -symm (transparency := .reducible) only [*]
    | (with_reducible refine And.intro ?_ ?_)
    | (refine drawIt ?_; kernel_rfl)
    | ((with_reducible refine opsF_id ?_); simp -implicitDefEqProofs only [go_sem, g1, g2, s1, s2, e1, e2, Int.reduceToNat])
    | ((with_reducible refine SW.id ?_); first | with_reducible refine SW.seqK fun K hK => ?_ | with_reducible refine SW.block ?_ | with_reducible refine SW.scope ?_ | ((first | with_reducible refine SW.skip ?_ | with_reducible refine SW.exit ?_ | with_reducible refine SW.label ?_ | with_reducible refine SW.ret ?_ | with_reducible refine SW.go MR ?_ | refine SW.goDrawF MR (by rfl) (by kernel_rfl) ?_); simp -implicitDefEqProofs only [go_sem, g1, g2, s1, s2, e1, e2, Int.reduceToNat]) | (refine SW.cond (by simp -implicitDefEqProofs only [go_sem, g1, g2, s1, s2, e1, e2, Int.reduceToNat]; rfl) (fun ht => ?_) (fun ht => ?_) <;> (try simp only [decide_eq_true_eq, decide_eq_false_iff_not, beq_iff_eq, bne_iff_ne, beq_eq_false_iff_ne, bne_eq_false_iff_eq, Bool.or_eq_true, Bool.and_eq_true, Bool.or_eq_false_iff, Bool.and_eq_false_imp, Bool.not_eq_true, Bool.not_eq_false, Bool.not_true, Bool.not_false, Bool.not_eq_true', Bool.not_eq_false', Bool.or_false, Bool.false_or, Bool.or_true, Bool.true_or, Bool.and_true, Bool.true_and, reduceCtorEq] at ht) <;> (try with_reducible contradiction)))
    | ((with_reducible refine guardSplit (fun hg => ?_) (fun hg => ?_)) <;> (try simp only [Bool.not_true, Bool.not_false] at hg) <;> (have hc := hg) <;> simp -implicitDefEqProofs only [go_sem, hg, g1, g2, s1, s2, e1, e2, Int.reduceToNat] <;> (try simp only [decide_eq_true_eq, decide_eq_false_iff_not, beq_iff_eq, bne_iff_ne, beq_eq_false_iff_ne, bne_eq_false_iff_eq, Bool.or_eq_true, Bool.and_eq_true, Bool.or_eq_false_iff, Bool.and_eq_false_imp, Bool.not_eq_true, Bool.not_eq_false, Bool.not_true, Bool.not_false, Bool.not_eq_true', Bool.not_eq_false', Bool.or_false, Bool.false_or, Bool.or_true, Bool.true_or, Bool.and_true, Bool.true_and, reduceCtorEq] at hc) <;> (try with_reducible contradiction)))
  all_goals first | omega | decide | skip

theorem clampL_len (k : List Nat) : (clampL k).length = k.length := by simp [clampL]
theorem clampL_lt {k : List Nat} (hk : ∀ x ∈ k, x < 256) : ∀ x ∈ clampL k, x < 256 := by
  intro x hx
  have h0 := getD_lt (by decide) hk 0
  have h1 := getD_lt (by decide) hk 31
  unfold clampL at hx
  rcases List.mem_or_eq_of_mem_set hx with h | h
  · rcases List.mem_or_eq_of_mem_set h with h | h
    · exact hk x h
    · omega
  · omega
theorem bA_cons {n : Nat} {l : List Nat} : bA (n :: l) = A.v (.int .u8 (n : Int)) :: bA l := rfl
def nineL : List Nat := 9 :: List.replicate 31 0
theorem nineD : FS Try.prog 35 [] (.ret [.arr 32 (bA (nineL))] []) := by
  refine FS_of_SW (kb := []) Try.func35 rfl rfl (by rfl) ?_
  refine SW.weak (Weak.of [] (sls := []) (bks := []) (ep := 64) (by rfl) (by repeat' (first | exact rfl | exact trivial | refine And.intro ?_ ?_)) trivial) ?_
  repeat' (first
    | apply_assumption -exfalso -symm (transparency := .reducible) only [*]
    | (with_reducible refine And.intro ?_ ?_)
    | (refine drawIt ?_; kernel_rfl)
    | ((with_reducible refine opsF_id ?_); simp -implicitDefEqProofs only [go_sem, bA_cons, Int.reduceToNat])
    | ((with_reducible refine SW.id ?_); first | with_reducible refine SW.seqK fun K hK => ?_ | with_reducible refine SW.block ?_ | with_reducible refine SW.scope ?_ | ((first | with_reducible refine SW.skip ?_ | with_reducible refine SW.exit ?_ | with_reducible refine SW.label ?_ | with_reducible refine SW.ret ?_ | with_reducible refine SW.go MR ?_ | refine SW.goDrawF MR (by rfl) (by kernel_rfl) ?_); simp -implicitDefEqProofs only [go_sem, bA_cons, Int.reduceToNat]) | (refine SW.cond (by simp -implicitDefEqProofs only [go_sem, bA_cons, Int.reduceToNat]; rfl) (fun ht => ?_) (fun ht => ?_) <;> (try simp only [decide_eq_true_eq, decide_eq_false_iff_not, beq_iff_eq, bne_iff_ne, beq_eq_false_iff_ne, bne_eq_false_iff_eq, Bool.or_eq_true, Bool.and_eq_true, Bool.or_eq_false_iff, Bool.and_eq_false_imp, Bool.not_eq_true, Bool.not_eq_false, Bool.not_true, Bool.not_false, Bool.not_eq_true', Bool.not_eq_false', Bool.or_false, Bool.false_or, Bool.or_true, Bool.true_or, Bool.and_true, Bool.true_and, reduceCtorEq] at ht) <;> (try with_reducible contradiction)))
    | ((with_reducible refine guardSplit (fun hg => ?_) (fun hg => ?_)) <;> (try simp only [Bool.not_true, Bool.not_false] at hg) <;> (have hc := hg) <;> simp -implicitDefEqProofs only [go_sem, hg, bA_cons, Int.reduceToNat] <;> (try simp only [decide_eq_true_eq, decide_eq_false_iff_not, beq_iff_eq, bne_iff_ne, beq_eq_false_iff_ne, bne_eq_false_iff_eq, Bool.or_eq_true, Bool.and_eq_true, Bool.or_eq_false_iff, Bool.and_eq_false_imp, Bool.not_eq_true, Bool.not_eq_false, Bool.not_true, Bool.not_false, Bool.not_eq_true', Bool.not_eq_false', Bool.or_false, Bool.false_or, Bool.or_true, Bool.true_or, Bool.and_true, Bool.true_and, reduceCtorEq] at hc) <;> (try with_reducible contradiction)))
  all_goals first | rfl | omega | skip

theorem scaleD (k u : List Nat) (hk : k.length = 32) (hk' : ∀ x ∈ k, x < 256) (hu : u.length = 32) (hu' : ∀ x ∈ u, x < 256) : FS Try.prog 34 [.arr 32 (bA (k)), .arr 32 (bA (u))] (.ret [.arr 32 (bA (scaleL k u))] [none, none]) := by
  refine FS_of_SW (kb := [false, false]) (st0 := ?st) Try.func34 rfl rfl ?he ?_
  case he =>
    simp only [entrySt, unfs, unf, A.noown, noowns, nA_noowns, bA_noowns, Option.map_some, if_true, reduceIte, List.nil_append, List.append_nil]
    rfl
  have q1 := clampD k hk hk'
  have q2 := fromD u hu hu'
  have q3 := smallD (n := 1) (by decide)
  have q4 := smallD (n := 0) (by decide)
  have hx := fromL_lt u
  have hs : scaleL k u = bytesN (mulN (ladOf k u).a ((ladOf k u).b ^ (2 ^ 255 - 21) % p25519)) := rfl
  have hc1 : (clampL k).length = 32 := by rw [clampL_len, hk]
  have hc2 := clampL_lt hk'
  have hL : ladOf k u = lad (fromL u) (bitL (clampL k)) 255 ⟨1, 0, fromL u, 1⟩ := rfl
  have hLlt : (ladOf k u).lt := by rw [hL]; exact lad_lt _ _ _ _ ⟨show 1 < p25519 by decide, show 0 < p25519 by decide, hx, show 1 < p25519 by decide⟩
  rw [hs]
  obtain ⟨L, hL'⟩ : ∃ L, ladOf k u = L := ⟨_, rfl⟩
  rw [hL'] at hL hLlt ⊢
  generalize clampL k = ck at *
  generalize fromL u = x at *
  clear hs hL'
  obtain ⟨n5, hn5, hl5⟩ : ∃ n, L.b ^ (2 ^ 255 - 21) % p25519 = n ∧ n < p25519 := by
    generalize 2 ^ 255 - 21 = e
    exact ⟨_, rfl, Nat.mod_lt _ (by decide)⟩
  have q5 := invD hLlt.b
  rw [hn5] at q5 ⊢
  have q6 := mulD hLlt.a hl5
  clear hn5
  have q7 := bytesD (mulN L.a n5)
  generalize mulN L.a n5 = fin at *
  generalize bytesN fin = out at *
  refine SW.weak (Weak.of [] (sls := [(0, .arr 32 (bA (k))), (1, .arr 32 (bA (u)))]) (bks := []) (ep := 64) (by rfl) (by repeat' (first | exact rfl | exact trivial | refine And.intro ?_ ?_)) trivial) ?_
  repeat' (first
    | apply_assumption -exfalso -symm (transparency := .reducible) only [*]
    | with_reducible refine SW.stopI 4 ?_
    | (refine callEnd_of q1 ?_ <;> (try simp -implicitDefEqProofs only [go_sem]))
    | (with_reducible refine callEnd_of q2 ?_ <;> (try simp -implicitDefEqProofs only [go_sem]))
    | (refine callEnd_of q3 ?_ <;> (try simp -implicitDefEqProofs only [go_sem]))
    | (refine callEnd_of q4 ?_ <;> (try simp -implicitDefEqProofs only [go_sem]))
    | (with_reducible refine And.intro ?_ ?_)
    | (refine drawIt ?_; kernel_rfl)
    | ((with_reducible refine opsF_id ?_); simp -implicitDefEqProofs only [go_sem])
    | ((with_reducible refine SW.id ?_); first | with_reducible refine SW.seqK fun K hK => ?_ | with_reducible refine SW.block ?_ | with_reducible refine SW.scope ?_ | ((first | with_reducible refine SW.skip ?_ | with_reducible refine SW.exit ?_ | with_reducible refine SW.label ?_ | with_reducible refine SW.ret ?_ | with_reducible refine SW.go MR ?_ | refine SW.goDrawF MR (by rfl) (by kernel_rfl) ?_); simp -implicitDefEqProofs only [go_sem]) | (refine SW.cond (by simp -implicitDefEqProofs only [go_sem]; rfl) (fun ht => ?_) (fun ht => ?_) <;> (try simp only [decide_eq_true_eq, decide_eq_false_iff_not, beq_iff_eq, bne_iff_ne, beq_eq_false_iff_ne, bne_eq_false_iff_eq, Bool.or_eq_true, Bool.and_eq_true, Bool.or_eq_false_iff, Bool.and_eq_false_imp, Bool.not_eq_true, Bool.not_eq_false, Bool.not_true, Bool.not_false, Bool.not_eq_true', Bool.not_eq_false', Bool.or_false, Bool.false_or, Bool.or_true, Bool.true_or, Bool.and_true, Bool.true_and, reduceCtorEq] at ht) <;> (try with_reducible contradiction)))
    | ((with_reducible refine guardSplit (fun hg => ?_) (fun hg => ?_)) <;> (try simp only [Bool.not_true, Bool.not_false] at hg) <;> (have hc := hg) <;> simp -implicitDefEqProofs only [go_sem, hg] <;> (try simp only [decide_eq_true_eq, decide_eq_false_iff_not, beq_iff_eq, bne_iff_ne, beq_eq_false_iff_ne, bne_eq_false_iff_eq, Bool.or_eq_true, Bool.and_eq_true, Bool.or_eq_false_iff, Bool.and_eq_false_imp, Bool.not_eq_true, Bool.not_eq_false, Bool.not_true, Bool.not_false, Bool.not_eq_true', Bool.not_eq_false', Bool.or_false, Bool.false_or, Bool.or_true, Bool.true_or, Bool.and_true, Bool.true_and, reduceCtorEq] at hc) <;> (try with_reducible contradiction)))
  refine Stop.go ?_
  refine SW.cutS (γ := Unit) (fun _ => St.of [(4, .ptr 4 []), (7, .ptr 7 [])] [(4, .var (.arr 32 (bA (List.replicate 32 0)))), (7, .var (.agg [numD L.a, numD L.b, numD L.c, numD L.d]))] 64) (fun K hK => ?_) fun _ => ?_
  · repeat' (first
      | apply_assumption -exfalso -symm (transparency := .reducible) only [*]
      | (with_reducible refine And.intro ?_ ?_)
      | (refine drawIt ?_; kernel_rfl)
      | ((with_reducible refine opsF_id ?_); simp -implicitDefEqProofs only [go_sem])
      | ((with_reducible refine SW.id ?_); first | with_reducible refine SW.seqK fun K hK => ?_ | with_reducible refine SW.block ?_ | with_reducible refine SW.scope ?_ | ((first | with_reducible refine SW.skip ?_ | with_reducible refine SW.exit ?_ | with_reducible refine SW.label ?_ | with_reducible refine SW.ret ?_ | with_reducible refine SW.go MR ?_ | refine SW.goDrawF MR (by rfl) (by kernel_rfl) ?_); simp -implicitDefEqProofs only [go_sem]) | (refine SW.cond (by simp -implicitDefEqProofs only [go_sem]; rfl) (fun ht => ?_) (fun ht => ?_) <;> (try simp only [decide_eq_true_eq, decide_eq_false_iff_not, beq_iff_eq, bne_iff_ne, beq_eq_false_iff_ne, bne_eq_false_iff_eq, Bool.or_eq_true, Bool.and_eq_true, Bool.or_eq_false_iff, Bool.and_eq_false_imp, Bool.not_eq_true, Bool.not_eq_false, Bool.not_true, Bool.not_false, Bool.not_eq_true', Bool.not_eq_false', Bool.or_false, Bool.false_or, Bool.or_true, Bool.true_or, Bool.and_true, Bool.true_and, reduceCtorEq] at ht) <;> (try with_reducible contradiction)))
      | ((with_reducible refine guardSplit (fun hg => ?_) (fun hg => ?_)) <;> (try simp only [Bool.not_true, Bool.not_false] at hg) <;> (have hc := hg) <;> simp -implicitDefEqProofs only [go_sem, hg] <;> (try simp only [decide_eq_true_eq, decide_eq_false_iff_not, beq_iff_eq, bne_iff_ne, beq_eq_false_iff_ne, bne_eq_false_iff_eq, Bool.or_eq_true, Bool.and_eq_true, Bool.or_eq_false_iff, Bool.and_eq_false_imp, Bool.not_eq_true, Bool.not_eq_false, Bool.not_true, Bool.not_false, Bool.not_eq_true', Bool.not_eq_false', Bool.or_false, Bool.false_or, Bool.or_true, Bool.true_or, Bool.and_true, Bool.true_and, reduceCtorEq] at hc) <;> (try with_reducible contradiction)))
    refine SW.loop (α := { q : Nat × Rung // q.1 ≤ 255 ∧ q.2.lt ∧ L = lad x (bitL ck) q.1 q.2 }) (fun q => St.of [(4, .ptr 4 []), (5, .ptr 5 []), (6, .ptr 6 []), (7, .ptr 7 []), (8, .v (.int .i64 ((q.1.1 : Int) - 1)))] [(4, .var (.arr 32 (bA (List.replicate 32 0)))), (5, .var (.arr 32 (bA (ck)))), (6, .var (numD x)), (7, .var (.agg [numD q.1.2.a, numD q.1.2.b, numD q.1.2.c, numD q.1.2.d]))] 64) (fun q => q.1.1) ⟨(255, ⟨1, 0, x, 1⟩), Nat.le_refl 255, ⟨by show 1 < p25519; decide, by show 0 < p25519; decide, hx, by show 1 < p25519; decide⟩, hL⟩
      (Weak.of [(192, 4), (384, 5), (640, 6), (1088, 7)] (by rfl) ?_ ?_) fun ⟨⟨n, r⟩, hn, hr, hlad⟩ => ?_
    · simp -implicitDefEqProofs only [go_sem]
      all_goals (repeat' (first | exact rfl | exact trivial | refine And.intro ?_ ?_))
    · simp -implicitDefEqProofs only [go_sem]
      all_goals (repeat' (first | exact rfl | exact trivial | refine And.intro ?_ ?_))
    · dsimp only at hn hr hlad
      rcases n with _ | t
      · have hc := eq_false (show ¬ (((0 : Nat) : Int) - 1) ≥ 0 by omega)
        obtain rfl : L = r := hlad
        repeat' (first
          | apply_assumption -exfalso -symm (transparency := .reducible) only [*]
          | (with_reducible refine And.intro ?_ ?_)
          | (refine drawIt ?_; kernel_rfl)
          | ((with_reducible refine opsF_id ?_); simp -implicitDefEqProofs only [go_sem, hc])
          | ((with_reducible refine SW.id ?_); first | with_reducible refine SW.seqK fun K hK => ?_ | with_reducible refine SW.block ?_ | with_reducible refine SW.scope ?_ | ((first | with_reducible refine SW.skip ?_ | with_reducible refine SW.exit ?_ | with_reducible refine SW.label ?_ | with_reducible refine SW.ret ?_ | with_reducible refine SW.go MR ?_ | refine SW.goDrawF MR (by rfl) (by kernel_rfl) ?_); simp -implicitDefEqProofs only [go_sem, hc]) | (refine SW.cond (by simp -implicitDefEqProofs only [go_sem, hc]; rfl) (fun ht => ?_) (fun ht => ?_) <;> (try simp only [decide_eq_true_eq, decide_eq_false_iff_not, beq_iff_eq, bne_iff_ne, beq_eq_false_iff_ne, bne_eq_false_iff_eq, Bool.or_eq_true, Bool.and_eq_true, Bool.or_eq_false_iff, Bool.and_eq_false_imp, Bool.not_eq_true, Bool.not_eq_false, Bool.not_true, Bool.not_false, Bool.not_eq_true', Bool.not_eq_false', Bool.or_false, Bool.false_or, Bool.or_true, Bool.true_or, Bool.and_true, Bool.true_and, reduceCtorEq] at ht) <;> (try with_reducible contradiction)))
          | ((with_reducible refine guardSplit (fun hg => ?_) (fun hg => ?_)) <;> (try simp only [Bool.not_true, Bool.not_false] at hg) <;> (have hc := hg) <;> simp -implicitDefEqProofs only [go_sem, hg, hc] <;> (try simp only [decide_eq_true_eq, decide_eq_false_iff_not, beq_iff_eq, bne_iff_ne, beq_eq_false_iff_ne, bne_eq_false_iff_eq, Bool.or_eq_true, Bool.and_eq_true, Bool.or_eq_false_iff, Bool.and_eq_false_imp, Bool.not_eq_true, Bool.not_eq_false, Bool.not_true, Bool.not_false, Bool.not_eq_true', Bool.not_eq_false', Bool.or_false, Bool.false_or, Bool.or_true, Bool.true_or, Bool.and_true, Bool.true_and, reduceCtorEq] at hc) <;> (try with_reducible contradiction)))
        refine ⟨(), Weak.of [(4, 4), (7, 7)] (by rfl) ?_ ?_⟩
        · simp -implicitDefEqProofs only [go_sem]
          all_goals (repeat' (first | exact rfl | exact trivial | refine And.intro ?_ ?_))
        · simp -implicitDefEqProofs only [go_sem]
          all_goals (repeat' (first | exact rfl | exact trivial | refine And.intro ?_ ?_))
      · have hn' : (((t + 1 : Nat) : Int) - 1) = (t : Int) := by omega
        have hc := eq_true (show (t : Int) ≥ 0 by omega)
        have h5 := i64_down (a := t) (by omega)
        have hb := bit_FS ck t hc1 hc2 (by omega)
        have hl2 : L = lad x (bitL ck) t (((r.sw (bitL ck t)).step x).sw (bitL ck t)) := hlad
        have hlt2 : (((r.sw (bitL ck t)).step x).sw (bitL ck t)).lt := Rung.lt_sw (Rung.lt_step _ _) _
        dsimp only
        clear hlad
        have qs := step_FS x (r.sw (bitL ck t)) hx (Rung.lt_sw hr _)
        generalize bitL ck t = on at hb hl2 hlt2 qs
        rw [hn']
        cases on
        · simp only [Rung.sw, Bool.false_eq_true, if_false] at qs hl2 hlt2
          repeat' (first
            | apply_assumption -exfalso -symm (transparency := .reducible) only [*]
            | (refine callEnd_of hb ?_ <;> (try simp -implicitDefEqProofs only [go_sem, hc, h5]))
            | (with_reducible refine callEnd_of qs ?_ <;> (try simp -implicitDefEqProofs only [go_sem, hc, h5]))
            | (with_reducible refine And.intro ?_ ?_)
            | (refine drawIt ?_; kernel_rfl)
            | ((with_reducible refine opsF_id ?_); simp -implicitDefEqProofs only [go_sem, hc, h5])
            | ((with_reducible refine SW.id ?_); first | with_reducible refine SW.seqK fun K hK => ?_ | with_reducible refine SW.block ?_ | with_reducible refine SW.scope ?_ | ((first | with_reducible refine SW.skip ?_ | with_reducible refine SW.exit ?_ | with_reducible refine SW.label ?_ | with_reducible refine SW.ret ?_ | with_reducible refine SW.go MR ?_ | refine SW.goDrawF MR (by rfl) (by kernel_rfl) ?_); simp -implicitDefEqProofs only [go_sem, hc, h5]) | (refine SW.cond (by simp -implicitDefEqProofs only [go_sem, hc, h5]; rfl) (fun ht => ?_) (fun ht => ?_) <;> (try simp only [decide_eq_true_eq, decide_eq_false_iff_not, beq_iff_eq, bne_iff_ne, beq_eq_false_iff_ne, bne_eq_false_iff_eq, Bool.or_eq_true, Bool.and_eq_true, Bool.or_eq_false_iff, Bool.and_eq_false_imp, Bool.not_eq_true, Bool.not_eq_false, Bool.not_true, Bool.not_false, Bool.not_eq_true', Bool.not_eq_false', Bool.or_false, Bool.false_or, Bool.or_true, Bool.true_or, Bool.and_true, Bool.true_and, reduceCtorEq] at ht) <;> (try with_reducible contradiction)))
            | ((with_reducible refine guardSplit (fun hg => ?_) (fun hg => ?_)) <;> (try simp only [Bool.not_true, Bool.not_false] at hg) <;> (have hc := hg) <;> simp -implicitDefEqProofs only [go_sem, hg, hc, h5] <;> (try simp only [decide_eq_true_eq, decide_eq_false_iff_not, beq_iff_eq, bne_iff_ne, beq_eq_false_iff_ne, bne_eq_false_iff_eq, Bool.or_eq_true, Bool.and_eq_true, Bool.or_eq_false_iff, Bool.and_eq_false_imp, Bool.not_eq_true, Bool.not_eq_false, Bool.not_true, Bool.not_false, Bool.not_eq_true', Bool.not_eq_false', Bool.or_false, Bool.false_or, Bool.or_true, Bool.true_or, Bool.and_true, Bool.true_and, reduceCtorEq] at hc) <;> (try with_reducible contradiction)))
          refine ⟨⟨(t, r.step x), by dsimp only; omega, hlt2, hl2⟩, Weak.of [(4, 4), (5, 5), (6, 6), (7, 7)] (by rfl) ?_ ?_, by dsimp only; omega⟩
          · simp -implicitDefEqProofs only [go_sem]
            all_goals (repeat' (first | exact rfl | exact trivial | refine And.intro ?_ ?_))
          · simp -implicitDefEqProofs only [go_sem]
            all_goals (repeat' (first | exact rfl | exact trivial | refine And.intro ?_ ?_))
        · simp only [Rung.sw, if_true] at qs hl2 hlt2
          have t1 := turned_FS r.a r.b r.c r.d
          generalize Rung.step ⟨r.c, r.d, r.a, r.b⟩ x = r2 at *
          have t2 := turned_FS r2.a r2.b r2.c r2.d
          repeat' (first
            | apply_assumption -exfalso -symm (transparency := .reducible) only [*]
            | (refine callEnd_of hb ?_ <;> (try simp -implicitDefEqProofs only [go_sem, hc, h5]))
            | (with_reducible refine callEnd_of qs ?_ <;> (try simp -implicitDefEqProofs only [go_sem, hc, h5]))
            | (with_reducible refine callEnd_of t1 ?_ <;> (try simp -implicitDefEqProofs only [go_sem, hc, h5]))
            | (with_reducible refine callEnd_of t2 ?_ <;> (try simp -implicitDefEqProofs only [go_sem, hc, h5]))
            | (with_reducible refine And.intro ?_ ?_)
            | (refine drawIt ?_; kernel_rfl)
            | ((with_reducible refine opsF_id ?_); simp -implicitDefEqProofs only [go_sem, hc, h5])
            | ((with_reducible refine SW.id ?_); first | with_reducible refine SW.seqK fun K hK => ?_ | with_reducible refine SW.block ?_ | with_reducible refine SW.scope ?_ | ((first | with_reducible refine SW.skip ?_ | with_reducible refine SW.exit ?_ | with_reducible refine SW.label ?_ | with_reducible refine SW.ret ?_ | with_reducible refine SW.go MR ?_ | refine SW.goDrawF MR (by rfl) (by kernel_rfl) ?_); simp -implicitDefEqProofs only [go_sem, hc, h5]) | (refine SW.cond (by simp -implicitDefEqProofs only [go_sem, hc, h5]; rfl) (fun ht => ?_) (fun ht => ?_) <;> (try simp only [decide_eq_true_eq, decide_eq_false_iff_not, beq_iff_eq, bne_iff_ne, beq_eq_false_iff_ne, bne_eq_false_iff_eq, Bool.or_eq_true, Bool.and_eq_true, Bool.or_eq_false_iff, Bool.and_eq_false_imp, Bool.not_eq_true, Bool.not_eq_false, Bool.not_true, Bool.not_false, Bool.not_eq_true', Bool.not_eq_false', Bool.or_false, Bool.false_or, Bool.or_true, Bool.true_or, Bool.and_true, Bool.true_and, reduceCtorEq] at ht) <;> (try with_reducible contradiction)))
            | ((with_reducible refine guardSplit (fun hg => ?_) (fun hg => ?_)) <;> (try simp only [Bool.not_true, Bool.not_false] at hg) <;> (have hc := hg) <;> simp -implicitDefEqProofs only [go_sem, hg, hc, h5] <;> (try simp only [decide_eq_true_eq, decide_eq_false_iff_not, beq_iff_eq, bne_iff_ne, beq_eq_false_iff_ne, bne_eq_false_iff_eq, Bool.or_eq_true, Bool.and_eq_true, Bool.or_eq_false_iff, Bool.and_eq_false_imp, Bool.not_eq_true, Bool.not_eq_false, Bool.not_true, Bool.not_false, Bool.not_eq_true', Bool.not_eq_false', Bool.or_false, Bool.false_or, Bool.or_true, Bool.true_or, Bool.and_true, Bool.true_and, reduceCtorEq] at hc) <;> (try with_reducible contradiction)))
          refine ⟨⟨(t, ⟨r2.c, r2.d, r2.a, r2.b⟩), by dsimp only; omega, hlt2, hl2⟩, Weak.of [(4, 4), (5, 5), (6, 6), (7, 7)] (by rfl) ?_ ?_, by dsimp only; omega⟩
          · simp -implicitDefEqProofs only [go_sem]
            all_goals (repeat' (first | exact rfl | exact trivial | refine And.intro ?_ ?_))
          · simp -implicitDefEqProofs only [go_sem]
            all_goals (repeat' (first | exact rfl | exact trivial | refine And.intro ?_ ?_))
  · repeat' (first
      | apply_assumption -exfalso -symm (transparency := .reducible) only [*]
      | (with_reducible refine callEnd_of q5 ?_ <;> (try simp -implicitDefEqProofs only [go_sem]))
      | (with_reducible refine callEnd_of q6 ?_ <;> (try simp -implicitDefEqProofs only [go_sem]))
      | (with_reducible refine callEnd_of q7 ?_ <;> (try simp -implicitDefEqProofs only [go_sem]))
      | (with_reducible refine And.intro ?_ ?_)
      | (refine drawIt ?_; kernel_rfl)
      | ((with_reducible refine opsF_id ?_); simp -implicitDefEqProofs only [go_sem])
      | ((with_reducible refine SW.id ?_); first | with_reducible refine SW.seqK fun K hK => ?_ | with_reducible refine SW.block ?_ | with_reducible refine SW.scope ?_ | ((first | with_reducible refine SW.skip ?_ | with_reducible refine SW.exit ?_ | with_reducible refine SW.label ?_ | with_reducible refine SW.ret ?_ | with_reducible refine SW.go MR ?_ | refine SW.goDrawF MR (by rfl) (by kernel_rfl) ?_); simp -implicitDefEqProofs only [go_sem]) | (refine SW.cond (by simp -implicitDefEqProofs only [go_sem]; rfl) (fun ht => ?_) (fun ht => ?_) <;> (try simp only [decide_eq_true_eq, decide_eq_false_iff_not, beq_iff_eq, bne_iff_ne, beq_eq_false_iff_ne, bne_eq_false_iff_eq, Bool.or_eq_true, Bool.and_eq_true, Bool.or_eq_false_iff, Bool.and_eq_false_imp, Bool.not_eq_true, Bool.not_eq_false, Bool.not_true, Bool.not_false, Bool.not_eq_true', Bool.not_eq_false', Bool.or_false, Bool.false_or, Bool.or_true, Bool.true_or, Bool.and_true, Bool.true_and, reduceCtorEq] at ht) <;> (try with_reducible contradiction)))
      | ((with_reducible refine guardSplit (fun hg => ?_) (fun hg => ?_)) <;> (try simp only [Bool.not_true, Bool.not_false] at hg) <;> (have hc := hg) <;> simp -implicitDefEqProofs only [go_sem, hg] <;> (try simp only [decide_eq_true_eq, decide_eq_false_iff_not, beq_iff_eq, bne_iff_ne, beq_eq_false_iff_ne, bne_eq_false_iff_eq, Bool.or_eq_true, Bool.and_eq_true, Bool.or_eq_false_iff, Bool.and_eq_false_imp, Bool.not_eq_true, Bool.not_eq_false, Bool.not_true, Bool.not_false, Bool.not_eq_true', Bool.not_eq_false', Bool.or_false, Bool.false_or, Bool.or_true, Bool.true_or, Bool.and_true, Bool.true_and, reduceCtorEq] at hc) <;> (try with_reducible contradiction)))

theorem publicD (k : List Nat) (hk : k.length = 32) (hk' : ∀ x ∈ k, x < 256) : FS Try.prog 27 [.arr 32 (bA (k))] (.ret [.arr 32 (bA (scaleL k nineL))] [none]) := by
  refine FS_of_SW (kb := [false]) (st0 := ?st) Try.func27 rfl rfl ?he ?_
  case he =>
    simp only [entrySt, unfs, unf, A.noown, noowns, nA_noowns, bA_noowns, Option.map_some, if_true, reduceIte, List.nil_append, List.append_nil]
    rfl
  have q1 := nineD
  have q2 := scaleD k nineL hk hk' (by decide) (by decide)
  generalize scaleL k nineL = r at *
  refine SW.weak (Weak.of [] (sls := [(0, .arr 32 (bA (k)))]) (bks := []) (ep := 64) (by rfl) (by repeat' (first | exact rfl | exact trivial | refine And.intro ?_ ?_)) trivial) ?_
  repeat' (first
    | apply_assumption -exfalso -symm (transparency := .reducible) only [*]
    | (refine callEnd_of q1 ?_ <;> (try simp -implicitDefEqProofs only [go_sem]))
    | (refine callEnd_of q2 ?_ <;> (try simp -implicitDefEqProofs only [go_sem]))
    | (with_reducible refine And.intro ?_ ?_)
    | (refine drawIt ?_; kernel_rfl)
    | ((with_reducible refine opsF_id ?_); simp -implicitDefEqProofs only [go_sem])
    | ((with_reducible refine SW.id ?_); first | with_reducible refine SW.seqK fun K hK => ?_ | with_reducible refine SW.block ?_ | with_reducible refine SW.scope ?_ | ((first | with_reducible refine SW.skip ?_ | with_reducible refine SW.exit ?_ | with_reducible refine SW.label ?_ | with_reducible refine SW.ret ?_ | with_reducible refine SW.go MR ?_ | refine SW.goDrawF MR (by rfl) (by kernel_rfl) ?_); simp -implicitDefEqProofs only [go_sem]) | (refine SW.cond (by simp -implicitDefEqProofs only [go_sem]; rfl) (fun ht => ?_) (fun ht => ?_) <;> (try simp only [decide_eq_true_eq, decide_eq_false_iff_not, beq_iff_eq, bne_iff_ne, beq_eq_false_iff_ne, bne_eq_false_iff_eq, Bool.or_eq_true, Bool.and_eq_true, Bool.or_eq_false_iff, Bool.and_eq_false_imp, Bool.not_eq_true, Bool.not_eq_false, Bool.not_true, Bool.not_false, Bool.not_eq_true', Bool.not_eq_false', Bool.or_false, Bool.false_or, Bool.or_true, Bool.true_or, Bool.and_true, Bool.true_and, reduceCtorEq] at ht) <;> (try with_reducible contradiction)))
    | ((with_reducible refine guardSplit (fun hg => ?_) (fun hg => ?_)) <;> (try simp only [Bool.not_true, Bool.not_false] at hg) <;> (have hc := hg) <;> simp -implicitDefEqProofs only [go_sem, hg] <;> (try simp only [decide_eq_true_eq, decide_eq_false_iff_not, beq_iff_eq, bne_iff_ne, beq_eq_false_iff_ne, bne_eq_false_iff_eq, Bool.or_eq_true, Bool.and_eq_true, Bool.or_eq_false_iff, Bool.and_eq_false_imp, Bool.not_eq_true, Bool.not_eq_false, Bool.not_true, Bool.not_false, Bool.not_eq_true', Bool.not_eq_false', Bool.or_false, Bool.false_or, Bool.or_true, Bool.true_or, Bool.and_true, Bool.true_and, reduceCtorEq] at hc) <;> (try with_reducible contradiction)))

/-- a pair as it is used -/
def pairB (r u : List Nat) : Bool := decide (r = clampL r) && decide (u = scaleL r nineL)
theorem isPair_FS (r u : List Nat) (hr : r.length = 32) (hr' : ∀ x ∈ r, x < 256) (hu : u.length = 32) : FS Try.prog 13 [.agg [.arr 32 (bA (r)), .arr 32 (bA (u))]] (.ret [.v (.bool (pairB r u))] [none]) := by
  refine FS_of_SW (kb := [false]) (st0 := ?st) Try.func13 rfl rfl ?he ?_
  case he =>
    simp only [entrySt, unfs, unf, A.noown, noowns, nA_noowns, bA_noowns, Option.map_some, if_true, reduceIte, List.nil_append, List.append_nil]
    rfl
  have q1 := clampD r hr hr'
  have q2 := publicD r hr hr'
  have hl : (clampL r).length = 32 := by rw [clampL_len, hr]
  have hl2 : (scaleL r nineL).length = 32 := bytesN_len _
  unfold pairB
  generalize clampL r = c at *
  generalize scaleL r nineL = s at *
  refine SW.weak (Weak.of [] (sls := [(0, .agg [.arr 32 (bA (r)), .arr 32 (bA (u))])]) (bks := []) (ep := 64) (by rfl) (by repeat' (first | exact rfl | exact trivial | refine And.intro ?_ ?_)) trivial) ?_
  repeat' (first
    | apply_assumption -exfalso -symm (transparency := .reducible) only [*]
    | (refine callEnd_of q1 ?_ <;> (try simp -implicitDefEqProofs only [go_sem, hr, hu, hl, hl2]))
    | (refine callEnd_of q2 ?_ <;> (try simp -implicitDefEqProofs only [go_sem, hr, hu, hl, hl2]))
    | (with_reducible refine And.intro ?_ ?_)
    | (refine drawIt ?_; kernel_rfl)
    | ((with_reducible refine opsF_id ?_); simp -implicitDefEqProofs only [go_sem, hr, hu, hl, hl2])
    | ((with_reducible refine SW.id ?_); first | with_reducible refine SW.seqK fun K hK => ?_ | with_reducible refine SW.block ?_ | with_reducible refine SW.scope ?_ | ((first | with_reducible refine SW.skip ?_ | with_reducible refine SW.exit ?_ | with_reducible refine SW.label ?_ | with_reducible refine SW.ret ?_ | with_reducible refine SW.go MR ?_ | refine SW.goDrawF MR (by rfl) (by kernel_rfl) ?_); simp -implicitDefEqProofs only [go_sem, hr, hu, hl, hl2]) | (refine SW.cond (by simp -implicitDefEqProofs only [go_sem, hr, hu, hl, hl2]; rfl) (fun ht => ?_) (fun ht => ?_) <;> (try simp only [decide_eq_true_eq, decide_eq_false_iff_not, beq_iff_eq, bne_iff_ne, beq_eq_false_iff_ne, bne_eq_false_iff_eq, Bool.or_eq_true, Bool.and_eq_true, Bool.or_eq_false_iff, Bool.and_eq_false_imp, Bool.not_eq_true, Bool.not_eq_false, Bool.not_true, Bool.not_false, Bool.not_eq_true', Bool.not_eq_false', Bool.or_false, Bool.false_or, Bool.or_true, Bool.true_or, Bool.and_true, Bool.true_and, reduceCtorEq] at ht) <;> (try with_reducible contradiction)))
    | ((with_reducible refine guardSplit (fun hg => ?_) (fun hg => ?_)) <;> (try simp only [Bool.not_true, Bool.not_false] at hg) <;> (have hc := hg) <;> simp -implicitDefEqProofs only [go_sem, hg, hr, hu, hl, hl2] <;> (try simp only [decide_eq_true_eq, decide_eq_false_iff_not, beq_iff_eq, bne_iff_ne, beq_eq_false_iff_ne, bne_eq_false_iff_eq, Bool.or_eq_true, Bool.and_eq_true, Bool.or_eq_false_iff, Bool.and_eq_false_imp, Bool.not_eq_true, Bool.not_eq_false, Bool.not_true, Bool.not_false, Bool.not_eq_true', Bool.not_eq_false', Bool.or_false, Bool.false_or, Bool.or_true, Bool.true_or, Bool.and_true, Bool.true_and, reduceCtorEq] at hc) <;> (try with_reducible contradiction)))
  all_goals (clear q1 q2; simp_all)
end Go.PA
