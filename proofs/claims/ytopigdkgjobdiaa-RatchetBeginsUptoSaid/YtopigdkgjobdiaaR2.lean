/- Numbers of the field: products of words. -/
import Derived.Test.YtopigdkgjobdiaaR1
namespace Go.PA
open Go.Proofs Go.Fe
set_option linter.unusedSimpArgs false
set_option linter.unusedVariables false
set_option maxRecDepth 100000
set_option maxHeartbeats 4000000
attribute [local go_sem] MR getP setP takesW
attribute [-go_sem] takeA roA

theorem mul64_lt {x y : Nat} (hx : x < 4294967296) (hy : y < 4294967296) : x * y ≤ 18446744065119617025 := by
  have := Nat.mul_le_mul (Nat.le_of_lt_succ hx) (Nat.le_of_lt_succ hy)
  omega
theorem mul64_parts (x y : Nat) : x * y = (x / 4294967296) * (y / 4294967296) * 18446744073709551616 + ((x / 4294967296) * (y % 4294967296) + (x % 4294967296) * (y / 4294967296)) * 4294967296 + (x % 4294967296) * (y % 4294967296) := by
  have h1 : x = 4294967296 * (x / 4294967296) + x % 4294967296 := (Nat.div_add_mod x 4294967296).symm
  have h2 : y = 4294967296 * (y / 4294967296) + y % 4294967296 := (Nat.div_add_mod y 4294967296).symm
  generalize x / 4294967296 = a at *
  generalize x % 4294967296 = b at *
  generalize y / 4294967296 = c at *
  generalize y % 4294967296 = d at *
  subst h1 h2
  grind

theorem mul64_FS (x y : Nat) (hx : x < 18446744073709551616) (hy : y < 18446744073709551616) :
    FS Try.prog 69 [uT x, uT y] (.ret [uT (x * y / 18446744073709551616), uT (x * y % 18446744073709551616)] [none, none]) := by
  refine FS_of_SW (kb := [false, false]) Try.func69 rfl rfl (by rfl) ?_
  have h1 := and32 x hx
  have h2 := and32 y hy
  have hp := mul64_parts x y
  have b00 := mul64_lt (x := x % 4294967296) (y := y % 4294967296) (by omega) (by omega)
  have b01 := mul64_lt (x := x % 4294967296) (y := y / 4294967296) (by omega) (by omega)
  have b10 := mul64_lt (x := x / 4294967296) (y := y % 4294967296) (by omega) (by omega)
  have b11 := mul64_lt (x := x / 4294967296) (y := y / 4294967296) (by omega) (by omega)
  have m00 : IntKind.u64.wrap (((x % 4294967296 : Nat) : Int) * ((y % 4294967296 : Nat) : Int)) = ((x % 4294967296 * (y % 4294967296) : Nat) : Int) := by rw [uwrap, ← Int.natCast_mul]; omega
  have m01 : IntKind.u64.wrap (((x % 4294967296 : Nat) : Int) * ((y / 4294967296 : Nat) : Int)) = ((x % 4294967296 * (y / 4294967296) : Nat) : Int) := by rw [uwrap, ← Int.natCast_mul]; omega
  have m10 : IntKind.u64.wrap (((x / 4294967296 : Nat) : Int) * ((y % 4294967296 : Nat) : Int)) = ((x / 4294967296 * (y % 4294967296) : Nat) : Int) := by rw [uwrap, ← Int.natCast_mul]; omega
  have m11 : IntKind.u64.wrap (((x / 4294967296 : Nat) : Int) * ((y / 4294967296 : Nat) : Int)) = ((x / 4294967296 * (y / 4294967296) : Nat) : Int) := by rw [uwrap, ← Int.natCast_mul]; omega
  have mlo : IntKind.u64.wrap ((x : Int) * (y : Int)) = ((x * y % 18446744073709551616 : Nat) : Int) := by rw [uwrap, ← Int.natCast_mul]; omega
  generalize hq00 : x % 4294967296 * (y % 4294967296) = q00 at *
  generalize hq01 : x % 4294967296 * (y / 4294967296) = q01 at *
  generalize hq10 : x / 4294967296 * (y % 4294967296) = q10 at *
  generalize hq11 : x / 4294967296 * (y / 4294967296) = q11 at *
  have t1 : IntKind.u64.wrap ((q10 : Int) + ((q00 / 4294967296 : Nat) : Int)) = ((q10 + q00 / 4294967296 : Nat) : Int) := by simp only [uwrap]; omega
  have t2 := and32 (q10 + q00 / 4294967296) (by omega)
  have t3 : IntKind.u64.wrap ((((q10 + q00 / 4294967296) % 4294967296 : Nat) : Int) + (q01 : Int)) = (((q10 + q00 / 4294967296) % 4294967296 + q01 : Nat) : Int) := by simp only [uwrap]; omega
  have t4 : IntKind.u64.wrap (IntKind.u64.wrap ((q11 : Int) + (((q10 + q00 / 4294967296) / 4294967296 : Nat) : Int)) + ((((q10 + q00 / 4294967296) % 4294967296 + q01) / 4294967296 : Nat) : Int)) = ((x * y / 18446744073709551616 : Nat) : Int) := by
    simp only [uwrap]
    omega
  simp only [uT]
  refine SW.weak (Weak.of [] (sls := [(0, .v (.int .u64 (x : Int))), (1, .v (.int .u64 (y : Int)))]) (bks := []) (ep := 64) (by rfl) (by repeat' (first | exact rfl | exact trivial | refine And.intro ?_ ?_)) trivial) ?_
  repeat' (first
    | apply_assumption -exfalso -symm (transparency := .reducible) only [*]
    | (with_reducible refine And.intro ?_ ?_)
    | (refine drawIt ?_; kernel_rfl)
    | ((with_reducible refine opsF_id ?_); simp -implicitDefEqProofs only [go_sem, h1, h2, shr32, m00, m01, m10, m11, mlo, t1, t2, t3, t4])
    | ((with_reducible refine SW.id ?_); first | with_reducible refine SW.seqK fun K hK => ?_ | with_reducible refine SW.block ?_ | with_reducible refine SW.scope ?_ | ((first | with_reducible refine SW.skip ?_ | with_reducible refine SW.exit ?_ | with_reducible refine SW.label ?_ | with_reducible refine SW.ret ?_ | with_reducible refine SW.go MR ?_ | refine SW.goDrawF MR (by rfl) (by kernel_rfl) ?_); simp -implicitDefEqProofs only [go_sem, h1, h2, shr32, m00, m01, m10, m11, mlo, t1, t2, t3, t4]) | (refine SW.cond (by simp -implicitDefEqProofs only [go_sem, h1, h2, shr32, m00, m01, m10, m11, mlo, t1, t2, t3, t4]; rfl) (fun ht => ?_) (fun ht => ?_) <;> (try with_reducible contradiction))))
  all_goals first | omega | skip


theorem over_lemma (v : Nat) (hv : v < 2 ^ 115) : ior .u64 (ishl .u64 ((v / 18446744073709551616 : Nat) : Int) 13) (ishr .u64 ((v % 18446744073709551616 : Nat) : Int) 51) = ((v / 2251799813685248 : Nat) : Int) := by
  rw [shr51]
  have e1 : ishl .u64 ((v / 18446744073709551616 : Nat) : Int) 13 = ((v / 18446744073709551616 * 8192 : Nat) : Int) := by
    show IntKind.u64.wrap (((v / 18446744073709551616 : Nat) : Int) * 2 ^ 13) = _
    rw [uwrap]
    omega
  rw [e1]
  have h2 : (v / 18446744073709551616 * 8192) ||| (v % 18446744073709551616 / 2251799813685248) = v / 2251799813685248 := by
    have h3 : v % 18446744073709551616 / 2251799813685248 < 2 ^ 13 := by omega
    have h4 := Nat.shiftLeft_add_eq_or_of_lt h3 (v / 18446744073709551616)
    rw [Nat.shiftLeft_eq] at h4
    rw [show v / 18446744073709551616 * 8192 = v / 18446744073709551616 * 2 ^ 13 from rfl, ← h4]
    omega
  have h1 : (BitVec.ofInt 64 ((v / 18446744073709551616 * 8192 : Nat) : Int) ||| BitVec.ofInt 64 ((v % 18446744073709551616 / 2251799813685248 : Nat) : Int)).toNat = v / 2251799813685248 := by
    rw [BitVec.toNat_or, BitVec.ofInt_natCast, BitVec.ofInt_natCast, BitVec.toNat_ofNat, BitVec.toNat_ofNat, Nat.mod_eq_of_lt (by omega), Nat.mod_eq_of_lt (by omega), h2]
  show IntKind.u64.wrap ((BitVec.ofInt 64 ((v / 18446744073709551616 * 8192 : Nat) : Int) ||| BitVec.ofInt 64 ((v % 18446744073709551616 / 2251799813685248 : Nat) : Int)).toNat : Int) = _
  rw [h1, uwrap]
  omega
theorem over_FS (v : Nat) (hv : v < 2 ^ 115) : FS Try.prog 78 [wT v] (.ret [uT (v / 2251799813685248)] [none]) := by
  refine FS_of_SW (kb := [false]) Try.func78 rfl rfl (by rfl) ?_
  have h := over_lemma v hv
  simp only [uT, wT]
  refine SW.weak (Weak.of [] (sls := [(0, .agg [.v (.int .u64 ((v / 18446744073709551616 : Nat) : Int)), .v (.int .u64 ((v % 18446744073709551616 : Nat) : Int))])]) (bks := []) (ep := 64) (by rfl) (by repeat' (first | exact rfl | exact trivial | refine And.intro ?_ ?_)) trivial) ?_
  repeat' (first
    | apply_assumption -exfalso -symm (transparency := .reducible) only [*]
    | (with_reducible refine And.intro ?_ ?_)
    | (refine drawIt ?_; kernel_rfl)
    | ((with_reducible refine opsF_id ?_); simp -implicitDefEqProofs only [go_sem, h])
    | ((with_reducible refine SW.id ?_); first | with_reducible refine SW.seqK fun K hK => ?_ | with_reducible refine SW.block ?_ | with_reducible refine SW.scope ?_ | ((first | with_reducible refine SW.skip ?_ | with_reducible refine SW.exit ?_ | with_reducible refine SW.label ?_ | with_reducible refine SW.ret ?_ | with_reducible refine SW.go MR ?_ | refine SW.goDrawF MR (by rfl) (by kernel_rfl) ?_); simp -implicitDefEqProofs only [go_sem, h]) | (refine SW.cond (by simp -implicitDefEqProofs only [go_sem, h]; rfl) (fun ht => ?_) (fun ht => ?_) <;> (try with_reducible contradiction))))
  all_goals first | omega | skip


theorem plus_FS (v a b : Nat) (ha : a < 18446744073709551616) (hb : b < 18446744073709551616) (hv : v + a * b < 340282366920938463463374607431768211456) :
    FS Try.prog 76 [wT v, uT a, uT b] (.ret [wT (v + a * b)] [none, none, none]) := by
  refine FS_of_SW (kb := [false, false, false]) Try.func76 rfl rfl (by rfl) ?_
  have hm := mul64_FS a b ha hb
  simp only [uT, wT] at hm ⊢
  generalize a * b = p at *
  have e1 : ((v % 18446744073709551616 : Nat) : Int) + ((p % 18446744073709551616 : Nat) : Int) + 0 = ((v % 18446744073709551616 + p % 18446744073709551616 : Nat) : Int) := by omega
  have e2 : (((v % 18446744073709551616 : Nat) : Int) + ((p % 18446744073709551616 : Nat) : Int) + 0) % 18446744073709551616 = (((v + p) % 18446744073709551616 : Nat) : Int) := by omega
  have e3 : (((v / 18446744073709551616 : Nat) : Int) + ((p / 18446744073709551616 : Nat) : Int) + (((v % 18446744073709551616 : Nat) : Int) + ((p % 18446744073709551616 : Nat) : Int) + 0) / 18446744073709551616) % 18446744073709551616 = (((v + p) / 18446744073709551616 : Nat) : Int) := by omega
  refine SW.weak (Weak.of [] (sls := [(0, .agg [.v (.int .u64 ((v / 18446744073709551616 : Nat) : Int)), .v (.int .u64 ((v % 18446744073709551616 : Nat) : Int))]), (1, .v (.int .u64 (a : Int))), (2, .v (.int .u64 (b : Int)))]) (bks := []) (ep := 64) (by rfl) (by repeat' (first | exact rfl | exact trivial | refine And.intro ?_ ?_)) trivial) ?_
  repeat' (first
    | apply_assumption -exfalso -symm (transparency := .reducible) only [*]
    | (refine ⟨_, _, hm, ?_⟩ <;> (try simp -implicitDefEqProofs only [go_sem, e2, e3]))
    | (with_reducible refine And.intro ?_ ?_)
    | (refine drawIt ?_; kernel_rfl)
    | ((with_reducible refine opsF_id ?_); simp -implicitDefEqProofs only [go_sem, e2, e3])
    | ((with_reducible refine SW.id ?_); first | with_reducible refine SW.seqK fun K hK => ?_ | with_reducible refine SW.block ?_ | with_reducible refine SW.scope ?_ | ((first | with_reducible refine SW.skip ?_ | with_reducible refine SW.exit ?_ | with_reducible refine SW.label ?_ | with_reducible refine SW.ret ?_ | with_reducible refine SW.go MR ?_ | refine SW.goDrawF MR (by rfl) (by kernel_rfl) ?_); simp -implicitDefEqProofs only [go_sem, e2, e3]) | (refine SW.cond (by simp -implicitDefEqProofs only [go_sem, e2, e3]; rfl) (fun ht => ?_) (fun ht => ?_) <;> (try with_reducible contradiction))))
  all_goals first | omega | skip

end Go.PA
