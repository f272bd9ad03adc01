/- Numbers of the field: words. -/
import Derived.Test.YtopigdkgjobdiaaPR
import Derived.Test.YtopigdkgjobdiaaF1
namespace Go.PA
open Go.Proofs Go.Fe
set_option linter.unusedSimpArgs false
set_option linter.unusedVariables false
set_option maxRecDepth 100000
set_option maxHeartbeats 4000000
attribute [local go_sem] MR getP setP takesW
attribute [-go_sem] takeA roA

def uT (n : Nat) : A := .v (.int .u64 (n : Int))
def wT (v : Nat) : A := .agg [.v (.int .u64 ((v / 18446744073709551616 : Nat) : Int)), .v (.int .u64 ((v % 18446744073709551616 : Nat) : Int))]
def numT (a : N5) : A := .agg [.arr 5 [.v (.int .u64 (a.w0 : Int)), .v (.int .u64 (a.w1 : Int)), .v (.int .u64 (a.w2 : Int)), .v (.int .u64 (a.w3 : Int)), .v (.int .u64 (a.w4 : Int))]]

theorem uwrap (x : Int) : IntKind.u64.wrap x = x % 18446744073709551616 := IntKind.wrap_u64 x
theorem and_mask (n k : Nat) (hn : n < 2 ^ 64) (hk : k ≤ 63) : iand .u64 (n : Int) ((2 ^ k - 1 : Nat) : Int) = ((n % 2 ^ k : Nat) : Int) := by
  have hk2 : 2 ^ k < 2 ^ 64 := Nat.pow_lt_pow_right (by omega) (by omega)
  have h1 : (BitVec.ofInt 64 (n : Int) &&& BitVec.ofInt 64 ((2 ^ k - 1 : Nat) : Int)).toNat = n % 2 ^ k := by
    rw [BitVec.toNat_and, BitVec.ofInt_natCast, BitVec.ofInt_natCast, BitVec.toNat_ofNat, BitVec.toNat_ofNat, Nat.mod_eq_of_lt hn, Nat.mod_eq_of_lt (by omega), Nat.and_two_pow_sub_one_eq_mod]
  have h2 : n % 2 ^ k ≤ n := Nat.mod_le _ _
  show IntKind.u64.wrap ((BitVec.ofInt 64 (n : Int) &&& BitVec.ofInt 64 ((2 ^ k - 1 : Nat) : Int)).toNat : Int) = _
  rw [h1, uwrap]
  omega
theorem and51 (n : Nat) (hn : n < 18446744073709551616) : iand .u64 (n : Int) 2251799813685247 = ((n % 2251799813685248 : Nat) : Int) := and_mask n 51 hn (by decide)
theorem and32 (n : Nat) (hn : n < 18446744073709551616) : iand .u64 (n : Int) 4294967295 = ((n % 4294967296 : Nat) : Int) := and_mask n 32 hn (by decide)
theorem shr_u64 (n k : Nat) (hk : k ≤ 64) : ishr .u64 (n : Int) (k : Int) = ((n / 2 ^ k : Nat) : Int) := by
  simp only [ishr, IntKind.bits, Int.toNat_natCast, Nat.min_eq_left hk]
  rw [Int.fdiv_eq_ediv_of_nonneg _ (by exact_mod_cast Nat.zero_le _)]
  norm_cast
theorem shr51 (n : Nat) : ishr .u64 (n : Int) 51 = ((n / 2251799813685248 : Nat) : Int) := shr_u64 n 51 (by decide)
theorem shr32 (n : Nat) : ishr .u64 (n : Int) 32 = ((n / 4294967296 : Nat) : Int) := shr_u64 n 32 (by decide)

theorem carried_FS (a b c d e : Nat) (ha : a < 18446744073709551616) (hb : b < 18446744073709551616) (hc : c < 18446744073709551616) (hd : d < 18446744073709551616) (he : e < 18446744073709551616) :
    FS Try.prog 77 [uT a, uT b, uT c, uT d, uT e] (.ret [numT (carried a b c d e)] [none, none, none, none, none]) := by
  refine FS_of_SW (kb := [false, false, false, false, false]) Try.func77 rfl rfl (by rfl) ?_
  have h1 := and51 a ha
  have h2 := and51 b hb
  have h3 := and51 c hc
  have h4 := and51 d hd
  have h5 := and51 e he
  have e1 : IntKind.u64.wrap (((a % 2251799813685248 : Nat) : Int) + IntKind.u64.wrap (19 * ((e / 2251799813685248 : Nat) : Int))) = ((a % 2251799813685248 + 19 * (e / 2251799813685248) : Nat) : Int) := by simp only [uwrap]; omega
  have e2 (x y : Nat) (hx : x < 18446744073709551616) (hy : y < 18446744073709551616) : IntKind.u64.wrap (((x % 2251799813685248 : Nat) : Int) + ((y / 2251799813685248 : Nat) : Int)) = ((x % 2251799813685248 + y / 2251799813685248 : Nat) : Int) := by simp only [uwrap]; omega
  have e3 := e2 b a hb ha
  have e4 := e2 c b hc hb
  have e5 := e2 d c hd hc
  have e6 := e2 e d he hd
  clear e2
  simp only [uT, numT, carried]
  refine SW.weak (Weak.of [] (sls := [(0, .v (.int .u64 (a : Int))), (1, .v (.int .u64 (b : Int))), (2, .v (.int .u64 (c : Int))), (3, .v (.int .u64 (d : Int))), (4, .v (.int .u64 (e : Int)))]) (bks := []) (ep := 64) (by rfl) (by repeat' (first | exact rfl | exact trivial | refine And.intro ?_ ?_)) trivial) ?_
  repeat' (first
    | apply_assumption -exfalso -symm (transparency := .reducible) only [*]
    | (with_reducible refine And.intro ?_ ?_)
    | (refine drawIt ?_; kernel_rfl)
    | ((with_reducible refine opsF_id ?_); simp -implicitDefEqProofs only [go_sem, h1, h2, h3, h4, h5, shr51, e1, e3, e4, e5, e6])
    | ((with_reducible refine SW.id ?_); first | with_reducible refine SW.seqK fun K hK => ?_ | with_reducible refine SW.block ?_ | with_reducible refine SW.scope ?_ | ((first | with_reducible refine SW.skip ?_ | with_reducible refine SW.exit ?_ | with_reducible refine SW.label ?_ | with_reducible refine SW.ret ?_ | with_reducible refine SW.go MR ?_ | refine SW.goDrawF MR (by rfl) (by kernel_rfl) ?_); simp -implicitDefEqProofs only [go_sem, h1, h2, h3, h4, h5, shr51, e1, e3, e4, e5, e6]) | (refine SW.cond (by simp -implicitDefEqProofs only [go_sem, h1, h2, h3, h4, h5, shr51, e1, e3, e4, e5, e6]; rfl) (fun ht => ?_) (fun ht => ?_) <;> (try with_reducible contradiction))))
  all_goals first | omega | skip
end Go.PA
