/- wire.Number: the bits. -/
import Derived.Test.YtmacfbboiippoaaW5
import Derived.Laws.Bits64
namespace Go.PA
open Go.Proofs

theorem or_shl (a x k : Nat) (ha : a < 2 ^ k) (hk : k < 64) (h : x * 2 ^ k + a < 2 ^ 64) : ior .u64 (a : Int) (ishl .u64 (x : Int) (k : Int)) = ((x * 2 ^ k + a : Nat) : Int) := by
  have h1 : ishl .u64 (x : Int) (k : Int) = ((x * 2 ^ k : Nat) : Int) := by
    unfold ishl
    rw [IntKind.wrap_u64]
    have e : min ((k : Int).toNat) (IntKind.bits .u64) = k := by simp [IntKind.bits]; omega
    rw [e]
    have e2 : (x : Int) * 2 ^ k = ((x * 2 ^ k : Nat) : Int) := by simp
    rw [e2]
    omega
  rw [h1]
  unfold ior
  rw [IntKind.wrap_u64]
  have e3 : (BitVec.ofInt (IntKind.bits .u64) (a : Int) ||| BitVec.ofInt (IntKind.bits .u64) ((x * 2 ^ k : Nat) : Int)).toNat = x * 2 ^ k + a := by
    rw [BitVec.toNat_or, BitVec.ofInt_natCast, BitVec.ofInt_natCast, BitVec.toNat_ofNat, BitVec.toNat_ofNat]
    have hb : IntKind.bits .u64 = 64 := rfl
    rw [hb, Nat.mod_eq_of_lt (by omega), Nat.mod_eq_of_lt (by omega), Nat.or_comm, ← Nat.shiftLeft_eq, ← Nat.shiftLeft_add_eq_or_of_lt ha]
  rw [e3]
  omega
end Go.PA
