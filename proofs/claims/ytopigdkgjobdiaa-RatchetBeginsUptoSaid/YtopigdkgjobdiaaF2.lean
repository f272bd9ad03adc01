/- Powers modulo the prime: two ways to the same power. -/
import Derived.Test.YtopigdkgjobdiaaF1
set_option linter.unusedVariables false
namespace Go.Fe

def N5.sqn (a : N5) : Nat → N5
  | 0 => a
  | n + 1 => (N5.sqn a n).mul (N5.sqn a n)
theorem N5.sqn_ok {a : N5} (ha : a.ok) : ∀ n, (N5.sqn a n).ok
  | 0 => ha
  | n + 1 => N5.mul_ok (N5.sqn_ok ha n) (N5.sqn_ok ha n)

/-- x is the power e of a. -/
structure PowIs (a x : N5) (e : Nat) : Prop where
  ok : x.ok
  val : x.val % p25519 = a.val ^ e % p25519

theorem PowIs.one {a : N5} (h : a.ok) : PowIs a a 1 := ⟨h, by rw [Nat.pow_one]⟩
theorem PowIs.mul {a x y : N5} {e f : Nat} (hx : PowIs a x e) (hy : PowIs a y f) : PowIs a (x.mul y) (e + f) :=
  ⟨N5.mul_ok hx.ok hy.ok, by rw [N5.mul_val, Nat.mul_mod, hx.val, hy.val, ← Nat.mul_mod, Nat.pow_add]⟩
theorem PowIs.sqn {a x : N5} {e : Nat} (hx : PowIs a x e) : ∀ n, PowIs a (N5.sqn x n) (e * 2 ^ n)
  | 0 => by simpa [N5.sqn] using hx
  | n + 1 => by
    have h := (PowIs.sqn hx n).mul (PowIs.sqn hx n)
    have e1 : e * 2 ^ n + e * 2 ^ n = e * 2 ^ (n + 1) := by rw [Nat.pow_succ, ← Nat.mul_assoc]; omega
    rw [e1] at h
    exact h

def N5.nine (a : N5) : N5 := (N5.sqn (a.mul a) 2).mul a
def N5.eleven (a : N5) : N5 := a.nine.mul (a.mul a)
def N5.five (a : N5) : N5 := (a.eleven.mul a.eleven).mul a.nine
def N5.ten (a : N5) : N5 := (N5.sqn a.five 5).mul a.five
def N5.twenty (a : N5) : N5 := (N5.sqn a.ten 10).mul a.ten
def N5.fifty (a : N5) : N5 := (N5.sqn ((N5.sqn a.twenty 20).mul a.twenty) 10).mul a.ten
def N5.hundred (a : N5) : N5 := (N5.sqn a.fifty 50).mul a.fifty
def N5.most (a : N5) : N5 := (N5.sqn ((N5.sqn a.hundred 100).mul a.hundred) 50).mul a.fifty
def N5.inv (a : N5) : N5 := (N5.sqn a.most 5).mul a.eleven

theorem PowIs.cast {a x : N5} {e f : Nat} (h : PowIs a x e) (he : e = f) : PowIs a x f := he ▸ h
variable {a : N5} (h : a.ok)
include h
theorem pow_nine : PowIs a a.nine 9 := ((((PowIs.one h).mul (PowIs.one h)).sqn 2).mul (PowIs.one h)).cast (by decide)
theorem pow_eleven : PowIs a a.eleven 11 := ((pow_nine h).mul ((PowIs.one h).mul (PowIs.one h))).cast (by decide)
theorem pow_five : PowIs a a.five (2 ^ 5 - 1) := (((pow_eleven h).mul (pow_eleven h)).mul (pow_nine h)).cast (by decide)
theorem pow_ten : PowIs a a.ten (2 ^ 10 - 1) := (((pow_five h).sqn 5).mul (pow_five h)).cast (by decide)
theorem pow_twenty : PowIs a a.twenty (2 ^ 20 - 1) := (((pow_ten h).sqn 10).mul (pow_ten h)).cast (by decide)
theorem pow_fifty : PowIs a a.fifty (2 ^ 50 - 1) := (((((pow_twenty h).sqn 20).mul (pow_twenty h)).sqn 10).mul (pow_ten h)).cast (by decide)
theorem pow_hundred : PowIs a a.hundred (2 ^ 100 - 1) := (((pow_fifty h).sqn 50).mul (pow_fifty h)).cast (by decide)
theorem pow_most : PowIs a a.most (2 ^ 250 - 1) := (((((pow_hundred h).sqn 100).mul (pow_hundred h)).sqn 50).mul (pow_fifty h)).cast (by decide)
theorem pow_inv : PowIs a a.inv (2 ^ 255 - 21) := (((pow_most h).sqn 5).mul (pow_eleven h)).cast (by decide)
end Go.Fe
