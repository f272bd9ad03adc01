/- The ladder over numbers below the prime: one plain account for both. -/
import Derived.Test.YtopigdkgjobdiaaF2
set_option linter.unusedVariables false
namespace Go.Fe

def addN (a b : Nat) : Nat := (a + b) % p25519
def subN (a b : Nat) : Nat := (a + (p25519 - b)) % p25519
def mulN (a b : Nat) : Nat := a * b % p25519

theorem addN_lt (a b : Nat) : addN a b < p25519 := Nat.mod_lt _ (by decide)
theorem subN_lt (a b : Nat) : subN a b < p25519 := Nat.mod_lt _ (by decide)
theorem mulN_lt (a b : Nat) : mulN a b < p25519 := Nat.mod_lt _ (by decide)

/-- five words stand for a number below the prime -/
structure NumIs (a : N5) (n : Nat) : Prop where
  ok : a.ok
  val : a.val % p25519 = n
theorem NumIs.lt {a : N5} {n : Nat} (h : NumIs a n) : n < p25519 := by rw [← h.val]; exact Nat.mod_lt _ (by decide)
theorem NumIs.add {a b : N5} {m n : Nat} (ha : NumIs a m) (hb : NumIs b n) : NumIs (a.add b) (addN m n) :=
  ⟨N5.add_ok ha.ok hb.ok, by rw [N5.add_val, Nat.add_mod, ha.val, hb.val]; rfl⟩
theorem NumIs.sub {a b : N5} {m n : Nat} (ha : NumIs a m) (hb : NumIs b n) : NumIs (a.sub b) (subN m n) := by
  refine ⟨N5.sub_ok ha.ok hb.ok, ?_⟩
  have h := N5.sub_val (a := a) hb.ok
  have h1 := ha.val
  have h2 := hb.val
  unfold subN p25519 at *
  omega
theorem NumIs.mul {a b : N5} {m n : Nat} (ha : NumIs a m) (hb : NumIs b n) : NumIs (a.mul b) (mulN m n) :=
  ⟨N5.mul_ok ha.ok hb.ok, by rw [N5.mul_val, Nat.mul_mod, ha.val, hb.val]; rfl⟩
theorem NumIs.times {a : N5} {m : Nat} (ha : NumIs a m) {k : Nat} (hk : k < 4503599627370496) : NumIs (a.times k) (mulN k m) := by
  refine ⟨N5.times_ok ha.ok hk, ?_⟩
  rw [N5.times_val, Nat.mul_mod, ha.val, Nat.mod_eq_of_lt (a := k) (by unfold p25519; omega), Nat.mul_comm]
  rfl
theorem pow_mod_eq {a m p e : Nat} (h : a % p = m) : a ^ e % p = m ^ e % p := by rw [Nat.pow_mod, h]
theorem NumIs.inv {a : N5} {m : Nat} (ha : NumIs a m) : NumIs a.inv (m ^ (2 ^ 255 - 21) % p25519) :=
  ⟨(pow_inv ha.ok).ok, by
    have h := (pow_inv ha.ok).val
    generalize 2 ^ 255 - 21 = e at h ⊢
    exact h.trans (pow_mod_eq ha.val)⟩
theorem NumIs.small {n : Nat} (h : n < 2 ^ 64) : NumIs (N5.small n) n := ⟨N5.small_ok h, by rw [N5.small_val]; exact Nat.mod_eq_of_lt (by unfold p25519; omega)⟩

structure Rung where
  a : Nat
  b : Nat
  c : Nat
  d : Nat
def Rung.sw (r : Rung) (on : Bool) : Rung := if on then ⟨r.c, r.d, r.a, r.b⟩ else r
def Rung.step (r : Rung) (x : Nat) : Rung :=
  let e := addN r.a r.b
  let f := subN r.a r.b
  let g := addN r.c r.d
  let h := subN r.c r.d
  let y := mulN e e
  let z := mulN f f
  let w := subN y z
  let m := mulN h e
  let n := mulN g f
  ⟨mulN y z, mulN w (addN y (mulN 121665 w)), mulN (addN m n) (addN m n), mulN x (mulN (subN m n) (subN m n))⟩
theorem Rung.sw_sw (r : Rung) (p q : Bool) : (r.sw p).sw q = r.sw (p != q) := by cases p <;> cases q <;> rfl
theorem Rung.sw_false (r : Rung) : r.sw false = r := rfl
structure Rung.lt (r : Rung) : Prop where
  a : r.a < p25519
  b : r.b < p25519
  c : r.c < p25519
  d : r.d < p25519
theorem Rung.lt_sw {r : Rung} (h : r.lt) (on : Bool) : (r.sw on).lt := by cases on; exact h; exact ⟨h.c, h.d, h.a, h.b⟩
theorem Rung.lt_step (r : Rung) (x : Nat) : (r.step x).lt := ⟨mulN_lt _ _, mulN_lt _ _, mulN_lt _ _, mulN_lt _ _⟩

structure R5 where
  a : N5
  b : N5
  c : N5
  d : N5
def R5.sw (r : R5) (on : Bool) : R5 := if on then ⟨r.c, r.d, r.a, r.b⟩ else r
def R5.step (r : R5) (x : N5) : R5 :=
  let e := r.a.add r.b
  let f := r.a.sub r.b
  let m := (r.c.sub r.d).mul e
  let n := (r.c.add r.d).mul f
  let y := e.mul e
  let z := f.mul f
  let diff := y.sub z
  ⟨y.mul z, diff.mul (y.add (diff.times 121665)), (m.add n).mul (m.add n), x.mul ((m.sub n).mul (m.sub n))⟩
structure RungIs (r : R5) (s : Rung) : Prop where
  a : NumIs r.a s.a
  b : NumIs r.b s.b
  c : NumIs r.c s.c
  d : NumIs r.d s.d
theorem RungIs.sw {r : R5} {s : Rung} (h : RungIs r s) (on : Bool) : RungIs (r.sw on) (s.sw on) := by
  cases on
  · exact h
  · exact ⟨h.c, h.d, h.a, h.b⟩
theorem RungIs.step {r : R5} {s : Rung} (h : RungIs r s) {x : N5} {n : Nat} (hx : NumIs x n) : RungIs (r.step x) (s.step n) := by
  have e := h.a.add h.b
  have f := h.a.sub h.b
  have g := h.c.add h.d
  have k := h.c.sub h.d
  have y := e.mul e
  have z := f.mul f
  have w := y.sub z
  have m := k.mul e
  have q := g.mul f
  exact ⟨y.mul z, w.mul (y.add (w.times (by decide))), (m.add q).mul (m.add q), hx.mul ((m.sub q).mul (m.sub q))⟩

/-- the ladder, from the bit t - 1 down -/
def lad (x : Nat) (k : Nat → Bool) : Nat → Rung → Rung
  | 0, r => r
  | t + 1, r => lad x k t (((r.sw (k t)).step x).sw (k t))
theorem lad_lt (x : Nat) (k : Nat → Bool) : ∀ t r, r.lt → (lad x k t r).lt
  | 0, r, h => h
  | t + 1, r, h => lad_lt x k t _ (Rung.lt_sw (Rung.lt_step _ _) _)

/-! bytes -/
def leN : List Nat → Nat
  | [] => 0
  | x :: xs => x + 256 * leN xs
def bytesN (n : Nat) : List Nat := (List.range 32).map fun i => n / 256 ^ i % 256
def clampL (k : List Nat) : List Nat := (k.set 0 (k.getD 0 0 / 8 * 8)).set 31 (k.getD 31 0 % 64 + 64)
def bitL (k : List Nat) (t : Nat) : Bool := k.getD (t / 8) 0 / 2 ^ (t % 8) % 2 == 1
def fromL (u : List Nat) : Nat := leN u % 2 ^ 255 % p25519
def ladOf (k u : List Nat) : Rung := lad (fromL u) (bitL (clampL k)) 255 ⟨1, 0, fromL u, 1⟩
/-- X25519 -/
def scaleL (k u : List Nat) : List Nat :=
  let r := ladOf k u
  bytesN (mulN r.a (r.b ^ (2 ^ 255 - 21) % p25519))
end Go.Fe
