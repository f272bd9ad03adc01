/- Numbers of the field, five words of 51 bits: plain arithmetic. -/
set_option linter.unusedVariables false
namespace Go.Fe

def p25519 : Nat := 57896044618658097711785492504343953926634992332820282019728792003956564819949

structure N5 where
  w0 : Nat
  w1 : Nat
  w2 : Nat
  w3 : Nat
  w4 : Nat

def N5.val (a : N5) : Nat := a.w0 + 2251799813685248 * a.w1 + 5070602400912917605986812821504 * a.w2 + 11417981541647679048466287755595961091061972992 * a.w3 + 25711008708143844408671393477458601640355247900524685364822016 * a.w4

structure N5.ok (a : N5) : Prop where
  h0 : a.w0 < 4503599627370496
  h1 : a.w1 < 4503599627370496
  h2 : a.w2 < 4503599627370496
  h3 : a.w3 < 4503599627370496
  h4 : a.w4 < 4503599627370496

def carried (a b c d e : Nat) : N5 :=
  ⟨a % 2251799813685248 + 19 * (e / 2251799813685248), b % 2251799813685248 + a / 2251799813685248, c % 2251799813685248 + b / 2251799813685248,
   d % 2251799813685248 + c / 2251799813685248, e % 2251799813685248 + d / 2251799813685248⟩

theorem carried_val (a b c d e : Nat) : (carried a b c d e).val + p25519 * (e / 2251799813685248) = (⟨a, b, c, d, e⟩ : N5).val := by
  simp only [carried, N5.val, p25519]
  omega

theorem carried_ok {a b c d e : Nat} (ha : a < 2 ^ 62) (hb : b < 2 ^ 62) (hc : c < 2 ^ 62) (hd : d < 2 ^ 62) (he : e < 2 ^ 62) : (carried a b c d e).ok := by
  constructor <;> simp only [carried] <;> omega

theorem carried_mod (a b c d e : Nat) : (carried a b c d e).val % p25519 = (⟨a, b, c, d, e⟩ : N5).val % p25519 := by
  rw [← carried_val a b c d e, Nat.add_mul_mod_self_left]

def N5.add (a b : N5) : N5 := carried (a.w0 + b.w0) (a.w1 + b.w1) (a.w2 + b.w2) (a.w3 + b.w3) (a.w4 + b.w4)
theorem N5.add_ok {a b : N5} (ha : a.ok) (hb : b.ok) : (a.add b).ok := by
  obtain ⟨_, _, _, _, _⟩ := ha
  obtain ⟨_, _, _, _, _⟩ := hb
  apply carried_ok <;> omega
theorem N5.add_val (a b : N5) : (a.add b).val % p25519 = (a.val + b.val) % p25519 := by
  rw [N5.add, carried_mod]
  congr 1
  simp only [N5.val]
  omega

def N5.sub (a b : N5) : N5 := carried (a.w0 + 9007199254740916 - b.w0) (a.w1 + 9007199254740988 - b.w1) (a.w2 + 9007199254740988 - b.w2) (a.w3 + 9007199254740988 - b.w3) (a.w4 + 9007199254740988 - b.w4)
theorem N5.sub_ok {a b : N5} (ha : a.ok) (hb : b.ok) : (a.sub b).ok := by
  obtain ⟨_, _, _, _, _⟩ := ha
  obtain ⟨_, _, _, _, _⟩ := hb
  apply carried_ok <;> omega
theorem N5.sub_val {a b : N5} (hb : b.ok) : ((a.sub b).val + b.val) % p25519 = a.val % p25519 := by
  obtain ⟨_, _, _, _, _⟩ := hb
  have h := carried_val (a.w0 + 9007199254740916 - b.w0) (a.w1 + 9007199254740988 - b.w1) (a.w2 + 9007199254740988 - b.w2) (a.w3 + 9007199254740988 - b.w3) (a.w4 + 9007199254740988 - b.w4)
  have h2 : (a.sub b).val + b.val + p25519 * ((a.w4 + 9007199254740988 - b.w4) / 2251799813685248) = a.val + p25519 * 4 := by
    show (carried _ _ _ _ _).val + b.val + _ = _
    have e : ∀ x y z : Nat, x + y + z = (x + z) + y := fun x y z => by omega
    rw [e, h]
    simp only [N5.val, p25519]
    omega
  have := congrArg (· % p25519) h2
  simpa [Nat.add_mul_mod_self_left] using this

/-- the product, of words -/
def mulR (a b : N5) : Nat := a.w0 * b.w0 + a.w1 * (19 * b.w4) + a.w2 * (19 * b.w3) + a.w3 * (19 * b.w2) + a.w4 * (19 * b.w1)
def mulS (a b : N5) : Nat := a.w0 * b.w1 + a.w1 * b.w0 + a.w2 * (19 * b.w4) + a.w3 * (19 * b.w3) + a.w4 * (19 * b.w2)
def mulT (a b : N5) : Nat := a.w0 * b.w2 + a.w1 * b.w1 + a.w2 * b.w0 + a.w3 * (19 * b.w4) + a.w4 * (19 * b.w3)
def mulU (a b : N5) : Nat := a.w0 * b.w3 + a.w1 * b.w2 + a.w2 * b.w1 + a.w3 * b.w0 + a.w4 * (19 * b.w4)
def mulV (a b : N5) : Nat := a.w0 * b.w4 + a.w1 * b.w3 + a.w2 * b.w2 + a.w3 * b.w1 + a.w4 * b.w0

theorem mul_poly (a b : N5) : ∃ k, (⟨mulR a b, mulS a b, mulT a b, mulU a b, mulV a b⟩ : N5).val + p25519 * k = a.val * b.val := by
  obtain ⟨a0, a1, a2, a3, a4⟩ := a
  obtain ⟨b0, b1, b2, b3, b4⟩ := b
  refine ⟨(a1 * b4 + a2 * b3 + a3 * b2 + a4 * b1) + 2251799813685248 * (a2 * b4 + a3 * b3 + a4 * b2) + 5070602400912917605986812821504 * (a3 * b4 + a4 * b3) + 11417981541647679048466287755595961091061972992 * (a4 * b4), ?_⟩
  simp only [mulR, mulS, mulT, mulU, mulV, N5.val, p25519]
  grind

theorem mul_lt' {a b : Nat} (ha : a < 4503599627370496) (hb : b < 4503599627370496) : a * b < 20282409603651670423947251286016 := by
  have := Nat.mul_lt_mul'' ha hb
  omega
def N5.mul (a b : N5) : N5 :=
  let c := carried (mulR a b) (mulS a b) (mulT a b) (mulU a b) (mulV a b)
  carried c.w0 c.w1 c.w2 c.w3 c.w4
theorem mul_bounds {a b : N5} (ha : a.ok) (hb : b.ok) : mulR a b < 77 * 20282409603651670423947251286016 ∧ mulS a b < 77 * 20282409603651670423947251286016 ∧ mulT a b < 77 * 20282409603651670423947251286016 ∧
    mulU a b < 77 * 20282409603651670423947251286016 ∧ mulV a b < 5 * 20282409603651670423947251286016 := by
  obtain ⟨a0, a1, a2, a3, a4⟩ := a
  obtain ⟨b0, b1, b2, b3, b4⟩ := b
  obtain ⟨h0, h1, h2, h3, h4⟩ := ha
  obtain ⟨g0, g1, g2, g3, g4⟩ := hb
  dsimp only at *
  have l (x y : Nat) : x * (19 * y) = 19 * (x * y) := by rw [Nat.mul_left_comm]
  simp only [mulR, mulS, mulT, mulU, mulV, l]
  have := mul_lt' h0 g0; have := mul_lt' h0 g1; have := mul_lt' h0 g2; have := mul_lt' h0 g3; have := mul_lt' h0 g4
  have := mul_lt' h1 g0; have := mul_lt' h1 g1; have := mul_lt' h1 g2; have := mul_lt' h1 g3; have := mul_lt' h1 g4
  have := mul_lt' h2 g0; have := mul_lt' h2 g1; have := mul_lt' h2 g2; have := mul_lt' h2 g3; have := mul_lt' h2 g4
  have := mul_lt' h3 g0; have := mul_lt' h3 g1; have := mul_lt' h3 g2; have := mul_lt' h3 g3; have := mul_lt' h3 g4
  have := mul_lt' h4 g0; have := mul_lt' h4 g1; have := mul_lt' h4 g2; have := mul_lt' h4 g3; have := mul_lt' h4 g4
  refine ⟨?_, ?_, ?_, ?_, ?_⟩ <;> omega
theorem carried_lt {a b c d e : Nat} (ha : a < 77 * 20282409603651670423947251286016) (hb : b < 77 * 20282409603651670423947251286016) (hc : c < 77 * 20282409603651670423947251286016)
    (hd : d < 77 * 20282409603651670423947251286016) (he : e < 5 * 20282409603651670423947251286016) :
    (carried a b c d e).w0 < 2 ^ 62 ∧ (carried a b c d e).w1 < 2 ^ 62 ∧ (carried a b c d e).w2 < 2 ^ 62 ∧ (carried a b c d e).w3 < 2 ^ 62 ∧ (carried a b c d e).w4 < 2 ^ 62 := by
  simp only [carried]
  refine ⟨?_, ?_, ?_, ?_, ?_⟩ <;> omega
theorem N5.mul_ok {a b : N5} (ha : a.ok) (hb : b.ok) : (a.mul b).ok := by
  obtain ⟨h1, h2, h3, h4, h5⟩ := mul_bounds ha hb
  obtain ⟨g1, g2, g3, g4, g5⟩ := carried_lt h1 h2 h3 h4 h5
  exact carried_ok g1 g2 g3 g4 g5
theorem N5.mul_val (a b : N5) : (a.mul b).val % p25519 = (a.val * b.val) % p25519 := by
  obtain ⟨k, hk⟩ := mul_poly a b
  have h1 : (a.mul b).val % p25519 = (carried (mulR a b) (mulS a b) (mulT a b) (mulU a b) (mulV a b)).val % p25519 := carried_mod _ _ _ _ _
  rw [h1, carried_mod, ← hk, Nat.add_mul_mod_self_left]

def N5.times (a : N5) (n : Nat) : N5 :=
  let c := carried (a.w0 * n) (a.w1 * n) (a.w2 * n) (a.w3 * n) (a.w4 * n)
  carried c.w0 c.w1 c.w2 c.w3 c.w4
theorem times_bounds {a : N5} (ha : a.ok) {n : Nat} (hn : n < 4503599627370496) : a.w0 * n < 20282409603651670423947251286016 ∧ a.w1 * n < 20282409603651670423947251286016 ∧ a.w2 * n < 20282409603651670423947251286016 ∧
    a.w3 * n < 20282409603651670423947251286016 ∧ a.w4 * n < 20282409603651670423947251286016 :=
  ⟨mul_lt' ha.h0 hn, mul_lt' ha.h1 hn, mul_lt' ha.h2 hn, mul_lt' ha.h3 hn, mul_lt' ha.h4 hn⟩
theorem N5.times_ok {a : N5} (ha : a.ok) {n : Nat} (hn : n < 4503599627370496) : (a.times n).ok := by
  obtain ⟨h1, h2, h3, h4, h5⟩ := times_bounds ha hn
  obtain ⟨g1, g2, g3, g4, g5⟩ := carried_lt (a := a.w0 * n) (b := a.w1 * n) (c := a.w2 * n) (d := a.w3 * n) (e := a.w4 * n) (by omega) (by omega) (by omega) (by omega) (by omega)
  exact carried_ok g1 g2 g3 g4 g5
theorem N5.times_val (a : N5) (n : Nat) : (a.times n).val % p25519 = (a.val * n) % p25519 := by
  have h1 : (a.times n).val % p25519 = (carried (a.w0 * n) (a.w1 * n) (a.w2 * n) (a.w3 * n) (a.w4 * n)).val % p25519 := carried_mod _ _ _ _ _
  rw [h1, carried_mod]
  congr 1
  simp only [N5.val]
  grind
def N5.small (n : Nat) : N5 := ⟨n % 2251799813685248, n / 2251799813685248, 0, 0, 0⟩
theorem N5.small_val (n : Nat) : (N5.small n).val = n := by simp only [N5.small, N5.val]; omega
theorem N5.small_ok {n : Nat} (h : n < 2 ^ 64) : (N5.small n).ok := by constructor <;> simp only [N5.small] <;> omega
end Go.Fe
