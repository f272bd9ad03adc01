/- Bytes and numbers; powers by their bits. -/
import Derived.Test.YtopigdkgjobdiaaF4
set_option linter.unusedVariables false
namespace Go.Fe
/-- the digits of bytes, the highest first: so many are in -/
def fromI (b : List Nat) : Nat → List Nat
  | 0 => [0, 0, 0, 0]
  | c + 1 => (fromI b c).set ((31 - c) / 8) ((fromI b c).getD ((31 - c) / 8) 0 * 256 % 18446744073709551616 + b.getD (31 - c) 0)
theorem list32 {b : List Nat} (h : b.length = 32) : ∃ b0 b1 b2 b3 b4 b5 b6 b7 b8 b9 b10 b11 b12 b13 b14 b15 b16 b17 b18 b19 b20 b21 b22 b23 b24 b25 b26 b27 b28 b29 b30 b31, b = [b0, b1, b2, b3, b4, b5, b6, b7, b8, b9, b10, b11, b12, b13, b14, b15, b16, b17, b18, b19, b20, b21, b22, b23, b24, b25, b26, b27, b28, b29, b30, b31] := by
  match b, h with
  | [b0, b1, b2, b3, b4, b5, b6, b7, b8, b9, b10, b11, b12, b13, b14, b15, b16, b17, b18, b19, b20, b21, b22, b23, b24, b25, b26, b27, b28, b29, b30, b31], _ => exact ⟨b0, b1, b2, b3, b4, b5, b6, b7, b8, b9, b10, b11, b12, b13, b14, b15, b16, b17, b18, b19, b20, b21, b22, b23, b24, b25, b26, b27, b28, b29, b30, b31, rfl⟩
theorem fromI_len (b : List Nat) : ∀ c, (fromI b c).length = 4
  | 0 => rfl
  | c + 1 => by simp only [fromI, List.length_set, fromI_len b c]
theorem digit8 {a b c d e f g h : Nat} (ha : a < 256) (hb : b < 256) (hc : c < 256) (hd : d < 256) (he : e < 256) (hf : f < 256) (hg : g < 256) (hh : h < 256) :
    (((((((0 * 256 % 18446744073709551616 + h) * 256 % 18446744073709551616 + g) * 256 % 18446744073709551616 + f) * 256 % 18446744073709551616 + e) * 256 % 18446744073709551616 + d) * 256 % 18446744073709551616 + c) * 256 % 18446744073709551616 + b) * 256 % 18446744073709551616 + a =
      a + 256 * b + 65536 * c + 16777216 * d + 4294967296 * e + 1099511627776 * f + 281474976710656 * g + 72057594037927936 * h := by omega
theorem fromI_all {b : List Nat} (hl : b.length = 32) (hb : ∀ x ∈ b, x < 256) : fromI b 32 = dig4 (leN b) := by
  obtain ⟨b0, b1, b2, b3, b4, b5, b6, b7, b8, b9, b10, b11, b12, b13, b14, b15, b16, b17, b18, b19, b20, b21, b22, b23, b24, b25, b26, b27, b28, b29, b30, b31, rfl⟩ := list32 hl
  have hb0 := hb b0 (by simp)
  have hb1 := hb b1 (by simp)
  have hb2 := hb b2 (by simp)
  have hb3 := hb b3 (by simp)
  have hb4 := hb b4 (by simp)
  have hb5 := hb b5 (by simp)
  have hb6 := hb b6 (by simp)
  have hb7 := hb b7 (by simp)
  have hb8 := hb b8 (by simp)
  have hb9 := hb b9 (by simp)
  have hb10 := hb b10 (by simp)
  have hb11 := hb b11 (by simp)
  have hb12 := hb b12 (by simp)
  have hb13 := hb b13 (by simp)
  have hb14 := hb b14 (by simp)
  have hb15 := hb b15 (by simp)
  have hb16 := hb b16 (by simp)
  have hb17 := hb b17 (by simp)
  have hb18 := hb b18 (by simp)
  have hb19 := hb b19 (by simp)
  have hb20 := hb b20 (by simp)
  have hb21 := hb b21 (by simp)
  have hb22 := hb b22 (by simp)
  have hb23 := hb b23 (by simp)
  have hb24 := hb b24 (by simp)
  have hb25 := hb b25 (by simp)
  have hb26 := hb b26 (by simp)
  have hb27 := hb b27 (by simp)
  have hb28 := hb b28 (by simp)
  have hb29 := hb b29 (by simp)
  have hb30 := hb b30 (by simp)
  have hb31 := hb b31 (by simp)
  clear hb hl
  simp only [fromI, Nat.sub_self, Nat.sub_zero, Nat.reduceSub, Nat.reduceDiv, List.getD_cons_zero, List.getD_cons_succ, List.set_cons_zero, List.set_cons_succ]
  have q0 := digit8 hb0 hb1 hb2 hb3 hb4 hb5 hb6 hb7
  have q1 := digit8 hb8 hb9 hb10 hb11 hb12 hb13 hb14 hb15
  have q2 := digit8 hb16 hb17 hb18 hb19 hb20 hb21 hb22 hb23
  have q3 := digit8 hb24 hb25 hb26 hb27 hb28 hb29 hb30 hb31
  rw [q0, q1, q2, q3]
  clear q0 q1 q2 q3
  simp only [dig4, leN, List.cons.injEq, and_true]
  refine ⟨?_, ?_, ?_, ?_⟩ <;> omega
theorem leN_lt : ∀ {b : List Nat}, (∀ x ∈ b, x < 256) → leN b < 256 ^ b.length
  | [], _ => by simp [leN]
  | x :: xs, h => by
    have := leN_lt (b := xs) fun y hy => h y (by simp [hy])
    have := h x (by simp)
    simp only [leN, List.length_cons, Nat.pow_succ]
    omega
theorem from_dig {b : List Nat} (hl : b.length = 32) (hb : ∀ x ∈ b, x < 256) : belowL ((fromI b 32).set 3 ((fromI b 32).getD 3 0 % 9223372036854775808)) = dig4 (fromL b) := by
  rw [fromI_all hl hb]
  have hlt := leN_lt hb
  rw [hl] at hlt
  have e : (dig4 (leN b)).set 3 ((dig4 (leN b)).getD 3 0 % 9223372036854775808) = dig4 (leN b % 2 ^ 255) := by
    simp only [dig4, List.set_cons_succ, List.set_cons_zero, List.getD_cons_succ, List.getD_cons_zero, List.cons.injEq, and_true]
    refine ⟨?_, ?_, ?_, ?_⟩ <;> omega
  have h2 : leN b % 2 ^ 255 < 2 ^ 255 := Nat.mod_lt _ (by decide)
  rw [e, belowL_eq (D4.dig _) (by rw [val4_dig (by omega)]; unfold p25519; omega), val4_dig (by omega)]
  rfl
theorem fromL_lt (b : List Nat) : fromL b < p25519 := Nat.mod_lt _ (by decide)

theorem bytesN_len (n : Nat) : (bytesN n).length = 32 := by simp [bytesN]
theorem bytesN_lt (n : Nat) : ∀ x ∈ bytesN n, x < 256 := by
  intro x hx
  obtain ⟨i, _, rfl⟩ := List.mem_map.1 hx
  exact Nat.mod_lt _ (by decide)
theorem bytesN_at (n : Nat) {i : Nat} (h : i < 32) : (bytesN n)[i]? = some (n / 256 ^ i % 256) := by simp [bytesN, h]
theorem byte8 (m : Nat) {r : Nat} (h : r < 8) : m % 18446744073709551616 / 2 ^ (r * 8) % 256 = m / 256 ^ r % 256 := by
  have : r = 0 ∨ r = 1 ∨ r = 2 ∨ r = 3 ∨ r = 4 ∨ r = 5 ∨ r = 6 ∨ r = 7 := by omega
  rcases this with rfl | rfl | rfl | rfl | rfl | rfl | rfl | rfl <;> simp only [Nat.reducePow, Nat.reduceMul] <;> omega
theorem dig4_at (n : Nat) {q : Nat} (h : q < 4) : (dig4 n).getD q 0 = n / 18446744073709551616 ^ q % 18446744073709551616 := by
  have : q = 0 ∨ q = 1 ∨ q = 2 ∨ q = 3 := by omega
  rcases this with rfl | rfl | rfl | rfl <;> simp [dig4]
theorem byte_dig (n : Nat) {i : Nat} (h : i < 32) : (dig4 n).getD (i / 8) 0 / 2 ^ (i % 8 * 8) % 256 = n / 256 ^ i % 256 := by
  rw [dig4_at n (by omega), byte8 _ (by omega), Nat.div_div_eq_div_mul]
  congr 2
  rw [show (18446744073709551616 : Nat) = 256 ^ 8 from rfl, ← Nat.pow_mul, ← Nat.pow_add]
  congr 1
  omega
/-- so many bytes are set -/
def bytesI (n i : Nat) : List Nat := (bytesN n).take i ++ List.replicate (32 - i) 0
theorem bytesI_zero (n : Nat) : bytesI n 0 = List.replicate 32 0 := by simp [bytesI]
theorem bytesI_all (n : Nat) : bytesI n 32 = bytesN n := by simp [bytesI, bytesN_len, List.take_of_length_le]
theorem bytesI_len (n : Nat) {i : Nat} (h : i ≤ 32) : (bytesI n i).length = 32 := by simp [bytesI, bytesN_len]; omega
theorem bytesI_succ (n : Nat) {i : Nat} (h : i < 32) : (bytesI n i).set i (n / 256 ^ i % 256) = bytesI n (i + 1) := by
  unfold bytesI
  have h1 : ((bytesN n).take i).length = i := by rw [List.length_take, bytesN_len]; omega
  have h2 : 32 - i = (32 - (i + 1)) + 1 := by omega
  have h3 : (bytesN n).take (i + 1) = (bytesN n).take i ++ [n / 256 ^ i % 256] := by rw [List.take_add_one, bytesN_at n h]; rfl
  rw [h2, List.replicate_succ, h3, List.append_assoc]
  conv => lhs; rw [List.set_append_right _ _ (by omega)]
  simp [h1]

theorem bit_up {v bit : Nat} (hv : v < 256) (hb : bit < 8) : v / 2 ^ (7 - bit) = 2 * (v / 2 ^ (8 - bit)) + (if 128 ≤ v * 2 ^ bit % 256 then 1 else 0) := by
  have : bit = 0 ∨ bit = 1 ∨ bit = 2 ∨ bit = 3 ∨ bit = 4 ∨ bit = 5 ∨ bit = 6 ∨ bit = 7 := by omega
  rcases this with rfl | rfl | rfl | rfl | rfl | rfl | rfl | rfl <;> simp only [Nat.reducePow, Nat.reduceSub] <;> split <;> omega
theorem bit_next {v bit : Nat} (hv : v < 256) (hb : bit < 8) : v * 2 ^ bit % 256 % 128 * 2 = v * 2 ^ (bit + 1) % 256 := by
  rw [Nat.pow_succ, ← Nat.mul_assoc]
  omega
/-- the power of a with so many bits of a byte behind a number's -/
def powBit (a E v bit : Nat) : Nat := a ^ (E * 2 ^ bit + v / 2 ^ (8 - bit)) % p25519
theorem powBit_lt (a E v bit : Nat) : powBit a E v bit < p25519 := Nat.mod_lt _ (by decide)
theorem powBit_zero (a E : Nat) {v : Nat} (hv : v < 256) : powBit a E v 0 = a ^ E % p25519 := by
  unfold powBit
  rw [Nat.pow_zero, Nat.mul_one, Nat.sub_zero, Nat.div_eq_of_lt (by omega), Nat.add_zero]
theorem powBit_all (a E v : Nat) : powBit a E v 8 = a ^ (v + 256 * E) % p25519 := by
  unfold powBit
  rw [Nat.sub_self, Nat.pow_zero, Nat.div_one]
  congr 2
  omega
theorem powBit_succ (a E : Nat) {v bit : Nat} (hv : v < 256) (hb : bit < 8) :
    powBit a E v (bit + 1) = if 128 ≤ v * 2 ^ bit % 256 then mulN (mulN (powBit a E v bit) (powBit a E v bit)) (a % p25519) else mulN (powBit a E v bit) (powBit a E v bit) := by
  have h := bit_up hv hb
  have e : E * 2 ^ (bit + 1) + v / 2 ^ (8 - (bit + 1)) = (E * 2 ^ bit + v / 2 ^ (8 - bit)) + (E * 2 ^ bit + v / 2 ^ (8 - bit)) + (if 128 ≤ v * 2 ^ bit % 256 then 1 else 0) := by
    rw [show 8 - (bit + 1) = 7 - bit by omega, h, Nat.pow_succ, ← Nat.mul_assoc]
    omega
  unfold powBit mulN
  rw [e]
  split
  · rw [Nat.pow_add, Nat.pow_add, Nat.pow_one]
    simp only [Nat.mul_mod, Nat.mod_mod]
  · rw [Nat.add_zero, Nat.pow_add]
    simp only [Nat.mul_mod, Nat.mod_mod]
theorem leN_cons (x : Nat) (xs : List Nat) : leN (x :: xs) = x + 256 * leN xs := rfl
theorem leN_drop {e : List Nat} {i : Nat} (h : i < e.length) : leN (e.drop i) = e.getD i 0 + 256 * leN (e.drop (i + 1)) := by
  rw [List.drop_eq_getElem_cons h, leN_cons, List.getD_eq_getElem?_getD, List.getElem?_eq_getElem h]
  rfl
/-- the bytes of 2^k - 1, bit by bit; and the bit -/
def numI : Nat → List Nat × Nat
  | 0 => (List.replicate 32 0, 1)
  | i + 1 => ((numI i).1.set (i / 8) (((numI i).1.getD (i / 8) 0 + (if i % 8 = 0 then 1 else (numI i).2)) % 256), (if i % 8 = 0 then 1 else (numI i).2) * 2 % 256)
def expL : List Nat := 235 :: (List.replicate 30 255 ++ [127])
theorem expL_val : leN expL = 2 ^ 255 - 21 := by decide
end Go.Fe
