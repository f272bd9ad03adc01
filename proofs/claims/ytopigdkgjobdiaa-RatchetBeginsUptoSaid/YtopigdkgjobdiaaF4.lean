/- Numbers below the prime as four digits of 64 bits. -/
import Derived.Test.YtopigdkgjobdiaaF3
set_option linter.unusedVariables false
namespace Go.Fe
def val4 (l : List Nat) : Nat := l.getD 0 0 + 18446744073709551616 * l.getD 1 0 + 340282366920938463463374607431768211456 * l.getD 2 0 + 6277101735386680763835789423207666416102355444464034512896 * l.getD 3 0
def dig4 (n : Nat) : List Nat := [n % 18446744073709551616, n / 18446744073709551616 % 18446744073709551616, n / 340282366920938463463374607431768211456 % 18446744073709551616, n / 6277101735386680763835789423207666416102355444464034512896 % 18446744073709551616]
theorem dig4_len (n : Nat) : (dig4 n).length = 4 := rfl
/-- four digits -/
structure D4 (l : List Nat) : Prop where
  len : l.length = 4
  lt : ∀ x ∈ l, x < 18446744073709551616
theorem D4.ex {l : List Nat} (h : D4 l) : ∃ a b c d, l = [a, b, c, d] ∧ a < 18446744073709551616 ∧ b < 18446744073709551616 ∧ c < 18446744073709551616 ∧ d < 18446744073709551616 := by
  obtain ⟨h1, h2⟩ := h
  match l, h1 with
  | [a, b, c, d], _ => exact ⟨a, b, c, d, rfl, h2 a (by simp), h2 b (by simp), h2 c (by simp), h2 d (by simp)⟩
theorem D4.mk' {a b c d : Nat} (ha : a < 18446744073709551616) (hb : b < 18446744073709551616) (hc : c < 18446744073709551616) (hd : d < 18446744073709551616) : D4 [a, b, c, d] :=
  ⟨rfl, fun x hx => by simp at hx; rcases hx with rfl | rfl | rfl | rfl <;> assumption⟩
theorem D4.dig (n : Nat) : D4 (dig4 n) := D4.mk' (Nat.mod_lt _ (by decide)) (Nat.mod_lt _ (by decide)) (Nat.mod_lt _ (by decide)) (Nat.mod_lt _ (by decide))
theorem val4_mk (a b c d : Nat) : val4 [a, b, c, d] = a + 18446744073709551616 * b + 340282366920938463463374607431768211456 * c + 6277101735386680763835789423207666416102355444464034512896 * d := rfl
theorem dig4_val {l : List Nat} (h : D4 l) : dig4 (val4 l) = l := by
  obtain ⟨a, b, c, d, rfl, ha, hb, hc, hd⟩ := h.ex
  simp only [dig4, val4_mk, List.cons.injEq, and_true]
  refine ⟨?_, ?_, ?_, ?_⟩ <;> omega
theorem val4_dig {n : Nat} (h : n < 2 ^ 256) : val4 (dig4 n) = n := by
  simp only [dig4, val4_mk]
  omega
theorem val4_lt {l : List Nat} (h : D4 l) : val4 l < 2 ^ 256 := by
  obtain ⟨a, b, c, d, rfl, ha, hb, hc, hd⟩ := h.ex
  simp only [val4_mk]
  omega

/-- x less y, digit by digit: as far as i -/
def subI (x y : List Nat) : Nat → List Nat × Nat
  | 0 => (x, 0)
  | i + 1 => ((subI x y i).1.set i (((subI x y i).1.getD i 0 + 18446744073709551616 - y.getD i 0 - (subI x y i).2) % 18446744073709551616), if (subI x y i).1.getD i 0 < y.getD i 0 + (subI x y i).2 then 1 else 0)
theorem subI_bor (x y : List Nat) : ∀ i, (subI x y i).2 = 0 ∨ (subI x y i).2 = 1
  | 0 => .inl rfl
  | i + 1 => by simp only [subI]; split <;> simp
theorem subI_len (x y : List Nat) : ∀ i, (subI x y i).1.length = x.length
  | 0 => rfl
  | i + 1 => by simp only [subI, List.length_set, subI_len x y i]
theorem subI_lt {x y : List Nat} (hx : ∀ z ∈ x, z < 18446744073709551616) : ∀ i, ∀ z ∈ (subI x y i).1, z < 18446744073709551616
  | 0 => hx
  | i + 1 => fun z hz => by
    simp only [subI] at hz
    rcases List.mem_or_eq_of_mem_set hz with h | h
    · exact subI_lt hx i z h
    · subst h; exact Nat.mod_lt _ (by decide)
theorem sub_step {a b c : Nat} (ha : a < 18446744073709551616) (hb : b < 18446744073709551616) (hc : c ≤ 1) :
    ∃ r c', (a + 18446744073709551616 - b - c) % 18446744073709551616 = r ∧ (if a < b + c then 1 else 0) = c' ∧ r + b + c = a + 18446744073709551616 * c' ∧ c' ≤ 1 := by
  refine ⟨_, _, rfl, rfl, ?_⟩
  split <;> omega
theorem subI_val {x y : List Nat} (hx : D4 x) (hy : D4 y) : D4 (subI x y 4).1 ∧ val4 (subI x y 4).1 + val4 y = val4 x + 2 ^ 256 * (subI x y 4).2 := by
  obtain ⟨a, b, c, d, rfl, ha, hb, hc, hd⟩ := hx.ex
  obtain ⟨e, f, g, h, rfl, he, hf, hg, hh⟩ := hy.ex
  refine ⟨⟨by rw [subI_len]; rfl, subI_lt (fun z hz => by simp at hz; omega) 4⟩, ?_⟩
  obtain ⟨r0, c0, e0, k0, s0, l0⟩ := sub_step (c := 0) ha he (by decide)
  obtain ⟨r1, c1, e1, k1, s1, l1⟩ := sub_step hb hf l0
  obtain ⟨r2, c2, e2, k2, s2, l2⟩ := sub_step hc hg l1
  obtain ⟨r3, c3, e3, k3, s3, l3⟩ := sub_step hd hh l2
  have q1 : subI [a, b, c, d] [e, f, g, h] 1 = ([r0, b, c, d], c0) := by simp only [subI, List.set_cons_zero, List.getD_cons_zero, e0, k0]
  have q2 : subI [a, b, c, d] [e, f, g, h] 2 = ([r0, r1, c, d], c1) := by rw [subI, q1]; simp only [List.set_cons_zero, List.set_cons_succ, List.getD_cons_zero, List.getD_cons_succ, e1, k1]
  have q3 : subI [a, b, c, d] [e, f, g, h] 3 = ([r0, r1, r2, d], c2) := by rw [subI, q2]; simp only [List.set_cons_zero, List.set_cons_succ, List.getD_cons_zero, List.getD_cons_succ, e2, k2]
  have q4 : subI [a, b, c, d] [e, f, g, h] 4 = ([r0, r1, r2, r3], c3) := by rw [subI, q3]; simp only [List.set_cons_zero, List.set_cons_succ, List.getD_cons_zero, List.getD_cons_succ, e3, k3]
  rw [q4]
  simp only [val4_mk]
  clear q1 q2 q3 q4 e0 e1 e2 e3 k0 k1 k2 k3
  omega
def primeL : List Nat := [18446744073709551597, 18446744073709551615, 18446744073709551615, 9223372036854775807]
theorem primeL_val : val4 primeL = p25519 := by decide
theorem primeL_D4 : D4 primeL := D4.mk' (by decide) (by decide) (by decide) (by decide)
def belowL (d : List Nat) : List Nat := if (subI d primeL 4).2 = 1 then d else (subI d primeL 4).1
theorem belowL_eq {d : List Nat} (hd : D4 d) (h : val4 d < 2 * p25519) : belowL d = dig4 (val4 d % p25519) := by
  obtain ⟨h1, h2⟩ := subI_val hd primeL_D4
  rw [primeL_val] at h2
  have h3 := val4_lt h1
  unfold belowL
  rcases subI_bor d primeL 4 with hb | hb
  · rw [if_neg (by omega), ← dig4_val h1]
    congr 1
    rw [hb] at h2
    unfold p25519 at *
    omega
  · rw [if_pos hb]
    conv => lhs; rw [← dig4_val hd]
    congr 1
    rw [hb] at h2
    unfold p25519 at *
    omega

def addI (x y : List Nat) (c : Nat) : Nat → List Nat × Nat
  | 0 => (x, c)
  | i + 1 => ((addI x y c i).1.set i (((addI x y c i).1.getD i 0 + y.getD i 0 + (addI x y c i).2) % 18446744073709551616), ((addI x y c i).1.getD i 0 + y.getD i 0 + (addI x y c i).2) / 18446744073709551616)
theorem addI_len (x y : List Nat) (c : Nat) : ∀ i, (addI x y c i).1.length = x.length
  | 0 => rfl
  | i + 1 => by simp only [addI, List.length_set, addI_len x y c i]
theorem addI_lt {x y : List Nat} {c : Nat} (hx : ∀ z ∈ x, z < 18446744073709551616) : ∀ i, ∀ z ∈ (addI x y c i).1, z < 18446744073709551616
  | 0 => hx
  | i + 1 => fun z hz => by
    simp only [addI] at hz
    rcases List.mem_or_eq_of_mem_set hz with h | h
    · exact addI_lt hx i z h
    · subst h; exact Nat.mod_lt _ (by decide)
theorem getD_lt {l : List Nat} {B : Nat} (hB : 0 < B) (h : ∀ z ∈ l, z < B) (i : Nat) : l.getD i 0 < B := by
  rw [List.getD_eq_getElem?_getD]
  cases hi : l[i]? with
  | none => simpa using hB
  | some z => simpa using h z (List.mem_of_getElem? hi)
theorem addI_carry {x y : List Nat} {c : Nat} (hx : ∀ z ∈ x, z < 18446744073709551616) (hy : ∀ z ∈ y, z < 18446744073709551616) (hc : c ≤ 1) : ∀ i, (addI x y c i).2 ≤ 1
  | 0 => hc
  | i + 1 => by
    have h1 := getD_lt (by decide) (addI_lt (y := y) (c := c) hx i) i
    have h2 := getD_lt (by decide) hy i
    have h3 := addI_carry hx hy hc i
    simp only [addI]
    omega
theorem add_step (s : Nat) : ∃ r c', s % 18446744073709551616 = r ∧ s / 18446744073709551616 = c' ∧ r + 18446744073709551616 * c' = s ∧ r < 18446744073709551616 := ⟨_, _, rfl, rfl, by omega, by omega⟩
theorem addI_val {x y : List Nat} {c : Nat} (hx : D4 x) (hy : D4 y) : D4 (addI x y c 4).1 ∧ val4 (addI x y c 4).1 + 2 ^ 256 * (addI x y c 4).2 = val4 x + val4 y + c := by
  obtain ⟨a, b, c', d, rfl, ha, hb, hc, hd⟩ := hx.ex
  obtain ⟨e, f, g, h, rfl, he, hf, hg, hh⟩ := hy.ex
  refine ⟨⟨by rw [addI_len]; rfl, addI_lt (fun z hz => by simp at hz; omega) 4⟩, ?_⟩
  obtain ⟨r0, c0, e0, k0, s0, l0⟩ := add_step (a + e + c)
  obtain ⟨r1, c1, e1, k1, s1, l1⟩ := add_step (b + f + c0)
  obtain ⟨r2, c2, e2, k2, s2, l2⟩ := add_step (c' + g + c1)
  obtain ⟨r3, c3, e3, k3, s3, l3⟩ := add_step (d + h + c2)
  have q1 : addI [a, b, c', d] [e, f, g, h] c 1 = ([r0, b, c', d], c0) := by simp only [addI, List.set_cons_zero, List.getD_cons_zero, e0, k0]
  have q2 : addI [a, b, c', d] [e, f, g, h] c 2 = ([r0, r1, c', d], c1) := by rw [addI, q1]; simp only [List.set_cons_zero, List.set_cons_succ, List.getD_cons_zero, List.getD_cons_succ, e1, k1]
  have q3 : addI [a, b, c', d] [e, f, g, h] c 3 = ([r0, r1, r2, d], c2) := by rw [addI, q2]; simp only [List.set_cons_zero, List.set_cons_succ, List.getD_cons_zero, List.getD_cons_succ, e2, k2]
  have q4 : addI [a, b, c', d] [e, f, g, h] c 4 = ([r0, r1, r2, r3], c3) := by rw [addI, q3]; simp only [List.set_cons_zero, List.set_cons_succ, List.getD_cons_zero, List.getD_cons_succ, e3, k3]
  rw [q4]
  simp only [val4_mk]
  clear q1 q2 q3 q4 e0 e1 e2 e3 k0 k1 k2 k3
  omega
theorem add_dig {a b : Nat} (ha : a < p25519) (hb : b < p25519) : belowL (addI (dig4 a) (dig4 b) 0 4).1 = dig4 (addN a b) := by
  obtain ⟨h1, h2⟩ := addI_val (c := 0) (D4.dig a) (D4.dig b)
  have h3 : a < 2 ^ 256 := by unfold p25519 at ha; omega
  have h4 : b < 2 ^ 256 := by unfold p25519 at hb; omega
  rw [val4_dig h3, val4_dig h4] at h2
  have h5 := val4_lt h1
  have h6 : val4 (addI (dig4 a) (dig4 b) 0 4).1 = a + b := by unfold p25519 at *; omega
  rw [belowL_eq h1 (by omega), h6]
  rfl
theorem neg_dig {b : Nat} (hb : b < p25519) : belowL (subI primeL (dig4 b) 4).1 = dig4 ((p25519 - b) % p25519) := by
  obtain ⟨h1, h2⟩ := subI_val primeL_D4 (D4.dig b)
  have h4 : b < 2 ^ 256 := by unfold p25519 at hb; omega
  rw [val4_dig h4, primeL_val] at h2
  have h5 := val4_lt h1
  have h7 := subI_bor primeL (dig4 b) 4
  have h6 : val4 (subI primeL (dig4 b) 4).1 = p25519 - b := by unfold p25519 at *; omega
  rw [belowL_eq h1 (by unfold p25519 at *; omega), h6]
theorem sub_neg (a b : Nat) : addN a ((p25519 - b) % p25519) = subN a b := by unfold addN subN; rw [Nat.add_mod_mod]

/-- what stands above the digits goes in, 19 times -/
def foldC (d : List Nat) (over : Nat) : Nat := 19 * (2 * over + d.getD 3 0 / 9223372036854775808)
def zeros4 : List Nat := [0, 0, 0, 0]
def settleL (d : List Nat) (over : Nat) : List Nat := belowL (addI (d.set 3 (d.getD 3 0 % 9223372036854775808)) zeros4 (foldC d over) 4).1
theorem settleL_eq {d : List Nat} (hd : D4 d) {over : Nat} (ho : over ≤ 38) : settleL d over = dig4 ((val4 d + 2 ^ 256 * over) % p25519) := by
  obtain ⟨a, b, c, e, rfl, ha, hb, hc, he⟩ := hd.ex
  have hd' : D4 [a, b, c, e % 9223372036854775808] := D4.mk' ha hb hc (by omega)
  have hz : D4 zeros4 := D4.mk' (by decide) (by decide) (by decide) (by decide)
  obtain ⟨h1, h2⟩ := addI_val (c := foldC [a, b, c, e] over) hd' hz
  unfold settleL
  simp only [List.set_cons_zero, List.set_cons_succ, List.getD_cons_zero, List.getD_cons_succ] at h2 ⊢
  have h3 := val4_lt h1
  have hz0 : val4 zeros4 = 0 := by decide
  have hf : foldC [a, b, c, e] over = 19 * (2 * over + e / 9223372036854775808) := rfl
  rw [hz0, hf] at h2
  simp only [val4_mk] at h2 ⊢
  have h6 : val4 (addI [a, b, c, e % 9223372036854775808] zeros4 (foldC [a, b, c, e] over) 4).1 = a + 18446744073709551616 * b + 340282366920938463463374607431768211456 * c + 6277101735386680763835789423207666416102355444464034512896 * (e % 9223372036854775808) + 19 * (2 * over + e / 9223372036854775808) := by rw [hf]; omega
  rw [belowL_eq h1 (by rw [h6]; unfold p25519; omega), h6]
  congr 1
  have : a + 18446744073709551616 * b + 340282366920938463463374607431768211456 * c + 6277101735386680763835789423207666416102355444464034512896 * e + 2 ^ 256 * over =
    a + 18446744073709551616 * b + 340282366920938463463374607431768211456 * c + 6277101735386680763835789423207666416102355444464034512896 * (e % 9223372036854775808) + 19 * (2 * over + e / 9223372036854775808) + p25519 * (2 * over + e / 9223372036854775808) := by unfold p25519; omega
  rw [this, Nat.add_mul_mod_self_left]

/-- x times y and two more, in two digits -/
def timesN (x y c d : Nat) : Nat := x * y + c + d
theorem timesN_lt {x y c d : Nat} (hx : x < 18446744073709551616) (hy : y < 18446744073709551616) (hc : c < 18446744073709551616) (hd : d < 18446744073709551616) : timesN x y c d < 340282366920938463463374607431768211456 := by
  have := Nat.mul_le_mul (Nat.le_of_lt_succ hx) (Nat.le_of_lt_succ hy)
  unfold timesN
  omega
/-- one row: the carry and the digits, as far as j -/
def rowI (x : Nat) (b : List Nat) (i : Nat) (t : List Nat) : Nat → Nat × List Nat
  | 0 => (0, t)
  | j + 1 => (timesN x (b.getD j 0) ((rowI x b i t j).2.getD (i + j) 0) (rowI x b i t j).1 / 18446744073709551616,
      (rowI x b i t j).2.set (i + j) (timesN x (b.getD j 0) ((rowI x b i t j).2.getD (i + j) 0) (rowI x b i t j).1 % 18446744073709551616))
def mulI (a b : List Nat) : Nat → List Nat
  | 0 => [0, 0, 0, 0, 0, 0, 0, 0]
  | i + 1 => (rowI (a.getD i 0) b i (mulI a b i) 4).2.set (i + 4) (rowI (a.getD i 0) b i (mulI a b i) 4).1
def foldI (t : List Nat) : Nat → Nat × List Nat
  | 0 => (0, [0, 0, 0, 0])
  | i + 1 => (timesN 38 (t.getD (i + 4) 0) (t.getD i 0) (foldI t i).1 / 18446744073709551616, (foldI t i).2.set i (timesN 38 (t.getD (i + 4) 0) (t.getD i 0) (foldI t i).1 % 18446744073709551616))
theorem rowI_len (x : Nat) (b : List Nat) (i : Nat) (t : List Nat) : ∀ j, (rowI x b i t j).2.length = t.length
  | 0 => rfl
  | j + 1 => by simp only [rowI, List.length_set, rowI_len x b i t j]
theorem rowI_lt {x : Nat} {b : List Nat} {i : Nat} {t : List Nat} (hx : x < 18446744073709551616) (hb : ∀ z ∈ b, z < 18446744073709551616) (ht : ∀ z ∈ t, z < 18446744073709551616) :
    ∀ j, (rowI x b i t j).1 < 18446744073709551616 ∧ ∀ z ∈ (rowI x b i t j).2, z < 18446744073709551616
  | 0 => ⟨by show 0 < 18446744073709551616; decide, ht⟩
  | j + 1 => by
    obtain ⟨h1, h2⟩ := rowI_lt hx hb ht j
    have h3 := timesN_lt hx (getD_lt (by decide) hb j) (getD_lt (by decide) h2 (i + j)) h1
    simp only [rowI]
    generalize timesN x (b.getD j 0) ((rowI x b i t j).2.getD (i + j) 0) (rowI x b i t j).1 = s at h3
    refine ⟨by omega, fun z hz => ?_⟩
    rcases List.mem_or_eq_of_mem_set hz with h | h
    · exact h2 z h
    · subst h; exact Nat.mod_lt _ (by decide)
theorem mulI_ok {a b : List Nat} (ha : ∀ z ∈ a, z < 18446744073709551616) (hb : ∀ z ∈ b, z < 18446744073709551616) : ∀ i, (mulI a b i).length = 8 ∧ ∀ z ∈ mulI a b i, z < 18446744073709551616
  | 0 => ⟨rfl, fun z hz => by simp [mulI] at hz; omega⟩
  | i + 1 => by
    obtain ⟨h1, h2⟩ := mulI_ok ha hb i
    have h3 := rowI_lt (i := i) (getD_lt (by decide) ha i) hb h2 4
    simp only [mulI]
    refine ⟨by rw [List.length_set, rowI_len, h1], fun z hz => ?_⟩
    rcases List.mem_or_eq_of_mem_set hz with h | h
    · exact h3.2 z h
    · subst h; exact h3.1
def val8 (l : List Nat) : Nat := val4 (l.take 4) + 2 ^ 256 * val4 (l.drop 4)

/-- what one row does: four digits and a carry -/
theorem row_sum (x e f g h t0 t1 t2 t3 : Nat) : ∃ u0 u1 u2 u3 c, u0 < 18446744073709551616 ∧ u1 < 18446744073709551616 ∧ u2 < 18446744073709551616 ∧ u3 < 18446744073709551616 ∧
    (∀ (pre post : List Nat), rowI x [e, f, g, h] pre.length (pre ++ t0 :: t1 :: t2 :: t3 :: post) 4 = (c, pre ++ u0 :: u1 :: u2 :: u3 :: post)) ∧
    u0 + 18446744073709551616 * u1 + 340282366920938463463374607431768211456 * u2 + 6277101735386680763835789423207666416102355444464034512896 * u3 + 2 ^ 256 * c =
      t0 + 18446744073709551616 * t1 + 340282366920938463463374607431768211456 * t2 + 6277101735386680763835789423207666416102355444464034512896 * t3 + x * (e + 18446744073709551616 * f + 340282366920938463463374607431768211456 * g + 6277101735386680763835789423207666416102355444464034512896 * h) := by
  obtain ⟨s0, hs0⟩ : ∃ s, timesN x e t0 0 = s := ⟨_, rfl⟩
  obtain ⟨s1, hs1⟩ : ∃ s, timesN x f t1 (s0 / 18446744073709551616) = s := ⟨_, rfl⟩
  obtain ⟨s2, hs2⟩ : ∃ s, timesN x g t2 (s1 / 18446744073709551616) = s := ⟨_, rfl⟩
  obtain ⟨s3, hs3⟩ : ∃ s, timesN x h t3 (s2 / 18446744073709551616) = s := ⟨_, rfl⟩
  refine ⟨s0 % 18446744073709551616, s1 % 18446744073709551616, s2 % 18446744073709551616, s3 % 18446744073709551616, s3 / 18446744073709551616, by omega, by omega, by omega, by omega, fun pre post => ?_, ?_⟩
  · have g0 (y : Nat) (l : List Nat) : (pre ++ y :: l).getD pre.length 0 = y := by simp
    have g1 (y : Nat) (l : List Nat) (j : Nat) : (pre ++ y :: l).getD (pre.length + (j + 1)) 0 = (pre ++ l).getD (pre.length + j) 0 := by
      simp [List.getD_eq_getElem?_getD, List.getElem?_append_right]
    have q0 (y z : Nat) (l : List Nat) : (pre ++ y :: l).set pre.length z = pre ++ z :: l := by simp
    have gg (l : List Nat) (j : Nat) : (pre ++ l).getD (pre.length + j) 0 = l.getD j 0 := by simp [List.getD_eq_getElem?_getD, List.getElem?_append_right]
    have qq (l : List Nat) (j z : Nat) : (pre ++ l).set (pre.length + j) z = pre ++ l.set j z := by simp
    have r1 : rowI x [e, f, g, h] pre.length (pre ++ t0 :: t1 :: t2 :: t3 :: post) 1 = (s0 / 18446744073709551616, pre ++ s0 % 18446744073709551616 :: t1 :: t2 :: t3 :: post) := by
      simp only [rowI, gg, qq, List.getD_cons_zero, List.set_cons_zero, hs0]
    have r2 : rowI x [e, f, g, h] pre.length (pre ++ t0 :: t1 :: t2 :: t3 :: post) 2 = (s1 / 18446744073709551616, pre ++ s0 % 18446744073709551616 :: s1 % 18446744073709551616 :: t2 :: t3 :: post) := by
      rw [rowI, r1]
      simp only [gg, qq, List.getD_cons_zero, List.getD_cons_succ, List.set_cons_zero, List.set_cons_succ, hs1]
    have r3 : rowI x [e, f, g, h] pre.length (pre ++ t0 :: t1 :: t2 :: t3 :: post) 3 = (s2 / 18446744073709551616, pre ++ s0 % 18446744073709551616 :: s1 % 18446744073709551616 :: s2 % 18446744073709551616 :: t3 :: post) := by
      rw [rowI, r2]
      simp only [gg, qq, List.getD_cons_zero, List.getD_cons_succ, List.set_cons_zero, List.set_cons_succ, hs2]
    rw [rowI, r3]
    simp only [gg, qq, List.getD_cons_zero, List.getD_cons_succ, List.set_cons_zero, List.set_cons_succ, hs3]
  · simp only [timesN] at hs0 hs1 hs2 hs3
    have e1 : x * (e + 18446744073709551616 * f + 340282366920938463463374607431768211456 * g + 6277101735386680763835789423207666416102355444464034512896 * h) =
      x * e + 18446744073709551616 * (x * f) + 340282366920938463463374607431768211456 * (x * g) + 6277101735386680763835789423207666416102355444464034512896 * (x * h) := by grind
    rw [e1]
    generalize x * e = p0 at *
    generalize x * f = p1 at *
    generalize x * g = p2 at *
    generalize x * h = p3 at *
    omega
theorem mul_sum {a b : List Nat} (ha : D4 a) (hb : D4 b) : val8 (mulI a b 4) = val4 a * val4 b := by
  obtain ⟨a0, a1, a2, a3, rfl, h0, h1, h2, h3⟩ := ha.ex
  obtain ⟨e, f, g, h, rfl, he, hf, hg, hh⟩ := hb.ex
  rw [val4_mk e f g h]
  obtain ⟨B, hB⟩ : ∃ B, e + 18446744073709551616 * f + 340282366920938463463374607431768211456 * g + 6277101735386680763835789423207666416102355444464034512896 * h = B := ⟨_, rfl⟩
  obtain ⟨u0, u1, u2, u3, c1, _, _, _, _, r1, s1⟩ := row_sum a0 e f g h 0 0 0 0
  obtain ⟨v0, v1, v2, v3, c2, _, _, _, _, r2, s2⟩ := row_sum a1 e f g h u1 u2 u3 c1
  obtain ⟨w0, w1, w2, w3, c3, _, _, _, _, r3, s3⟩ := row_sum a2 e f g h v1 v2 v3 c2
  obtain ⟨z0, z1, z2, z3, c4, _, _, _, _, r4, s4⟩ := row_sum a3 e f g h w1 w2 w3 c3
  have m1 : mulI [a0, a1, a2, a3] [e, f, g, h] 1 = [u0, u1, u2, u3, c1, 0, 0, 0] := by
    have := r1 [] [0, 0, 0, 0]
    simp only [List.length_nil, List.nil_append] at this
    simp only [mulI, List.getD_cons_zero, this]
    rfl
  have m2 : mulI [a0, a1, a2, a3] [e, f, g, h] 2 = [u0, v0, v1, v2, v3, c2, 0, 0] := by
    have := r2 [u0] [0, 0, 0]
    simp only [List.length_cons, List.length_nil, List.cons_append, List.nil_append, Nat.zero_add] at this
    rw [mulI, m1]
    simp only [List.getD_cons_zero, List.getD_cons_succ, this]
    rfl
  have m3 : mulI [a0, a1, a2, a3] [e, f, g, h] 3 = [u0, v0, w0, w1, w2, w3, c3, 0] := by
    have := r3 [u0, v0] [0, 0]
    simp only [List.length_cons, List.length_nil, List.cons_append, List.nil_append, Nat.zero_add, Nat.reduceAdd] at this
    rw [mulI, m2]
    simp only [List.getD_cons_zero, List.getD_cons_succ, this]
    rfl
  have m4 : mulI [a0, a1, a2, a3] [e, f, g, h] 4 = [u0, v0, w0, z0, z1, z2, z3, c4] := by
    have := r4 [u0, v0, w0] [0]
    simp only [List.length_cons, List.length_nil, List.cons_append, List.nil_append, Nat.zero_add, Nat.reduceAdd] at this
    rw [mulI, m3]
    simp only [List.getD_cons_zero, List.getD_cons_succ, this]
    rfl
  rw [m4, hB]
  rw [hB] at s1 s2 s3 s4
  simp only [val8, List.take, List.drop, val4_mk]
  have e1 : (a0 + 18446744073709551616 * a1 + 340282366920938463463374607431768211456 * a2 + 6277101735386680763835789423207666416102355444464034512896 * a3) * B =
    a0 * B + 18446744073709551616 * (a1 * B) + 340282366920938463463374607431768211456 * (a2 * B) + 6277101735386680763835789423207666416102355444464034512896 * (a3 * B) := by grind
  rw [e1]
  generalize a0 * B = p0 at *
  generalize a1 * B = p1 at *
  generalize a2 * B = p2 at *
  generalize a3 * B = p3 at *
  omega
theorem fold_sum {t : List Nat} (hl : t.length = 8) (ht : ∀ z ∈ t, z < 18446744073709551616) : D4 (foldI t 4).2 ∧ (foldI t 4).1 ≤ 38 ∧ val4 (foldI t 4).2 + 2 ^ 256 * (foldI t 4).1 = val4 (t.take 4) + 38 * val4 (t.drop 4) := by
  match t, hl with
  | [t0, t1, t2, t3, t4, t5, t6, t7], _ =>
    have b0 := ht t0 (by simp)
    have b1 := ht t1 (by simp)
    have b2 := ht t2 (by simp)
    have b3 := ht t3 (by simp)
    have b4 := ht t4 (by simp)
    have b5 := ht t5 (by simp)
    have b6 := ht t6 (by simp)
    have b7 := ht t7 (by simp)
    clear ht
    obtain ⟨r0, c0, e0, k0, s0, l0⟩ := add_step (timesN 38 t4 t0 0)
    obtain ⟨r1, c1, e1, k1, s1, l1⟩ := add_step (timesN 38 t5 t1 c0)
    obtain ⟨r2, c2, e2, k2, s2, l2⟩ := add_step (timesN 38 t6 t2 c1)
    obtain ⟨r3, c3, e3, k3, s3, l3⟩ := add_step (timesN 38 t7 t3 c2)
    have q1 : foldI [t0, t1, t2, t3, t4, t5, t6, t7] 1 = (c0, [r0, 0, 0, 0]) := by simp only [foldI, List.set_cons_zero, List.getD_cons_zero, List.getD_cons_succ, Nat.zero_add, e0, k0]
    have q2 : foldI [t0, t1, t2, t3, t4, t5, t6, t7] 2 = (c1, [r0, r1, 0, 0]) := by rw [foldI, q1]; simp only [List.set_cons_zero, List.set_cons_succ, List.getD_cons_zero, List.getD_cons_succ, e1, k1, Nat.reduceAdd]
    have q3 : foldI [t0, t1, t2, t3, t4, t5, t6, t7] 3 = (c2, [r0, r1, r2, 0]) := by rw [foldI, q2]; simp only [List.set_cons_zero, List.set_cons_succ, List.getD_cons_zero, List.getD_cons_succ, e2, k2, Nat.reduceAdd]
    have q4 : foldI [t0, t1, t2, t3, t4, t5, t6, t7] 4 = (c3, [r0, r1, r2, r3]) := by rw [foldI, q3]; simp only [List.set_cons_zero, List.set_cons_succ, List.getD_cons_zero, List.getD_cons_succ, e3, k3, Nat.reduceAdd]
    rw [q4]
    simp only [timesN] at s0 s1 s2 s3
    clear q1 q2 q3 q4 e0 e1 e2 e3 k0 k1 k2 k3
    simp only [List.take, List.drop, val4_mk]
    refine ⟨D4.mk' l0 l1 l2 l3, by omega, by omega⟩
theorem fold_dig {t : List Nat} (hl : t.length = 8) (ht : ∀ z ∈ t, z < 18446744073709551616) {a b : Nat} (h6 : val8 t = a * b) : settleL (foldI t 4).2 (foldI t 4).1 = dig4 (mulN a b) := by
  obtain ⟨h3, h4, h5⟩ := fold_sum hl ht
  rw [settleL_eq h3 h4, h5]
  unfold mulN
  rw [← h6, val8]
  generalize val4 (t.take 4) = L
  generalize val4 (t.drop 4) = H
  have : L + 2 ^ 256 * H = L + 38 * H + p25519 * (2 * H) := by unfold p25519; omega
  rw [this, Nat.add_mul_mod_self_left]
theorem mul_dig {a b : Nat} (ha : a < p25519) (hb : b < p25519) : settleL (foldI (mulI (dig4 a) (dig4 b) 4) 4).2 (foldI (mulI (dig4 a) (dig4 b) 4) 4).1 = dig4 (mulN a b) := by
  have h0 := mulI_ok (a := dig4 a) (b := dig4 b) (D4.dig a).lt (D4.dig b).lt 4
  have h6 := mul_sum (D4.dig a) (D4.dig b)
  rw [val4_dig (show a < 2 ^ 256 by unfold p25519 at ha; omega), val4_dig (show b < 2 ^ 256 by unfold p25519 at hb; omega)] at h6
  generalize mulI (dig4 a) (dig4 b) 4 = t at h0 h6
  exact fold_dig h0.1 h0.2 h6
end Go.Fe
