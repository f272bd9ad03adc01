/- Five words of 51 bits: of bytes, to bytes, the least form. -/
import Derived.Test.YtopigdkgjobdiaaF5
set_option linter.unusedSimpArgs false
set_option linter.unusedVariables false
namespace Go.Fe
def w5 (n : Nat) : List Nat := [n % 2251799813685248, n / 2251799813685248 % 2251799813685248, n / 5070602400912917605986812821504 % 2251799813685248, n / 11417981541647679048466287755595961091061972992 % 2251799813685248, n / 25711008708143844408671393477458601640355247900524685364822016]
def n5L (a : N5) : List Nat := [a.w0, a.w1, a.w2, a.w3, a.w4]
theorem or_add {a s : Nat} (y : Nat) (h : a < 2 ^ s) : a ||| y * 2 ^ s = a + y * 2 ^ s := by
  have h4 := Nat.shiftLeft_add_eq_or_of_lt h y
  rw [Nat.shiftLeft_eq] at h4
  rw [Nat.or_comm, ← h4, Nat.add_comm]
theorem mul_mod_pow (x : Nat) {s : Nat} (h : s ≤ 51) : x * 2 ^ s % 2251799813685248 = x % 2 ^ (51 - s) * 2 ^ s := by
  rw [show (2251799813685248 : Nat) = 2 ^ (51 - s) * 2 ^ s by rw [← Nat.pow_add, Nat.sub_add_cancel h], Nat.mul_mod_mul_right]
theorem cases32 {i : Nat} (h : i < 32) : i = 0 ∨ i = 1 ∨ i = 2 ∨ i = 3 ∨ i = 4 ∨ i = 5 ∨ i = 6 ∨ i = 7 ∨ i = 8 ∨ i = 9 ∨ i = 10 ∨ i = 11 ∨ i = 12 ∨ i = 13 ∨ i = 14 ∨ i = 15 ∨ i = 16 ∨ i = 17 ∨ i = 18 ∨ i = 19 ∨ i = 20 ∨ i = 21 ∨ i = 22 ∨ i = 23 ∨ i = 24 ∨ i = 25 ∨ i = 26 ∨ i = 27 ∨ i = 28 ∨ i = 29 ∨ i = 30 ∨ i = 31 := by omega

/-- one byte goes in -/
def putW (w : List Nat) (i x : Nat) : List Nat :=
  let v := w.set (8 * i / 51) (w.getD (8 * i / 51) 0 ||| x * 2 ^ (8 * i % 51) % 2251799813685248)
  if 43 < 8 * i % 51 ∧ 8 * i / 51 + 1 < 5 then v.set (8 * i / 51 + 1) (v.getD (8 * i / 51 + 1) 0 ||| x / 2 ^ (51 - 8 * i % 51)) else v
theorem putW_at {V i x : Nat} (hi : i < 32) (hV : V < 256 ^ i) (hx : x < 256) (h31 : i = 31 → x < 128) : putW (w5 V) i x = w5 (V + x * 256 ^ i) := by
  have h0 : (w5 V).getD (8 * i / 51) 0 < 2 ^ (8 * i % 51) := by
    rcases cases32 hi with rfl | rfl | rfl | rfl | rfl | rfl | rfl | rfl | rfl | rfl | rfl | rfl | rfl | rfl | rfl | rfl | rfl | rfl | rfl | rfl | rfl | rfl | rfl | rfl | rfl | rfl | rfl | rfl | rfl | rfl | rfl | rfl <;> simp only [w5, Nat.reduceMul, Nat.reduceDiv, Nat.reduceMod, Nat.reducePow, List.getD_cons_zero, List.getD_cons_succ] at hV ⊢ <;> omega
  have h1 : 43 < 8 * i % 51 ∧ 8 * i / 51 + 1 < 5 → (w5 V).getD (8 * i / 51 + 1) 0 = 0 := by
    rcases cases32 hi with rfl | rfl | rfl | rfl | rfl | rfl | rfl | rfl | rfl | rfl | rfl | rfl | rfl | rfl | rfl | rfl | rfl | rfl | rfl | rfl | rfl | rfl | rfl | rfl | rfl | rfl | rfl | rfl | rfl | rfl | rfl | rfl <;> simp only [w5, Nat.reduceMul, Nat.reduceDiv, Nat.reduceMod, Nat.reducePow, Nat.reduceAdd, List.getD_cons_zero, List.getD_cons_succ] at hV ⊢ <;> omega
  unfold putW
  rw [mul_mod_pow x (by omega), or_add _ h0, ← mul_mod_pow x (by omega)]
  dsimp only
  have h2 : ((w5 V).set (8 * i / 51) ((w5 V).getD (8 * i / 51) 0 + x * 2 ^ (8 * i % 51) % 2251799813685248)).getD (8 * i / 51 + 1) 0 = (w5 V).getD (8 * i / 51 + 1) 0 := by
    rw [List.getD_eq_getElem?_getD, List.getElem?_set_ne (by omega), ← List.getD_eq_getElem?_getD]
  rw [h2]
  split
  · rename_i hc
    rw [h1 hc, Nat.zero_or]
    rcases cases32 hi with rfl | rfl | rfl | rfl | rfl | rfl | rfl | rfl | rfl | rfl | rfl | rfl | rfl | rfl | rfl | rfl | rfl | rfl | rfl | rfl | rfl | rfl | rfl | rfl | rfl | rfl | rfl | rfl | rfl | rfl | rfl | rfl <;> simp only [Nat.reduceMul, Nat.reduceMod, Nat.reduceDiv] at hc <;> first
      | omega
      | (simp only [w5, Nat.reduceMul, Nat.reduceDiv, Nat.reduceMod, Nat.reducePow, Nat.reduceAdd, Nat.reduceSub, List.getD_cons_zero, List.getD_cons_succ, List.set_cons_zero, List.set_cons_succ, List.cons.injEq, and_true] at hV ⊢
         clear h0 h1 h2
         refine ⟨?_, ?_, ?_, ?_, ?_⟩ <;> omega)
  · rename_i hc
    rcases cases32 hi with rfl | rfl | rfl | rfl | rfl | rfl | rfl | rfl | rfl | rfl | rfl | rfl | rfl | rfl | rfl | rfl | rfl | rfl | rfl | rfl | rfl | rfl | rfl | rfl | rfl | rfl | rfl | rfl | rfl | rfl | rfl | rfl <;> simp only [Nat.reduceMul, Nat.reduceMod, Nat.reduceDiv] at hc <;> first
      | omega
      | (simp only [w5, Nat.reduceMul, Nat.reduceDiv, Nat.reduceMod, Nat.reducePow, Nat.reduceAdd, Nat.reduceSub, List.getD_cons_zero, List.getD_cons_succ, List.set_cons_zero, List.set_cons_succ, List.cons.injEq, and_true, reduceCtorEq, forall_const, false_implies, true_implies, Nat.reduceEqDiff] at hV h31 ⊢
         clear h0 h1 h2
         refine ⟨?_, ?_, ?_, ?_, ?_⟩ <;> omega)
/-- the byte that goes in -/
def byteAt (b : List Nat) (i : Nat) : Nat := if i = 31 then b.getD i 0 % 128 else b.getD i 0
def lowI (b : List Nat) : Nat → Nat
  | 0 => 0
  | i + 1 => lowI b i + byteAt b i * 256 ^ i
theorem byteAt_lt {b : List Nat} (hb : ∀ x ∈ b, x < 256) (i : Nat) : byteAt b i < 256 := by
  have := getD_lt (by decide) hb i
  unfold byteAt
  split <;> omega
theorem lowI_lt {b : List Nat} (hb : ∀ x ∈ b, x < 256) : ∀ i, lowI b i < 256 ^ i
  | 0 => by simp [lowI]
  | i + 1 => by
    have h1 := lowI_lt hb i
    have h2 := byteAt_lt hb i
    have h3 : byteAt b i * 256 ^ i ≤ 255 * 256 ^ i := Nat.mul_le_mul_right _ (by omega)
    simp only [lowI, Nat.pow_succ]
    omega
def fromW (b : List Nat) : Nat → List Nat
  | 0 => [0, 0, 0, 0, 0]
  | i + 1 => putW (fromW b i) i (byteAt b i)
theorem fromW_eq {b : List Nat} (hb : ∀ x ∈ b, x < 256) : ∀ i, i ≤ 32 → fromW b i = w5 (lowI b i)
  | 0, _ => by simp [fromW, lowI, w5]
  | i + 1, h => by
    rw [fromW, fromW_eq hb i (by omega), putW_at (by omega) (lowI_lt hb i) (byteAt_lt hb i) (fun e => by subst e; unfold byteAt; rw [if_pos rfl]; omega)]
    rfl
theorem leN_take : ∀ (b : List Nat) (i : Nat), i < b.length → leN (b.take (i + 1)) = leN (b.take i) + b.getD i 0 * 256 ^ i
  | [], i, h => by simp at h
  | x :: xs, 0, h => by simp [leN]
  | x :: xs, i + 1, h => by
    have := leN_take xs i (by simpa using h)
    simp only [List.take_succ_cons, leN, this, List.getD_cons_succ, Nat.pow_succ]
    rw [Nat.mul_add, ← Nat.mul_assoc, Nat.mul_comm 256 (xs.getD i 0), Nat.mul_assoc, Nat.mul_comm 256 (256 ^ i)]
    omega
theorem lowI_leN {b : List Nat} (hl : b.length = 32) : ∀ i, i ≤ 31 → lowI b i = leN (b.take i)
  | 0, _ => by simp [lowI, leN]
  | i + 1, h => by
    rw [lowI, lowI_leN hl i (by omega), leN_take b i (by omega)]
    unfold byteAt
    rw [if_neg (by omega)]
theorem lowI_all {b : List Nat} (hl : b.length = 32) (hb : ∀ x ∈ b, x < 256) : lowI b 32 = leN b % 2 ^ 255 := by
  have h1 : leN b = leN (b.take 31) + b.getD 31 0 * 256 ^ 31 := by
    have := leN_take b 31 (by omega)
    rwa [List.take_of_length_le (by omega)] at this
  have h2 := leN_lt (b := b.take 31) fun x hx => hb x (List.mem_of_mem_take hx)
  rw [List.length_take, hl, Nat.min_eq_left (by decide)] at h2
  rw [lowI, lowI_leN hl 31 (by omega), h1]
  unfold byteAt
  rw [if_pos rfl]
  have h3 := getD_lt (by decide) hb 31
  omega
def n5of (l : List Nat) : N5 := ⟨l.getD 0 0, l.getD 1 0, l.getD 2 0, l.getD 3 0, l.getD 4 0⟩
def settled (a : N5) : N5 := carried a.w0 a.w1 a.w2 a.w3 a.w4
theorem from_is {b : List Nat} (hl : b.length = 32) (hb : ∀ x ∈ b, x < 256) : NumIs (settled (n5of (fromW b 32))) (fromL b) := by
  have h := fromW_eq hb 32 (Nat.le_refl _)
  have hv := lowI_all hl hb
  have hlt : leN b % 2 ^ 255 < 2 ^ 255 := Nat.mod_lt _ (by decide)
  rw [h, hv]
  have hw : (n5of (w5 (leN b % 2 ^ 255))).val = leN b % 2 ^ 255 := by
    simp only [n5of, w5, N5.val, List.getD_cons_zero, List.getD_cons_succ]
    omega
  refine ⟨carried_ok ?_ ?_ ?_ ?_ ?_, ?_⟩
  · simp only [n5of, w5, List.getD_cons_zero, List.getD_cons_succ]; omega
  · simp only [n5of, w5, List.getD_cons_zero, List.getD_cons_succ]; omega
  · simp only [n5of, w5, List.getD_cons_zero, List.getD_cons_succ]; omega
  · simp only [n5of, w5, List.getD_cons_zero, List.getD_cons_succ]; omega
  · simp only [n5of, w5, List.getD_cons_zero, List.getD_cons_succ]; omega
  · show (carried _ _ _ _ _).val % p25519 = _
    rw [carried_mod]
    show (n5of (w5 (leN b % 2 ^ 255))).val % p25519 = _
    rw [hw]
    rfl

/-! the least form -/
def carI (w : List Nat) : Nat → Nat
  | 0 => 19
  | i + 1 => (w.getD i 0 + carI w i) / 2251799813685248
def propI (w : List Nat) : Nat → List Nat
  | 0 => w.set 0 (w.getD 0 0 + 19 * carI w 5)
  | i + 1 => ((propI w i).set (i + 1) ((propI w i).getD (i + 1) 0 + (propI w i).getD i 0 / 2251799813685248)).set i ((propI w i).getD i 0 % 2251799813685248)
def leastL (a : N5) : List Nat := (propI (n5L (settled a)) 4).set 4 ((propI (n5L (settled a)) 4).getD 4 0 % 2251799813685248)
theorem step51 (s : Nat) : ∃ r c, s % 2251799813685248 = r ∧ s / 2251799813685248 = c ∧ r + 2251799813685248 * c = s ∧ r < 2251799813685248 := ⟨_, _, rfl, rfl, by omega, by omega⟩
theorem w5_of {a b c d e : Nat} (ha : a < 2251799813685248) (hb : b < 2251799813685248) (hc : c < 2251799813685248) (hd : d < 2251799813685248) :
    w5 (a + 2251799813685248 * b + 5070602400912917605986812821504 * c + 11417981541647679048466287755595961091061972992 * d + 25711008708143844408671393477458601640355247900524685364822016 * e) = [a, b, c, d, e] := by
  simp only [w5, List.cons.injEq, and_true]
  refine ⟨?_, ?_, ?_, ?_, ?_⟩ <;> omega
theorem least_eq {a : N5} (ha : a.ok) : leastL a = w5 (a.val % p25519) := by
  have hv := carried_mod a.w0 a.w1 a.w2 a.w3 a.w4
  have hs : (settled a).val % p25519 = a.val % p25519 := hv
  rw [← hs]
  obtain ⟨a0, a1, a2, a3, a4⟩ := a
  obtain ⟨h0, h1, h2, h3, h4⟩ := ha
  dsimp only at *
  clear hs hv
  obtain ⟨c0, e0⟩ : ∃ c, a0 % 2251799813685248 + 19 * (a4 / 2251799813685248) = c := ⟨_, rfl⟩
  obtain ⟨c1, e1⟩ : ∃ c, a1 % 2251799813685248 + a0 / 2251799813685248 = c := ⟨_, rfl⟩
  obtain ⟨c2, e2⟩ : ∃ c, a2 % 2251799813685248 + a1 / 2251799813685248 = c := ⟨_, rfl⟩
  obtain ⟨c3, e3⟩ : ∃ c, a3 % 2251799813685248 + a2 / 2251799813685248 = c := ⟨_, rfl⟩
  obtain ⟨c4, e4⟩ : ∃ c, a4 % 2251799813685248 + a3 / 2251799813685248 = c := ⟨_, rfl⟩
  have g0 : c0 < 2251799813685248 + 38 := by omega
  have g1 : c1 < 2251799813685248 + 2 := by omega
  have g2 : c2 < 2251799813685248 + 2 := by omega
  have g3 : c3 < 2251799813685248 + 2 := by omega
  have g4 : c4 < 2251799813685248 + 2 := by omega
  simp only [leastL, settled, carried, n5L, e0, e1, e2, e3, e4, N5.val]
  clear e0 e1 e2 e3 e4 h0 h1 h2 h3 h4
  obtain ⟨q, hq⟩ : ∃ q, carI [c0, c1, c2, c3, c4] 5 = q := ⟨_, rfl⟩
  simp only [carI, List.getD_cons_zero, List.getD_cons_succ] at hq
  obtain ⟨V, hV⟩ : ∃ V, c0 + 2251799813685248 * c1 + 5070602400912917605986812821504 * c2 + 11417981541647679048466287755595961091061972992 * c3 + 25711008708143844408671393477458601640355247900524685364822016 * c4 = V := ⟨_, rfl⟩
  rw [hV]
  have hq2 : q = (V + 19) / 57896044618658097711785492504343953926634992332820282019728792003956564819968 := by omega
  have hqq : carI [c0, c1, c2, c3, c4] 5 = q := by simp only [carI, List.getD_cons_zero, List.getD_cons_succ]; exact hq
  clear hq
  obtain ⟨u0, k0, e0, f0, s0, l0⟩ := step51 (c0 + 19 * q)
  obtain ⟨u1, k1, e1, f1, s1, l1⟩ := step51 (c1 + k0)
  obtain ⟨u2, k2, e2, f2, s2, l2⟩ := step51 (c2 + k1)
  obtain ⟨u3, k3, e3, f3, s3, l3⟩ := step51 (c3 + k2)
  obtain ⟨u4, k4, e4, f4, s4, l4⟩ := step51 (c4 + k3)
  have q0 : propI [c0, c1, c2, c3, c4] 0 = [c0 + 19 * q, c1, c2, c3, c4] := by simp only [propI, hqq, List.getD_cons_zero, List.set_cons_zero]
  have q1 : propI [c0, c1, c2, c3, c4] 1 = [u0, c1 + k0, c2, c3, c4] := by rw [propI, q0]; simp only [List.set_cons_zero, List.set_cons_succ, List.getD_cons_zero, List.getD_cons_succ, e0, f0]
  have q2 : propI [c0, c1, c2, c3, c4] 2 = [u0, u1, c2 + k1, c3, c4] := by rw [propI, q1]; simp only [List.set_cons_zero, List.set_cons_succ, List.getD_cons_zero, List.getD_cons_succ, e1, f1]
  have q3 : propI [c0, c1, c2, c3, c4] 3 = [u0, u1, u2, c3 + k2, c4] := by rw [propI, q2]; simp only [List.set_cons_zero, List.set_cons_succ, List.getD_cons_zero, List.getD_cons_succ, e2, f2]
  have q4 : propI [c0, c1, c2, c3, c4] 4 = [u0, u1, u2, u3, c4 + k3] := by rw [propI, q3]; simp only [List.set_cons_zero, List.set_cons_succ, List.getD_cons_zero, List.getD_cons_succ, e3, f3]
  rw [q4]
  simp only [List.set_cons_zero, List.set_cons_succ, List.getD_cons_zero, List.getD_cons_succ, e4]
  have hk : k4 = q := by omega
  have hm : V % p25519 = u0 + 2251799813685248 * u1 + 5070602400912917605986812821504 * u2 + 11417981541647679048466287755595961091061972992 * u3 + 25711008708143844408671393477458601640355247900524685364822016 * u4 := by
    have h1 : V + 19 * q = u0 + 2251799813685248 * u1 + 5070602400912917605986812821504 * u2 + 11417981541647679048466287755595961091061972992 * u3 + 25711008708143844408671393477458601640355247900524685364822016 * u4 + 57896044618658097711785492504343953926634992332820282019728792003956564819968 * q := by omega
    clear q0 q1 q2 q3 q4 e0 e1 e2 e3 e4 f0 f1 f2 f3 f4 s0 s1 s2 s3 s4 hqq
    unfold p25519
    omega
  rw [hm, w5_of l0 l1 l2 l3]

/-- a byte comes out -/
def outW (w : List Nat) (i : Nat) : Nat :=
  (if 43 < 8 * i % 51 ∧ 8 * i / 51 + 1 < 5 then w.getD (8 * i / 51) 0 / 2 ^ (8 * i % 51) ||| w.getD (8 * i / 51 + 1) 0 * 2 ^ (51 - 8 * i % 51) else w.getD (8 * i / 51) 0 / 2 ^ (8 * i % 51)) % 256
theorem outW_eq {n i : Nat} (hn : n < 2 ^ 255) (hi : i < 32) : outW (w5 n) i = n / 256 ^ i % 256 := by
  unfold outW
  split
  · rename_i hc
    have h0 : (w5 n).getD (8 * i / 51) 0 / 2 ^ (8 * i % 51) < 2 ^ (51 - 8 * i % 51) := by
      rcases cases32 hi with rfl | rfl | rfl | rfl | rfl | rfl | rfl | rfl | rfl | rfl | rfl | rfl | rfl | rfl | rfl | rfl | rfl | rfl | rfl | rfl | rfl | rfl | rfl | rfl | rfl | rfl | rfl | rfl | rfl | rfl | rfl | rfl <;> simp only [Nat.reduceMul, Nat.reduceMod, Nat.reduceDiv] at hc <;> first
        | omega
        | (simp only [w5, Nat.reduceMul, Nat.reduceDiv, Nat.reduceMod, Nat.reducePow, Nat.reduceAdd, Nat.reduceSub, List.getD_cons_zero, List.getD_cons_succ] at hn ⊢; omega)
    rw [or_add _ h0]
    rcases cases32 hi with rfl | rfl | rfl | rfl | rfl | rfl | rfl | rfl | rfl | rfl | rfl | rfl | rfl | rfl | rfl | rfl | rfl | rfl | rfl | rfl | rfl | rfl | rfl | rfl | rfl | rfl | rfl | rfl | rfl | rfl | rfl | rfl <;> simp only [Nat.reduceMul, Nat.reduceMod, Nat.reduceDiv] at hc <;> first
      | omega
      | (simp only [w5, Nat.reduceMul, Nat.reduceDiv, Nat.reduceMod, Nat.reducePow, Nat.reduceAdd, Nat.reduceSub, List.getD_cons_zero, List.getD_cons_succ] at hn ⊢; omega)
  · rename_i hc
    rcases cases32 hi with rfl | rfl | rfl | rfl | rfl | rfl | rfl | rfl | rfl | rfl | rfl | rfl | rfl | rfl | rfl | rfl | rfl | rfl | rfl | rfl | rfl | rfl | rfl | rfl | rfl | rfl | rfl | rfl | rfl | rfl | rfl | rfl <;> simp only [Nat.reduceMul, Nat.reduceMod, Nat.reduceDiv] at hc <;> first
      | omega
      | (simp only [w5, Nat.reduceMul, Nat.reduceDiv, Nat.reduceMod, Nat.reducePow, Nat.reduceAdd, Nat.reduceSub, List.getD_cons_zero, List.getD_cons_succ] at hn ⊢; omega)
end Go.Fe
