/- Messages: what was encoded is read back; a message cut is found cut. -/
import Derived.Test.YtmacfbboiippoaaW20
import Derived.Test.YtmacfbboiippoaaW14
namespace Go.PA
open Go.Proofs
set_option linter.unusedSimpArgs false
set_option linter.unusedVariables false

def bodyB (f : Fld) : List Nat := if f.ty = 0 then enc 9 f.num else if f.ty = 1 then lowB 8 f.num else if f.ty = 5 then lowB 4 f.num else enc 9 f.data.length ++ f.data
theorem fieldB_eq (f : Fld) : fieldB f = enc 9 (headN f) ++ bodyB f := rfl

theorem leV_low : ∀ (k v : Nat), leV (lowB k v) = v % 256 ^ k
  | 0, v => by simp [lowB, leV, Nat.mod_one]
  | k + 1, v => by
    simp only [lowB, leV, leV_low k]
    rw [Nat.pow_succ, Nat.mul_comm (256 ^ k) 256, Nat.mod_mul]

theorem wrongP_zero {f : Fld} {last : Int} (h : wrongP f last = 0) : 1 ≤ f.no ∧ f.no ≤ 536870911 ∧ last < f.no ∧ ((f.ty = 2 ∧ f.num = 0) ∨ ((f.ty = 0 ∨ f.ty = 1 ∨ f.ty = 5) ∧ f.data = [] ∧ (f.ty = 5 → f.num < 4294967296))) := by
  unfold wrongP at h
  split at h
  · omega
  · refine ⟨by omega, by omega, by omega, ?_⟩
    split at h
    · split at h
      · omega
      · exact .inl ⟨by assumption, by omega⟩
    · split at h
      · split at h
        · omega
        · rename_i h1 h2 h3 h4
          exact .inr ⟨h3, List.eq_nil_of_length_eq_zero (by omega), by omega⟩
      · omega

/-- A number cut short. -/
theorem rd_cut : ∀ (k : Nat) (f : Bool) (n i : Nat), i < (enc k n).length → n < 2 * 128 ^ k → rd (k + 1) f ((enc k n).take i) = .error 73
  | 0, f, n, i, h, hn => by
    have : i = 0 := by simp [enc] at h; omega
    subst this
    simp [rd]
  | k + 1, f, n, 0, h, hn => by simp [rd]
  | k + 1, f, n, i + 1, h, hn => by
    simp only [enc] at h ⊢
    split at h
    · simp at h
    · rename_i h128
      rw [if_neg h128]
      rw [Nat.pow_succ] at hn
      have := rd_cut k false (n / 128) i (by simpa using h) (by omega)
      simp only [List.take_succ_cons, rd]
      rw [if_neg (by omega), if_neg (by omega), this]

theorem numP_cut (a : List Nat) (n i : Nat) (hn : n < 2 ^ 64) (hi : i < (enc 9 n).length) : numP (a ++ (enc 9 n).take i) (a.length : Int) = (0, 0, 73) := by
  rw [numP, if_neg (by simp; omega), Int.toNat_natCast, List.drop_left, rd_cut 9 true n i hi (by omega)]
  simp [comb]

theorem headN_div {f : Fld} {last : Int} (h : wrongP f last = 0) : (((headN f) / 8 : Nat) : Int) = f.no ∧ (((headN f) % 8 : Nat) : Int) = f.ty ∧ headN f < 2 ^ 64 := by
  obtain ⟨h1, h2, h3, h4⟩ := wrongP_zero h
  unfold headN
  omega

theorem headP_field (pre post : List Nat) (f : Fld) (count : Nat) (last : Int) (h : wrongP f last = 0) (hc : count ≠ 64) :
    headP (pre ++ (enc 9 (headN f) ++ post)) pre.length count last = .ok (⟨f.no, f.ty, 0, []⟩, pre.length + (enc 9 (headN f)).length) := by
  obtain ⟨h1, h2, h3, h4⟩ := wrongP_zero h
  obtain ⟨e1, e2, e3⟩ := headN_div h
  unfold headP
  rw [numP_put _ _ e3]
  dsimp only
  rw [if_neg (by simp), if_neg hc, if_neg (by omega), if_neg, e1, e2]
  have : knownP ((headN f % 8 : Nat) : Int) = true := by
    unfold knownP
    rw [e2]
    simp only [decide_eq_true_eq]
    omega
  rw [this]
  simp

theorem headP_cut (pre : List Nat) (f : Fld) (count i : Nat) (last : Int) (h : wrongP f last = 0) (hi : i < (enc 9 (headN f)).length) :
    headP (pre ++ (enc 9 (headN f)).take i) pre.length count last = .error 73 := by
  obtain ⟨e1, e2, e3⟩ := headN_div h
  unfold headP
  rw [numP_cut _ _ _ e3 hi]
  simp

theorem lowB_take (pre post : List Nat) (k v : Nat) : ((pre ++ (lowB k v ++ post)).drop pre.length).take k = lowB k v := by
  rw [List.drop_left]
  have := lowB_len k v
  rw [List.take_append_of_le_length (by omega), List.take_of_length_le (by omega)]

theorem valueP_field (pre post : List Nat) (f : Fld) (last : Int) (h : wrongP f last = 0) (hn : f.num < 2 ^ 64) (hd : f.data.length < 2 ^ 40) :
    valueP (pre ++ (bodyB f ++ post)) ⟨f.no, f.ty, 0, []⟩ pre.length = (f, pre.length + (bodyB f).length, 0) := by
  obtain ⟨h1, h2, h3, h4⟩ := wrongP_zero h
  obtain ⟨no, ty, num, data⟩ := f
  dsimp only at h1 h2 h3 h4 hn hd ⊢
  unfold valueP bodyB
  dsimp only
  rcases h4 with ⟨rfl, rfl⟩ | ⟨rfl | rfl | rfl, rfl, h5⟩
  · simp only [Int.reduceEq, if_false, if_true]
    rw [List.append_assoc, numP_put _ _ (by omega)]
    dsimp only
    rw [if_neg (by simp), if_neg (by simp; omega)]
    simp only [Prod.mk.injEq, Fld.mk.injEq, true_and, and_true]
    refine ⟨?_, by simp; omega⟩
    rw [← List.append_assoc, show pre.length + (enc 9 data.length).length = (pre ++ enc 9 data.length).length by simp, List.drop_left]
    simp
  · simp only [if_true]
    rw [numP_put _ _ hn]
  · simp only [Int.reduceEq, if_false, if_true]
    have hl := lowB_len 8 num
    have hw : wide 1 = 8 := rfl
    rw [hw, if_neg (by simp; omega), lowB_take, leV_low, hl, Nat.mod_eq_of_lt (by omega)]
  · simp only [Int.reduceEq, if_false, if_true]
    have hl := lowB_len 4 num
    have hw : wide 5 = 4 := rfl
    have := h5 rfl
    rw [hw, if_neg (by simp; omega), lowB_take, leV_low, hl, Nat.mod_eq_of_lt (by omega)]

theorem valueP_cut (pre : List Nat) (f : Fld) (last : Int) (i : Nat) (h : wrongP f last = 0) (hn : f.num < 2 ^ 64) (hd : f.data.length < 2 ^ 40) (hi : i < (bodyB f).length) :
    (valueP (pre ++ (bodyB f).take i) ⟨f.no, f.ty, 0, []⟩ pre.length).2.2 = 73 := by
  obtain ⟨h1, h2, h3, h4⟩ := wrongP_zero h
  obtain ⟨no, ty, num, data⟩ := f
  dsimp only at h1 h2 h3 h4 hn hd hi ⊢
  unfold valueP
  unfold bodyB at hi ⊢
  dsimp only at hi ⊢
  rcases h4 with ⟨rfl, rfl⟩ | ⟨rfl | rfl | rfl, rfl, h5⟩
  · simp only [Int.reduceEq, if_false, if_true] at hi ⊢
    rcases Nat.lt_or_ge i (enc 9 data.length).length with h6 | h6
    · rw [List.take_append_of_le_length (by omega), numP_cut _ _ _ (by omega) h6]
      simp
    · rw [List.take_append, List.take_of_length_le h6, numP_put _ _ (by omega)]
      dsimp only
      rw [if_neg (by simp), if_pos]
      simp at hi ⊢
      omega
  · simp only [if_true] at hi ⊢
    rw [numP_cut _ _ _ hn hi]
  · simp only [Int.reduceEq, if_false, if_true] at hi ⊢
    have hl := lowB_len 8 num
    have hw : wide 1 = 8 := rfl
    rw [hw, if_pos (by simp; omega)]
  · simp only [Int.reduceEq, if_false, if_true] at hi ⊢
    have hl := lowB_len 4 num
    have hw : wide 5 = 4 := rfl
    rw [hw, if_pos (by simp; omega)]

theorem walkP_step (pre post : List Nat) (f : Fld) (k count : Nat) (last : Int) (h : wrongP f last = 0) (hc : count ≠ 64) (hn : f.num < 2 ^ 64) (hd : f.data.length < 2 ^ 40) :
    walkP (pre ++ (fieldB f ++ post)) (k + 1) pre.length count last =
      (f :: (walkP (pre ++ (fieldB f ++ post)) k (pre.length + (fieldB f).length) (count + 1) f.no).1, (walkP (pre ++ (fieldB f ++ post)) k (pre.length + (fieldB f).length) (count + 1) f.no).2) := by
  have hp := enc_pos 9 (headN f)
  rw [walkP, if_pos (by rw [fieldB_eq]; simp; omega)]
  have h1 := headP_field pre (bodyB f ++ post) f count last h hc
  have h2 := valueP_field (pre ++ enc 9 (headN f)) post f last h hn hd
  rw [← List.append_assoc (enc 9 (headN f)), ← fieldB_eq] at h1
  rw [List.append_assoc, ← List.append_assoc (enc 9 (headN f)), ← fieldB_eq, List.length_append] at h2
  rw [h1]
  dsimp only
  rw [h2]
  simp only [ne_eq, not_true_eq_false, if_false]
  rw [show pre.length + (enc 9 (headN f)).length + (bodyB f).length = pre.length + (fieldB f).length by rw [fieldB_eq]; simp; omega]

theorem walkP_cut (pre : List Nat) (f : Fld) (k count i : Nat) (last : Int) (h : wrongP f last = 0) (hc : count ≠ 64) (hn : f.num < 2 ^ 64) (hd : f.data.length < 2 ^ 40) (hi : i < (fieldB f).length) (h0 : 0 < i) :
    walkP (pre ++ (fieldB f).take i) (k + 1) pre.length count last = ([], if i < (enc 9 (headN f)).length then pre.length else pre.length + (enc 9 (headN f)).length, 73) := by
  rw [walkP, if_pos (by simp; omega)]
  rw [fieldB_eq] at hi ⊢
  by_cases h1 : i < (enc 9 (headN f)).length
  · rw [if_pos h1, List.take_append_of_le_length (by omega), headP_cut _ _ _ _ _ h h1]
  · rw [if_neg h1, List.take_append, List.take_of_length_le (by omega), headP_field _ _ _ _ _ h hc]
    dsimp only
    have h2 := valueP_cut (pre ++ enc 9 (headN f)) f last (i - (enc 9 (headN f)).length) h hn hd (by simp at hi; omega)
    rw [List.append_assoc, List.length_append] at h2
    rw [h2]
    simp

theorem walkP_enc : ∀ (l : List Fld) (pre : List Nat) (k count : Nat) (last : Int), chk last l = 0 → count + l.length ≤ 64 → l.length < k → (∀ f ∈ l, f.num < 2 ^ 64 ∧ f.data.length < 2 ^ 40) →
    walkP (pre ++ msgB l) k pre.length count last = (l, 0, 0)
  | [], pre, 0, count, last, h, hc, hk, hx => by simp at hk
  | [], pre, k + 1, count, last, h, hc, hk, hx => by simp [walkP, msgB]
  | f :: l, pre, 0, count, last, h, hc, hk, hx => by simp at hk
  | f :: l, pre, k + 1, count, last, h, hc, hk, hx => by
    simp only [chk] at h
    split at h
    · exact absurd h (by assumption)
    · rename_i h1
      have h1 : wrongP f last = 0 := by omega
      simp only [List.length_cons] at hc hk
      have e : pre ++ msgB (f :: l) = pre ++ (fieldB f ++ msgB l) := rfl
      rw [e, walkP_step pre (msgB l) f k count last h1 (by omega) (hx f (by simp)).1 (hx f (by simp)).2]
      have ih := walkP_enc l (pre ++ fieldB f) k (count + 1) f.no h (by omega) (by omega) fun g hg => hx g (by simp [hg])
      rw [List.append_assoc, List.length_append] at ih
      rw [ih]
end Go.PA
