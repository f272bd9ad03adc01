/- Messages read: a field's head and value. -/
import Derived.Test.YtmacfbboiippoaaW16
import Derived.Test.YtmacfbboiippoaaPAf
namespace Go.PA
open Go.Proofs
set_option linter.unusedSimpArgs false
set_option linter.unusedVariables false
set_option maxRecDepth 100000
set_option maxHeartbeats 4000000
attribute [local go_sem] MM getP setP takesW

theorem rd_ok : ∀ (k : Nat) (f : Bool) (s : List Nat) (v c : Nat), rd (k + 1) f s = .ok (v, c) → v < 2 * 128 ^ k ∧ 1 ≤ c ∧ c ≤ s.length
  | k, f, [], v, c, h => by simp [rd] at h
  | 0, f, x :: t, v, c, h => by
    simp only [rd] at h
    split at h
    · cases h
    · split at h
      · rename_i h1 h2
        injection h with h
        injection h with h3 h4
        subst h3; subst h4
        have hx : ¬ 1 < x := fun hx => h1 (.inl ⟨trivial, hx⟩)
        exact ⟨by rw [Nat.pow_zero]; omega, by simp, by simp⟩
      · simp [rd] at h
  | k + 1, f, x :: t, v, c, h => by
    simp only [rd] at h
    split at h
    · cases h
    · split at h
      · rename_i h1 h2
        injection h with h
        injection h with h3 h4
        subst h3; subst h4
        refine ⟨?_, by simp, by simp⟩
        have : 1 ≤ 128 ^ k := Nat.pow_le_pow_right (n := 128) (by decide) (Nat.zero_le k)
        rw [Nat.pow_succ]
        omega
      · cases hr : rd (k + 1) false t with
        | error e =>
          have hr' : (match rd (k + 1) false t with | .ok (v, c) => (.ok (x % 128 + 128 * v, c + 1) : Except Nat (Nat × Nat)) | .error e => .error e) = .ok (v, c) := h
          rw [hr] at hr'
          cases hr'
        | ok r =>
          obtain ⟨v', c'⟩ := r
          have hr' : (match rd (k + 1) false t with | .ok (v, c) => (.ok (x % 128 + 128 * v, c + 1) : Except Nat (Nat × Nat)) | .error e => .error e) = .ok (v, c) := h
          rw [hr] at hr'
          injection hr' with hr'
          injection hr' with h3 h4
          obtain ⟨i1, i2, i3⟩ := rd_ok k false t v' c' hr
          subst h3; subst h4
          rw [Nat.pow_succ]
          simp only [List.length_cons]
          omega

theorem rd_err : ∀ (k : Nat) (f : Bool) (s : List Nat), rd k f s ≠ .error 0
  | 0, f, s => by simp [rd]
  | k + 1, f, [] => by simp [rd]
  | k + 1, f, x :: t => by
    simp only [rd]
    split
    · simp
    · split
      · simp
      · have := rd_err k false t
        cases h : rd k false t with
        | error e =>
          rw [h] at this
          simpa using this
        | ok r => simp

theorem numP_ok {b : List Nat} {p : Nat} (hp : p ≤ b.length) {v e er : Nat} (h : numP b p = (v, e, er)) : v < 2 ^ 64 ∧ (er = 0 → p < e ∧ e ≤ b.length) ∧ (er ≠ 0 → v = 0 ∧ e = 0) ∧ e ≤ b.length := by
  rw [numP, if_neg (by omega), Int.toNat_natCast] at h
  cases hr : rd 10 true (b.drop p) with
  | error e' =>
    rw [hr] at h
    simp only [comb, Prod.mk.injEq] at h
    obtain ⟨rfl, rfl, rfl⟩ := h
    have : e' ≠ 0 := by
      intro e0
      subst e0
      exact absurd hr (rd_err 10 true _)
    exact ⟨by omega, fun h => absurd h this, fun _ => ⟨rfl, rfl⟩, by omega⟩
  | ok r =>
    obtain ⟨v', c'⟩ := r
    rw [hr] at h
    simp only [comb, Prod.mk.injEq] at h
    obtain ⟨rfl, rfl, rfl⟩ := h
    obtain ⟨i1, i2, i3⟩ := rd_ok 9 true _ _ _ hr
    rw [List.length_drop] at i3
    exact ⟨by omega, fun _ => ⟨by omega, by omega⟩, fun h => absurd rfl h, by omega⟩

def headP (b : List Nat) (p count : Nat) (last : Int) : Except Nat (Fld × Nat) :=
  match numP b p with
  | (n, q, e) => if e ≠ 0 then .error e else if count = 64 then .error 2 else if n / 8 < 1 ∨ 536870911 < n / 8 ∨ ((n / 8 : Nat) : Int) ≤ last then .error 71
    else if knownP (n % 8 : Nat) = false then .error 72 else .ok (⟨(n / 8 : Nat), (n % 8 : Nat), 0, []⟩, q)
def headA (p : Nat) : Except Nat (Fld × Nat) → List A
  | .error e => [fO default, .v (.int .i64 p), .v (.int .i64 e)]
  | .ok (f, q) => [fO f, .v (.int .i64 q), .v (.int .i64 0)]

def leV : List Nat → Nat
  | [] => 0
  | x :: t => x + 256 * leV t
def wide (t : Int) : Nat := if t = 5 then 4 else 8
def valueP (b : List Nat) (f : Fld) (q : Nat) : Fld × Nat × Nat :=
  if f.ty = 0 then match numP b q with | (v, e, er) => ({ f with num := v }, e, er)
  else if f.ty = 2 then match numP b q with | (v, e, er) => if er ≠ 0 then (f, 0, er) else if b.length - e < v then (f, 0, 73) else ({ f with data := (b.drop e).take v }, e + v, 0)
  else if b.length - q < wide f.ty then (f, 0, 73) else ({ f with num := leV ((b.drop q).take (wide f.ty)) }, q + wide f.ty, 0)

theorem head_FS (q : Bool) (b : List Nat) (p count : Nat) (last : Int) (hb : b.length < 2 ^ 40) (hp : p ≤ b.length) (hc : count < 2 ^ 40) :
    FS Try.prog 53 [.sl q (bA b), .v (.int .i64 p), .v (.int .i64 count), .v (.int .i64 last)] (.ret (headA p (headP b p count last)) [none, none, none, none]) := by
  have hnum := number_FS q b p hb
  obtain ⟨⟨n, e, er⟩, hr⟩ : ∃ r, numP b p = r := ⟨_, rfl⟩
  obtain ⟨h1, h2, h3, h4⟩ := numP_ok hp hr
  have hH : headP b p count last = if er ≠ 0 then .error er else if count = 64 then .error 2 else if n / 8 < 1 ∨ 536870911 < n / 8 ∨ ((n / 8 : Nat) : Int) ≤ last then .error 71
    else if knownP (n % 8 : Nat) = false then .error 72 else .ok (⟨(n / 8 : Nat), (n % 8 : Nat), 0, []⟩, e) := by
    unfold headP
    rw [hr]
  rw [hr] at hnum
  simp only [numA] at hnum
  have hw := wrong_FS false ⟨(n / 8 : Nat), (n % 8 : Nat), 0, []⟩ last
  refine FS_of_SW (kb := [false, false, false, false]) Try.func53 rfl rfl (by rfl) ?_
  refine SW.weak (Weak.of [] (sls := [(0, .sl q (bA b)), (1, .v (.int .i64 p)), (2, .v (.int .i64 count)), (3, .v (.int .i64 last))]) (bks := []) (ep := 64) (by rfl) ⟨rfl, rfl, rfl, rfl, trivial⟩ trivial) ?_
  have hd : IntKind.u64.wrap ((n : Int).tdiv 8) = ((n / 8 : Nat) : Int) := u64_div n 8 h1 (by omega)
  have hm : (n : Int).tmod 8 = ((n % 8 : Nat) : Int) := by rw [Int.tmod_eq_emod_of_nonneg (by omega)]; omega
  have hi : IntKind.i64.wrap ((n / 8 : Nat) : Int) = ((n / 8 : Nat) : Int) := IntWalk.i64_in _ (by omega)
  have hi2 : IntKind.i64.wrap ((n % 8 : Nat) : Int) = ((n % 8 : Nat) : Int) := IntWalk.i64_in _ (by omega)
  repeat' (first
    | apply_assumption -exfalso -symm (transparency := .reducible) only [*]
    | (refine ⟨_, _, hnum, ?_⟩ <;> (try simp -implicitDefEqProofs only [go_sem, hd, hm, hi, hi2]))
    | (refine ⟨_, _, hw, ?_⟩ <;> (try simp -implicitDefEqProofs only [go_sem, hd, hm, hi, hi2]))
    | (with_reducible refine And.intro ?_ ?_)
    | (refine drawOf ?_; kernel_rfl)
    | ((with_reducible refine SW.id ?_); first | with_reducible refine SW.seqK fun K hK => ?_ | with_reducible refine SW.block ?_ | with_reducible refine SW.scope ?_ | ((first | with_reducible refine SW.skip ?_ | with_reducible refine SW.exit ?_ | with_reducible refine SW.label ?_ | with_reducible refine SW.ret ?_ | with_reducible refine SW.go MM ?_ | refine SW.goDrawF MM (by rfl) (by kernel_rfl) ?_); simp -implicitDefEqProofs only [go_sem, hd, hm, hi, hi2]) | (refine SW.cond (by simp -implicitDefEqProofs only [go_sem, hd, hm, hi, hi2]; rfl) (fun ht => ?_) (fun ht => ?_) <;> (try simp only [decide_eq_true_eq, decide_eq_false_iff_not, beq_iff_eq, bne_iff_ne, beq_eq_false_iff_ne, bne_eq_false_iff_eq, Bool.or_eq_true, Bool.and_eq_true, Bool.or_eq_false_iff, Bool.and_eq_false_imp, Bool.not_eq_true, Bool.not_eq_false, Bool.not_true, Bool.not_false, Bool.not_eq_true', Bool.not_eq_false', Bool.or_false, Bool.false_or, Bool.or_true, Bool.true_or, Bool.and_true, Bool.true_and, reduceCtorEq] at ht) <;> (try contradiction)))
    | ((with_reducible refine guardSplit (fun hg => ?_) (fun hg => ?_)) <;> (try simp only [Bool.not_true, Bool.not_false] at hg) <;> (have hc := hg) <;> simp -implicitDefEqProofs only [go_sem, hg, hd, hm, hi, hi2] <;> (try simp only [decide_eq_true_eq, decide_eq_false_iff_not, beq_iff_eq, bne_iff_ne, beq_eq_false_iff_ne, bne_eq_false_iff_eq, Bool.or_eq_true, Bool.and_eq_true, Bool.or_eq_false_iff, Bool.and_eq_false_imp, Bool.not_eq_true, Bool.not_eq_false, Bool.not_true, Bool.not_false, Bool.not_eq_true', Bool.not_eq_false', Bool.or_false, Bool.false_or, Bool.or_true, Bool.true_or, Bool.and_true, Bool.true_and, reduceCtorEq] at hc) <;> (try contradiction)))
  all_goals try omega
  all_goals
    have hw2 : wrongP ⟨(n / 8 : Nat), (n % 8 : Nat), 0, []⟩ last = if n / 8 < 1 ∨ 536870911 < n / 8 ∨ ((n / 8 : Nat) : Int) ≤ last then 71 else if knownP (n % 8 : Nat) = false then 72 else 0 := by
      unfold wrongP knownP
      simp only [decide_eq_false_iff_not, List.length_nil]
      (repeat' split) <;> omega
  any_goals solve
    | rw [hH, if_pos (by omega)] | (rw [hH, if_pos (by omega)]; rfl)
    | rw [hH, if_neg (by omega), if_pos (by omega)] | (rw [hH, if_neg (by omega), if_pos (by omega)]; rfl)
    | rw [hH, if_neg (by omega), if_neg (by omega), if_pos (by omega)] | (rw [hH, if_neg (by omega), if_neg (by omega), if_pos (by omega)]; rfl)
  · rw [hw2, if_neg (by omega)] at ht ⊢
    split at ht
    · rename_i hk
      rw [hH, if_neg (by omega), if_neg (by omega), if_neg (by omega), if_pos hk, if_pos hk]
      rfl
    · simp at ht
  · rw [hw2, if_neg (by omega)] at ht
    split at ht
    · simp at ht
    · rename_i hk
      rw [hH, if_neg (by omega), if_neg (by omega), if_neg (by omega), if_neg hk]
      rfl
end Go.PA
