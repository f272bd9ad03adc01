/- Messages read: the walk over a message. -/
import Derived.Test.YtmacfbboiippoaaW19
namespace Go.PA
open Go.Proofs
set_option linter.unusedSimpArgs false
set_option linter.unusedVariables false
set_option maxRecDepth 100000
set_option maxHeartbeats 4000000
attribute [local go_sem] MM getP setP takesW
attribute [-go_sem] takeA

theorem headP_ok {b : List Nat} {p count : Nat} {last : Int} {f : Fld} {q : Nat} (hp : p ≤ b.length) (h : headP b p count last = .ok (f, q)) :
    ∃ no ty : Nat, f = ⟨no, ty, 0, []⟩ ∧ 1 ≤ no ∧ no ≤ 536870911 ∧ last < no ∧ (ty = 0 ∨ ty = 1 ∨ ty = 2 ∨ ty = 5) ∧ p < q ∧ q ≤ b.length ∧ count ≠ 64 := by
  unfold headP at h
  cases hr : numP b p with
  | mk n r =>
    obtain ⟨e, er⟩ := r
    obtain ⟨h1, h2, h3, h4⟩ := numP_ok hp hr
    rw [hr] at h
    dsimp only at h
    split at h
    · cases h
    · split at h
      · cases h
      · split at h
        · cases h
        · split at h
          · cases h
          · rename_i g1 g2 g3 g4
            injection h with h
            injection h with h h'
            have := h2 (by omega)
            have hk : knownP ((n % 8 : Nat) : Int) = true := by simpa using g4
            unfold knownP at hk
            simp only [decide_eq_true_eq] at hk
            exact ⟨n / 8, n % 8, h.symm, by omega, by omega, by omega, by omega, by omega, by omega, g2⟩

theorem headP_err {b : List Nat} {p count : Nat} {last : Int} {e : Nat} (h : headP b p count last = .error e) : e ≠ 0 := by
  unfold headP at h
  cases hr : numP b p with
  | mk n r =>
    obtain ⟨q, er⟩ := r
    rw [hr] at h
    dsimp only at h
    split at h
    · injection h with h; omega
    · split at h
      · injection h with h; omega
      · split at h
        · injection h with h; omega
        · split at h
          · injection h with h; omega
          · cases h

theorem fO_nobor (f : Fld) : (fO f).nobor = true := by simp [fO, A.nobor, nobors]
theorem restoreA_box {d : Nat} {b : A} : restoreA (.ptr d []) (.box b) = some [(d, .var b)] := by simp [restoreA]
theorem restoreL_nil : restoreL [] [] = some [] := by simp [restoreL]
theorem restoreL_one {x y : A} : restoreL [x] [y] = if x.sz = y.sz then restoreA x y else none := by
  simp only [restoreL]
  split
  · cases restoreA x y <;> simp
  · rfl
theorem restoreA_clo {f g : Fn} {a b c d : List A} : restoreA (.clo f a b) (.clo g c d) = match restoreL a c, restoreL b d with
    | some x, some y => some (x ++ y)
    | _, _ => none := by
  simp only [restoreA]
  cases restoreL a c <;> cases restoreL b d <;> rfl
attribute [go_sem] fO_nobor fO_closed restoreA_box restoreL_nil restoreL_one restoreA_clo or_true true_or

theorem valueP_ok {b : List Nat} {f : Fld} {q : Nat} (hq : q ≤ b.length) {f' : Fld} {e er : Nat} (h : valueP b f q = (f', e, er)) (hd : f.data = []) :
    f'.no = f.no ∧ e ≤ b.length ∧ f'.data.length ≤ b.length ∧ (er = 0 → q ≤ e) := by
  unfold valueP at h
  cases hr : numP b q with
  | mk v r =>
    obtain ⟨e', er'⟩ := r
    obtain ⟨h1, h2, h3, h4⟩ := numP_ok hq hr
    rw [hr] at h
    dsimp only at h
    split at h
    · simp only [Prod.mk.injEq] at h
      obtain ⟨rfl, rfl, rfl⟩ := h
      exact ⟨rfl, h4, by simp [hd], fun h => by have := h2 h; omega⟩
    · split at h
      · split at h
        · simp only [Prod.mk.injEq] at h
          obtain ⟨rfl, rfl, rfl⟩ := h
          exact ⟨rfl, by omega, by simp [hd], fun h => by omega⟩
        · split at h
          · simp only [Prod.mk.injEq] at h
            obtain ⟨rfl, rfl, rfl⟩ := h
            exact ⟨rfl, by omega, by simp [hd], fun h => by omega⟩
          · simp only [Prod.mk.injEq] at h
            obtain ⟨rfl, rfl, rfl⟩ := h
            exact ⟨rfl, by omega, by simp; omega, fun h => by have := h2 (by omega); omega⟩
      · split at h
        · simp only [Prod.mk.injEq] at h
          obtain ⟨rfl, rfl, rfl⟩ := h
          exact ⟨rfl, by omega, by simp [hd], fun h => by omega⟩
        · simp only [Prod.mk.injEq] at h
          obtain ⟨rfl, rfl, rfl⟩ := h
          exact ⟨rfl, by omega, by simp [hd], fun h => by omega⟩

/-- What the walk finds: the fields, the place, the fault. -/
def walkP (b : List Nat) : Nat → Nat → Nat → Int → List Fld × Nat × Nat
  | 0, _, _, _ => ([], 0, 0)
  | k + 1, p, count, last => if p < b.length then
      match headP b p count last with
      | .error e => ([], p, e)
      | .ok (f, q) => if (valueP b f q).2.2 ≠ 0 then ([], q, (valueP b f q).2.2) else
          ((valueP b f q).1 :: (walkP b k (valueP b f q).2.1 (count + 1) f.no).1, (walkP b k (valueP b f q).2.1 (count + 1) f.no).2)
    else ([], 0, 0)
def walkD (b : List Nat) : List Fld × Nat × Nat := if 4194304 < b.length then ([], 0, 2) else walkP b (b.length + 1) 0 0 0

theorem walk_FS (q : Bool) (b : List Nat) (hb : b.length < 2 ^ 40) (hB : ∀ x ∈ b, x < 256) :
    FS Try.prog 47 [.sl q (bA b), .clo (.func 48) [] [.box (.osl 4 [])]] (.ret [.v (.int .i64 (walkD b).2.1), .v (.int .i64 (walkD b).2.2)] [none, some (.clo (.func 48) [] [.box (.osl 4 ((walkD b).1.map fO))])]) := by
  refine FS_of_SW (kb := [false, true]) Try.func47 rfl rfl (by rfl) ?_
  refine SW.weak (Weak.of [(0, 0)] (sls := [(0, .sl q (bA b)), (1, .clo (.func 48) [] [.ptr 0 []])]) (bks := [(0, .var (.osl 4 []))]) (ep := 64) (by rfl) ⟨rfl, rfl, trivial⟩ ⟨rfl, trivial⟩) ?_
  have hD : b.length ≤ 4194304 → walkD b = walkP b (b.length + 1) 0 0 0 := fun h => by unfold walkD; rw [if_neg (by omega)]
  have hD2 : 4194304 < b.length → walkD b = ([], 0, 2) := fun h => by unfold walkD; rw [if_pos h]
  repeat' (first
    | apply_assumption -exfalso -symm (transparency := .reducible) only [*]
    | with_reducible refine SW.stopR 3 ?_
    | (with_reducible refine And.intro ?_ ?_)
    | (refine drawOf ?_; kernel_rfl)
    | ((with_reducible refine SW.id ?_); first | with_reducible refine SW.seqK fun K hK => ?_ | with_reducible refine SW.block ?_ | with_reducible refine SW.scope ?_ | ((first | with_reducible refine SW.skip ?_ | with_reducible refine SW.exit ?_ | with_reducible refine SW.label ?_ | with_reducible refine SW.ret ?_ | with_reducible refine SW.go MM ?_ | refine SW.goDrawF MM (by rfl) (by kernel_rfl) ?_); simp -implicitDefEqProofs only [go_sem]) | (refine SW.cond (by simp -implicitDefEqProofs only [go_sem]; rfl) (fun ht => ?_) (fun ht => ?_) <;> (try simp only [decide_eq_true_eq, decide_eq_false_iff_not, beq_iff_eq, bne_iff_ne, beq_eq_false_iff_ne, bne_eq_false_iff_eq, Bool.or_eq_true, Bool.and_eq_true, Bool.or_eq_false_iff, Bool.and_eq_false_imp, Bool.not_eq_true, Bool.not_eq_false, Bool.not_true, Bool.not_false, Bool.not_eq_true', Bool.not_eq_false', Bool.or_false, Bool.false_or, Bool.or_true, Bool.true_or, Bool.and_true, Bool.true_and, reduceCtorEq] at ht) <;> (try contradiction)))
    | ((with_reducible refine guardSplit (fun hg => ?_) (fun hg => ?_)) <;> (try simp only [Bool.not_true, Bool.not_false] at hg) <;> (have hc := hg) <;> simp -implicitDefEqProofs only [go_sem, hg] <;> (try simp only [decide_eq_true_eq, decide_eq_false_iff_not, beq_iff_eq, bne_iff_ne, beq_eq_false_iff_ne, bne_eq_false_iff_eq, Bool.or_eq_true, Bool.and_eq_true, Bool.or_eq_false_iff, Bool.and_eq_false_imp, Bool.not_eq_true, Bool.not_eq_false, Bool.not_true, Bool.not_false, Bool.not_eq_true', Bool.not_eq_false', Bool.or_false, Bool.false_or, Bool.or_true, Bool.true_or, Bool.and_true, Bool.true_and, reduceCtorEq] at hc) <;> (try contradiction)))
  any_goals solve | (rw [hD2 (by omega)] <;> rfl)
  have hD := hD (by omega)
  refine Stop.go ?_
  repeat' (first
    | apply_assumption -exfalso -symm (transparency := .reducible) only [*]
    | (with_reducible refine And.intro ?_ ?_)
    | (refine drawOf ?_; kernel_rfl)
    | ((with_reducible refine SW.id ?_); first | with_reducible refine SW.seqK fun K hK => ?_ | with_reducible refine SW.block ?_ | with_reducible refine SW.scope ?_ | ((first | with_reducible refine SW.skip ?_ | with_reducible refine SW.exit ?_ | with_reducible refine SW.label ?_ | with_reducible refine SW.ret ?_ | with_reducible refine SW.go MM ?_ | refine SW.goDrawF MM (by rfl) (by kernel_rfl) ?_); simp -implicitDefEqProofs only [go_sem]) | (refine SW.cond (by simp -implicitDefEqProofs only [go_sem]; rfl) (fun ht => ?_) (fun ht => ?_) <;> (try simp only [decide_eq_true_eq, decide_eq_false_iff_not, beq_iff_eq, bne_iff_ne, beq_eq_false_iff_ne, bne_eq_false_iff_eq, Bool.or_eq_true, Bool.and_eq_true, Bool.or_eq_false_iff, Bool.and_eq_false_imp, Bool.not_eq_true, Bool.not_eq_false, Bool.not_true, Bool.not_false, Bool.not_eq_true', Bool.not_eq_false', Bool.or_false, Bool.false_or, Bool.or_true, Bool.true_or, Bool.and_true, Bool.true_and, reduceCtorEq] at ht) <;> (try contradiction)))
    | ((with_reducible refine guardSplit (fun hg => ?_) (fun hg => ?_)) <;> (try simp only [Bool.not_true, Bool.not_false] at hg) <;> (have hc := hg) <;> simp -implicitDefEqProofs only [go_sem, hg] <;> (try simp only [decide_eq_true_eq, decide_eq_false_iff_not, beq_iff_eq, bne_iff_ne, beq_eq_false_iff_ne, bne_eq_false_iff_eq, Bool.or_eq_true, Bool.and_eq_true, Bool.or_eq_false_iff, Bool.and_eq_false_imp, Bool.not_eq_true, Bool.not_eq_false, Bool.not_true, Bool.not_false, Bool.not_eq_true', Bool.not_eq_false', Bool.or_false, Bool.false_or, Bool.or_true, Bool.true_or, Bool.and_true, Bool.true_and, reduceCtorEq] at hc) <;> (try contradiction)))
  refine SW.loop (α := { x : List Fld × Nat × Nat × Int × Nat // x.2.1 ≤ b.length ∧ x.2.2.1 = x.1.length ∧ x.1.length ≤ 64 ∧ b.length - x.2.1 < x.2.2.2.2 ∧
      walkD b = (x.1 ++ (walkP b x.2.2.2.2 x.2.1 x.2.2.1 x.2.2.2.1).1, (walkP b x.2.2.2.2 x.2.1 x.2.2.1 x.2.2.2.1).2) })
    (fun x => St.of [(0, .sl q (bA b)), (1, .clo (.func 48) [] [.ptr 0 []]), (6, .v (.int .i64 x.1.2.2.1)), (7, .v (.int .i64 x.1.2.2.2.1)), (8, .v (.int .i64 x.1.2.1))] [(0, .var (.osl 4 (x.1.1.map fO)))] 64) (fun x => x.1.2.2.2.2)
    ⟨([], 0, 0, 0, b.length + 1), by dsimp only; omega, rfl, by simp, by dsimp only; omega, by rw [hD]; rfl⟩ (Weak.of [(0, 0)] (by rfl) ?_ ?_) fun ⟨⟨acc, p, count, last, k⟩, hp, hcnt, hacc, hk, hw⟩ => ?_
  · simp -implicitDefEqProofs only [go_sem]
    exact ⟨rfl, rfl⟩
  · simp -implicitDefEqProofs only [go_sem]
  · dsimp only at hp hcnt hacc hk hw
    have h5 := i64_one (a := count) (by omega)
    have hhead := head_FS q b p count last hb hp (by omega)
    obtain ⟨k, rfl⟩ : ∃ k', k = k' + 1 := ⟨k - 1, by omega⟩
    rw [walkP] at hw
    cases hh : headP b p count last with
    | error e =>
      rw [hh] at hhead
      simp only [headA, fO] at hhead
      rw [hh] at hw
      dsimp only at hw
      have he := headP_err hh
      repeat' (first
        | apply_assumption -exfalso -symm (transparency := .reducible) only [*]
        | (refine ⟨_, _, hhead, ?_⟩ <;> (try simp -implicitDefEqProofs only [go_sem]))
        | (with_reducible refine And.intro ?_ ?_)
        | (refine drawOf ?_; kernel_rfl)
        | ((with_reducible refine SW.id ?_); first | with_reducible refine SW.seqK fun K hK => ?_ | with_reducible refine SW.block ?_ | with_reducible refine SW.scope ?_ | ((first | with_reducible refine SW.skip ?_ | with_reducible refine SW.exit ?_ | with_reducible refine SW.label ?_ | with_reducible refine SW.ret ?_ | with_reducible refine SW.go MM ?_ | refine SW.goDrawF MM (by rfl) (by kernel_rfl) ?_); simp -implicitDefEqProofs only [go_sem]) | (refine SW.cond (by simp -implicitDefEqProofs only [go_sem]; rfl) (fun ht => ?_) (fun ht => ?_) <;> (try simp only [decide_eq_true_eq, decide_eq_false_iff_not, beq_iff_eq, bne_iff_ne, beq_eq_false_iff_ne, bne_eq_false_iff_eq, Bool.or_eq_true, Bool.and_eq_true, Bool.or_eq_false_iff, Bool.and_eq_false_imp, Bool.not_eq_true, Bool.not_eq_false, Bool.not_true, Bool.not_false, Bool.not_eq_true', Bool.not_eq_false', Bool.or_false, Bool.false_or, Bool.or_true, Bool.true_or, Bool.and_true, Bool.true_and, reduceCtorEq] at ht) <;> (try contradiction)))
        | ((with_reducible refine guardSplit (fun hg => ?_) (fun hg => ?_)) <;> (try simp only [Bool.not_true, Bool.not_false] at hg) <;> (have hc := hg) <;> simp -implicitDefEqProofs only [go_sem, hg] <;> (try simp only [decide_eq_true_eq, decide_eq_false_iff_not, beq_iff_eq, bne_iff_ne, beq_eq_false_iff_ne, bne_eq_false_iff_eq, Bool.or_eq_true, Bool.and_eq_true, Bool.or_eq_false_iff, Bool.and_eq_false_imp, Bool.not_eq_true, Bool.not_eq_false, Bool.not_true, Bool.not_false, Bool.not_eq_true', Bool.not_eq_false', Bool.or_false, Bool.false_or, Bool.or_true, Bool.true_or, Bool.and_true, Bool.true_and, reduceCtorEq] at hc) <;> (try contradiction)))
      all_goals try omega
      any_goals solve
        | (rw [hw, if_pos (by omega)] <;> simp)
        | (rw [hw, if_neg (by omega)] <;> simp)
    | ok r =>
      obtain ⟨f, qq⟩ := r
      obtain ⟨no, ty, rfl, g1, g2, g3, g4, g5, g6, g7⟩ := headP_ok hp hh
      have hval := value_FS q b ⟨no, ty, 0, []⟩ qq hb hB g6 (by dsimp only; omega) rfl rfl
      obtain ⟨⟨f', e, er⟩, hv⟩ : ∃ r, valueP b ⟨no, ty, 0, []⟩ qq = r := ⟨_, rfl⟩
      obtain ⟨v1, v2, v3, v4⟩ := valueP_ok g6 hv rfl
      rw [hh] at hhead
      simp only [headA, fO] at hhead
      rw [hv] at hval
      dsimp only at hval
      rw [hh] at hw
      dsimp only at hw
      rw [hv] at hw
      dsimp only at hw v1
      repeat' (first
        | apply_assumption -exfalso -symm (transparency := .reducible) only [*]
        | with_reducible refine SW.stopI 13 ?_
        | (refine ⟨_, _, hhead, ?_⟩ <;> (try simp -implicitDefEqProofs only [go_sem, h5]))
        | (refine ⟨_, _, hval, ?_⟩ <;> (try simp -implicitDefEqProofs only [go_sem, h5]))
        | (with_reducible refine And.intro ?_ ?_)
        | (refine drawOf ?_; kernel_rfl)
        | ((with_reducible refine SW.id ?_); first | with_reducible refine SW.seqK fun K hK => ?_ | with_reducible refine SW.block ?_ | with_reducible refine SW.scope ?_ | ((first | with_reducible refine SW.skip ?_ | with_reducible refine SW.exit ?_ | with_reducible refine SW.label ?_ | with_reducible refine SW.ret ?_ | with_reducible refine SW.go MM ?_ | refine SW.goDrawF MM (by rfl) (by kernel_rfl) ?_); simp -implicitDefEqProofs only [go_sem, h5]) | (refine SW.cond (by simp -implicitDefEqProofs only [go_sem, h5]; rfl) (fun ht => ?_) (fun ht => ?_) <;> (try simp only [decide_eq_true_eq, decide_eq_false_iff_not, beq_iff_eq, bne_iff_ne, beq_eq_false_iff_ne, bne_eq_false_iff_eq, Bool.or_eq_true, Bool.and_eq_true, Bool.or_eq_false_iff, Bool.and_eq_false_imp, Bool.not_eq_true, Bool.not_eq_false, Bool.not_true, Bool.not_false, Bool.not_eq_true', Bool.not_eq_false', Bool.or_false, Bool.false_or, Bool.or_true, Bool.true_or, Bool.and_true, Bool.true_and, reduceCtorEq] at ht) <;> (try contradiction)))
        | ((with_reducible refine guardSplit (fun hg => ?_) (fun hg => ?_)) <;> (try simp only [Bool.not_true, Bool.not_false] at hg) <;> (have hc := hg) <;> simp -implicitDefEqProofs only [go_sem, hg, h5] <;> (try simp only [decide_eq_true_eq, decide_eq_false_iff_not, beq_iff_eq, bne_iff_ne, beq_eq_false_iff_ne, bne_eq_false_iff_eq, Bool.or_eq_true, Bool.and_eq_true, Bool.or_eq_false_iff, Bool.and_eq_false_imp, Bool.not_eq_true, Bool.not_eq_false, Bool.not_true, Bool.not_false, Bool.not_eq_true', Bool.not_eq_false', Bool.or_false, Bool.false_or, Bool.or_true, Bool.true_or, Bool.and_true, Bool.true_and, reduceCtorEq] at hc) <;> (try contradiction)))
      any_goals solve
        | (rw [hw, if_pos (by omega), if_pos (by omega)] <;> simp)
        | (rw [hw, if_neg (by omega)] <;> simp)
      have her : er = 0 := by omega
      have hkeep := keep_FS p f' acc (by omega) (by omega)
      have hlt : p < b.length := by omega
      rw [if_pos hlt, if_neg (by omega)] at hw
      have v5 := v4 her
      refine Stop.go (SW.weak (st' := St.of [(0, .sl q (bA b)), (1, .clo (.func 48) [] [.ptr 0 []]), (6, .v (.int .i64 count)), (7, .v (.int .i64 last)), (8, .v (.int .i64 p)), (9, .ptr 1 []), (12, .v (.int .i64 e))]
        [(0, .var (.osl 4 (acc.map fO))), (1, .var (.agg [.v (.int .i64 f'.no), .v (.int .i64 f'.ty), .v (.int .u64 f'.num), .ref 2 1 0 (bA f'.data).length false])), (2, .row 1 (bA f'.data))] 64)
        (Weak.focus1 896 5000 5001 Hole.var (by simp -implicitDefEqProofs only [go_sem]) (fO_closed f') rfl (by simp -implicitDefEqProofs only [go_sem]) (by simp -implicitDefEqProofs only [go_sem]) rfl (Weak.of [(0, 0), (896, 1), (5000, 2)] (by rfl) ?_ ?_)) ?_)
      · simp -implicitDefEqProofs only [go_sem]
        rfl
      · simp -implicitDefEqProofs only [go_sem]
        rfl
      · repeat' (first
          | apply_assumption -exfalso -symm (transparency := .reducible) only [*]
          | (refine ⟨_, _, hkeep, ?_⟩ <;> (try simp -implicitDefEqProofs only [go_sem, h5]))
          | (with_reducible refine And.intro ?_ ?_)
          | (refine drawOf ?_; kernel_rfl)
          | ((with_reducible refine SW.id ?_); first | with_reducible refine SW.seqK fun K hK => ?_ | with_reducible refine SW.block ?_ | with_reducible refine SW.scope ?_ | ((first | with_reducible refine SW.skip ?_ | with_reducible refine SW.exit ?_ | with_reducible refine SW.label ?_ | with_reducible refine SW.ret ?_ | with_reducible refine SW.go MM ?_ | refine SW.goDrawF MM (by rfl) (by kernel_rfl) ?_); simp -implicitDefEqProofs only [go_sem, h5]) | (refine SW.cond (by simp -implicitDefEqProofs only [go_sem, h5]; rfl) (fun ht => ?_) (fun ht => ?_) <;> (try simp only [decide_eq_true_eq, decide_eq_false_iff_not, beq_iff_eq, bne_iff_ne, beq_eq_false_iff_ne, bne_eq_false_iff_eq, Bool.or_eq_true, Bool.and_eq_true, Bool.or_eq_false_iff, Bool.and_eq_false_imp, Bool.not_eq_true, Bool.not_eq_false, Bool.not_true, Bool.not_false, Bool.not_eq_true', Bool.not_eq_false', Bool.or_false, Bool.false_or, Bool.or_true, Bool.true_or, Bool.and_true, Bool.true_and, reduceCtorEq] at ht) <;> (try contradiction)))
          | ((with_reducible refine guardSplit (fun hg => ?_) (fun hg => ?_)) <;> (try simp only [Bool.not_true, Bool.not_false] at hg) <;> (have hc := hg) <;> simp -implicitDefEqProofs only [go_sem, hg, h5] <;> (try simp only [decide_eq_true_eq, decide_eq_false_iff_not, beq_iff_eq, bne_iff_ne, beq_eq_false_iff_ne, bne_eq_false_iff_eq, Bool.or_eq_true, Bool.and_eq_true, Bool.or_eq_false_iff, Bool.and_eq_false_imp, Bool.not_eq_true, Bool.not_eq_false, Bool.not_true, Bool.not_false, Bool.not_eq_true', Bool.not_eq_false', Bool.or_false, Bool.false_or, Bool.or_true, Bool.true_or, Bool.and_true, Bool.true_and, reduceCtorEq] at hc) <;> (try contradiction)))
        refine ⟨⟨(acc ++ [f'], e, count + 1, no, k), by dsimp only; omega, by simp; omega, by simp; omega, by dsimp only; omega, ?_⟩, Weak.of [(0, 0)] (by rfl) ?_ ?_, by dsimp only; omega⟩
        · dsimp only
          rw [hw, List.append_assoc]
          rfl
        · simp -implicitDefEqProofs only [go_sem, v1]
          rfl
        · simp -implicitDefEqProofs only [go_sem]
end Go.PA
