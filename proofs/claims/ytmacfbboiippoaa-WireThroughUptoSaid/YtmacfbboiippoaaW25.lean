/- Messages read: the reference's Next. -/
import Derived.Test.YtmacfbboiippoaaW20
namespace Go.PA
open Go.Proofs
set_option linter.unusedSimpArgs false
set_option linter.unusedVariables false
set_option maxRecDepth 100000
set_option maxHeartbeats 4000000
attribute [local go_sem] MM getP setP takesW
attribute [-go_sem] takeA

def nextP (b : List Nat) (p count : Nat) (last : Int) : Fld × Nat × Nat :=
  match headP b p count last with
  | .error e => (default, p, e)
  | .ok (f, q) => if (valueP b f q).2.2 ≠ 0 then (default, q, (valueP b f q).2.2) else valueP b f q

theorem leV_down (b : List Nat) (hB : ∀ x ∈ b, x < 256) (e w j : Nat) (hw : w ≤ 8) (h : e + w ≤ b.length) (hj : j ≤ w) (h0 : 1 ≤ j) :
    IntKind.u64.wrap (IntKind.u64.wrap ((leV (((b.drop e).take w).drop j) : Int) * 256) + IntKind.u64.wrap ((b.getD (e + (j - 1)) 0 : Nat) : Int)) = ((leV (((b.drop e).take w).drop (j - 1)) : Nat) : Int) := by
  have hx : b.getD (e + (j - 1)) 0 < 256 := by
    rw [List.getD_eq_getElem?_getD, List.getElem?_eq_getElem (by omega)]
    exact hB _ (List.getElem_mem _)
  have hl : (((b.drop e).take w).drop j).length = w - j := by simp; omega
  have hlt := leV_lt (((b.drop e).take w).drop j) fun x hx => hB x (List.mem_of_mem_drop (List.mem_of_mem_take (List.mem_of_mem_drop hx)))
  rw [hl] at hlt
  have h2 : (2 : Nat) ^ (8 * (w - j)) ≤ 2 ^ 56 := Nat.pow_le_pow_right (by decide) (by omega)
  have e1 : ((b.drop e).take w).drop (j - 1) = b.getD (e + (j - 1)) 0 :: ((b.drop e).take w).drop j := by
    have hlen : j - 1 < ((b.drop e).take w).length := by simp; omega
    rw [List.drop_eq_getElem_cons hlen, show j - 1 + 1 = j by omega, List.getD_eq_getElem?_getD, List.getElem?_eq_getElem (by omega)]
    simp
  rw [e1, leV, IntKind.wrap_u64, IntKind.wrap_u64, IntKind.wrap_u64]
  omega

theorem nextP_num {b : List Nat} {p count no ty e n2 e2 er2 : Nat} {last : Int} (hok : headP b p count last = .ok (⟨no, ty, 0, []⟩, e)) (hr2 : numP b e = (n2, e2, er2)) :
    (ty = 0 ∨ ty = 2 → er2 ≠ 0 → nextP b p count last = (default, e, er2)) ∧ (ty = 0 → er2 = 0 → nextP b p count last = (⟨no, ty, n2, []⟩, e2, er2)) ∧
    (ty = 2 → er2 = 0 → b.length - e2 < n2 → nextP b p count last = (default, e, 73)) ∧ (ty = 2 → er2 = 0 → n2 ≤ b.length - e2 → nextP b p count last = (⟨no, ty, 0, (b.drop e2).take n2⟩, e2 + n2, 0)) ∧
    (ty ≠ 0 → ty ≠ 2 → b.length - e < wide ty → nextP b p count last = (default, e, 73)) ∧ (ty ≠ 0 → ty ≠ 2 → wide ty ≤ b.length - e → nextP b p count last = (⟨no, ty, leV ((b.drop e).take (wide ty)), []⟩, e + wide ty, 0)) := by
  have hok2 : ∀ f er', valueP b ⟨no, ty, 0, []⟩ e = (f, er') → nextP b p count last = if er'.2 ≠ 0 then (default, e, er'.2) else (f, er') := fun f er' h => by
    unfold nextP; rw [hok]; dsimp only; rw [h]
  have hV0 : ty = 0 → valueP b ⟨no, ty, 0, []⟩ e = (⟨no, ty, n2, []⟩, e2, er2) := fun h => by
    unfold valueP
    rw [hr2, if_pos (by dsimp only; omega)]
  have hV2 : ty = 2 → valueP b ⟨no, ty, 0, []⟩ e = if er2 ≠ 0 then (⟨no, ty, 0, []⟩, 0, er2) else if b.length - e2 < n2 then (⟨no, ty, 0, []⟩, 0, 73) else (⟨no, ty, 0, (b.drop e2).take n2⟩, e2 + n2, 0) := fun h => by
    unfold valueP
    rw [hr2, if_neg (by dsimp only; omega), if_pos (by dsimp only; omega)]
  have hV3 : ty ≠ 0 → ty ≠ 2 → valueP b ⟨no, ty, 0, []⟩ e = if b.length - e < wide ty then (⟨no, ty, 0, []⟩, 0, 73) else (⟨no, ty, leV ((b.drop e).take (wide ty)), []⟩, e + wide ty, 0) := fun h h' => by
    unfold valueP
    rw [if_neg (by dsimp only; omega), if_neg (by dsimp only; omega)]
  have hRe : ty = 0 ∨ ty = 2 → er2 ≠ 0 → nextP b p count last = (default, e, er2) := fun h h' => by
    rcases h with h | h
    · rw [hok2 _ _ (hV0 h), if_pos h']
    · rw [hok2 _ _ ((hV2 h).trans (if_pos h')), if_pos h']
  have hR0 : ty = 0 → er2 = 0 → nextP b p count last = (⟨no, ty, n2, []⟩, e2, er2) := fun h h' => by
    rw [hok2 _ _ (hV0 h), if_neg (by dsimp only; omega)]
  have hR2c : ty = 2 → er2 = 0 → b.length - e2 < n2 → nextP b p count last = (default, e, 73) := fun h h' h'' => by
    rw [hok2 _ _ ((hV2 h).trans ((if_neg (by omega)).trans (if_pos h''))), if_pos (by decide)]
  have hR2 : ty = 2 → er2 = 0 → n2 ≤ b.length - e2 → nextP b p count last = (⟨no, ty, 0, (b.drop e2).take n2⟩, e2 + n2, 0) := fun h h' h'' => by
    rw [hok2 _ _ ((hV2 h).trans ((if_neg (by omega)).trans (if_neg (by omega)))), if_neg (by dsimp only; omega)]
  have hR3c : ty ≠ 0 → ty ≠ 2 → b.length - e < wide ty → nextP b p count last = (default, e, 73) := fun h h' h'' => by
    rw [hok2 _ _ ((hV3 h h').trans (if_pos h'')), if_pos (by decide)]
  have hR3 : ty ≠ 0 → ty ≠ 2 → wide ty ≤ b.length - e → nextP b p count last = (⟨no, ty, leV ((b.drop e).take (wide ty)), []⟩, e + wide ty, 0) := fun h h' h'' => by
    rw [hok2 _ _ ((hV3 h h').trans (if_neg (by omega))), if_neg (by dsimp only; omega)]
  exact ⟨hRe, hR0, hR2c, hR2, hR3c, hR3⟩

theorem next_FS (q : Bool) (b : List Nat) (p count : Nat) (last : Int) (hb : b.length < 2 ^ 40) (hB : ∀ x ∈ b, x < 256) (hp : p ≤ b.length) (hc : count ≤ 64) :
    FS Try.prog 45 [.sl q (bA b), .v (.int .i64 p), .v (.int .i64 last), .v (.int .i64 count)] (.ret [fO (nextP b p count last).1, .v (.int .i64 (nextP b p count last).2.1), .v (.int .i64 (nextP b p count last).2.2)] [none, none, none, none]) := by
  have hnum := refNumber_FS q b p hb hB
  obtain ⟨⟨n, e, er⟩, hr⟩ : ∃ r, numP b p = r := ⟨_, rfl⟩
  obtain ⟨h1, h2, h3, h4⟩ := numP_ok hp hr
  rw [hr] at hnum
  simp only [numA] at hnum
  have hH : headP b p count last = if er ≠ 0 then .error er else if count = 64 then .error 2 else if n / 8 < 1 ∨ 536870911 < n / 8 ∨ ((n / 8 : Nat) : Int) ≤ last then .error 71
    else if knownP (n % 8 : Nat) = false then .error 72 else .ok (⟨(n / 8 : Nat), (n % 8 : Nat), 0, []⟩, e) := by
    unfold headP
    rw [hr]
  have hN : ∀ x, headP b p count last = .error x → nextP b p count last = (default, p, x) := fun x h => by unfold nextP; rw [h]
  have hkn := known_FS ((n % 8 : Nat) : Int)
  refine FS_of_SW (kb := [false, false, false, false]) Try.func45 rfl rfl (by rfl) ?_
  refine SW.weak (Weak.of [] (sls := [(0, .sl q (bA b)), (1, .v (.int .i64 p)), (2, .v (.int .i64 last)), (3, .v (.int .i64 count))]) (bks := []) (ep := 64) (by rfl) ⟨rfl, rfl, rfl, rfl, trivial⟩ trivial) ?_
  have hd : IntKind.u64.wrap ((n : Int).tdiv 8) = ((n / 8 : Nat) : Int) := u64_div n 8 h1 (by omega)
  have hm : (n : Int).tmod 8 = ((n % 8 : Nat) : Int) := by rw [Int.tmod_eq_emod_of_nonneg (by omega)]; omega
  have hi : IntKind.i64.wrap ((n / 8 : Nat) : Int) = ((n / 8 : Nat) : Int) := IntWalk.i64_in _ (by omega)
  have hi2 : IntKind.i64.wrap ((n % 8 : Nat) : Int) = ((n % 8 : Nat) : Int) := IntWalk.i64_in _ (by omega)
  repeat' (first
    | apply_assumption -exfalso -symm (transparency := .reducible) only [*]
    | with_reducible refine SW.stopI 12 ?_
    | (refine ⟨_, _, hnum, ?_⟩ <;> (try simp -implicitDefEqProofs only [go_sem, hd, hm, hi, hi2]))
    | (refine ⟨_, _, hkn, ?_⟩ <;> (try simp -implicitDefEqProofs only [go_sem, hd, hm, hi, hi2]))
    | (with_reducible refine And.intro ?_ ?_)
    | (refine drawOf ?_; kernel_rfl)
    | ((with_reducible refine SW.id ?_); first | with_reducible refine SW.seqK fun K hK => ?_ | with_reducible refine SW.block ?_ | with_reducible refine SW.scope ?_ | ((first | with_reducible refine SW.skip ?_ | with_reducible refine SW.exit ?_ | with_reducible refine SW.label ?_ | with_reducible refine SW.ret ?_ | with_reducible refine SW.go MM ?_ | refine SW.goDrawF MM (by rfl) (by kernel_rfl) ?_); simp -implicitDefEqProofs only [go_sem, hd, hm, hi, hi2]) | (refine SW.cond (by simp -implicitDefEqProofs only [go_sem, hd, hm, hi, hi2]; rfl) (fun ht => ?_) (fun ht => ?_) <;> (try simp only [decide_eq_true_eq, decide_eq_false_iff_not, beq_iff_eq, bne_iff_ne, beq_eq_false_iff_ne, bne_eq_false_iff_eq, Bool.or_eq_true, Bool.and_eq_true, Bool.or_eq_false_iff, Bool.and_eq_false_imp, Bool.not_eq_true, Bool.not_eq_false, Bool.not_true, Bool.not_false, Bool.not_eq_true', Bool.not_eq_false', Bool.or_false, Bool.false_or, Bool.or_true, Bool.true_or, Bool.and_true, Bool.true_and, reduceCtorEq] at ht) <;> (try contradiction)))
    | ((with_reducible refine guardSplit (fun hg => ?_) (fun hg => ?_)) <;> (try simp only [Bool.not_true, Bool.not_false] at hg) <;> (have hc := hg) <;> simp -implicitDefEqProofs only [go_sem, hg, hd, hm, hi, hi2] <;> (try simp only [decide_eq_true_eq, decide_eq_false_iff_not, beq_iff_eq, bne_iff_ne, beq_eq_false_iff_ne, bne_eq_false_iff_eq, Bool.or_eq_true, Bool.and_eq_true, Bool.or_eq_false_iff, Bool.and_eq_false_imp, Bool.not_eq_true, Bool.not_eq_false, Bool.not_true, Bool.not_false, Bool.not_eq_true', Bool.not_eq_false', Bool.or_false, Bool.false_or, Bool.or_true, Bool.true_or, Bool.and_true, Bool.true_and, reduceCtorEq] at hc) <;> (try contradiction)))
  any_goals solve
    | (rw [hN er (by rw [hH, if_pos (by omega)])] <;> rfl)
    | (rw [hN 2 (by rw [hH, if_neg (by omega), if_pos (by omega)])] <;> rfl)
    | (rw [hN 71 (by rw [hH, if_neg (by omega), if_neg (by omega), if_pos (by omega)])] <;> rfl)
    | (rw [hN 72 (by rw [hH, if_neg (by omega), if_neg (by omega), if_neg (by omega), if_pos (by assumption)])] <;> rfl)
  all_goals try omega
  have hno : 1 ≤ n / 8 ∧ n / 8 ≤ 536870911 := by omega
  have hty : n % 8 = 0 ∨ n % 8 = 1 ∨ n % 8 = 2 ∨ n % 8 = 5 := by
    have h : knownP ((n % 8 : Nat) : Int) = true := by assumption
    unfold knownP at h
    simp only [decide_eq_true_eq] at h
    omega
  have hok : headP b p count last = .ok (⟨(n / 8 : Nat), (n % 8 : Nat), 0, []⟩, e) := by
    rw [hH, if_neg (by omega), if_neg (by omega), if_neg (by omega), if_neg]
    have h : knownP ((n % 8 : Nat) : Int) = true := by assumption
    rw [h]
    simp
  refine Stop.go (SW.weak (st' := St.of [(0, .sl q (bA b)), (8, .ptr 0 []), (12, .v (.int .i64 e)), (15, .v (.int .i64 (n % 8 : Nat))), (16, .ptr 2 [])]
    [(0, .var (.agg [.v (.int .i64 0), .v (.int .i64 0), .v (.int .u64 0), .ref 1 1 0 0 false])), (1, .row 1 []), (2, .var (.agg [.v (.int .i64 (n / 8 : Nat)), .v (.int .i64 (n % 8 : Nat)), .v (.int .u64 0), .ref 3 1 0 0 false])), (3, .row 1 [])] 64)
    (Weak.of [(64, 0), (65, 1), (2816, 2), (2753, 3)] (by rfl) ?_ ?_) ?_)
  · simp -implicitDefEqProofs only [go_sem]
  · simp -implicitDefEqProofs only [go_sem]
    exact ⟨rfl, rfl⟩
  have he : e ≤ b.length := h4
  have hnum2 := refNumber_FS q b e hb hB
  obtain ⟨⟨n2, e2, er2⟩, hr2⟩ : ∃ r, numP b e = r := ⟨_, rfl⟩
  obtain ⟨g1, g2, g3, g4⟩ := numP_ok he hr2
  rw [hr2] at hnum2
  simp only [numA] at hnum2
  generalize hno' : n / 8 = no at *
  generalize hty' : n % 8 = ty at *
  have h6 : IntKind.i64.wrap ((b.length : Int) - (e2 : Int)) = ((b.length - e2 : Nat) : Int) := by rw [IntWalk.i64_in _ (by omega)]; omega
  have h7 := u64_len (n := b.length - e2) (by omega)
  have h8 : n2 ≤ b.length - e2 → IntKind.i64.wrap (n2 : Int) = (n2 : Int) := fun _ => IntWalk.i64_in _ (by omega)
  have h9 := fun h : n2 ≤ b.length - e2 => i64_add (a := e2) (b := n2) (by omega)
  repeat' (first
    | apply_assumption -exfalso -symm (transparency := .reducible) only [*]
    | with_reducible refine SW.stopI 16 ?_
    | with_reducible refine SW.stopR 31 ?_
    | (refine ⟨_, _, hnum2, ?_⟩ <;> (try simp -implicitDefEqProofs only [go_sem, h6, h7]))
    | (with_reducible refine And.intro ?_ ?_)
    | (refine drawOf ?_; kernel_rfl)
    | ((with_reducible refine SW.id ?_); first | with_reducible refine SW.seqK fun K hK => ?_ | with_reducible refine SW.block ?_ | with_reducible refine SW.scope ?_ | ((first | with_reducible refine SW.skip ?_ | with_reducible refine SW.exit ?_ | with_reducible refine SW.label ?_ | with_reducible refine SW.ret ?_ | with_reducible refine SW.go MM ?_ | refine SW.goDrawF MM (by rfl) (by kernel_rfl) ?_); simp -implicitDefEqProofs only [go_sem, h6, h7]) | (refine SW.cond (by simp -implicitDefEqProofs only [go_sem, h6, h7]; rfl) (fun ht => ?_) (fun ht => ?_) <;> (try simp only [decide_eq_true_eq, decide_eq_false_iff_not, beq_iff_eq, bne_iff_ne, beq_eq_false_iff_ne, bne_eq_false_iff_eq, Bool.or_eq_true, Bool.and_eq_true, Bool.or_eq_false_iff, Bool.and_eq_false_imp, Bool.not_eq_true, Bool.not_eq_false, Bool.not_true, Bool.not_false, Bool.not_eq_true', Bool.not_eq_false', Bool.or_false, Bool.false_or, Bool.or_true, Bool.true_or, Bool.and_true, Bool.true_and, reduceCtorEq] at ht) <;> (try contradiction)))
    | ((with_reducible refine guardSplit (fun hg => ?_) (fun hg => ?_)) <;> (try simp only [Bool.not_true, Bool.not_false] at hg) <;> (have hc := hg) <;> simp -implicitDefEqProofs only [go_sem, hg, h6, h7] <;> (try simp only [decide_eq_true_eq, decide_eq_false_iff_not, beq_iff_eq, bne_iff_ne, beq_eq_false_iff_ne, bne_eq_false_iff_eq, Bool.or_eq_true, Bool.and_eq_true, Bool.or_eq_false_iff, Bool.and_eq_false_imp, Bool.not_eq_true, Bool.not_eq_false, Bool.not_true, Bool.not_false, Bool.not_eq_true', Bool.not_eq_false', Bool.or_false, Bool.false_or, Bool.or_true, Bool.true_or, Bool.and_true, Bool.true_and, reduceCtorEq] at hc) <;> (try contradiction)))
  rotate_left 1
  iterate 9
    first
      | (have h30 := (nextP_num hok hr2).1 (by omega) (by omega); rw [h30] <;> rfl)
      | (have h30 := (nextP_num hok hr2).2.1 (by omega) (by omega); rw [h30] <;> first | rfl | (dsimp only; omega))
      | (have h30 := (nextP_num hok hr2).2.2.1 (by omega) (by omega) (by omega); rw [h30] <;> rfl)
  · have hle : n2 ≤ b.length - e2 := by omega
    have h8 := h8 hle
    have h9 := h9 hle
    have hR2 := (nextP_num hok hr2).2.2.2.1 (by omega) (by omega) (by omega)
    refine Stop.go ?_
    repeat' (first
      | apply_assumption -exfalso -symm (transparency := .reducible) only [*]
      | (with_reducible refine And.intro ?_ ?_)
      | (refine drawOf ?_; kernel_rfl)
      | ((with_reducible refine SW.id ?_); first | with_reducible refine SW.seqK fun K hK => ?_ | with_reducible refine SW.block ?_ | with_reducible refine SW.scope ?_ | ((first | with_reducible refine SW.skip ?_ | with_reducible refine SW.exit ?_ | with_reducible refine SW.label ?_ | with_reducible refine SW.ret ?_ | with_reducible refine SW.go MM ?_ | refine SW.goDrawF MM (by rfl) (by kernel_rfl) ?_); simp -implicitDefEqProofs only [go_sem, h8, h9, Nat.add_sub_cancel_left]) | (refine SW.cond (by simp -implicitDefEqProofs only [go_sem, h8, h9, Nat.add_sub_cancel_left]; rfl) (fun ht => ?_) (fun ht => ?_) <;> (try simp only [decide_eq_true_eq, decide_eq_false_iff_not, beq_iff_eq, bne_iff_ne, beq_eq_false_iff_ne, bne_eq_false_iff_eq, Bool.or_eq_true, Bool.and_eq_true, Bool.or_eq_false_iff, Bool.and_eq_false_imp, Bool.not_eq_true, Bool.not_eq_false, Bool.not_true, Bool.not_false, Bool.not_eq_true', Bool.not_eq_false', Bool.or_false, Bool.false_or, Bool.or_true, Bool.true_or, Bool.and_true, Bool.true_and, reduceCtorEq] at ht) <;> (try contradiction)))
      | ((with_reducible refine guardSplit (fun hg => ?_) (fun hg => ?_)) <;> (try simp only [Bool.not_true, Bool.not_false] at hg) <;> (have hc := hg) <;> simp -implicitDefEqProofs only [go_sem, hg, h8, h9, Nat.add_sub_cancel_left] <;> (try simp only [decide_eq_true_eq, decide_eq_false_iff_not, beq_iff_eq, bne_iff_ne, beq_eq_false_iff_ne, bne_eq_false_iff_eq, Bool.or_eq_true, Bool.and_eq_true, Bool.or_eq_false_iff, Bool.and_eq_false_imp, Bool.not_eq_true, Bool.not_eq_false, Bool.not_true, Bool.not_false, Bool.not_eq_true', Bool.not_eq_false', Bool.or_false, Bool.false_or, Bool.or_true, Bool.true_or, Bool.and_true, Bool.true_and, reduceCtorEq] at hc) <;> (try contradiction)))
    all_goals try omega
    any_goals solve | exact roomy_of (by simp only [List.length_take, List.length_drop]; omega) (by decide)
    any_goals solve
      | (rw [hR2] <;> rfl)
  all_goals
    have h20 : ty ≠ 0 ∧ ty ≠ 2 := by omega
    have hwd : wide ty = if ty = 5 then 4 else 8 := by unfold wide; split <;> split <;> omega
    have hv := (nextP_num hok hr2).2.2.2.2.2 h20.1 h20.2
    have hvc := (nextP_num hok hr2).2.2.2.2.1 h20.1 h20.2
    refine Stop.go (SW.weak (st' := St.of [(0, .sl q (bA b)), (8, .ptr 0 []), (12, .v (.int .i64 e)), (16, .ptr 2 []), (17, .v (.int .i64 (wide ty : Nat)))]
      [(0, .var (.agg [.v (.int .i64 0), .v (.int .i64 0), .v (.int .u64 0), .ref 1 1 0 0 false])), (1, .row 1 []), (2, .var (.agg [.v (.int .i64 no), .v (.int .i64 ty), .v (.int .u64 (0 : Nat)), .ref 3 1 0 0 false])), (3, .row 1 [])] 64)
      (Weak.of [(0, 0), (1, 1), (2, 2), (3, 3)] (by rfl) ?_ ?_) ?_)
    · have h21 : ty = 5 ∨ ty ≠ 5 := by omega
      first
        | (rw [if_pos (by omega)] at hwd
           simp -implicitDefEqProofs only [go_sem, hwd]
           rfl)
        | (rw [if_neg (by omega)] at hwd
           simp -implicitDefEqProofs only [go_sem, hwd]
           rfl)
    · simp -implicitDefEqProofs only [go_sem]
      try exact ⟨rfl, rfl⟩
    have hw8 : wide ty ≤ 8 := by rw [hwd]; split <;> omega
    clear hwd
    generalize wide ty = w at *
    have h16 : IntKind.i64.wrap ((b.length : Int) - (e : Int)) = ((b.length - e : Nat) : Int) := by rw [IntWalk.i64_in _ (by omega)]; omega
    have h23 : IntKind.i64.wrap ((w : Int) - 1) = (w : Int) - 1 := IntWalk.i64_in _ (by omega)
    repeat' (first
      | apply_assumption -exfalso -symm (transparency := .reducible) only [*]
      | (with_reducible refine And.intro ?_ ?_)
      | (refine drawOf ?_; kernel_rfl)
      | ((with_reducible refine SW.id ?_); first | with_reducible refine SW.seqK fun K hK => ?_ | with_reducible refine SW.block ?_ | with_reducible refine SW.scope ?_ | ((first | with_reducible refine SW.skip ?_ | with_reducible refine SW.exit ?_ | with_reducible refine SW.label ?_ | with_reducible refine SW.ret ?_ | with_reducible refine SW.go MM ?_ | refine SW.goDrawF MM (by rfl) (by kernel_rfl) ?_); simp -implicitDefEqProofs only [go_sem, h16, h23]) | (refine SW.cond (by simp -implicitDefEqProofs only [go_sem, h16, h23]; rfl) (fun ht => ?_) (fun ht => ?_) <;> (try simp only [decide_eq_true_eq, decide_eq_false_iff_not, beq_iff_eq, bne_iff_ne, beq_eq_false_iff_ne, bne_eq_false_iff_eq, Bool.or_eq_true, Bool.and_eq_true, Bool.or_eq_false_iff, Bool.and_eq_false_imp, Bool.not_eq_true, Bool.not_eq_false, Bool.not_true, Bool.not_false, Bool.not_eq_true', Bool.not_eq_false', Bool.or_false, Bool.false_or, Bool.or_true, Bool.true_or, Bool.and_true, Bool.true_and, reduceCtorEq] at ht) <;> (try contradiction)))
      | ((with_reducible refine guardSplit (fun hg => ?_) (fun hg => ?_)) <;> (try simp only [Bool.not_true, Bool.not_false] at hg) <;> (have hc := hg) <;> simp -implicitDefEqProofs only [go_sem, hg, h16, h23] <;> (try simp only [decide_eq_true_eq, decide_eq_false_iff_not, beq_iff_eq, bne_iff_ne, beq_eq_false_iff_ne, bne_eq_false_iff_eq, Bool.or_eq_true, Bool.and_eq_true, Bool.or_eq_false_iff, Bool.and_eq_false_imp, Bool.not_eq_true, Bool.not_eq_false, Bool.not_true, Bool.not_false, Bool.not_eq_true', Bool.not_eq_false', Bool.or_false, Bool.false_or, Bool.or_true, Bool.true_or, Bool.and_true, Bool.true_and, reduceCtorEq] at hc) <;> (try contradiction)))
    any_goals solve | (rw [hvc (by omega)] <;> rfl)
    have hfit : w ≤ b.length - e := by omega
    have hv := hv hfit
    refine SW.loop (α := { j : Nat // j ≤ w }) (fun j => St.of [(0, .sl q (bA b)), (8, .ptr 0 []), (12, .v (.int .i64 e)), (16, .ptr 2 []), (17, .v (.int .i64 w)), (18, .v (.int .i64 ((j.1 : Int) - 1)))]
      [(0, .var (.agg [.v (.int .i64 0), .v (.int .i64 0), .v (.int .u64 0), .ref 1 1 0 0 false])), (1, .row 1 []), (2, .var (.agg [.v (.int .i64 no), .v (.int .i64 ty), .v (.int .u64 (leV (((b.drop e).take w).drop j.1) : Nat)), .ref 3 1 0 0 false])), (3, .row 1 [])] 64)
      (fun j => j.1) ⟨w, by omega⟩ (Weak.of [(0, 0), (1, 1), (2, 2), (3, 3)] (by rfl) ?_ ?_) fun ⟨j, hj⟩ => ?_
    · simp -implicitDefEqProofs only [go_sem]
    · have h24 : leV (((b.drop e).take w).drop w) = 0 := by rw [List.drop_eq_nil_of_le (by simp; omega), leV]
      simp -implicitDefEqProofs only [go_sem, h24]
      exact ⟨rfl, rfl⟩
    · have h28 := i64_add (a := e) (b := w) (by omega)
      repeat' (first
        | apply_assumption -exfalso -symm (transparency := .reducible) only [*]
        | with_reducible refine SW.stopB 1 ?_
        | (with_reducible refine And.intro ?_ ?_)
        | (refine drawOf ?_; kernel_rfl)
        | ((with_reducible refine SW.id ?_); first | with_reducible refine SW.seqK fun K hK => ?_ | with_reducible refine SW.block ?_ | with_reducible refine SW.scope ?_ | ((first | with_reducible refine SW.skip ?_ | with_reducible refine SW.exit ?_ | with_reducible refine SW.label ?_ | with_reducible refine SW.ret ?_ | with_reducible refine SW.go MM ?_ | refine SW.goDrawF MM (by rfl) (by kernel_rfl) ?_); simp -implicitDefEqProofs only [go_sem, h28]) | (refine SW.cond (by simp -implicitDefEqProofs only [go_sem, h28]; rfl) (fun ht => ?_) (fun ht => ?_) <;> (try simp only [decide_eq_true_eq, decide_eq_false_iff_not, beq_iff_eq, bne_iff_ne, beq_eq_false_iff_ne, bne_eq_false_iff_eq, Bool.or_eq_true, Bool.and_eq_true, Bool.or_eq_false_iff, Bool.and_eq_false_imp, Bool.not_eq_true, Bool.not_eq_false, Bool.not_true, Bool.not_false, Bool.not_eq_true', Bool.not_eq_false', Bool.or_false, Bool.false_or, Bool.or_true, Bool.true_or, Bool.and_true, Bool.true_and, reduceCtorEq] at ht) <;> (try contradiction)))
        | ((with_reducible refine guardSplit (fun hg => ?_) (fun hg => ?_)) <;> (try simp only [Bool.not_true, Bool.not_false] at hg) <;> (have hc := hg) <;> simp -implicitDefEqProofs only [go_sem, hg, h28] <;> (try simp only [decide_eq_true_eq, decide_eq_false_iff_not, beq_iff_eq, bne_iff_ne, beq_eq_false_iff_ne, bne_eq_false_iff_eq, Bool.or_eq_true, Bool.and_eq_true, Bool.or_eq_false_iff, Bool.and_eq_false_imp, Bool.not_eq_true, Bool.not_eq_false, Bool.not_true, Bool.not_false, Bool.not_eq_true', Bool.not_eq_false', Bool.or_false, Bool.false_or, Bool.or_true, Bool.true_or, Bool.and_true, Bool.true_and, reduceCtorEq] at hc) <;> (try contradiction)))
      rotate_left 1
      iterate 3
        (have h29 : j = 0 := by omega
         subst h29
         rw [hv] <;> rfl)
      have h0 : 1 ≤ j := by omega
      have h25 : IntKind.i64.wrap ((e : Int) + ((j : Int) - 1)) = ((e + (j - 1) : Nat) : Int) := by rw [IntWalk.i64_in _ (by omega)]; omega
      have h26 : IntKind.i64.wrap ((j : Int) - 1 - 1) = ((j - 1 : Nat) : Int) - 1 := by rw [IntWalk.i64_in _ (by omega)]; omega
      have h27 := leV_down b hB e w j (by omega) (by omega) hj h0
      refine Stop.go ?_
      repeat' (first
        | apply_assumption -exfalso -symm (transparency := .reducible) only [*]
        | (with_reducible refine And.intro ?_ ?_)
        | (refine drawOf ?_; kernel_rfl)
        | ((with_reducible refine SW.id ?_); first | with_reducible refine SW.seqK fun K hK => ?_ | with_reducible refine SW.block ?_ | with_reducible refine SW.scope ?_ | ((first | with_reducible refine SW.skip ?_ | with_reducible refine SW.exit ?_ | with_reducible refine SW.label ?_ | with_reducible refine SW.ret ?_ | with_reducible refine SW.go MM ?_ | refine SW.goDrawF MM (by rfl) (by kernel_rfl) ?_); simp -implicitDefEqProofs only [go_sem, h25, h26]) | (refine SW.cond (by simp -implicitDefEqProofs only [go_sem, h25, h26]; rfl) (fun ht => ?_) (fun ht => ?_) <;> (try simp only [decide_eq_true_eq, decide_eq_false_iff_not, beq_iff_eq, bne_iff_ne, beq_eq_false_iff_ne, bne_eq_false_iff_eq, Bool.or_eq_true, Bool.and_eq_true, Bool.or_eq_false_iff, Bool.and_eq_false_imp, Bool.not_eq_true, Bool.not_eq_false, Bool.not_true, Bool.not_false, Bool.not_eq_true', Bool.not_eq_false', Bool.or_false, Bool.false_or, Bool.or_true, Bool.true_or, Bool.and_true, Bool.true_and, reduceCtorEq] at ht) <;> (try contradiction)))
        | ((with_reducible refine guardSplit (fun hg => ?_) (fun hg => ?_)) <;> (try simp only [Bool.not_true, Bool.not_false] at hg) <;> (have hc := hg) <;> simp -implicitDefEqProofs only [go_sem, hg, h25, h26] <;> (try simp only [decide_eq_true_eq, decide_eq_false_iff_not, beq_iff_eq, bne_iff_ne, beq_eq_false_iff_ne, bne_eq_false_iff_eq, Bool.or_eq_true, Bool.and_eq_true, Bool.or_eq_false_iff, Bool.and_eq_false_imp, Bool.not_eq_true, Bool.not_eq_false, Bool.not_true, Bool.not_false, Bool.not_eq_true', Bool.not_eq_false', Bool.or_false, Bool.false_or, Bool.or_true, Bool.true_or, Bool.and_true, Bool.true_and, reduceCtorEq] at hc) <;> (try contradiction)))
      all_goals try omega
      · refine ⟨⟨j - 1, by omega⟩, Weak.of [(0, 0), (1, 1), (2, 2), (3, 3)] (by rfl) ?_ ?_, by dsimp only; omega⟩
        · simp -implicitDefEqProofs only [go_sem, h26]
        · simp -implicitDefEqProofs only [go_sem, h27]
          exact ⟨rfl, rfl⟩
end Go.PA
