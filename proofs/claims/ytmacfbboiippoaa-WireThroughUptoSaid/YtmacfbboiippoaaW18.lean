/- Messages read: a field's value. -/
import Derived.Test.YtmacfbboiippoaaW17
namespace Go.PA
open Go.Proofs
set_option linter.unusedSimpArgs false
set_option linter.unusedVariables false
set_option maxRecDepth 100000
set_option maxHeartbeats 4000000
attribute [local go_sem] MM getP setP takesW

section
variable {bor : Bool} {n : Nat} {rm : List Nat}
theorem takeA_v {x : Value} : takeA bor (n + 1) (.v x) rm = .ret (.v x, rm) := rfl
theorem takeA_sl {p : Bool} {xs : List A} : takeA bor (n + 1) (.sl p xs) rm = if p || bor then .ret (.sl p xs, rm) else .fail := rfl
theorem takeA_rp {p : Bool} {a : A} : takeA bor (n + 1) (.rp p a) rm = if p || bor then .ret (.rp p a, rm) else .fail := rfl
theorem takeA_arr {t : Nat} {xs : List A} : takeA bor (n + 1) (.arr t xs) rm = .ret (.arr t xs, rm) := rfl
theorem takeA_ref {d s off len : Nat} {full : Bool} : takeA bor (n + 1) (.ref d s off len full) rm = if rm.contains d then .fail else .rd d fun b => match b with
      | .row s' xs => if s = s' ∧ off = 0 ∧ full = false ∧ closeds xs = true ∧ nobors xs = true then .req (len ≤ xs.length) (.ret (.osl s (xs.take len), d :: rm)) else .fail
      | .froz s' xs => if s = s' then .req (off + len ≤ xs.length) (.ret (.sl true ((xs.drop off).take len), rm)) else .fail
      | _ => .fail := rfl
def takeV (bor : Bool) (n d : Nat) (rm : List Nat) : Blk → RM (A × List Nat)
  | .var a => (takeA bor n a (d :: rm)).bind fun q => .ret (.box q.1, q.2)
  | _ => .fail
theorem takeV_var {d : Nat} {a : A} : takeV bor n d rm (.var a) = (takeA bor n a (d :: rm)).bind fun q => .ret (.box q.1, q.2) := rfl
theorem takeA_ptr {d : Nat} : takeA bor (n + 1) (.ptr d []) rm = if rm.contains d then .fail else .rd d (takeV bor n d rm) := by
  simp only [takeA]
  congr 1
theorem takeA_agg {xs : List A} : takeA bor (n + 1) (.agg xs) rm = (takesW (takeA bor n) xs rm).bind fun q => .ret (.agg q.1, q.2) := rfl
theorem takeA_clo {f : Fn} {a c : List A} : takeA bor (n + 1) (.clo f a c) rm = (takesW (takeA bor n) a rm).bind fun q => (takesW (takeA bor n) c q.2).bind fun q' => .ret (.clo f q.1 q'.1, q'.2) := rfl
theorem takeA_osl {s : Nat} {xs : List A} : takeA bor (n + 1) (.osl s xs) rm = .ret (.osl s xs, rm) := rfl
theorem takeA_box {a : A} : takeA bor (n + 1) (.box a) rm = if a.nobor || bor then .ret (.box a, rm) else .fail := rfl
attribute [go_sem] takeA_v takeA_sl takeA_rp takeA_arr takeA_ref takeA_ptr takeV_var takeA_agg takeA_clo takeA_osl takeA_box
end
attribute [-go_sem] takeA

theorem fO_closed (f : Fld) : (fO f).closed = true := by simp [fO, A.closed, closeds, bA_closeds]

theorem leV_lt : ∀ (l : List Nat), (∀ x ∈ l, x < 256) → leV l < 2 ^ (8 * l.length)
  | [], _ => by simp [leV]
  | x :: t, h => by
    have h1 := leV_lt t fun y hy => h y (by simp [hy])
    have h2 := h x (by simp)
    simp only [leV, List.length_cons]
    rw [show 8 * (t.length + 1) = 8 * t.length + 8 by omega, Nat.pow_add]
    omega
theorem leV_snoc : ∀ (l : List Nat) (x : Nat), leV (l ++ [x]) = leV l + 2 ^ (8 * l.length) * x
  | [], x => by simp [leV]
  | y :: t, x => by
    simp only [List.cons_append, leV, leV_snoc t x, List.length_cons]
    rw [show 8 * (t.length + 1) = 8 + 8 * t.length by omega, Nat.pow_add, Nat.mul_add, ← Nat.mul_assoc, show (2 : Nat) ^ 8 = 256 from rfl]
    omega

theorem leV_or (b : List Nat) (hB : ∀ x ∈ b, x < 256) (q i : Nat) (hi : i < 8) (h : q + i < b.length) :
    ior .u64 (leV ((b.drop q).take i) : Int) (ishl .u64 (IntKind.u64.wrap ((b.getD (q + i) 0 : Nat) : Int)) ((8 * i : Nat) : Int)) = ((leV ((b.drop q).take (i + 1)) : Nat) : Int) := by
  have hx : b.getD (q + i) 0 < 256 := by
    rw [List.getD_eq_getElem?_getD, List.getElem?_eq_getElem h]
    exact hB _ (List.getElem_mem h)
  have hl : ((b.drop q).take i).length = i := by simp; omega
  have hlt := leV_lt ((b.drop q).take i) fun x hx => hB x (List.mem_of_mem_drop (List.mem_of_mem_take hx))
  rw [hl] at hlt
  have e : (b.drop q).take (i + 1) = (b.drop q).take i ++ [b.getD (q + i) 0] := by
    rw [List.take_add_one, List.getD_eq_getElem?_getD]
    simp [List.getElem?_drop, h]
  rw [e, leV_snoc, hl]
  rw [show IntKind.u64.wrap ((b.getD (q + i) 0 : Nat) : Int) = ((b.getD (q + i) 0 : Nat) : Int) by rw [IntKind.wrap_u64]; omega]
  have hb : b.getD (q + i) 0 * 2 ^ (8 * i) + leV ((b.drop q).take i) < 2 ^ 64 := by
    have h1 : 2 ^ (8 * i) * 256 ≤ 2 ^ 64 := by
      rw [show (256 : Nat) = 2 ^ 8 by rfl, ← Nat.pow_add]
      exact Nat.pow_le_pow_right (by decide) (by omega)
    have h2 : b.getD (q + i) 0 * 2 ^ (8 * i) ≤ 255 * 2 ^ (8 * i) := Nat.mul_le_mul_right _ (by omega)
    omega
  rw [or_shl _ _ _ hlt (by omega) hb, Nat.mul_comm, Nat.add_comm]

theorem value_FS (q : Bool) (b : List Nat) (f : Fld) (p : Nat) (hb : b.length < 2 ^ 40) (hB : ∀ x ∈ b, x < 256) (hp : p ≤ b.length) (hf : f.ty = 0 ∨ f.ty = 1 ∨ f.ty = 2 ∨ f.ty = 5) (hn : f.num = 0) (hd : f.data = []) :
    FS Try.prog 54 [.sl q (bA b), .box (fO f), .v (.int .i64 p)] (.ret [.v (.int .i64 (valueP b f p).2.1), .v (.int .i64 (valueP b f p).2.2)] [none, some (.box (fO (valueP b f p).1)), none]) := by
  have hnum := number_FS q b p hb
  obtain ⟨⟨n, e, er⟩, hr⟩ : ∃ r, numP b p = r := ⟨_, rfl⟩
  obtain ⟨h1, h2, h3, h4⟩ := numP_ok hp hr
  rw [hr] at hnum
  simp only [numA] at hnum
  obtain ⟨no, ty, num, data⟩ := f
  dsimp only at hn hd hf
  subst hn hd
  refine FS_of_SW (kb := [false, true, false]) Try.func54 rfl rfl (by rfl) ?_
  refine SW.weak (Weak.of [(0, 0)] (sls := [(0, .sl q (bA b)), (1, .ptr 0 []), (2, .v (.int .i64 p))]) (bks := [(0, .var (.agg [.v (.int .i64 no), .v (.int .i64 ty), .v (.int .u64 (0 : Nat)), .osl 1 []]))]) (ep := 64) (by rfl) ⟨rfl, rfl, rfl, trivial⟩ ⟨rfl, trivial⟩) ?_
  have hV0 : ty = 0 → valueP b ⟨no, ty, 0, []⟩ p = (⟨no, ty, n, []⟩, e, er) := fun h => by
    unfold valueP
    rw [hr, if_pos h]
  have hV2 : ty = 2 → valueP b ⟨no, ty, 0, []⟩ p = if er ≠ 0 then (⟨no, ty, 0, []⟩, 0, er) else if b.length - e < n then (⟨no, ty, 0, []⟩, 0, 73) else (⟨no, ty, 0, (b.drop e).take n⟩, e + n, 0) := fun h => by
    unfold valueP
    rw [hr, if_neg (by dsimp only; omega), if_pos h]
  have hV3 : ty ≠ 0 → ty ≠ 2 → valueP b ⟨no, ty, 0, []⟩ p = if b.length - p < wide ty then (⟨no, ty, 0, []⟩, 0, 73) else (⟨no, ty, leV ((b.drop p).take (wide ty)), []⟩, p + wide ty, 0) := fun h h' => by
    unfold valueP
    rw [if_neg h, if_neg h']
  have h6 : IntKind.i64.wrap ((b.length : Int) - (e : Int)) = ((b.length - e : Nat) : Int) := by rw [IntWalk.i64_in _ (by omega)]; omega
  have h7 := u64_len (n := b.length - e) (by omega)
  repeat' (first
    | apply_assumption -exfalso -symm (transparency := .reducible) only [*]
    | with_reducible refine SW.stopI 17 ?_
    | with_reducible refine SW.stopR 13 ?_
    | (refine ⟨_, _, hnum, ?_⟩ <;> (try simp -implicitDefEqProofs only [go_sem, h6, h7]))
    | (with_reducible refine And.intro ?_ ?_)
    | (refine drawOf ?_; kernel_rfl)
    | ((with_reducible refine SW.id ?_); first | with_reducible refine SW.seqK fun K hK => ?_ | with_reducible refine SW.block ?_ | with_reducible refine SW.scope ?_ | ((first | with_reducible refine SW.skip ?_ | with_reducible refine SW.exit ?_ | with_reducible refine SW.label ?_ | with_reducible refine SW.ret ?_ | with_reducible refine SW.go MM ?_ | refine SW.goDrawF MM (by rfl) (by kernel_rfl) ?_); simp -implicitDefEqProofs only [go_sem, h6, h7]) | (refine SW.cond (by simp -implicitDefEqProofs only [go_sem, h6, h7]; rfl) (fun ht => ?_) (fun ht => ?_) <;> (try simp only [decide_eq_true_eq, decide_eq_false_iff_not, beq_iff_eq, bne_iff_ne, beq_eq_false_iff_ne, bne_eq_false_iff_eq, Bool.or_eq_true, Bool.and_eq_true, Bool.or_eq_false_iff, Bool.and_eq_false_imp, Bool.not_eq_true, Bool.not_eq_false, Bool.not_true, Bool.not_false, Bool.not_eq_true', Bool.not_eq_false', Bool.or_false, Bool.false_or, Bool.or_true, Bool.true_or, Bool.and_true, Bool.true_and, reduceCtorEq] at ht) <;> (try contradiction)))
    | ((with_reducible refine guardSplit (fun hg => ?_) (fun hg => ?_)) <;> (try simp only [Bool.not_true, Bool.not_false] at hg) <;> (have hc := hg) <;> simp -implicitDefEqProofs only [go_sem, hg, h6, h7] <;> (try simp only [decide_eq_true_eq, decide_eq_false_iff_not, beq_iff_eq, bne_iff_ne, beq_eq_false_iff_ne, bne_eq_false_iff_eq, Bool.or_eq_true, Bool.and_eq_true, Bool.or_eq_false_iff, Bool.and_eq_false_imp, Bool.not_eq_true, Bool.not_eq_false, Bool.not_true, Bool.not_false, Bool.not_eq_true', Bool.not_eq_false', Bool.or_false, Bool.false_or, Bool.or_true, Bool.true_or, Bool.and_true, Bool.true_and, reduceCtorEq] at hc) <;> (try contradiction)))
  any_goals solve
    | (rw [hV0 (by assumption)] <;> rfl)
    | (rw [hV2 (by assumption), if_pos (by omega)] <;> rfl)
    | (rw [hV2 (by assumption), if_neg (by omega), if_pos (by omega)] <;> rfl)
  · have hle : n ≤ b.length - e := by omega
    have h8 : IntKind.i64.wrap (n : Int) = (n : Int) := IntWalk.i64_in _ (by omega)
    have h9 := i64_add (a := e) (b := n) (by omega)
    refine Stop.go ?_
    repeat' (first
      | apply_assumption -exfalso -symm (transparency := .reducible) only [*]
      | (with_reducible refine And.intro ?_ ?_)
      | (refine drawOf ?_; kernel_rfl)
      | ((with_reducible refine SW.id ?_); first | with_reducible refine SW.seqK fun K hK => ?_ | with_reducible refine SW.block ?_ | with_reducible refine SW.scope ?_ | ((first | with_reducible refine SW.skip ?_ | with_reducible refine SW.exit ?_ | with_reducible refine SW.label ?_ | with_reducible refine SW.ret ?_ | with_reducible refine SW.go MM ?_ | refine SW.goDrawF MM (by rfl) (by kernel_rfl) ?_); simp -implicitDefEqProofs only [go_sem, h8, h9, Nat.add_sub_cancel_left]) | (refine SW.cond (by simp -implicitDefEqProofs only [go_sem, h8, h9, Nat.add_sub_cancel_left]; rfl) (fun ht => ?_) (fun ht => ?_) <;> (try simp only [decide_eq_true_eq, decide_eq_false_iff_not, beq_iff_eq, bne_iff_ne, beq_eq_false_iff_ne, bne_eq_false_iff_eq, Bool.or_eq_true, Bool.and_eq_true, Bool.or_eq_false_iff, Bool.and_eq_false_imp, Bool.not_eq_true, Bool.not_eq_false, Bool.not_true, Bool.not_false, Bool.not_eq_true', Bool.not_eq_false', Bool.or_false, Bool.false_or, Bool.or_true, Bool.true_or, Bool.and_true, Bool.true_and, reduceCtorEq] at ht) <;> (try contradiction)))
      | ((with_reducible refine guardSplit (fun hg => ?_) (fun hg => ?_)) <;> (try simp only [Bool.not_true, Bool.not_false] at hg) <;> (have hc := hg) <;> simp -implicitDefEqProofs only [go_sem, hg, h8, h9, Nat.add_sub_cancel_left] <;> (try simp only [decide_eq_true_eq, decide_eq_false_iff_not, beq_iff_eq, bne_iff_ne, beq_eq_false_iff_ne, bne_eq_false_iff_eq, Bool.or_eq_true, Bool.and_eq_true, Bool.or_eq_false_iff, Bool.and_eq_false_imp, Bool.not_eq_true, Bool.not_eq_false, Bool.not_true, Bool.not_false, Bool.not_eq_true', Bool.not_eq_false', Bool.or_false, Bool.false_or, Bool.or_true, Bool.true_or, Bool.and_true, Bool.true_and, reduceCtorEq] at hc) <;> (try contradiction)))
    all_goals try omega
    any_goals solve | exact roomy_of (by simp only [List.length_take, List.length_drop]; omega) (by decide)
    any_goals solve
      | (rw [hV2 (by assumption), if_neg (by omega), if_neg (by omega)] <;> rfl)
  · have hwd : wide ty = 4 := by unfold wide; rw [if_pos (by assumption)]
    refine Stop.go (SW.weak (Weak.of [(0, 0)] (sls := [(0, .sl q (bA b)), (1, .ptr 0 []), (2, .v (.int .i64 p)), (8, .v (.int .i64 (wide ty : Nat)))]) (bks := [(0, .var (.agg [.v (.int .i64 no), .v (.int .i64 ty), .v (.int .u64 (0 : Nat)), .osl 1 []]))]) (ep := 64) (by rfl) (by simp -implicitDefEqProofs only [go_sem, hwd]; rfl) (by simp -implicitDefEqProofs only [go_sem]; rfl)) ?_)
    have h12 : wide ty ≤ 8 := by omega
    clear hwd
    have hV3 := hV3 (by assumption) (by assumption)
    generalize wide ty = w at *
    have h16 : IntKind.i64.wrap ((b.length : Int) - (p : Int)) = ((b.length - p : Nat) : Int) := by rw [IntWalk.i64_in _ (by omega)]; omega
    have h17 := i64_add (a := p) (b := w)
    repeat' (first
      | apply_assumption -exfalso -symm (transparency := .reducible) only [*]
      | (with_reducible refine And.intro ?_ ?_)
      | (refine drawOf ?_; kernel_rfl)
      | ((with_reducible refine SW.id ?_); first | with_reducible refine SW.seqK fun K hK => ?_ | with_reducible refine SW.block ?_ | with_reducible refine SW.scope ?_ | ((first | with_reducible refine SW.skip ?_ | with_reducible refine SW.exit ?_ | with_reducible refine SW.label ?_ | with_reducible refine SW.ret ?_ | with_reducible refine SW.go MM ?_ | refine SW.goDrawF MM (by rfl) (by kernel_rfl) ?_); simp -implicitDefEqProofs only [go_sem, h16]) | (refine SW.cond (by simp -implicitDefEqProofs only [go_sem, h16]; rfl) (fun ht => ?_) (fun ht => ?_) <;> (try simp only [decide_eq_true_eq, decide_eq_false_iff_not, beq_iff_eq, bne_iff_ne, beq_eq_false_iff_ne, bne_eq_false_iff_eq, Bool.or_eq_true, Bool.and_eq_true, Bool.or_eq_false_iff, Bool.and_eq_false_imp, Bool.not_eq_true, Bool.not_eq_false, Bool.not_true, Bool.not_false, Bool.not_eq_true', Bool.not_eq_false', Bool.or_false, Bool.false_or, Bool.or_true, Bool.true_or, Bool.and_true, Bool.true_and, reduceCtorEq] at ht) <;> (try contradiction)))
      | ((with_reducible refine guardSplit (fun hg => ?_) (fun hg => ?_)) <;> (try simp only [Bool.not_true, Bool.not_false] at hg) <;> (have hc := hg) <;> simp -implicitDefEqProofs only [go_sem, hg, h16] <;> (try simp only [decide_eq_true_eq, decide_eq_false_iff_not, beq_iff_eq, bne_iff_ne, beq_eq_false_iff_ne, bne_eq_false_iff_eq, Bool.or_eq_true, Bool.and_eq_true, Bool.or_eq_false_iff, Bool.and_eq_false_imp, Bool.not_eq_true, Bool.not_eq_false, Bool.not_true, Bool.not_false, Bool.not_eq_true', Bool.not_eq_false', Bool.or_false, Bool.false_or, Bool.or_true, Bool.true_or, Bool.and_true, Bool.true_and, reduceCtorEq] at hc) <;> (try contradiction)))
    any_goals solve | (rw [hV3, if_pos (by omega)] <;> rfl)
    refine SW.loop (α := { i : Nat // i ≤ w }) (fun i => St.of [(0, .sl q (bA b)), (1, .ptr 0 []), (2, .v (.int .i64 p)), (8, .v (.int .i64 w)), (77, .v (.int .i64 w)), (78, .v (.int .i64 i.1))]
      [(0, .var (.agg [.v (.int .i64 no), .v (.int .i64 ty), .v (.int .u64 (leV ((b.drop p).take i.1) : Nat)), .osl 1 []]))] 64) (fun i => w - i.1) ⟨0, by omega⟩ (Weak.of [(0, 0)] (by rfl) ?_ ?_) fun ⟨i, hi⟩ => ?_
    · simp -implicitDefEqProofs only [go_sem]
      rfl
    · simp -implicitDefEqProofs only [go_sem]
      rfl
    · have h5 := i64_one (a := i) (by omega)
      have h17 := h17 (by omega)
      have h18 := i64_add (a := p) (b := i) (by omega)
      have h19 : IntKind.i64.wrap (8 * (i : Int)) = ((8 * i : Nat) : Int) := by rw [IntWalk.i64_in _ (by omega)]; omega
      repeat' (first
        | apply_assumption -exfalso -symm (transparency := .reducible) only [*]
        | (with_reducible refine And.intro ?_ ?_)
        | (refine drawOf ?_; kernel_rfl)
        | ((with_reducible refine SW.id ?_); first | with_reducible refine SW.seqK fun K hK => ?_ | with_reducible refine SW.block ?_ | with_reducible refine SW.scope ?_ | ((first | with_reducible refine SW.skip ?_ | with_reducible refine SW.exit ?_ | with_reducible refine SW.label ?_ | with_reducible refine SW.ret ?_ | with_reducible refine SW.go MM ?_ | refine SW.goDrawF MM (by rfl) (by kernel_rfl) ?_); simp -implicitDefEqProofs only [go_sem, h5, h17, h18, h19]) | (refine SW.cond (by simp -implicitDefEqProofs only [go_sem, h5, h17, h18, h19]; rfl) (fun ht => ?_) (fun ht => ?_) <;> (try simp only [decide_eq_true_eq, decide_eq_false_iff_not, beq_iff_eq, bne_iff_ne, beq_eq_false_iff_ne, bne_eq_false_iff_eq, Bool.or_eq_true, Bool.and_eq_true, Bool.or_eq_false_iff, Bool.and_eq_false_imp, Bool.not_eq_true, Bool.not_eq_false, Bool.not_true, Bool.not_false, Bool.not_eq_true', Bool.not_eq_false', Bool.or_false, Bool.false_or, Bool.or_true, Bool.true_or, Bool.and_true, Bool.true_and, reduceCtorEq] at ht) <;> (try contradiction)))
        | ((with_reducible refine guardSplit (fun hg => ?_) (fun hg => ?_)) <;> (try simp only [Bool.not_true, Bool.not_false] at hg) <;> (have hc := hg) <;> simp -implicitDefEqProofs only [go_sem, hg, h5, h17, h18, h19] <;> (try simp only [decide_eq_true_eq, decide_eq_false_iff_not, beq_iff_eq, bne_iff_ne, beq_eq_false_iff_ne, bne_eq_false_iff_eq, Bool.or_eq_true, Bool.and_eq_true, Bool.or_eq_false_iff, Bool.and_eq_false_imp, Bool.not_eq_true, Bool.not_eq_false, Bool.not_true, Bool.not_false, Bool.not_eq_true', Bool.not_eq_false', Bool.or_false, Bool.false_or, Bool.or_true, Bool.true_or, Bool.and_true, Bool.true_and, reduceCtorEq] at hc) <;> (try contradiction)))
      all_goals try omega
      any_goals solve
        | (rw [hV3, if_neg (by omega)] <;> rfl)
        | (rw [hV3, if_neg (by omega), show i = w by omega] <;> rfl)
      · refine ⟨⟨i + 1, by omega⟩, Weak.of [(0, 0)] (by rfl) ?_ ?_, by dsimp only; omega⟩
        · simp -implicitDefEqProofs only [go_sem, h5]
        · simp -implicitDefEqProofs only [go_sem, leV_or b hB p i (by omega) (by omega)]
          rfl
  · have hwd : wide ty = 8 := by unfold wide; rw [if_neg (by assumption)]
    refine Stop.go (SW.weak (Weak.of [(0, 0)] (sls := [(0, .sl q (bA b)), (1, .ptr 0 []), (2, .v (.int .i64 p)), (8, .v (.int .i64 (wide ty : Nat)))]) (bks := [(0, .var (.agg [.v (.int .i64 no), .v (.int .i64 ty), .v (.int .u64 (0 : Nat)), .osl 1 []]))]) (ep := 64) (by rfl) (by simp -implicitDefEqProofs only [go_sem, hwd]; rfl) (by simp -implicitDefEqProofs only [go_sem]; rfl)) ?_)
    have h12 : wide ty ≤ 8 := by omega
    clear hwd
    have hV3 := hV3 (by assumption) (by assumption)
    generalize wide ty = w at *
    have h16 : IntKind.i64.wrap ((b.length : Int) - (p : Int)) = ((b.length - p : Nat) : Int) := by rw [IntWalk.i64_in _ (by omega)]; omega
    have h17 := i64_add (a := p) (b := w)
    repeat' (first
      | apply_assumption -exfalso -symm (transparency := .reducible) only [*]
      | (with_reducible refine And.intro ?_ ?_)
      | (refine drawOf ?_; kernel_rfl)
      | ((with_reducible refine SW.id ?_); first | with_reducible refine SW.seqK fun K hK => ?_ | with_reducible refine SW.block ?_ | with_reducible refine SW.scope ?_ | ((first | with_reducible refine SW.skip ?_ | with_reducible refine SW.exit ?_ | with_reducible refine SW.label ?_ | with_reducible refine SW.ret ?_ | with_reducible refine SW.go MM ?_ | refine SW.goDrawF MM (by rfl) (by kernel_rfl) ?_); simp -implicitDefEqProofs only [go_sem, h16]) | (refine SW.cond (by simp -implicitDefEqProofs only [go_sem, h16]; rfl) (fun ht => ?_) (fun ht => ?_) <;> (try simp only [decide_eq_true_eq, decide_eq_false_iff_not, beq_iff_eq, bne_iff_ne, beq_eq_false_iff_ne, bne_eq_false_iff_eq, Bool.or_eq_true, Bool.and_eq_true, Bool.or_eq_false_iff, Bool.and_eq_false_imp, Bool.not_eq_true, Bool.not_eq_false, Bool.not_true, Bool.not_false, Bool.not_eq_true', Bool.not_eq_false', Bool.or_false, Bool.false_or, Bool.or_true, Bool.true_or, Bool.and_true, Bool.true_and, reduceCtorEq] at ht) <;> (try contradiction)))
      | ((with_reducible refine guardSplit (fun hg => ?_) (fun hg => ?_)) <;> (try simp only [Bool.not_true, Bool.not_false] at hg) <;> (have hc := hg) <;> simp -implicitDefEqProofs only [go_sem, hg, h16] <;> (try simp only [decide_eq_true_eq, decide_eq_false_iff_not, beq_iff_eq, bne_iff_ne, beq_eq_false_iff_ne, bne_eq_false_iff_eq, Bool.or_eq_true, Bool.and_eq_true, Bool.or_eq_false_iff, Bool.and_eq_false_imp, Bool.not_eq_true, Bool.not_eq_false, Bool.not_true, Bool.not_false, Bool.not_eq_true', Bool.not_eq_false', Bool.or_false, Bool.false_or, Bool.or_true, Bool.true_or, Bool.and_true, Bool.true_and, reduceCtorEq] at hc) <;> (try contradiction)))
    any_goals solve | (rw [hV3, if_pos (by omega)] <;> rfl)
    refine SW.loop (α := { i : Nat // i ≤ w }) (fun i => St.of [(0, .sl q (bA b)), (1, .ptr 0 []), (2, .v (.int .i64 p)), (8, .v (.int .i64 w)), (77, .v (.int .i64 w)), (78, .v (.int .i64 i.1))]
      [(0, .var (.agg [.v (.int .i64 no), .v (.int .i64 ty), .v (.int .u64 (leV ((b.drop p).take i.1) : Nat)), .osl 1 []]))] 64) (fun i => w - i.1) ⟨0, by omega⟩ (Weak.of [(0, 0)] (by rfl) ?_ ?_) fun ⟨i, hi⟩ => ?_
    · simp -implicitDefEqProofs only [go_sem]
      rfl
    · simp -implicitDefEqProofs only [go_sem]
      rfl
    · have h5 := i64_one (a := i) (by omega)
      have h17 := h17 (by omega)
      have h18 := i64_add (a := p) (b := i) (by omega)
      have h19 : IntKind.i64.wrap (8 * (i : Int)) = ((8 * i : Nat) : Int) := by rw [IntWalk.i64_in _ (by omega)]; omega
      repeat' (first
        | apply_assumption -exfalso -symm (transparency := .reducible) only [*]
        | (with_reducible refine And.intro ?_ ?_)
        | (refine drawOf ?_; kernel_rfl)
        | ((with_reducible refine SW.id ?_); first | with_reducible refine SW.seqK fun K hK => ?_ | with_reducible refine SW.block ?_ | with_reducible refine SW.scope ?_ | ((first | with_reducible refine SW.skip ?_ | with_reducible refine SW.exit ?_ | with_reducible refine SW.label ?_ | with_reducible refine SW.ret ?_ | with_reducible refine SW.go MM ?_ | refine SW.goDrawF MM (by rfl) (by kernel_rfl) ?_); simp -implicitDefEqProofs only [go_sem, h5, h17, h18, h19]) | (refine SW.cond (by simp -implicitDefEqProofs only [go_sem, h5, h17, h18, h19]; rfl) (fun ht => ?_) (fun ht => ?_) <;> (try simp only [decide_eq_true_eq, decide_eq_false_iff_not, beq_iff_eq, bne_iff_ne, beq_eq_false_iff_ne, bne_eq_false_iff_eq, Bool.or_eq_true, Bool.and_eq_true, Bool.or_eq_false_iff, Bool.and_eq_false_imp, Bool.not_eq_true, Bool.not_eq_false, Bool.not_true, Bool.not_false, Bool.not_eq_true', Bool.not_eq_false', Bool.or_false, Bool.false_or, Bool.or_true, Bool.true_or, Bool.and_true, Bool.true_and, reduceCtorEq] at ht) <;> (try contradiction)))
        | ((with_reducible refine guardSplit (fun hg => ?_) (fun hg => ?_)) <;> (try simp only [Bool.not_true, Bool.not_false] at hg) <;> (have hc := hg) <;> simp -implicitDefEqProofs only [go_sem, hg, h5, h17, h18, h19] <;> (try simp only [decide_eq_true_eq, decide_eq_false_iff_not, beq_iff_eq, bne_iff_ne, beq_eq_false_iff_ne, bne_eq_false_iff_eq, Bool.or_eq_true, Bool.and_eq_true, Bool.or_eq_false_iff, Bool.and_eq_false_imp, Bool.not_eq_true, Bool.not_eq_false, Bool.not_true, Bool.not_false, Bool.not_eq_true', Bool.not_eq_false', Bool.or_false, Bool.false_or, Bool.or_true, Bool.true_or, Bool.and_true, Bool.true_and, reduceCtorEq] at hc) <;> (try contradiction)))
      all_goals try omega
      any_goals solve
        | (rw [hV3, if_neg (by omega)] <;> rfl)
        | (rw [hV3, if_neg (by omega), show i = w by omega] <;> rfl)
      · refine ⟨⟨i + 1, by omega⟩, Weak.of [(0, 0)] (by rfl) ?_ ?_, by dsimp only; omega⟩
        · simp -implicitDefEqProofs only [go_sem, h5]
        · simp -implicitDefEqProofs only [go_sem, leV_or b hB p i (by omega) (by omega)]
          rfl
end Go.PA
