/- WireDecodes: Decode is what the reference says; nothing that it hands out shares memory. -/
import Derived.Test.YtmacfbboiippoaaW31
import Derived.Test.YtmacfbboiippoaaW32
namespace Go.PA
open Go.Proofs
set_option linter.unusedSimpArgs false
set_option linter.unusedVariables false
set_option maxRecDepth 100000
set_option maxHeartbeats 4000000
attribute [local go_sem] MM getP setP takesW
attribute [-go_sem] takeA

theorem getR_midP {β : Type} {s i : Nat} {p : List PS} {pre post : List A} {X : A} (hi : pre.length = i) {bk : Nat → Option Blk} {k : A → RM β} {K : β → List Nat → Prop} {acc : List Nat} :
    ((getR (pre ++ X :: post) s (.idx i s :: p)).bind k).wpA bk K acc = ((getP X p).bind k).wpA bk K acc := by
  subst hi
  simp [getR, RM.bind, RM.wpA]
theorem getR_fT {β : Type} {p : Bool} {m : List Fld} {i : Nat} {ps : List PS} {bk : Nat → Option Blk} {k : A → RM β} {K : β → List Nat → Prop} {acc : List Nat} :
    ((getR (m.map (fT p)) 4 (.idx i 4 :: ps)).bind k).wpA bk K acc = (i < m.length ∧ ((getP (fT p (m.getD i default)) ps).bind k).wpA bk K acc) := by
  simp only [getR, if_true, RM.bind, RM.wpA, List.length_map, eq_iff_iff]
  constructor
  · intro ⟨h1, h2⟩
    rw [getD_map h1] at h2
    exact ⟨h1, h2⟩
  · intro ⟨h1, h2⟩
    rw [getD_map h1]
    exact ⟨h1, h2⟩
/-- A field whose data is elsewhere. -/
def fX (f : Fld) (x : A) : A := .agg [.v (.int .i64 f.no), .v (.int .i64 f.ty), .v (.int .u64 f.num), x]
theorem rens_fO {π : Nat → Option Nat} : ∀ l : List Fld, rens π (l.map fO) = some (l.map fO)
  | [] => rfl
  | x :: l => by simp only [List.map_cons, rens, rens_fO l]; rfl
theorem rens_midF {π : Nat → Option Nat} {x y : A} (hx : ren π x = some y) (post : List Fld) : ∀ pre : List Fld, rens π (pre.map fO ++ x :: post.map fO) = some (pre.map fO ++ y :: post.map fO)
  | [] => by simp only [List.map_nil, List.nil_append, rens, hx, rens_fO]
  | z :: pre => by simp only [List.map_cons, List.cons_append, rens, rens_midF hx post pre]; rfl
theorem fO_set {m : List Fld} {i : Nat} {X : List Nat} (h : i < m.length) : (m.take i).map fO ++ .agg [.v (.int .i64 (m.getD i default).no), .v (.int .i64 (m.getD i default).ty), .v (.int .u64 (m.getD i default).num), .osl 1 (bA X)] :: (m.drop (i + 1)).map fO = (m.set i { m.getD i default with data := X }).map fO := by
  rw [set_mid h, List.map_append, List.map_cons]
  rfl
def flens (m : List Fld) : List Nat := m.map fun f => f.data.length
theorem flens_lt {l m : List Fld} {M : Nat} (hm : flens m = flens l) (hl : ∀ x ∈ l, x.data.length < M + 1) (i : Nat) : (m.getD i default).data.length < M + 1 := by
  rw [List.getD_eq_getElem?_getD]
  cases h : m[i]? with
  | none => show (default : Fld).data.length < M + 1; exact Nat.succ_pos M
  | some f =>
    have h1 : f.data.length ∈ flens l := hm ▸ List.mem_map.2 ⟨f, List.mem_of_getElem? h, rfl⟩
    obtain ⟨y, hy, h2⟩ := List.mem_map.1 h1
    have := hl y hy
    simp only [Option.getD_some]
    omega
theorem fgetD_set {m : List Fld} {i k : Nat} {X : Fld} (h : i < m.length) : (m.set i X).getD k default = if k = i then X else m.getD k default := by
  simp only [List.getD_eq_getElem?_getD, List.getElem?_set]
  split
  · rename_i h1
    subst h1
    simp [h]
  · rename_i h1
    rw [if_neg fun h => h1 h.symm]
theorem flens_set {l m : List Fld} {i : Nat} {Y : Fld} (hm : flens m = flens l) (hil : i < m.length) (hY : Y.data.length = (m.getD i default).data.length) : flens (m.set i Y) = flens l := by
  rw [← hm, flens, flens, List.map_set]
  refine List.ext_getElem (by simp) fun k k1 k2 => ?_
  simp only [List.getElem_set, List.getElem_map]
  split
  · rename_i hik
    subst hik
    rw [hY, List.getD_eq_getElem?_getD, List.getElem?_eq_getElem hil]
    rfl
  · rfl
theorem decD_len {b : List Nat} (h8 : ∀ x ∈ b, x < 256) : (decD b).1.length ≤ 64 ∧ ∀ f ∈ (decD b).1, f.data.length ≤ b.length := by
  by_cases h : (decD b).2.2 = 0
  · obtain ⟨_, h2, h3⟩ := decD_inv h8 h
    exact ⟨h2, fun f hf => (h3 f hf).2⟩
  · unfold decD at h ⊢
    split at h
    · rename_i h2
      rw [if_pos h2]
      simp
    · exact absurd rfl h

theorem decodes_FS (b : List Nat) (hb : b.length < 2 ^ 30) (h8 : ∀ x ∈ b, x < 256) : FS Try.prog 11 [.sl true (bA b)] (.ret [.v (.bool true)] [none]) := by
  refine FS_of_SW (kb := [false]) Try.func11 rfl rfl (by rfl) ?_
  refine SW.weak (Weak.of [] (sls := [(0, .sl true (bA b))]) (bks := []) (ep := 64) (by rfl) ⟨rfl, trivial⟩ trivial) ?_
  obtain ⟨l1, l2⟩ := decD_len h8
  have h1 := lent_FS true b (by omega)
  have h2 := decode_FS true b (by omega) h8
  have h3 := refDecode_FS true b (by omega) h8
  have h5 := kept_FS true true b (by omega)
  obtain ⟨⟨l, pl, er⟩, hd⟩ : ∃ r, decD b = r := ⟨_, rfl⟩
  rw [hd] at l1 l2 h2 h3
  dsimp only at l1 l2 h2 h3
  have h4 := alike_FS false false false false l l (by omega) (by omega) (fun x h => by have := l2 x h; omega) (fun x h => by have := l2 x h; omega)
  simp only [decide_true] at h4
  have e : ∀ x : Int, (x == x) = true := fun x => by simp
  have e2 : ∀ x : Int, (x != x) = false := fun x => by simp
  repeat' (first
    | apply_assumption -exfalso -symm (transparency := .reducible) only [*]
    | with_reducible refine SW.stopI 7 ?_
    | (refine ⟨_, _, h1, ?_⟩ <;> (try simp -implicitDefEqProofs only [go_sem, e, e2]))
    | (refine ⟨_, _, h2, ?_⟩ <;> (try simp -implicitDefEqProofs only [go_sem, e, e2]))
    | (refine ⟨_, _, h3, ?_⟩ <;> (try simp -implicitDefEqProofs only [go_sem, e, e2]))
    | (refine ⟨_, _, h4, ?_⟩ <;> (try simp -implicitDefEqProofs only [go_sem, e, e2]))
    | (refine ⟨_, _, h5, ?_⟩ <;> (try simp -implicitDefEqProofs only [go_sem, e, e2]))
    | (with_reducible refine And.intro ?_ ?_)
    | (refine drawOf ?_; kernel_rfl)
    | ((with_reducible refine opsF_id ?_); simp -implicitDefEqProofs only [go_sem, e, e2])
    | ((with_reducible refine SW.id ?_); first | with_reducible refine SW.seqK fun K hK => ?_ | with_reducible refine SW.block ?_ | with_reducible refine SW.scope ?_ | ((first | with_reducible refine SW.skip ?_ | with_reducible refine SW.exit ?_ | with_reducible refine SW.label ?_ | with_reducible refine SW.ret ?_ | with_reducible refine SW.go MM ?_ | refine SW.goDrawF MM (by rfl) (by kernel_rfl) ?_); simp -implicitDefEqProofs only [go_sem, e, e2]) | (refine SW.cond (by simp -implicitDefEqProofs only [go_sem, e, e2]; rfl) (fun ht => ?_) (fun ht => ?_) <;> (try simp only [decide_eq_true_eq, decide_eq_false_iff_not, beq_iff_eq, bne_iff_ne, beq_eq_false_iff_ne, bne_eq_false_iff_eq, Bool.or_eq_true, Bool.and_eq_true, Bool.or_eq_false_iff, Bool.and_eq_false_imp, Bool.not_eq_true, Bool.not_eq_false, Bool.not_true, Bool.not_false, Bool.not_eq_true', Bool.not_eq_false', Bool.or_false, Bool.false_or, Bool.or_true, Bool.true_or, Bool.and_true, Bool.true_and, reduceCtorEq] at ht) <;> (try contradiction)))
    | ((with_reducible refine guardSplit (fun hg => ?_) (fun hg => ?_)) <;> (try simp only [Bool.not_true, Bool.not_false] at hg) <;> (have hc := hg) <;> simp -implicitDefEqProofs only [go_sem, hg, e, e2] <;> (try simp only [decide_eq_true_eq, decide_eq_false_iff_not, beq_iff_eq, bne_iff_ne, beq_eq_false_iff_ne, bne_eq_false_iff_eq, Bool.or_eq_true, Bool.and_eq_true, Bool.or_eq_false_iff, Bool.and_eq_false_imp, Bool.not_eq_true, Bool.not_eq_false, Bool.not_true, Bool.not_false, Bool.not_eq_true', Bool.not_eq_false', Bool.or_false, Bool.false_or, Bool.or_true, Bool.true_or, Bool.and_true, Bool.true_and, reduceCtorEq] at hc) <;> (try contradiction)))
  refine Stop.go ?_
  refine SW.cutS (γ := { l' : List Fld // flens l' = flens l }) (fun x => St.of [(0, .sl true (bA b)), (4, .sl true (bA (b ++ room 80))), (5, .ref 0 4 0 l.length false), (8, .ref 2 4 0 l.length false), (11, .ref 3 4 0 l.length false)] [(0, .row 4 (x.1.map fO)), (2, .row 4 (l.map fO)), (3, .row 4 (l.map fO))] 64) (fun K hK => ?_) fun ⟨m, hm⟩ => ?_
  · repeat' (first
      | apply_assumption -exfalso -symm (transparency := .reducible) only [*]
      | (with_reducible refine And.intro ?_ ?_)
      | (refine drawOf ?_; kernel_rfl)
      | ((with_reducible refine opsF_id ?_); simp -implicitDefEqProofs only [go_sem])
      | ((with_reducible refine SW.id ?_); first | with_reducible refine SW.seqK fun K hK => ?_ | with_reducible refine SW.block ?_ | with_reducible refine SW.scope ?_ | ((first | with_reducible refine SW.skip ?_ | with_reducible refine SW.exit ?_ | with_reducible refine SW.label ?_ | with_reducible refine SW.ret ?_ | with_reducible refine SW.go MM ?_ | refine SW.goDrawF MM (by rfl) (by kernel_rfl) ?_); simp -implicitDefEqProofs only [go_sem]) | (refine SW.cond (by simp -implicitDefEqProofs only [go_sem]; rfl) (fun ht => ?_) (fun ht => ?_) <;> (try simp only [decide_eq_true_eq, decide_eq_false_iff_not, beq_iff_eq, bne_iff_ne, beq_eq_false_iff_ne, bne_eq_false_iff_eq, Bool.or_eq_true, Bool.and_eq_true, Bool.or_eq_false_iff, Bool.and_eq_false_imp, Bool.not_eq_true, Bool.not_eq_false, Bool.not_true, Bool.not_false, Bool.not_eq_true', Bool.not_eq_false', Bool.or_false, Bool.false_or, Bool.or_true, Bool.true_or, Bool.and_true, Bool.true_and, reduceCtorEq] at ht) <;> (try contradiction)))
      | ((with_reducible refine guardSplit (fun hg => ?_) (fun hg => ?_)) <;> (try simp only [Bool.not_true, Bool.not_false] at hg) <;> (have hc := hg) <;> simp -implicitDefEqProofs only [go_sem, hg] <;> (try simp only [decide_eq_true_eq, decide_eq_false_iff_not, beq_iff_eq, bne_iff_ne, beq_eq_false_iff_ne, bne_eq_false_iff_eq, Bool.or_eq_true, Bool.and_eq_true, Bool.or_eq_false_iff, Bool.and_eq_false_imp, Bool.not_eq_true, Bool.not_eq_false, Bool.not_true, Bool.not_false, Bool.not_eq_true', Bool.not_eq_false', Bool.or_false, Bool.false_or, Bool.or_true, Bool.true_or, Bool.and_true, Bool.true_and, reduceCtorEq] at hc) <;> (try contradiction)))
    refine SW.loop (α := { x : List Fld × Nat // flens x.1 = flens l ∧ x.2 ≤ l.length }) (fun x => St.of [(0, .sl true (bA b)), (4, .sl true (bA (b ++ room 80))), (5, .ref 0 4 0 l.length false), (8, .ref 2 4 0 l.length false), (11, .ref 3 4 0 l.length false), (14, .v (.int .i64 x.1.2))] [(0, .row 4 (x.1.1.map fO)), (2, .row 4 (l.map fO)), (3, .row 4 (l.map fO))] 64) (fun x => l.length - x.1.2)
      ⟨(l, 0), rfl, by dsimp only; omega⟩ (Weak.of [(640, 0), (1216, 2), (1792, 3)] (by rfl) ?_ ?_) fun ⟨⟨m, i⟩, hm, hi⟩ => ?_
    · simp -implicitDefEqProofs only [go_sem]
      rfl
    · simp -implicitDefEqProofs only [go_sem]
    · dsimp only at hm hi
      have hml : m.length = l.length := by simpa [flens] using congrArg List.length hm
      have h5 := i64_one (a := i) (by omega)
      repeat' (first
        | apply_assumption -exfalso -symm (transparency := .reducible) only [*]
        | (with_reducible refine And.intro ?_ ?_)
        | (refine drawOf ?_; kernel_rfl)
        | ((with_reducible refine opsF_id ?_); simp -implicitDefEqProofs only [go_sem, h5])
        | ((with_reducible refine SW.id ?_); first | with_reducible refine SW.seqK fun K hK => ?_ | with_reducible refine SW.block ?_ | with_reducible refine SW.scope ?_ | ((first | with_reducible refine SW.skip ?_ | with_reducible refine SW.exit ?_ | with_reducible refine SW.label ?_ | with_reducible refine SW.ret ?_ | with_reducible refine SW.go MM ?_ | refine SW.goDrawF MM (by rfl) (by kernel_rfl) ?_); simp -implicitDefEqProofs only [go_sem, h5]) | (refine SW.cond (by simp -implicitDefEqProofs only [go_sem, h5]; rfl) (fun ht => ?_) (fun ht => ?_) <;> (try simp only [decide_eq_true_eq, decide_eq_false_iff_not, beq_iff_eq, bne_iff_ne, beq_eq_false_iff_ne, bne_eq_false_iff_eq, Bool.or_eq_true, Bool.and_eq_true, Bool.or_eq_false_iff, Bool.and_eq_false_imp, Bool.not_eq_true, Bool.not_eq_false, Bool.not_true, Bool.not_false, Bool.not_eq_true', Bool.not_eq_false', Bool.or_false, Bool.false_or, Bool.or_true, Bool.true_or, Bool.and_true, Bool.true_and, reduceCtorEq] at ht) <;> (try contradiction)))
        | ((with_reducible refine guardSplit (fun hg => ?_) (fun hg => ?_)) <;> (try simp only [Bool.not_true, Bool.not_false] at hg) <;> (have hc := hg) <;> simp -implicitDefEqProofs only [go_sem, hg, h5] <;> (try simp only [decide_eq_true_eq, decide_eq_false_iff_not, beq_iff_eq, bne_iff_ne, beq_eq_false_iff_ne, bne_eq_false_iff_eq, Bool.or_eq_true, Bool.and_eq_true, Bool.or_eq_false_iff, Bool.and_eq_false_imp, Bool.not_eq_true, Bool.not_eq_false, Bool.not_true, Bool.not_false, Bool.not_eq_true', Bool.not_eq_false', Bool.or_false, Bool.false_or, Bool.or_true, Bool.true_or, Bool.and_true, Bool.true_and, reduceCtorEq] at hc) <;> (try contradiction)))
      · have hil : i < m.length := by omega
        obtain ⟨f, hfe⟩ : ∃ f, m.getD i default = f := ⟨_, rfl⟩
        have hnl := flens_lt hm (fun x hx => Nat.lt_of_le_of_lt (l2 x hx) hb) i
        rw [hfe] at hnl
        obtain ⟨n, hn⟩ : ∃ n, f.data.length = n := ⟨_, rfl⟩
        refine SW.loop (α := { x : List Nat × Nat // x.1.length = n ∧ x.2 ≤ n }) (fun x => St.of [(0, .sl true (bA b)), (4, .sl true (bA (b ++ room 80))), (5, .ref 0 4 0 l.length false), (8, .ref 2 4 0 l.length false), (11, .ref 3 4 0 l.length false), (14, .v (.int .i64 i)), (15, .v (.int .i64 x.1.2))]
          [(0, .row 4 ((m.take i).map fO ++ .agg [.v (.int .i64 f.no), .v (.int .i64 f.ty), .v (.int .u64 f.num), .ref 1 1 0 n false] :: (m.drop (i + 1)).map fO)), (2, .row 4 (l.map fO)), (3, .row 4 (l.map fO)), (1, .row 1 (bA x.1.1))] 64) (fun x => n - x.1.2)
          ⟨(f.data, 0), hn, by dsimp only; omega⟩ (Weak.focus1 (b := fun x => .row 4 ((m.take i).map fO ++ .agg ([.v (.int .i64 f.no), .v (.int .i64 f.ty), .v (.int .u64 f.num)] ++ x :: []) :: (m.drop (i + 1)).map fO)) (x := .osl 1 (bA f.data)) 0 5000 5001 (Hole.agg (Hole.row 4 _ _) _ _) (by simp -implicitDefEqProofs only [go_sem]; rw [mid_map (f := fO) default hil, hfe]; rfl) (by simp [A.closed, bA_closeds]) rfl (by simp -implicitDefEqProofs only [go_sem]) (by simp -implicitDefEqProofs only [go_sem]) rfl (Weak.of [(0, 0), (2, 2), (3, 3), (5000, 1)] (by rfl) ?_ ?_)) fun ⟨⟨X, j⟩, hX, hj⟩ => ?_
        · simp -implicitDefEqProofs only [go_sem]
          rfl
        · simp -implicitDefEqProofs only [go_sem]
          rw [rens_midF (y := .agg [.v (.int .i64 f.no), .v (.int .i64 f.ty), .v (.int .u64 f.num), .ref 1 1 0 n false]) (by rw [hn]; rfl)]
          rfl
        · dsimp only at hX hj
          have h6 := i64_one (a := j) (by omega)
          have hpl : ((m.take i).map fO).length = i := by simp; omega
          have h7 : IntKind.i64.wrap (7 * (i : Int)) = ((7 * i : Nat) : Int) := by rw [IntWalk.i64_in _ (by omega)]; omega
          have h8 : IntKind.u8.wrap ((7 * i : Nat) : Int) = ((7 * i % 256 : Nat) : Int) := by rw [IntKind.wrap_u8]; omega
          repeat' (first
            | apply_assumption -exfalso -symm (transparency := .reducible) only [*]
            | (with_reducible refine And.intro ?_ ?_)
            | (refine drawOf ?_; kernel_rfl)
            | ((with_reducible refine opsF_id ?_); simp -implicitDefEqProofs only [go_sem, h6, h7, h8, getR_midP hpl])
            | ((with_reducible refine SW.id ?_); first | with_reducible refine SW.seqK fun K hK => ?_ | with_reducible refine SW.block ?_ | with_reducible refine SW.scope ?_ | ((first | with_reducible refine SW.skip ?_ | with_reducible refine SW.exit ?_ | with_reducible refine SW.label ?_ | with_reducible refine SW.ret ?_ | with_reducible refine SW.go MM ?_ | refine SW.goDrawF MM (by rfl) (by kernel_rfl) ?_); simp -implicitDefEqProofs only [go_sem, h6, h7, h8, getR_midP hpl]) | (refine SW.cond (by simp -implicitDefEqProofs only [go_sem, h6, h7, h8, getR_midP hpl]; rfl) (fun ht => ?_) (fun ht => ?_) <;> (try simp only [decide_eq_true_eq, decide_eq_false_iff_not, beq_iff_eq, bne_iff_ne, beq_eq_false_iff_ne, bne_eq_false_iff_eq, Bool.or_eq_true, Bool.and_eq_true, Bool.or_eq_false_iff, Bool.and_eq_false_imp, Bool.not_eq_true, Bool.not_eq_false, Bool.not_true, Bool.not_false, Bool.not_eq_true', Bool.not_eq_false', Bool.or_false, Bool.false_or, Bool.or_true, Bool.true_or, Bool.and_true, Bool.true_and, reduceCtorEq] at ht) <;> (try contradiction)))
            | ((with_reducible refine guardSplit (fun hg => ?_) (fun hg => ?_)) <;> (try simp only [Bool.not_true, Bool.not_false] at hg) <;> (have hc := hg) <;> simp -implicitDefEqProofs only [go_sem, hg, h6, h7, h8, getR_midP hpl] <;> (try simp only [decide_eq_true_eq, decide_eq_false_iff_not, beq_iff_eq, bne_iff_ne, beq_eq_false_iff_ne, bne_eq_false_iff_eq, Bool.or_eq_true, Bool.and_eq_true, Bool.or_eq_false_iff, Bool.and_eq_false_imp, Bool.not_eq_true, Bool.not_eq_false, Bool.not_true, Bool.not_false, Bool.not_eq_true', Bool.not_eq_false', Bool.or_false, Bool.false_or, Bool.or_true, Bool.true_or, Bool.and_true, Bool.true_and, reduceCtorEq] at hc) <;> (try contradiction)))
          all_goals first | omega | skip
          · refine ⟨⟨(X.set j (7 * i % 256), j + 1), by simpa using hX, by dsimp only; omega⟩, Weak.of [(0, 0), (2, 2), (3, 3), (1, 1)] (by rfl) ?_ ?_, by dsimp only; omega⟩
            · simp -implicitDefEqProofs only [go_sem]
            · simp -implicitDefEqProofs only [go_sem]
              rw [rens_midF (y := .agg [.v (.int .i64 f.no), .v (.int .i64 f.ty), .v (.int .u64 f.num), .ref 1 1 0 n false]) rfl]
              rfl
          · subst hX
            have hse := fO_set (X := X) hil
            rw [hfe] at hse
            refine ⟨⟨(m.set i { f with data := X }, i + 1), flens_set hm hil (by rw [hfe, hn]), by dsimp only; omega⟩, Weak.absorbW (d := 0) (s := 4) (pre := (m.take i).map fO) (y := .agg [.v (.int .i64 f.no), .v (.int .i64 f.ty), .v (.int .u64 f.num), .ref 1 1 0 X.length false]) (post := (m.drop (i + 1)).map fO) (by simp -implicitDefEqProofs only [go_sem]) ?_, by dsimp only; omega⟩
            simp -implicitDefEqProofs only [go_sem]
            rw [hse]
            refine Weak.of [(0, 0), (2, 2), (3, 3)] (by rfl) ?_ ?_
            · simp -implicitDefEqProofs only [go_sem, h5]
            · simp -implicitDefEqProofs only [go_sem]
      · refine ⟨⟨m, hm⟩, Weak.of [(0, 0), (2, 2), (3, 3)] (by rfl) ?_ ?_⟩
        · simp -implicitDefEqProofs only [go_sem]
        · simp -implicitDefEqProofs only [go_sem]
  · have hml : m.length = l.length := by simpa [flens] using congrArg List.length hm
    refine SW.cutS (γ := { l' : List Fld // flens l' = flens l ∧ ∀ k, k < l.length → (l'.getD k default).data = List.replicate (l'.getD k default).data.length (7 * k % 256) }) (fun x => St.of [(0, .sl true (bA b)), (4, .sl true (bA (b ++ room 80))), (5, .ref 0 4 0 l.length false), (8, .ref 2 4 0 l.length false), (11, .ref 3 4 0 l.length false)] [(0, .froz 4 (x.1.map (fT true))), (2, .row 4 (l.map fO)), (3, .row 4 (l.map fO))] 64) (fun K hK => ?_) fun ⟨m2, hm2, hr2⟩ => ?_
    · repeat' (first
        | apply_assumption -exfalso -symm (transparency := .reducible) only [*]
        | (with_reducible refine And.intro ?_ ?_)
        | (refine drawOf ?_; kernel_rfl)
        | ((with_reducible refine opsF_id ?_); simp -implicitDefEqProofs only [go_sem])
        | ((with_reducible refine SW.id ?_); first | with_reducible refine SW.seqK fun K hK => ?_ | with_reducible refine SW.block ?_ | with_reducible refine SW.scope ?_ | ((first | with_reducible refine SW.skip ?_ | with_reducible refine SW.exit ?_ | with_reducible refine SW.label ?_ | with_reducible refine SW.ret ?_ | with_reducible refine SW.go MM ?_ | refine SW.goDrawF MM (by rfl) (by kernel_rfl) ?_); simp -implicitDefEqProofs only [go_sem]) | (refine SW.cond (by simp -implicitDefEqProofs only [go_sem]; rfl) (fun ht => ?_) (fun ht => ?_) <;> (try simp only [decide_eq_true_eq, decide_eq_false_iff_not, beq_iff_eq, bne_iff_ne, beq_eq_false_iff_ne, bne_eq_false_iff_eq, Bool.or_eq_true, Bool.and_eq_true, Bool.or_eq_false_iff, Bool.and_eq_false_imp, Bool.not_eq_true, Bool.not_eq_false, Bool.not_true, Bool.not_false, Bool.not_eq_true', Bool.not_eq_false', Bool.or_false, Bool.false_or, Bool.or_true, Bool.true_or, Bool.and_true, Bool.true_and, reduceCtorEq] at ht) <;> (try contradiction)))
        | ((with_reducible refine guardSplit (fun hg => ?_) (fun hg => ?_)) <;> (try simp only [Bool.not_true, Bool.not_false] at hg) <;> (have hc := hg) <;> simp -implicitDefEqProofs only [go_sem, hg] <;> (try simp only [decide_eq_true_eq, decide_eq_false_iff_not, beq_iff_eq, bne_iff_ne, beq_eq_false_iff_ne, bne_eq_false_iff_eq, Bool.or_eq_true, Bool.and_eq_true, Bool.or_eq_false_iff, Bool.and_eq_false_imp, Bool.not_eq_true, Bool.not_eq_false, Bool.not_true, Bool.not_false, Bool.not_eq_true', Bool.not_eq_false', Bool.or_false, Bool.false_or, Bool.or_true, Bool.true_or, Bool.and_true, Bool.true_and, reduceCtorEq] at hc) <;> (try contradiction)))
      refine SW.loop (α := { x : List Fld × Nat // flens x.1 = flens l ∧ x.2 ≤ l.length ∧ ∀ k, k < x.2 → (x.1.getD k default).data = List.replicate (x.1.getD k default).data.length (7 * k % 256) }) (fun x => St.of [(0, .sl true (bA b)), (4, .sl true (bA (b ++ room 80))), (5, .ref 0 4 0 l.length false), (8, .ref 2 4 0 l.length false), (11, .ref 3 4 0 l.length false), (16, .v (.int .i64 x.1.2))] [(0, .row 4 (x.1.1.map fO)), (2, .row 4 (l.map fO)), (3, .row 4 (l.map fO))] 64) (fun x => l.length - x.1.2)
        ⟨(m, 0), hm, by dsimp only; omega, fun k hk => absurd hk (by simp)⟩ (Weak.of [(0, 0), (2, 2), (3, 3)] (by rfl) ?_ ?_) fun ⟨⟨m, i⟩, hm, hi, hr⟩ => ?_
      · simp -implicitDefEqProofs only [go_sem]
        rfl
      · simp -implicitDefEqProofs only [go_sem]
      · dsimp only at hm hi hr
        have hml : m.length = l.length := by simpa [flens] using congrArg List.length hm
        have h5 := i64_one (a := i) (by omega)
        repeat' (first
          | apply_assumption -exfalso -symm (transparency := .reducible) only [*]
          | with_reducible refine SW.stopB 5 ?_
          | (with_reducible refine And.intro ?_ ?_)
          | (refine drawOf ?_; kernel_rfl)
          | ((with_reducible refine opsF_id ?_); simp -implicitDefEqProofs only [go_sem, h5])
          | ((with_reducible refine SW.id ?_); first | with_reducible refine SW.seqK fun K hK => ?_ | with_reducible refine SW.block ?_ | with_reducible refine SW.scope ?_ | ((first | with_reducible refine SW.skip ?_ | with_reducible refine SW.exit ?_ | with_reducible refine SW.label ?_ | with_reducible refine SW.ret ?_ | with_reducible refine SW.go MM ?_ | refine SW.goDrawF MM (by rfl) (by kernel_rfl) ?_); simp -implicitDefEqProofs only [go_sem, h5]) | (refine SW.cond (by simp -implicitDefEqProofs only [go_sem, h5]; rfl) (fun ht => ?_) (fun ht => ?_) <;> (try simp only [decide_eq_true_eq, decide_eq_false_iff_not, beq_iff_eq, bne_iff_ne, beq_eq_false_iff_ne, bne_eq_false_iff_eq, Bool.or_eq_true, Bool.and_eq_true, Bool.or_eq_false_iff, Bool.and_eq_false_imp, Bool.not_eq_true, Bool.not_eq_false, Bool.not_true, Bool.not_false, Bool.not_eq_true', Bool.not_eq_false', Bool.or_false, Bool.false_or, Bool.or_true, Bool.true_or, Bool.and_true, Bool.true_and, reduceCtorEq] at ht) <;> (try contradiction)))
          | ((with_reducible refine guardSplit (fun hg => ?_) (fun hg => ?_)) <;> (try simp only [Bool.not_true, Bool.not_false] at hg) <;> (have hc := hg) <;> simp -implicitDefEqProofs only [go_sem, hg, h5] <;> (try simp only [decide_eq_true_eq, decide_eq_false_iff_not, beq_iff_eq, bne_iff_ne, beq_eq_false_iff_ne, bne_eq_false_iff_eq, Bool.or_eq_true, Bool.and_eq_true, Bool.or_eq_false_iff, Bool.and_eq_false_imp, Bool.not_eq_true, Bool.not_eq_false, Bool.not_true, Bool.not_false, Bool.not_eq_true', Bool.not_eq_false', Bool.or_false, Bool.false_or, Bool.or_true, Bool.true_or, Bool.and_true, Bool.true_and, reduceCtorEq] at hc) <;> (try contradiction)))
        · refine Stop.go ?_
          have hil : i < m.length := by omega
          obtain ⟨f, hfe⟩ : ∃ f, m.getD i default = f := ⟨_, rfl⟩
          have hnl := flens_lt hm (fun x hx => Nat.lt_of_le_of_lt (l2 x hx) hb) i
          rw [hfe] at hnl
          have hpl : ((m.take i).map fO).length = i := by simp; omega
          have h7 : IntKind.i64.wrap (7 * (i : Int)) = ((7 * i : Nat) : Int) := by rw [IntWalk.i64_in _ (by omega)]; omega
          have h8 : IntKind.u8.wrap ((7 * i : Nat) : Int) = ((7 * i % 256 : Nat) : Int) := by rw [IntKind.wrap_u8]; omega
          have hf := fullB_FS f.data (7 * i % 256) (by omega)
          refine SW.weak (st' := St.of [(0, .sl true (bA b)), (4, .sl true (bA (b ++ room 80))), (5, .ref 0 4 0 l.length false), (8, .ref 2 4 0 l.length false), (11, .ref 3 4 0 l.length false), (16, .v (.int .i64 i))] [(0, .row 4 ((m.take i).map fO ++ .agg [.v (.int .i64 f.no), .v (.int .i64 f.ty), .v (.int .u64 f.num), .ref 1 1 0 f.data.length false] :: (m.drop (i + 1)).map fO)), (2, .row 4 (l.map fO)), (3, .row 4 (l.map fO)), (1, .row 1 (bA f.data))] 64)
            (Weak.focus1 (b := fun x => .row 4 ((m.take i).map fO ++ .agg ([.v (.int .i64 f.no), .v (.int .i64 f.ty), .v (.int .u64 f.num)] ++ x :: []) :: (m.drop (i + 1)).map fO)) (x := .osl 1 (bA f.data)) 0 5000 5001 (Hole.agg (Hole.row 4 _ _) _ _) (by simp -implicitDefEqProofs only [go_sem]; rw [mid_map (f := fO) default hil, hfe]; rfl) (by simp [A.closed, bA_closeds]) rfl (by simp -implicitDefEqProofs only [go_sem]) (by simp -implicitDefEqProofs only [go_sem]) rfl (Weak.of [(0, 0), (2, 2), (3, 3), (5000, 1)] (by rfl) ?_ ?_)) ?_
          · simp -implicitDefEqProofs only [go_sem]
          · simp -implicitDefEqProofs only [go_sem]
            rw [rens_midF (y := .agg [.v (.int .i64 f.no), .v (.int .i64 f.ty), .v (.int .u64 f.num), .ref 1 1 0 f.data.length false]) rfl]
            rfl
          · repeat' (first
              | apply_assumption -exfalso -symm (transparency := .reducible) only [*]
              | (refine ⟨_, _, hf, ?_⟩ <;> (try simp -implicitDefEqProofs only [go_sem, h5, h7, h8, getR_midP hpl]))
              | (with_reducible refine And.intro ?_ ?_)
              | (refine drawOf ?_; kernel_rfl)
              | ((with_reducible refine opsF_id ?_); simp -implicitDefEqProofs only [go_sem, h5, h7, h8, getR_midP hpl])
              | ((with_reducible refine SW.id ?_); first | with_reducible refine SW.seqK fun K hK => ?_ | with_reducible refine SW.block ?_ | with_reducible refine SW.scope ?_ | ((first | with_reducible refine SW.skip ?_ | with_reducible refine SW.exit ?_ | with_reducible refine SW.label ?_ | with_reducible refine SW.ret ?_ | with_reducible refine SW.go MM ?_ | refine SW.goDrawF MM (by rfl) (by kernel_rfl) ?_); simp -implicitDefEqProofs only [go_sem, h5, h7, h8, getR_midP hpl]) | (refine SW.cond (by simp -implicitDefEqProofs only [go_sem, h5, h7, h8, getR_midP hpl]; rfl) (fun ht => ?_) (fun ht => ?_) <;> (try simp only [decide_eq_true_eq, decide_eq_false_iff_not, beq_iff_eq, bne_iff_ne, beq_eq_false_iff_ne, bne_eq_false_iff_eq, Bool.or_eq_true, Bool.and_eq_true, Bool.or_eq_false_iff, Bool.and_eq_false_imp, Bool.not_eq_true, Bool.not_eq_false, Bool.not_true, Bool.not_false, Bool.not_eq_true', Bool.not_eq_false', Bool.or_false, Bool.false_or, Bool.or_true, Bool.true_or, Bool.and_true, Bool.true_and, reduceCtorEq] at ht) <;> (try contradiction)))
              | ((with_reducible refine guardSplit (fun hg => ?_) (fun hg => ?_)) <;> (try simp only [Bool.not_true, Bool.not_false] at hg) <;> (have hc := hg) <;> simp -implicitDefEqProofs only [go_sem, hg, h5, h7, h8, getR_midP hpl] <;> (try simp only [decide_eq_true_eq, decide_eq_false_iff_not, beq_iff_eq, bne_iff_ne, beq_eq_false_iff_ne, bne_eq_false_iff_eq, Bool.or_eq_true, Bool.and_eq_true, Bool.or_eq_false_iff, Bool.and_eq_false_imp, Bool.not_eq_true, Bool.not_eq_false, Bool.not_true, Bool.not_false, Bool.not_eq_true', Bool.not_eq_false', Bool.or_false, Bool.false_or, Bool.or_true, Bool.true_or, Bool.and_true, Bool.true_and, reduceCtorEq] at hc) <;> (try contradiction)))
            all_goals first | omega | skip
            have hse := fO_set (X := List.replicate f.data.length (7 * i % 256)) hil
            rw [hfe] at hse
            refine ⟨⟨(m.set i { f with data := List.replicate f.data.length (7 * i % 256) }, i + 1), flens_set hm hil (by rw [hfe]; simp), by dsimp only; omega, fun k hk => ?_⟩, Weak.absorbW (d := 0) (s := 4) (pre := (m.take i).map fO) (y := .agg [.v (.int .i64 f.no), .v (.int .i64 f.ty), .v (.int .u64 f.num), .ref 1 1 0 f.data.length false]) (post := (m.drop (i + 1)).map fO) (by simp -implicitDefEqProofs only [go_sem]) ?_, by dsimp only; omega⟩
            · dsimp only at hk ⊢
              rw [fgetD_set hil]
              split
              · rename_i h1
                rw [h1]
                simp only [List.length_replicate]
              · exact hr k (by omega)
            · simp -implicitDefEqProofs only [go_sem, List.length_replicate, take_rep]
              rw [hse]
              refine Weak.of [(0, 0), (2, 2), (3, 3)] (by rfl) ?_ ?_
              · simp -implicitDefEqProofs only [go_sem, h5]
              · simp -implicitDefEqProofs only [go_sem]
        · refine ⟨⟨m, hm, fun k hk => hr k (by omega)⟩, (Weak.freezeAll (d := 0) (s := 4) (xs := m.map fO) (by simp -implicitDefEqProofs only [go_sem]) fO_frzOks fO_closeds fO_nobors).trans (Weak.of [(0, 0), (2, 2), (3, 3)] (by rfl) ?_ ?_)⟩
          · simp -implicitDefEqProofs only [go_sem]
          · simp -implicitDefEqProofs only [go_sem]
    · have hml : m2.length = l.length := by simpa [flens] using congrArg List.length hm2
      refine SW.cutS (γ := Unit) (fun _ => St.of [(0, .sl true (bA b)), (4, .sl true (bA (b ++ room 80))), (8, .ref 2 4 0 l.length false), (11, .ref 3 4 0 l.length false)] [(2, .row 4 (l.map fO)), (3, .row 4 (l.map fO))] 64) (fun K hK => ?_) fun _ => ?_
      · repeat' (first
          | apply_assumption -exfalso -symm (transparency := .reducible) only [*]
          | (with_reducible refine And.intro ?_ ?_)
          | (refine drawOf ?_; kernel_rfl)
          | ((with_reducible refine opsF_id ?_); simp -implicitDefEqProofs only [go_sem])
          | ((with_reducible refine SW.id ?_); first | with_reducible refine SW.seqK fun K hK => ?_ | with_reducible refine SW.block ?_ | with_reducible refine SW.scope ?_ | ((first | with_reducible refine SW.skip ?_ | with_reducible refine SW.exit ?_ | with_reducible refine SW.label ?_ | with_reducible refine SW.ret ?_ | with_reducible refine SW.go MM ?_ | refine SW.goDrawF MM (by rfl) (by kernel_rfl) ?_); simp -implicitDefEqProofs only [go_sem]) | (refine SW.cond (by simp -implicitDefEqProofs only [go_sem]; rfl) (fun ht => ?_) (fun ht => ?_) <;> (try simp only [decide_eq_true_eq, decide_eq_false_iff_not, beq_iff_eq, bne_iff_ne, beq_eq_false_iff_ne, bne_eq_false_iff_eq, Bool.or_eq_true, Bool.and_eq_true, Bool.or_eq_false_iff, Bool.and_eq_false_imp, Bool.not_eq_true, Bool.not_eq_false, Bool.not_true, Bool.not_false, Bool.not_eq_true', Bool.not_eq_false', Bool.or_false, Bool.false_or, Bool.or_true, Bool.true_or, Bool.and_true, Bool.true_and, reduceCtorEq] at ht) <;> (try contradiction)))
          | ((with_reducible refine guardSplit (fun hg => ?_) (fun hg => ?_)) <;> (try simp only [Bool.not_true, Bool.not_false] at hg) <;> (have hc := hg) <;> simp -implicitDefEqProofs only [go_sem, hg] <;> (try simp only [decide_eq_true_eq, decide_eq_false_iff_not, beq_iff_eq, bne_iff_ne, beq_eq_false_iff_ne, bne_eq_false_iff_eq, Bool.or_eq_true, Bool.and_eq_true, Bool.or_eq_false_iff, Bool.and_eq_false_imp, Bool.not_eq_true, Bool.not_eq_false, Bool.not_true, Bool.not_false, Bool.not_eq_true', Bool.not_eq_false', Bool.or_false, Bool.false_or, Bool.or_true, Bool.true_or, Bool.and_true, Bool.true_and, reduceCtorEq] at hc) <;> (try contradiction)))
        refine SW.loop (α := { i : Nat // i ≤ l.length }) (fun i => St.of [(0, .sl true (bA b)), (4, .sl true (bA (b ++ room 80))), (5, .ref 0 4 0 l.length false), (8, .ref 2 4 0 l.length false), (11, .ref 3 4 0 l.length false), (17, .v (.int .i64 i.1))] [(0, .froz 4 (m2.map (fT true))), (2, .row 4 (l.map fO)), (3, .row 4 (l.map fO))] 64) (fun i => l.length - i.1)
          ⟨0, by omega⟩ (Weak.of [(0, 0), (2, 2), (3, 3)] (by rfl) ?_ ?_) fun ⟨i, hi⟩ => ?_
        · simp -implicitDefEqProofs only [go_sem]
          rfl
        · simp -implicitDefEqProofs only [go_sem]
        · have h5 := i64_one (a := i) (by omega)
          repeat' (first
            | apply_assumption -exfalso -symm (transparency := .reducible) only [*]
            | (with_reducible refine And.intro ?_ ?_)
            | (refine drawOf ?_; kernel_rfl)
            | ((with_reducible refine opsF_id ?_); simp -implicitDefEqProofs only [go_sem, h5])
            | ((with_reducible refine SW.id ?_); first | with_reducible refine SW.seqK fun K hK => ?_ | with_reducible refine SW.block ?_ | with_reducible refine SW.scope ?_ | ((first | with_reducible refine SW.skip ?_ | with_reducible refine SW.exit ?_ | with_reducible refine SW.label ?_ | with_reducible refine SW.ret ?_ | with_reducible refine SW.go MM ?_ | refine SW.goDrawF MM (by rfl) (by kernel_rfl) ?_); simp -implicitDefEqProofs only [go_sem, h5]) | (refine SW.cond (by simp -implicitDefEqProofs only [go_sem, h5]; rfl) (fun ht => ?_) (fun ht => ?_) <;> (try simp only [decide_eq_true_eq, decide_eq_false_iff_not, beq_iff_eq, bne_iff_ne, beq_eq_false_iff_ne, bne_eq_false_iff_eq, Bool.or_eq_true, Bool.and_eq_true, Bool.or_eq_false_iff, Bool.and_eq_false_imp, Bool.not_eq_true, Bool.not_eq_false, Bool.not_true, Bool.not_false, Bool.not_eq_true', Bool.not_eq_false', Bool.or_false, Bool.false_or, Bool.or_true, Bool.true_or, Bool.and_true, Bool.true_and, reduceCtorEq] at ht) <;> (try contradiction)))
            | ((with_reducible refine guardSplit (fun hg => ?_) (fun hg => ?_)) <;> (try simp only [Bool.not_true, Bool.not_false] at hg) <;> (have hc := hg) <;> simp -implicitDefEqProofs only [go_sem, hg, h5] <;> (try simp only [decide_eq_true_eq, decide_eq_false_iff_not, beq_iff_eq, bne_iff_ne, beq_eq_false_iff_ne, bne_eq_false_iff_eq, Bool.or_eq_true, Bool.and_eq_true, Bool.or_eq_false_iff, Bool.and_eq_false_imp, Bool.not_eq_true, Bool.not_eq_false, Bool.not_true, Bool.not_false, Bool.not_eq_true', Bool.not_eq_false', Bool.or_false, Bool.false_or, Bool.or_true, Bool.true_or, Bool.and_true, Bool.true_and, reduceCtorEq] at hc) <;> (try contradiction)))
          · obtain ⟨f, hfe⟩ : ∃ f, m2.getD i default = f := ⟨_, rfl⟩
            obtain ⟨n, hn⟩ : ∃ n, f.data.length = n := ⟨_, rfl⟩
            have hnl := flens_lt hm2 (fun x hx => Nat.lt_of_le_of_lt (l2 x hx) hb) i
            have hri := hr2 i (by omega)
            rw [hfe] at hnl hri
            rw [hn] at hnl hri
            refine SW.loop (α := { j : Nat // j ≤ n }) (fun j => St.of [(0, .sl true (bA b)), (4, .sl true (bA (b ++ room 80))), (5, .ref 0 4 0 l.length false), (8, .ref 2 4 0 l.length false), (11, .ref 3 4 0 l.length false), (17, .v (.int .i64 i)), (18, .v (.int .i64 j.1))] [(0, .froz 4 (m2.map (fT true))), (2, .row 4 (l.map fO)), (3, .row 4 (l.map fO))] 64) (fun j => n - j.1)
              ⟨0, by omega⟩ (Weak.of [(0, 0), (2, 2), (3, 3)] (by rfl) ?_ ?_) fun ⟨j, hj⟩ => ?_
            · simp -implicitDefEqProofs only [go_sem]
              rfl
            · simp -implicitDefEqProofs only [go_sem]
            · have h6 := i64_one (a := j) (by omega)
              have h7 : IntKind.i64.wrap (7 * (i : Int)) = ((7 * i : Nat) : Int) := by rw [IntWalk.i64_in _ (by omega)]; omega
              have h8 : IntKind.u8.wrap ((7 * i : Nat) : Int) = ((7 * i % 256 : Nat) : Int) := by rw [IntKind.wrap_u8]; omega
              repeat' (first
                | apply_assumption -exfalso -symm (transparency := .reducible) only [*]
                | (with_reducible refine And.intro ?_ ?_)
                | (refine drawOf ?_; kernel_rfl)
                | ((with_reducible refine opsF_id ?_); simp -implicitDefEqProofs only [go_sem, h6, h7, h8, getR_fT, hfe, hn])
                | ((with_reducible refine SW.id ?_); first | with_reducible refine SW.seqK fun K hK => ?_ | with_reducible refine SW.block ?_ | with_reducible refine SW.scope ?_ | ((first | with_reducible refine SW.skip ?_ | with_reducible refine SW.exit ?_ | with_reducible refine SW.label ?_ | with_reducible refine SW.ret ?_ | with_reducible refine SW.go MM ?_ | refine SW.goDrawF MM (by rfl) (by kernel_rfl) ?_); simp -implicitDefEqProofs only [go_sem, h6, h7, h8, getR_fT, hfe, hn]) | (refine SW.cond (by simp -implicitDefEqProofs only [go_sem, h6, h7, h8, getR_fT, hfe, hn]; rfl) (fun ht => ?_) (fun ht => ?_) <;> (try simp only [decide_eq_true_eq, decide_eq_false_iff_not, beq_iff_eq, bne_iff_ne, beq_eq_false_iff_ne, bne_eq_false_iff_eq, Bool.or_eq_true, Bool.and_eq_true, Bool.or_eq_false_iff, Bool.and_eq_false_imp, Bool.not_eq_true, Bool.not_eq_false, Bool.not_true, Bool.not_false, Bool.not_eq_true', Bool.not_eq_false', Bool.or_false, Bool.false_or, Bool.or_true, Bool.true_or, Bool.and_true, Bool.true_and, reduceCtorEq] at ht) <;> (try contradiction)))
                | ((with_reducible refine guardSplit (fun hg => ?_) (fun hg => ?_)) <;> (try simp only [Bool.not_true, Bool.not_false] at hg) <;> (have hc := hg) <;> simp -implicitDefEqProofs only [go_sem, hg, h6, h7, h8, getR_fT, hfe, hn] <;> (try simp only [decide_eq_true_eq, decide_eq_false_iff_not, beq_iff_eq, bne_iff_ne, beq_eq_false_iff_ne, bne_eq_false_iff_eq, Bool.or_eq_true, Bool.and_eq_true, Bool.or_eq_false_iff, Bool.and_eq_false_imp, Bool.not_eq_true, Bool.not_eq_false, Bool.not_true, Bool.not_false, Bool.not_eq_true', Bool.not_eq_false', Bool.or_false, Bool.false_or, Bool.or_true, Bool.true_or, Bool.and_true, Bool.true_and, reduceCtorEq] at hc) <;> (try contradiction)))
              all_goals first | omega | skip
              · have hjn : j < n := by omega
                have hv : f.data.getD j 0 = 7 * i % 256 := by rw [hri, getD_rep hjn]
                omega
              · refine ⟨⟨j + 1, by omega⟩, Weak.of [(0, 0), (2, 2), (3, 3)] (by rfl) ?_ ?_, by dsimp only; omega⟩
                · simp -implicitDefEqProofs only [go_sem]
                · simp -implicitDefEqProofs only [go_sem]
              · refine ⟨⟨i + 1, by omega⟩, Weak.of [(0, 0), (2, 2), (3, 3)] (by rfl) ?_ ?_, by dsimp only; omega⟩
                · simp -implicitDefEqProofs only [go_sem, h5]
                · simp -implicitDefEqProofs only [go_sem]
          · refine ⟨(), Weak.of [(2, 2), (3, 3)] (by rfl) ?_ ?_⟩
            · simp -implicitDefEqProofs only [go_sem]
            · simp -implicitDefEqProofs only [go_sem]
      · repeat' (first
          | apply_assumption -exfalso -symm (transparency := .reducible) only [*]
          | (refine ⟨_, _, h4, ?_⟩ <;> (try simp -implicitDefEqProofs only [go_sem]))
          | (refine ⟨_, _, h5, ?_⟩ <;> (try simp -implicitDefEqProofs only [go_sem]))
          | (with_reducible refine And.intro ?_ ?_)
          | (refine drawOf ?_; kernel_rfl)
          | ((with_reducible refine opsF_id ?_); simp -implicitDefEqProofs only [go_sem])
          | ((with_reducible refine SW.id ?_); first | with_reducible refine SW.seqK fun K hK => ?_ | with_reducible refine SW.block ?_ | with_reducible refine SW.scope ?_ | ((first | with_reducible refine SW.skip ?_ | with_reducible refine SW.exit ?_ | with_reducible refine SW.label ?_ | with_reducible refine SW.ret ?_ | with_reducible refine SW.go MM ?_ | refine SW.goDrawF MM (by rfl) (by kernel_rfl) ?_); simp -implicitDefEqProofs only [go_sem]) | (refine SW.cond (by simp -implicitDefEqProofs only [go_sem]; rfl) (fun ht => ?_) (fun ht => ?_) <;> (try simp only [decide_eq_true_eq, decide_eq_false_iff_not, beq_iff_eq, bne_iff_ne, beq_eq_false_iff_ne, bne_eq_false_iff_eq, Bool.or_eq_true, Bool.and_eq_true, Bool.or_eq_false_iff, Bool.and_eq_false_imp, Bool.not_eq_true, Bool.not_eq_false, Bool.not_true, Bool.not_false, Bool.not_eq_true', Bool.not_eq_false', Bool.or_false, Bool.false_or, Bool.or_true, Bool.true_or, Bool.and_true, Bool.true_and, reduceCtorEq] at ht) <;> (try contradiction)))
          | ((with_reducible refine guardSplit (fun hg => ?_) (fun hg => ?_)) <;> (try simp only [Bool.not_true, Bool.not_false] at hg) <;> (have hc := hg) <;> simp -implicitDefEqProofs only [go_sem, hg] <;> (try simp only [decide_eq_true_eq, decide_eq_false_iff_not, beq_iff_eq, bne_iff_ne, beq_eq_false_iff_ne, bne_eq_false_iff_eq, Bool.or_eq_true, Bool.and_eq_true, Bool.or_eq_false_iff, Bool.and_eq_false_imp, Bool.not_eq_true, Bool.not_eq_false, Bool.not_true, Bool.not_false, Bool.not_eq_true', Bool.not_eq_false', Bool.or_false, Bool.false_or, Bool.or_true, Bool.true_or, Bool.and_true, Bool.true_and, reduceCtorEq] at hc) <;> (try contradiction)))

theorem decodes_law {H : Type} (ds : List (DataW H)) (xs : List A) (h : DAs [.slice (.int .u8)] ds xs) (hk : dBulks ds ≤ 1048576) : ∃ back, FS Try.prog 11 xs (.ret [.v (.bool true)] back) := by
  obtain ⟨d0, ds, a0, xs, rfl, rfl, h0, h⟩ := h.cons_inv
  obtain ⟨rfl, rfl⟩ := h.nil_inv
  obtain ⟨b, rfl, hb, h8⟩ := h0.bytes_inv
  simp only [dBulks] at hk
  exact ⟨_, decodes_FS b (by omega) h8⟩
end Go.PA
