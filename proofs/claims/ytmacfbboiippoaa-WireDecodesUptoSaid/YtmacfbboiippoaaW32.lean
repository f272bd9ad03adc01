/- WireSplits: Split is what the reference says; nothing that it hands out shares memory. -/
import Derived.Test.YtmacfbboiippoaaW29
namespace Go.PA
open Go.Proofs
set_option linter.unusedSimpArgs false
set_option linter.unusedVariables false
set_option maxRecDepth 100000
set_option maxHeartbeats 4000000
attribute [local go_sem] MM getP setP takesW
attribute [-go_sem] takeA

theorem getR_mid {β : Type} {s i : Nat} {pre post : List A} {X : A} (hi : pre.length = i) {bk : Nat → Option Blk} {k : A → RM β} {K : β → List Nat → Prop} {acc : List Nat} :
    ((getR (pre ++ X :: post) s [.idx i s]).bind k).wpA bk K acc = (k X).wpA bk K acc := by
  subst hi
  simp [getR, RM.bind, RM.wpA, getP]
theorem mid_map {α : Type} {f : α → A} (d : α) {l : List α} {i : Nat} (h : i < l.length) : l.map f = (l.take i).map f ++ f (l.getD i d) :: (l.drop (i + 1)).map f := by
  conv => lhs; rw [← List.take_append_drop i l, List.drop_eq_getElem_cons h]
  rw [List.map_append, List.map_cons, List.getD_eq_getElem?_getD, List.getElem?_eq_getElem h]
  rfl
theorem set_mid {α : Type} {l : List α} {i : Nat} {y : α} (h : i < l.length) : l.set i y = l.take i ++ y :: l.drop (i + 1) := by
  rw [List.set_eq_take_append_cons_drop, if_pos h]

theorem rens_iO {π : Nat → Option Nat} : ∀ l : List (List Nat), rens π (l.map iO) = some (l.map iO)
  | [] => rfl
  | x :: l => by simp only [List.map_cons, rens, rens_iO l]; rfl
theorem rens_mid {π : Nat → Option Nat} {x y : A} (hx : ren π x = some y) (post : List (List Nat)) : ∀ pre : List (List Nat), rens π (pre.map iO ++ x :: post.map iO) = some (pre.map iO ++ y :: post.map iO)
  | [] => by simp only [List.map_nil, List.nil_append, rens, hx, rens_iO]
  | z :: pre => by simp only [List.map_cons, List.cons_append, rens, rens_mid hx post pre]; rfl

theorem lens_lt {l m : List (List Nat)} {M : Nat} (hm : m.map List.length = l.map List.length) (hl : ∀ x ∈ l, x.length < M + 1) (i : Nat) : (m.getD i []).length < M + 1 := by
  refine getD_lt (by omega) fun x hx => ?_
  have h1 : x.length ∈ l.map List.length := hm ▸ List.mem_map.2 ⟨x, hx, rfl⟩
  obtain ⟨y, hy, h2⟩ := List.mem_map.1 h1
  have := hl y hy
  omega

theorem iO_set {m : List (List Nat)} {i : Nat} {X : List Nat} (h : i < m.length) : (m.take i).map iO ++ .osl 1 (bA X) :: (m.drop (i + 1)).map iO = (m.set i X).map iO := by
  rw [set_mid h, List.map_append, List.map_cons]
  rfl

theorem restoreA_osl {d s n : Nat} {xs : List A} : restoreA (.ref d s 0 n false) (.osl s xs) = some [(d, .row s xs)] := by simp [restoreA]
attribute [go_sem] restoreA_osl

theorem getD_rep {n v j : Nat} (h : j < n) : (List.replicate n v).getD j 0 = v := by simp [List.getD_eq_getElem?_getD, h]
theorem take_rep {n v : Nat} : (List.replicate n v).take n = List.replicate n v := List.take_of_length_le (by simp)
theorem getR_iT {β : Type} {p : Bool} {m : List (List Nat)} {i : Nat} {bk : Nat → Option Blk} {k : A → RM β} {K : β → List Nat → Prop} {acc : List Nat} :
    ((getR (m.map (iT p)) 1 [.idx i 1]).bind k).wpA bk K acc = (i < m.length ∧ (k (.sl p (bA (m.getD i [])))).wpA bk K acc) := getR_map
theorem getD_set {m : List (List Nat)} {i k : Nat} {X : List Nat} (h : i < m.length) : (m.set i X).getD k [] = if k = i then X else m.getD k [] := by
  simp only [List.getD_eq_getElem?_getD, List.getElem?_set]
  split
  · rename_i h1
    subst h1
    simp [h]
  · rename_i h1
    rw [if_neg fun h => h1 h.symm]
theorem lens_set {l m : List (List Nat)} {i : Nat} {X Y : List Nat} (hm : m.map List.length = l.map List.length) (hX : m.getD i [] = X) (hil : i < m.length) (hY : Y.length = X.length) : (m.set i Y).map List.length = l.map List.length := by
  rw [← hm, List.map_set]
  refine List.ext_getElem (by simp) fun k k1 k2 => ?_
  simp only [List.getElem_set, List.getElem_map]
  split
  · rename_i hik
    subst hik
    rw [hY, ← hX, List.getD_eq_getElem?_getD, List.getElem?_eq_getElem hil]
    rfl
  · rfl

theorem piecesP_len {b : List Nat} : ∀ (k p count at' : Nat), count ≤ 4096 → count + (piecesP b k p count at').1.length ≤ 4096 ∧ ∀ x ∈ (piecesP b k p count at').1, x.length ≤ b.length
  | 0, p, count, at', hc => by simp [piecesP]; exact hc
  | k + 1, p, count, at', hc => by
    rw [piecesP]
    split
    · split
      · simpa using hc
      · rename_i h2
        split
        · simpa using hc
        · split
          · simpa using hc
          · obtain ⟨i1, i2⟩ := piecesP_len (b := b) k ((numP b p).2.1 + (numP b p).1) (count + 1) p (by omega)
            refine ⟨by simp only [List.length_cons]; omega, fun x hx => ?_⟩
            rcases List.mem_cons.1 hx with rfl | hx
            · rw [List.length_take, List.length_drop]; omega
            · exact i2 x hx
    · simpa using hc
theorem splitD_len (b : List Nat) : (splitD b).1.length ≤ 4096 ∧ ∀ x ∈ (splitD b).1, x.length ≤ b.length := by
  obtain ⟨h1, h2⟩ := piecesP_len (b := b) (b.length + 1) 0 0 0 (by omega)
  unfold splitD
  split
  · simp
  · split
    · simp
    · exact ⟨by have h1 : (0 + (piecesD b).1.length) ≤ 4096 := h1; dsimp only; omega, h2⟩

theorem splits_FS (b : List Nat) (hb : b.length < 2 ^ 30) (h8 : ∀ x ∈ b, x < 256) : FS Try.prog 7 [.sl true (bA b)] (.ret [.v (.bool true)] [none]) := by
  refine FS_of_SW (kb := [false]) Try.func7 rfl rfl (by rfl) ?_
  refine SW.weak (Weak.of [] (sls := [(0, .sl true (bA b))]) (bks := []) (ep := 64) (by rfl) ⟨rfl, trivial⟩ trivial) ?_
  obtain ⟨l1, l2⟩ := splitD_len b
  have h1 := lent_FS true b (by omega)
  have h2 := split_FS true b hb h8
  have h3 := refSplit_FS true b hb h8
  have h5 := kept_FS true true b (by omega)
  obtain ⟨⟨l, pl, er⟩, hd⟩ : ∃ r, splitD b = r := ⟨_, rfl⟩
  rw [hd] at l1 l2 h2 h3
  dsimp only at l1 l2 h2 h3
  have h4 := items_FS false false false false l l (by omega) (by omega) (fun x h => by have := l2 x h; omega) (fun x h => by have := l2 x h; omega)
  simp only [decide_true] at h4
  have e : ∀ x : Int, (x == x) = true := fun x => by simp
  have e2 : ∀ x : Int, (x != x) = false := fun x => by simp
  repeat' (first
    | apply_assumption -exfalso -symm (transparency := .reducible) only [*]
    | with_reducible refine SW.stopI 6 ?_
    | (refine ⟨_, _, h1, ?_⟩ <;> (try simp -implicitDefEqProofs only [go_sem, e, e2]))
    | (refine ⟨_, _, h2, ?_⟩ <;> (try simp -implicitDefEqProofs only [go_sem, e, e2]))
    | (refine ⟨_, _, h3, ?_⟩ <;> (try simp -implicitDefEqProofs only [go_sem, e, e2]))
    | (refine ⟨_, _, h4, ?_⟩ <;> (try simp -implicitDefEqProofs only [go_sem, e, e2]))
    | (refine ⟨_, _, h5, ?_⟩ <;> (try simp -implicitDefEqProofs only [go_sem, e, e2]))
    | (with_reducible refine And.intro ?_ ?_)
    | (refine drawOf ?_; kernel_rfl)
    | ((with_reducible refine opsF_id ?_); simp -implicitDefEqProofs only [go_sem, e, e2])
    | ((with_reducible refine SW.id ?_); first | with_reducible refine SW.seqK fun K hK => ?_ | with_reducible refine SW.block ?_ | with_reducible refine SW.scope ?_ | ((first | with_reducible refine SW.skip ?_ | with_reducible refine SW.exit ?_ | with_reducible refine SW.label ?_ | with_reducible refine SW.ret ?_ | with_reducible refine SW.go MM ?_ | refine SW.goDrawF MM (by rfl) (by kernel_rfl) ?_); simp -implicitDefEqProofs only [go_sem, e, e2]) | (refine SW.cond (by simp -implicitDefEqProofs only [go_sem, e, e2]; rfl) (fun ht => ?_) (fun ht => ?_) <;> (try simp only [decide_eq_true_eq, decide_eq_false_iff_not, beq_iff_eq, bne_iff_ne, beq_eq_false_iff_ne, bne_eq_false_iff_eq, Bool.or_eq_true, Bool.and_eq_true, Bool.or_eq_false_iff, Bool.and_eq_false_imp, Bool.not_eq_true, Bool.not_eq_false, Bool.not_true, Bool.not_false, Bool.not_eq_true', Bool.not_eq_false', Bool.or_false, Bool.false_or, Bool.or_true, Bool.true_or, Bool.and_true, Bool.true_and, reduceCtorEq] at ht) <;> (try contradiction)))
    | ((with_reducible refine guardSplit (fun hg => ?_) (fun hg => ?_)) <;> (try simp only [Bool.not_true, Bool.not_false] at hg) <;> (have hc := hg) <;> simp -implicitDefEqProofs only [go_sem, hg, e, e2] <;> (try simp only [decide_eq_true_eq, decide_eq_false_iff_not, beq_iff_eq, bne_iff_ne, beq_eq_false_iff_ne, bne_eq_false_iff_eq, Bool.or_eq_true, Bool.and_eq_true, Bool.or_eq_false_iff, Bool.and_eq_false_imp, Bool.not_eq_true, Bool.not_eq_false, Bool.not_true, Bool.not_false, Bool.not_eq_true', Bool.not_eq_false', Bool.or_false, Bool.false_or, Bool.or_true, Bool.true_or, Bool.and_true, Bool.true_and, reduceCtorEq] at hc) <;> (try contradiction)))
  refine Stop.go ?_
  refine SW.cutS (γ := { l' : List (List Nat) // l'.map List.length = l.map List.length }) (fun x => St.of [(0, .sl true (bA b)), (4, .sl true (bA (b ++ room 80))), (5, .ref 0 1 0 l.length false)] [(0, .row 1 (x.1.map iO))] 64) (fun K hK => ?_) fun ⟨m, hm⟩ => ?_
  · repeat' (first
      | apply_assumption -exfalso -symm (transparency := .reducible) only [*]
      | (with_reducible refine And.intro ?_ ?_)
      | (refine drawOf ?_; kernel_rfl)
      | ((with_reducible refine opsF_id ?_); simp -implicitDefEqProofs only [go_sem])
      | ((with_reducible refine SW.id ?_); first | with_reducible refine SW.seqK fun K hK => ?_ | with_reducible refine SW.block ?_ | with_reducible refine SW.scope ?_ | ((first | with_reducible refine SW.skip ?_ | with_reducible refine SW.exit ?_ | with_reducible refine SW.label ?_ | with_reducible refine SW.ret ?_ | with_reducible refine SW.go MM ?_ | refine SW.goDrawF MM (by rfl) (by kernel_rfl) ?_); simp -implicitDefEqProofs only [go_sem]) | (refine SW.cond (by simp -implicitDefEqProofs only [go_sem]; rfl) (fun ht => ?_) (fun ht => ?_) <;> (try simp only [decide_eq_true_eq, decide_eq_false_iff_not, beq_iff_eq, bne_iff_ne, beq_eq_false_iff_ne, bne_eq_false_iff_eq, Bool.or_eq_true, Bool.and_eq_true, Bool.or_eq_false_iff, Bool.and_eq_false_imp, Bool.not_eq_true, Bool.not_eq_false, Bool.not_true, Bool.not_false, Bool.not_eq_true', Bool.not_eq_false', Bool.or_false, Bool.false_or, Bool.or_true, Bool.true_or, Bool.and_true, Bool.true_and, reduceCtorEq] at ht) <;> (try contradiction)))
      | ((with_reducible refine guardSplit (fun hg => ?_) (fun hg => ?_)) <;> (try simp only [Bool.not_true, Bool.not_false] at hg) <;> (have hc := hg) <;> simp -implicitDefEqProofs only [go_sem, hg] <;> (try simp only [decide_eq_true_eq, decide_eq_false_iff_not, beq_iff_eq, bne_iff_ne, beq_eq_false_iff_ne, bne_eq_false_iff_eq, Bool.or_eq_true, Bool.and_eq_true, Bool.or_eq_false_iff, Bool.and_eq_false_imp, Bool.not_eq_true, Bool.not_eq_false, Bool.not_true, Bool.not_false, Bool.not_eq_true', Bool.not_eq_false', Bool.or_false, Bool.false_or, Bool.or_true, Bool.true_or, Bool.and_true, Bool.true_and, reduceCtorEq] at hc) <;> (try contradiction)))
    refine SW.loop (α := { x : List (List Nat) × Nat // x.1.map List.length = l.map List.length ∧ x.2 ≤ l.length }) (fun x => St.of [(0, .sl true (bA b)), (4, .sl true (bA (b ++ room 80))), (5, .ref 0 1 0 l.length false), (11, .v (.int .i64 x.1.2))] [(0, .row 1 (x.1.1.map iO))] 64) (fun x => l.length - x.1.2)
      ⟨(l, 0), rfl, by dsimp only; omega⟩ (Weak.of [(640, 0)] (by rfl) ?_ ?_) fun ⟨⟨m, i⟩, hm, hi⟩ => ?_
    · simp -implicitDefEqProofs only [go_sem]
      rfl
    · simp -implicitDefEqProofs only [go_sem]
    · dsimp only at hm hi
      have hml : m.length = l.length := by simpa using congrArg List.length hm
      have h5 := i64_one (a := i) (by omega)
      repeat' (first
        | apply_assumption -exfalso -symm (transparency := .reducible) only [*]
        | (with_reducible refine And.intro ?_ ?_)
        | (refine drawOf ?_; kernel_rfl)
        | ((with_reducible refine opsF_id ?_); simp -implicitDefEqProofs only [go_sem, h5])
        | ((with_reducible refine SW.id ?_); first | with_reducible refine SW.seqK fun K hK => ?_ | with_reducible refine SW.block ?_ | with_reducible refine SW.scope ?_ | ((first | with_reducible refine SW.skip ?_ | with_reducible refine SW.exit ?_ | with_reducible refine SW.label ?_ | with_reducible refine SW.ret ?_ | with_reducible refine SW.go MM ?_ | refine SW.goDrawF MM (by rfl) (by kernel_rfl) ?_); simp -implicitDefEqProofs only [go_sem, h5]) | (refine SW.cond (by simp -implicitDefEqProofs only [go_sem, h5]; rfl) (fun ht => ?_) (fun ht => ?_) <;> (try simp only [decide_eq_true_eq, decide_eq_false_iff_not, beq_iff_eq, bne_iff_ne, beq_eq_false_iff_ne, bne_eq_false_iff_eq, Bool.or_eq_true, Bool.and_eq_true, Bool.or_eq_false_iff, Bool.and_eq_false_imp, Bool.not_eq_true, Bool.not_eq_false, Bool.not_true, Bool.not_false, Bool.not_eq_true', Bool.not_eq_false', Bool.or_false, Bool.false_or, Bool.or_true, Bool.true_or, Bool.and_true, Bool.true_and, reduceCtorEq] at ht) <;> (try contradiction)))
        | ((with_reducible refine guardSplit (fun hg => ?_) (fun hg => ?_)) <;> (try simp only [Bool.not_true, Bool.not_false] at hg) <;> (have hc := hg) <;> simp -implicitDefEqProofs only [go_sem, hg, h5] <;> (try simp only [decide_eq_true_eq, decide_eq_false_iff_not, beq_iff_eq, bne_iff_ne, beq_eq_false_iff_ne, bne_eq_false_iff_eq, Bool.or_eq_true, Bool.and_eq_true, Bool.or_eq_false_iff, Bool.and_eq_false_imp, Bool.not_eq_true, Bool.not_eq_false, Bool.not_true, Bool.not_false, Bool.not_eq_true', Bool.not_eq_false', Bool.or_false, Bool.false_or, Bool.or_true, Bool.true_or, Bool.and_true, Bool.true_and, reduceCtorEq] at hc) <;> (try contradiction)))
      · have hil : i < m.length := by omega
        obtain ⟨n, hn⟩ : ∃ n, (m.getD i []).length = n := ⟨_, rfl⟩
        refine SW.loop (α := { x : List Nat × Nat // x.1.length = n ∧ x.2 ≤ n }) (fun x => St.of [(0, .sl true (bA b)), (4, .sl true (bA (b ++ room 80))), (5, .ref 0 1 0 l.length false), (11, .v (.int .i64 i)), (12, .v (.int .i64 x.1.2))]
          [(0, .row 1 ((m.take i).map iO ++ .ref 1 1 0 n false :: (m.drop (i + 1)).map iO)), (1, .row 1 (bA x.1.1))] 64) (fun x => n - x.1.2)
          ⟨(m.getD i [], 0), hn, by dsimp only; omega⟩ (Weak.focus1 (b := fun x => .row 1 ((m.take i).map iO ++ x :: (m.drop (i + 1)).map iO)) (x := .osl 1 (bA (m.getD i []))) 0 5000 5001 (Hole.row 1 _ _) (by simp -implicitDefEqProofs only [go_sem]; rw [mid_map [] hil]; rfl) (by simp [A.closed, bA_closeds]) rfl (by simp -implicitDefEqProofs only [go_sem]) (by simp -implicitDefEqProofs only [go_sem]) rfl (Weak.of [(0, 0), (5000, 1)] (by rfl) ?_ ?_)) fun ⟨⟨X, j⟩, hX, hj⟩ => ?_
        · simp -implicitDefEqProofs only [go_sem]
          rfl
        · simp -implicitDefEqProofs only [go_sem]
          rw [hn, rens_mid (y := .ref 1 1 0 n false) rfl]
          rfl
        · dsimp only at hX hj
          have hnl := lens_lt hm (fun x hx => Nat.lt_of_le_of_lt (l2 x hx) hb) i
          have h6 := i64_one (a := j) (by omega)
          have hpl : ((m.take i).map iO).length = i := by simp; omega
          have h7 : IntKind.i64.wrap (11 * (i : Int)) = ((11 * i : Nat) : Int) := by rw [IntWalk.i64_in _ (by omega)]; omega
          have h8 : IntKind.u8.wrap ((11 * i : Nat) : Int) = ((11 * i % 256 : Nat) : Int) := by rw [IntKind.wrap_u8]; omega
          repeat' (first
            | apply_assumption -exfalso -symm (transparency := .reducible) only [*]
            | (with_reducible refine And.intro ?_ ?_)
            | (refine drawOf ?_; kernel_rfl)
            | ((with_reducible refine opsF_id ?_); simp -implicitDefEqProofs only [go_sem, h6, h7, h8, getR_mid hpl])
            | ((with_reducible refine SW.id ?_); first | with_reducible refine SW.seqK fun K hK => ?_ | with_reducible refine SW.block ?_ | with_reducible refine SW.scope ?_ | ((first | with_reducible refine SW.skip ?_ | with_reducible refine SW.exit ?_ | with_reducible refine SW.label ?_ | with_reducible refine SW.ret ?_ | with_reducible refine SW.go MM ?_ | refine SW.goDrawF MM (by rfl) (by kernel_rfl) ?_); simp -implicitDefEqProofs only [go_sem, h6, h7, h8, getR_mid hpl]) | (refine SW.cond (by simp -implicitDefEqProofs only [go_sem, h6, h7, h8, getR_mid hpl]; rfl) (fun ht => ?_) (fun ht => ?_) <;> (try simp only [decide_eq_true_eq, decide_eq_false_iff_not, beq_iff_eq, bne_iff_ne, beq_eq_false_iff_ne, bne_eq_false_iff_eq, Bool.or_eq_true, Bool.and_eq_true, Bool.or_eq_false_iff, Bool.and_eq_false_imp, Bool.not_eq_true, Bool.not_eq_false, Bool.not_true, Bool.not_false, Bool.not_eq_true', Bool.not_eq_false', Bool.or_false, Bool.false_or, Bool.or_true, Bool.true_or, Bool.and_true, Bool.true_and, reduceCtorEq] at ht) <;> (try contradiction)))
            | ((with_reducible refine guardSplit (fun hg => ?_) (fun hg => ?_)) <;> (try simp only [Bool.not_true, Bool.not_false] at hg) <;> (have hc := hg) <;> simp -implicitDefEqProofs only [go_sem, hg, h6, h7, h8, getR_mid hpl] <;> (try simp only [decide_eq_true_eq, decide_eq_false_iff_not, beq_iff_eq, bne_iff_ne, beq_eq_false_iff_ne, bne_eq_false_iff_eq, Bool.or_eq_true, Bool.and_eq_true, Bool.or_eq_false_iff, Bool.and_eq_false_imp, Bool.not_eq_true, Bool.not_eq_false, Bool.not_true, Bool.not_false, Bool.not_eq_true', Bool.not_eq_false', Bool.or_false, Bool.false_or, Bool.or_true, Bool.true_or, Bool.and_true, Bool.true_and, reduceCtorEq] at hc) <;> (try contradiction)))
          all_goals first | omega | skip
          · refine ⟨⟨(X.set j (11 * i % 256), j + 1), by simpa using hX, by dsimp only; omega⟩, Weak.of [(0, 0), (1, 1)] (by rfl) ?_ ?_, by dsimp only; omega⟩
            · simp -implicitDefEqProofs only [go_sem]
            · simp -implicitDefEqProofs only [go_sem]
              rw [rens_mid (y := .ref 1 1 0 n false) rfl]
              rfl
          · subst hX
            refine ⟨⟨(m.set i X, i + 1), by
              rw [← hm, List.map_set]
              refine List.ext_getElem (by simp) fun k k1 k2 => ?_
              simp only [List.getElem_set, List.getElem_map]
              split
              · rename_i hik
                subst hik
                rw [← hn, List.getD_eq_getElem?_getD, List.getElem?_eq_getElem hil]
                rfl
              · rfl, by dsimp only; omega⟩, Weak.absorbW (d := 0) (s := 1) (pre := (m.take i).map iO) (y := .ref 1 1 0 X.length false) (post := (m.drop (i + 1)).map iO) (by simp -implicitDefEqProofs only [go_sem]) ?_, by dsimp only; omega⟩
            simp -implicitDefEqProofs only [go_sem]
            rw [iO_set hil]
            refine Weak.of [(0, 0)] (by rfl) ?_ ?_
            · simp -implicitDefEqProofs only [go_sem, h5]
            · simp -implicitDefEqProofs only [go_sem]
      · refine ⟨⟨m, hm⟩, Weak.of [(0, 0)] (by rfl) ?_ ?_⟩
        · simp -implicitDefEqProofs only [go_sem]
        · simp -implicitDefEqProofs only [go_sem]
  · have hml : m.length = l.length := by simpa using congrArg List.length hm
    refine SW.cutS (γ := { l' : List (List Nat) // l'.map List.length = l.map List.length ∧ ∀ k, k < l.length → l'.getD k [] = List.replicate (l'.getD k []).length (11 * k % 256) }) (fun x => St.of [(0, .sl true (bA b)), (4, .sl true (bA (b ++ room 80))), (5, .ref 0 1 0 l.length false)] [(0, .froz 1 (x.1.map (iT true)))] 64) (fun K hK => ?_) fun ⟨m2, hm2, hr2⟩ => ?_
    · repeat' (first
        | apply_assumption -exfalso -symm (transparency := .reducible) only [*]
        | (with_reducible refine And.intro ?_ ?_)
        | (refine drawOf ?_; kernel_rfl)
        | ((with_reducible refine opsF_id ?_); simp -implicitDefEqProofs only [go_sem])
        | ((with_reducible refine SW.id ?_); first | with_reducible refine SW.seqK fun K hK => ?_ | with_reducible refine SW.block ?_ | with_reducible refine SW.scope ?_ | ((first | with_reducible refine SW.skip ?_ | with_reducible refine SW.exit ?_ | with_reducible refine SW.label ?_ | with_reducible refine SW.ret ?_ | with_reducible refine SW.go MM ?_ | refine SW.goDrawF MM (by rfl) (by kernel_rfl) ?_); simp -implicitDefEqProofs only [go_sem]) | (refine SW.cond (by simp -implicitDefEqProofs only [go_sem]; rfl) (fun ht => ?_) (fun ht => ?_) <;> (try simp only [decide_eq_true_eq, decide_eq_false_iff_not, beq_iff_eq, bne_iff_ne, beq_eq_false_iff_ne, bne_eq_false_iff_eq, Bool.or_eq_true, Bool.and_eq_true, Bool.or_eq_false_iff, Bool.and_eq_false_imp, Bool.not_eq_true, Bool.not_eq_false, Bool.not_true, Bool.not_false, Bool.not_eq_true', Bool.not_eq_false', Bool.or_false, Bool.false_or, Bool.or_true, Bool.true_or, Bool.and_true, Bool.true_and, reduceCtorEq] at ht) <;> (try contradiction)))
        | ((with_reducible refine guardSplit (fun hg => ?_) (fun hg => ?_)) <;> (try simp only [Bool.not_true, Bool.not_false] at hg) <;> (have hc := hg) <;> simp -implicitDefEqProofs only [go_sem, hg] <;> (try simp only [decide_eq_true_eq, decide_eq_false_iff_not, beq_iff_eq, bne_iff_ne, beq_eq_false_iff_ne, bne_eq_false_iff_eq, Bool.or_eq_true, Bool.and_eq_true, Bool.or_eq_false_iff, Bool.and_eq_false_imp, Bool.not_eq_true, Bool.not_eq_false, Bool.not_true, Bool.not_false, Bool.not_eq_true', Bool.not_eq_false', Bool.or_false, Bool.false_or, Bool.or_true, Bool.true_or, Bool.and_true, Bool.true_and, reduceCtorEq] at hc) <;> (try contradiction)))
      refine SW.loop (α := { x : List (List Nat) × Nat // x.1.map List.length = l.map List.length ∧ x.2 ≤ l.length ∧ ∀ k, k < x.2 → x.1.getD k [] = List.replicate (x.1.getD k []).length (11 * k % 256) }) (fun x => St.of [(0, .sl true (bA b)), (4, .sl true (bA (b ++ room 80))), (5, .ref 0 1 0 l.length false), (13, .v (.int .i64 x.1.2))] [(0, .row 1 (x.1.1.map iO))] 64) (fun x => l.length - x.1.2)
        ⟨(m, 0), hm, by dsimp only; omega, fun k hk => absurd hk (by simp)⟩ (Weak.of [(0, 0)] (by rfl) ?_ ?_) fun ⟨⟨m, i⟩, hm, hi, hr⟩ => ?_
      · simp -implicitDefEqProofs only [go_sem]
        rfl
      · simp -implicitDefEqProofs only [go_sem]
      · dsimp only at hm hi hr
        have hml : m.length = l.length := by simpa using congrArg List.length hm
        have h5 := i64_one (a := i) (by omega)
        repeat' (first
          | apply_assumption -exfalso -symm (transparency := .reducible) only [*]
          | with_reducible refine SW.stopB 5 ?_
          | (with_reducible refine And.intro ?_ ?_)
          | (refine drawOf ?_; kernel_rfl)
          | ((with_reducible refine opsF_id ?_); simp -implicitDefEqProofs only [go_sem, h5])
          | ((with_reducible refine SW.id ?_); first | with_reducible refine SW.seqK fun K hK => ?_ | with_reducible refine SW.block ?_ | with_reducible refine SW.scope ?_ | ((first | with_reducible refine SW.skip ?_ | with_reducible refine SW.exit ?_ | with_reducible refine SW.label ?_ | with_reducible refine SW.ret ?_ | with_reducible refine SW.go MM ?_ | refine SW.goDrawF MM (by rfl) (by kernel_rfl) ?_); simp -implicitDefEqProofs only [go_sem, h5]) | (refine SW.cond (by simp -implicitDefEqProofs only [go_sem, h5]; rfl) (fun ht => ?_) (fun ht => ?_) <;> (try simp only [decide_eq_true_eq, decide_eq_false_iff_not, beq_iff_eq, bne_iff_ne, beq_eq_false_iff_ne, bne_eq_false_iff_eq, Bool.or_eq_true, Bool.and_eq_true, Bool.or_eq_false_iff, Bool.and_eq_false_imp, Bool.not_eq_true, Bool.not_eq_false, Bool.not_true, Bool.not_false, Bool.not_eq_true', Bool.not_eq_false', Bool.or_false, Bool.false_or, Bool.or_true, Bool.true_or, Bool.and_true, Bool.true_and, reduceCtorEq] at ht) <;> (try contradiction)))
          | ((with_reducible refine guardSplit (fun hg => ?_) (fun hg => ?_)) <;> (try simp only [Bool.not_true, Bool.not_false] at hg) <;> (have hc := hg) <;> simp -implicitDefEqProofs only [go_sem, hg, h5] <;> (try simp only [decide_eq_true_eq, decide_eq_false_iff_not, beq_iff_eq, bne_iff_ne, beq_eq_false_iff_ne, bne_eq_false_iff_eq, Bool.or_eq_true, Bool.and_eq_true, Bool.or_eq_false_iff, Bool.and_eq_false_imp, Bool.not_eq_true, Bool.not_eq_false, Bool.not_true, Bool.not_false, Bool.not_eq_true', Bool.not_eq_false', Bool.or_false, Bool.false_or, Bool.or_true, Bool.true_or, Bool.and_true, Bool.true_and, reduceCtorEq] at hc) <;> (try contradiction)))
        · refine Stop.go ?_
          have hil : i < m.length := by omega
          obtain ⟨X, hX⟩ : ∃ X, m.getD i [] = X := ⟨_, rfl⟩
          have hnl := lens_lt hm (fun x hx => Nat.lt_of_le_of_lt (l2 x hx) hb) i
          rw [hX] at hnl
          have hpl : ((m.take i).map iO).length = i := by simp; omega
          have h7 : IntKind.i64.wrap (11 * (i : Int)) = ((11 * i : Nat) : Int) := by rw [IntWalk.i64_in _ (by omega)]; omega
          have h8 : IntKind.u8.wrap ((11 * i : Nat) : Int) = ((11 * i % 256 : Nat) : Int) := by rw [IntKind.wrap_u8]; omega
          have hf := fullB_FS X (11 * i % 256) (by omega)
          refine SW.weak (st' := St.of [(0, .sl true (bA b)), (4, .sl true (bA (b ++ room 80))), (5, .ref 0 1 0 l.length false), (13, .v (.int .i64 i))] [(0, .row 1 ((m.take i).map iO ++ .ref 1 1 0 X.length false :: (m.drop (i + 1)).map iO)), (1, .row 1 (bA X))] 64)
            (Weak.focus1 (b := fun x => .row 1 ((m.take i).map iO ++ x :: (m.drop (i + 1)).map iO)) (x := .osl 1 (bA X)) 0 5000 5001 (Hole.row 1 _ _) (by simp -implicitDefEqProofs only [go_sem]; rw [mid_map [] hil, hX]; rfl) (by simp [A.closed, bA_closeds]) rfl (by simp -implicitDefEqProofs only [go_sem]) (by simp -implicitDefEqProofs only [go_sem]) rfl (Weak.of [(0, 0), (5000, 1)] (by rfl) ?_ ?_)) ?_
          · simp -implicitDefEqProofs only [go_sem]
          · simp -implicitDefEqProofs only [go_sem]
            rw [rens_mid (y := .ref 1 1 0 X.length false) rfl]
            rfl
          · repeat' (first
              | apply_assumption -exfalso -symm (transparency := .reducible) only [*]
              | (refine ⟨_, _, hf, ?_⟩ <;> (try simp -implicitDefEqProofs only [go_sem, h5, h7, h8, getR_mid hpl]))
              | (with_reducible refine And.intro ?_ ?_)
              | (refine drawOf ?_; kernel_rfl)
              | ((with_reducible refine opsF_id ?_); simp -implicitDefEqProofs only [go_sem, h5, h7, h8, getR_mid hpl])
              | ((with_reducible refine SW.id ?_); first | with_reducible refine SW.seqK fun K hK => ?_ | with_reducible refine SW.block ?_ | with_reducible refine SW.scope ?_ | ((first | with_reducible refine SW.skip ?_ | with_reducible refine SW.exit ?_ | with_reducible refine SW.label ?_ | with_reducible refine SW.ret ?_ | with_reducible refine SW.go MM ?_ | refine SW.goDrawF MM (by rfl) (by kernel_rfl) ?_); simp -implicitDefEqProofs only [go_sem, h5, h7, h8, getR_mid hpl]) | (refine SW.cond (by simp -implicitDefEqProofs only [go_sem, h5, h7, h8, getR_mid hpl]; rfl) (fun ht => ?_) (fun ht => ?_) <;> (try simp only [decide_eq_true_eq, decide_eq_false_iff_not, beq_iff_eq, bne_iff_ne, beq_eq_false_iff_ne, bne_eq_false_iff_eq, Bool.or_eq_true, Bool.and_eq_true, Bool.or_eq_false_iff, Bool.and_eq_false_imp, Bool.not_eq_true, Bool.not_eq_false, Bool.not_true, Bool.not_false, Bool.not_eq_true', Bool.not_eq_false', Bool.or_false, Bool.false_or, Bool.or_true, Bool.true_or, Bool.and_true, Bool.true_and, reduceCtorEq] at ht) <;> (try contradiction)))
              | ((with_reducible refine guardSplit (fun hg => ?_) (fun hg => ?_)) <;> (try simp only [Bool.not_true, Bool.not_false] at hg) <;> (have hc := hg) <;> simp -implicitDefEqProofs only [go_sem, hg, h5, h7, h8, getR_mid hpl] <;> (try simp only [decide_eq_true_eq, decide_eq_false_iff_not, beq_iff_eq, bne_iff_ne, beq_eq_false_iff_ne, bne_eq_false_iff_eq, Bool.or_eq_true, Bool.and_eq_true, Bool.or_eq_false_iff, Bool.and_eq_false_imp, Bool.not_eq_true, Bool.not_eq_false, Bool.not_true, Bool.not_false, Bool.not_eq_true', Bool.not_eq_false', Bool.or_false, Bool.false_or, Bool.or_true, Bool.true_or, Bool.and_true, Bool.true_and, reduceCtorEq] at hc) <;> (try contradiction)))
            all_goals first | omega | skip
            refine ⟨⟨(m.set i (List.replicate X.length (11 * i % 256)), i + 1), lens_set hm hX hil (by simp), by dsimp only; omega, fun k hk => ?_⟩, Weak.absorbW (d := 0) (s := 1) (pre := (m.take i).map iO) (y := .ref 1 1 0 X.length false) (post := (m.drop (i + 1)).map iO) (by simp -implicitDefEqProofs only [go_sem]) ?_, by dsimp only; omega⟩
            · dsimp only at hk ⊢
              rw [getD_set hil]
              split
              · rename_i h1
                rw [h1, List.length_replicate]
              · exact hr k (by omega)
            · simp -implicitDefEqProofs only [go_sem, List.length_replicate, take_rep]
              rw [iO_set hil]
              refine Weak.of [(0, 0)] (by rfl) ?_ ?_
              · simp -implicitDefEqProofs only [go_sem, h5]
              · simp -implicitDefEqProofs only [go_sem]
        · refine ⟨⟨m, hm, fun k hk => hr k (by omega)⟩, (Weak.freezeAll (d := 0) (s := 1) (xs := m.map iO) (by simp -implicitDefEqProofs only [go_sem]) iO_frzOks iO_closeds iO_nobors).trans (Weak.of [(0, 0)] (by rfl) ?_ ?_)⟩
          · simp -implicitDefEqProofs only [go_sem]
          · simp -implicitDefEqProofs only [go_sem]
    · have hml : m2.length = l.length := by simpa using congrArg List.length hm2
      refine SW.cutS (γ := Unit) (fun _ => St.of [(0, .sl true (bA b)), (4, .sl true (bA (b ++ room 80)))] [] 64) (fun K hK => ?_) fun _ => ?_
      · repeat' (first
          | apply_assumption -exfalso -symm (transparency := .reducible) only [*]
          | (with_reducible refine And.intro ?_ ?_)
          | (refine drawOf ?_; kernel_rfl)
          | ((with_reducible refine opsF_id ?_); simp -implicitDefEqProofs only [go_sem])
          | ((with_reducible refine SW.id ?_); first | with_reducible refine SW.seqK fun K hK => ?_ | with_reducible refine SW.block ?_ | with_reducible refine SW.scope ?_ | ((first | with_reducible refine SW.skip ?_ | with_reducible refine SW.exit ?_ | with_reducible refine SW.label ?_ | with_reducible refine SW.ret ?_ | with_reducible refine SW.go MM ?_ | refine SW.goDrawF MM (by rfl) (by kernel_rfl) ?_); simp -implicitDefEqProofs only [go_sem]) | (refine SW.cond (by simp -implicitDefEqProofs only [go_sem]; rfl) (fun ht => ?_) (fun ht => ?_) <;> (try simp only [decide_eq_true_eq, decide_eq_false_iff_not, beq_iff_eq, bne_iff_ne, beq_eq_false_iff_ne, bne_eq_false_iff_eq, Bool.or_eq_true, Bool.and_eq_true, Bool.or_eq_false_iff, Bool.and_eq_false_imp, Bool.not_eq_true, Bool.not_eq_false, Bool.not_true, Bool.not_false, Bool.not_eq_true', Bool.not_eq_false', Bool.or_false, Bool.false_or, Bool.or_true, Bool.true_or, Bool.and_true, Bool.true_and, reduceCtorEq] at ht) <;> (try contradiction)))
          | ((with_reducible refine guardSplit (fun hg => ?_) (fun hg => ?_)) <;> (try simp only [Bool.not_true, Bool.not_false] at hg) <;> (have hc := hg) <;> simp -implicitDefEqProofs only [go_sem, hg] <;> (try simp only [decide_eq_true_eq, decide_eq_false_iff_not, beq_iff_eq, bne_iff_ne, beq_eq_false_iff_ne, bne_eq_false_iff_eq, Bool.or_eq_true, Bool.and_eq_true, Bool.or_eq_false_iff, Bool.and_eq_false_imp, Bool.not_eq_true, Bool.not_eq_false, Bool.not_true, Bool.not_false, Bool.not_eq_true', Bool.not_eq_false', Bool.or_false, Bool.false_or, Bool.or_true, Bool.true_or, Bool.and_true, Bool.true_and, reduceCtorEq] at hc) <;> (try contradiction)))
        refine SW.loop (α := { i : Nat // i ≤ l.length }) (fun i => St.of [(0, .sl true (bA b)), (4, .sl true (bA (b ++ room 80))), (5, .ref 0 1 0 l.length false), (14, .v (.int .i64 i.1))] [(0, .froz 1 (m2.map (iT true)))] 64) (fun i => l.length - i.1)
          ⟨0, by omega⟩ (Weak.of [(0, 0)] (by rfl) ?_ ?_) fun ⟨i, hi⟩ => ?_
        · simp -implicitDefEqProofs only [go_sem]
          rfl
        · simp -implicitDefEqProofs only [go_sem]
        · have h5 := i64_one (a := i) (by omega)
          repeat' (first
            | apply_assumption -exfalso -symm (transparency := .reducible) only [*]
            | (with_reducible refine And.intro ?_ ?_)
            | (refine drawOf ?_; kernel_rfl)
            | ((with_reducible refine opsF_id ?_); simp -implicitDefEqProofs only [go_sem, h5])
            | ((with_reducible refine SW.id ?_); first | with_reducible refine SW.seqK fun K hK => ?_ | with_reducible refine SW.block ?_ | with_reducible refine SW.scope ?_ | ((first | with_reducible refine SW.skip ?_ | with_reducible refine SW.exit ?_ | with_reducible refine SW.label ?_ | with_reducible refine SW.ret ?_ | with_reducible refine SW.go MM ?_ | refine SW.goDrawF MM (by rfl) (by kernel_rfl) ?_); simp -implicitDefEqProofs only [go_sem, h5]) | (refine SW.cond (by simp -implicitDefEqProofs only [go_sem, h5]; rfl) (fun ht => ?_) (fun ht => ?_) <;> (try simp only [decide_eq_true_eq, decide_eq_false_iff_not, beq_iff_eq, bne_iff_ne, beq_eq_false_iff_ne, bne_eq_false_iff_eq, Bool.or_eq_true, Bool.and_eq_true, Bool.or_eq_false_iff, Bool.and_eq_false_imp, Bool.not_eq_true, Bool.not_eq_false, Bool.not_true, Bool.not_false, Bool.not_eq_true', Bool.not_eq_false', Bool.or_false, Bool.false_or, Bool.or_true, Bool.true_or, Bool.and_true, Bool.true_and, reduceCtorEq] at ht) <;> (try contradiction)))
            | ((with_reducible refine guardSplit (fun hg => ?_) (fun hg => ?_)) <;> (try simp only [Bool.not_true, Bool.not_false] at hg) <;> (have hc := hg) <;> simp -implicitDefEqProofs only [go_sem, hg, h5] <;> (try simp only [decide_eq_true_eq, decide_eq_false_iff_not, beq_iff_eq, bne_iff_ne, beq_eq_false_iff_ne, bne_eq_false_iff_eq, Bool.or_eq_true, Bool.and_eq_true, Bool.or_eq_false_iff, Bool.and_eq_false_imp, Bool.not_eq_true, Bool.not_eq_false, Bool.not_true, Bool.not_false, Bool.not_eq_true', Bool.not_eq_false', Bool.or_false, Bool.false_or, Bool.or_true, Bool.true_or, Bool.and_true, Bool.true_and, reduceCtorEq] at hc) <;> (try contradiction)))
          · obtain ⟨n, hn⟩ : ∃ n, (m2.getD i []).length = n := ⟨_, rfl⟩
            have hnl := lens_lt hm2 (fun x hx => Nat.lt_of_le_of_lt (l2 x hx) hb) i
            have hri := hr2 i (by omega)
            rw [hn] at hnl hri
            refine SW.loop (α := { j : Nat // j ≤ n }) (fun j => St.of [(0, .sl true (bA b)), (4, .sl true (bA (b ++ room 80))), (5, .ref 0 1 0 l.length false), (14, .v (.int .i64 i)), (15, .v (.int .i64 j.1))] [(0, .froz 1 (m2.map (iT true)))] 64) (fun j => n - j.1)
              ⟨0, by omega⟩ (Weak.of [(0, 0)] (by rfl) ?_ ?_) fun ⟨j, hj⟩ => ?_
            · simp -implicitDefEqProofs only [go_sem]
              rfl
            · simp -implicitDefEqProofs only [go_sem]
            · have h6 := i64_one (a := j) (by omega)
              have h7 : IntKind.i64.wrap (11 * (i : Int)) = ((11 * i : Nat) : Int) := by rw [IntWalk.i64_in _ (by omega)]; omega
              have h8 : IntKind.u8.wrap ((11 * i : Nat) : Int) = ((11 * i % 256 : Nat) : Int) := by rw [IntKind.wrap_u8]; omega
              repeat' (first
                | apply_assumption -exfalso -symm (transparency := .reducible) only [*]
                | (with_reducible refine And.intro ?_ ?_)
                | (refine drawOf ?_; kernel_rfl)
                | ((with_reducible refine opsF_id ?_); simp -implicitDefEqProofs only [go_sem, h6, h7, h8, getR_iT, hn])
                | ((with_reducible refine SW.id ?_); first | with_reducible refine SW.seqK fun K hK => ?_ | with_reducible refine SW.block ?_ | with_reducible refine SW.scope ?_ | ((first | with_reducible refine SW.skip ?_ | with_reducible refine SW.exit ?_ | with_reducible refine SW.label ?_ | with_reducible refine SW.ret ?_ | with_reducible refine SW.go MM ?_ | refine SW.goDrawF MM (by rfl) (by kernel_rfl) ?_); simp -implicitDefEqProofs only [go_sem, h6, h7, h8, getR_iT, hn]) | (refine SW.cond (by simp -implicitDefEqProofs only [go_sem, h6, h7, h8, getR_iT, hn]; rfl) (fun ht => ?_) (fun ht => ?_) <;> (try simp only [decide_eq_true_eq, decide_eq_false_iff_not, beq_iff_eq, bne_iff_ne, beq_eq_false_iff_ne, bne_eq_false_iff_eq, Bool.or_eq_true, Bool.and_eq_true, Bool.or_eq_false_iff, Bool.and_eq_false_imp, Bool.not_eq_true, Bool.not_eq_false, Bool.not_true, Bool.not_false, Bool.not_eq_true', Bool.not_eq_false', Bool.or_false, Bool.false_or, Bool.or_true, Bool.true_or, Bool.and_true, Bool.true_and, reduceCtorEq] at ht) <;> (try contradiction)))
                | ((with_reducible refine guardSplit (fun hg => ?_) (fun hg => ?_)) <;> (try simp only [Bool.not_true, Bool.not_false] at hg) <;> (have hc := hg) <;> simp -implicitDefEqProofs only [go_sem, hg, h6, h7, h8, getR_iT, hn] <;> (try simp only [decide_eq_true_eq, decide_eq_false_iff_not, beq_iff_eq, bne_iff_ne, beq_eq_false_iff_ne, bne_eq_false_iff_eq, Bool.or_eq_true, Bool.and_eq_true, Bool.or_eq_false_iff, Bool.and_eq_false_imp, Bool.not_eq_true, Bool.not_eq_false, Bool.not_true, Bool.not_false, Bool.not_eq_true', Bool.not_eq_false', Bool.or_false, Bool.false_or, Bool.or_true, Bool.true_or, Bool.and_true, Bool.true_and, reduceCtorEq] at hc) <;> (try contradiction)))
              all_goals first | omega | skip
              · have hjn : j < n := by omega
                have hv : (m2.getD i []).getD j 0 = 11 * i % 256 := by rw [hri, getD_rep hjn]
                omega
              · refine ⟨⟨j + 1, by omega⟩, Weak.of [(0, 0)] (by rfl) ?_ ?_, by dsimp only; omega⟩
                · simp -implicitDefEqProofs only [go_sem]
                · simp -implicitDefEqProofs only [go_sem]
              · refine ⟨⟨i + 1, by omega⟩, Weak.of [(0, 0)] (by rfl) ?_ ?_, by dsimp only; omega⟩
                · simp -implicitDefEqProofs only [go_sem, h5]
                · simp -implicitDefEqProofs only [go_sem]
          · exact ⟨(), Weak.of [] (by rfl) (by simp -implicitDefEqProofs only [go_sem]) trivial⟩
      · repeat' (first
          | apply_assumption -exfalso -symm (transparency := .reducible) only [*]
          | (refine ⟨_, _, h5, ?_⟩ <;> (try simp -implicitDefEqProofs only [go_sem]))
          | (with_reducible refine And.intro ?_ ?_)
          | (refine drawOf ?_; kernel_rfl)
          | ((with_reducible refine opsF_id ?_); simp -implicitDefEqProofs only [go_sem])
          | ((with_reducible refine SW.id ?_); first | with_reducible refine SW.seqK fun K hK => ?_ | with_reducible refine SW.block ?_ | with_reducible refine SW.scope ?_ | ((first | with_reducible refine SW.skip ?_ | with_reducible refine SW.exit ?_ | with_reducible refine SW.label ?_ | with_reducible refine SW.ret ?_ | with_reducible refine SW.go MM ?_ | refine SW.goDrawF MM (by rfl) (by kernel_rfl) ?_); simp -implicitDefEqProofs only [go_sem]) | (refine SW.cond (by simp -implicitDefEqProofs only [go_sem]; rfl) (fun ht => ?_) (fun ht => ?_) <;> (try simp only [decide_eq_true_eq, decide_eq_false_iff_not, beq_iff_eq, bne_iff_ne, beq_eq_false_iff_ne, bne_eq_false_iff_eq, Bool.or_eq_true, Bool.and_eq_true, Bool.or_eq_false_iff, Bool.and_eq_false_imp, Bool.not_eq_true, Bool.not_eq_false, Bool.not_true, Bool.not_false, Bool.not_eq_true', Bool.not_eq_false', Bool.or_false, Bool.false_or, Bool.or_true, Bool.true_or, Bool.and_true, Bool.true_and, reduceCtorEq] at ht) <;> (try contradiction)))
          | ((with_reducible refine guardSplit (fun hg => ?_) (fun hg => ?_)) <;> (try simp only [Bool.not_true, Bool.not_false] at hg) <;> (have hc := hg) <;> simp -implicitDefEqProofs only [go_sem, hg] <;> (try simp only [decide_eq_true_eq, decide_eq_false_iff_not, beq_iff_eq, bne_iff_ne, beq_eq_false_iff_ne, bne_eq_false_iff_eq, Bool.or_eq_true, Bool.and_eq_true, Bool.or_eq_false_iff, Bool.and_eq_false_imp, Bool.not_eq_true, Bool.not_eq_false, Bool.not_true, Bool.not_false, Bool.not_eq_true', Bool.not_eq_false', Bool.or_false, Bool.false_or, Bool.or_true, Bool.true_or, Bool.and_true, Bool.true_and, reduceCtorEq] at hc) <;> (try contradiction)))

theorem splits_law {H : Type} (ds : List (DataW H)) (xs : List A) (h : DAs [.slice (.int .u8)] ds xs) (hk : dBulks ds ≤ 1048576) : ∃ back, FS Try.prog 7 xs (.ret [.v (.bool true)] back) := by
  obtain ⟨d0, ds, a0, xs, rfl, rfl, h0, h⟩ := h.cons_inv
  obtain ⟨rfl, rfl⟩ := h.nil_inv
  obtain ⟨b, rfl, hb, h8⟩ := h0.bytes_inv
  simp only [dBulks] at hk
  exact ⟨_, splits_FS b (by omega) h8⟩
end Go.PA
