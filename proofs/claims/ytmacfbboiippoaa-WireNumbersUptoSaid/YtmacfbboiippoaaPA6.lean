/- PA6: the operations are sound: values. -/
import Derived.Test.YtmacfbboiippoaaPA5
namespace Go.PA

theorem TV_v {x y : Value} {e : Env} : TV (.v x) e y ↔ plainV x = true ∧ y = x := by
  unfold TV
  simp only [VV, A.isAgg, VR, Bool.false_eq_true, false_and, false_or, true_and, List.cons.injEq, and_true]

theorem TV_good {a : A} {e : Env} {y : Value} (h : a.good = true) : TV a e y ↔ VV a e y [] := by
  cases a <;> simp_all [TV, A.good]

theorem VV_mk {a : A} {e : Env} {y : Value} {F : List Nat} (h : a.isAgg = false) : VV a e y F ↔ VR a e [y] F := by
  simp [VV, h]
theorem VV_mk_agg {a : A} {e : Env} {y : Value} {F : List Nat} (h : a.isAgg = true) : VV a e y F ↔ ∃ cs, y = .agg cs ∧ VR a e cs.toList F := by
  simp [VV, h]

theorem VV_isAgg {a : A} {e : Env} {y : Value} {F : List Nat} (h : VV a e y F) : a.good = true := by
  rcases h with ⟨h, _⟩ | ⟨_, h⟩
  · cases a <;> simp_all [A.isAgg, A.good]
  · cases a <;> simp_all [VR, A.good]

inductive All2 {α β : Type} (R : α → β → Prop) : List α → List β → Prop
  | nil : All2 R [] []
  | cons {x : α} {y : β} {xs : List α} {ys : List β} (h : R x y) (t : All2 R xs ys) : All2 R (x :: xs) (y :: ys)

theorem mapM_aval {sl : Nat → Option A} {f : Operand → Value} {e : Env} (hf : ∀ x z, aval sl x = some z → TV z e (f x)) :
    ∀ (l : List Operand) (xs : List A), l.mapM (aval sl) = some xs → All2 (fun x z => TV z e (f x)) l xs
  | [], xs, h => by simp at h; subst h; exact .nil
  | x :: l, xs, h => by
    simp only [List.mapM_cons, Option.bind_eq_bind, Option.pure_def] at h
    cases hx : aval sl x with
    | none => simp [hx] at h
    | some z =>
      cases hl : l.mapM (aval sl) with
      | none => simp [hx, hl] at h
      | some zs =>
        simp [hx, hl] at h
        subst h
        exact .cons (hf x z hx) (mapM_aval hf l zs hl)

theorem constCell_VR {c : Value} {x : A} (e : Env) (h : constCell c = some x) : VR x e [c] [] ∧ x.isAgg = false ∧ x.good = true := by
  unfold constCell at h
  split at h
  · simp at h; subst h
    refine ⟨?_, rfl, rfl⟩
    simp only [VR]
    exact ⟨trivial, none, 0, [], rfl, by simp, ⟨0, by simp⟩, by simp [VRs], by simp⟩
  · rename_i c' _
    split at h
    · rename_i hp
      simp at h; subst h
      exact ⟨by simp [VR, hp], rfl, rfl⟩
    · simp at h

theorem constCells_VRs (e : Env) : ∀ (cs : List Value) (xs : List A), cs.mapM constCell = some xs → VRs xs e cs []
  | [], xs, h => by simp at h; subst h; simp [VRs]
  | c :: cs, xs, h => by
    simp only [List.mapM_cons, Option.bind_eq_bind, Option.pure_def] at h
    cases hx : constCell c with
    | none => simp [hx] at h
    | some z =>
      cases hl : cs.mapM constCell with
      | none => simp [hx, hl] at h
      | some zs =>
        simp [hx, hl] at h
        subst h
        have := VRs_cons (constCell_VR e hx).1 (constCells_VRs e cs zs hl)
        simpa using this

theorem constA_TV {c : Value} {x : A} (e : Env) (h : constA c = some x) : TV x e c := by
  unfold constA at h
  split at h
  · rename_i cs
    cases hm : cs.toList.mapM constCell with
    | none => simp [hm] at h
    | some xs =>
      simp [hm] at h
      subst h
      rw [TV_good rfl, VV_mk_agg rfl]
      exact ⟨cs, rfl, by simp only [VR]; exact constCells_VRs e _ _ hm⟩
  · obtain ⟨h1, h2, h3⟩ := constCell_VR e h
    rw [TV_good h3, VV_mk h2]
    exact h1

def St.app (st : St) (e : Eff) : St :=
  { sl := st.sl, bk := e.up.foldl (fun f q => upd f q.1 q.2) st.bk, ids := fun d => st.ids d || e.new.contains d, ep := st.ep }

theorem St.app_nil (st : St) (z : A) : st.app ⟨z, [], []⟩ = st := by
  simp [St.app]

section
variable {P : Program} {c : Ctx} {st : St} {a : Act} {w : World} {loc : Nat → Option (Option Nat)} {S : Nat → Prop} {Fm : Nat → List Nat}

theorem RelW.eval (R : RelW c st a w loc S Fm) (x : Operand) (z : A) (h : aval st.sl x = some z) : TV z (envOf c st w loc S) (a.eval x) := by
  cases x with
  | tmp t => exact R.slots t z h
  | const v => exact constA_TV _ h
  | global g => simp [aval] at h
  | func f =>
    simp [aval] at h
    subst h
    rw [TV_good rfl, VV_mk rfl]
    simp only [VR]
    exact ⟨[], [], [], [], rfl, rfl, by simp [VVs], by simp [VVs]⟩

/-- An operation is done: it runs to an end, and the state behind it stands for the world behind it. -/
def Done (P : Program) (c : Ctx) (st' : St) (a : Act) (o : Oper) (w : World) (z : A) : Prop :=
  ∃ nx y w' loc S Fm, (execOp a.eval o).run P w = .ok nx w' ∧ (nx = .value y ∨ nx = .skip ∧ y = undef) ∧
    RelW c st' a w' loc S Fm ∧ TV z (envOf c st' w' loc S) y

theorem done_val {o : Oper} {z : A} {y : Value} (R : RelW c st a w loc S Fm) (h : (execOp a.eval o).run P w = .ok (.value y) w)
    (ht : TV z (envOf c st w loc S) y) : Done P c (st.app ⟨z, [], []⟩) a o w z := by
  rw [St.app_nil]
  exact ⟨_, y, w, loc, S, Fm, h, .inl rfl, R, ht⟩

theorem runs_ret {α : Type} {bk : Nat → Option Blk} {x y : α} {l : List Nat} (h : RM.Runs bk (.ret x) y l) : y = x ∧ l = [] := by cases h; exact ⟨rfl, rfl⟩
theorem runs_fail {α : Type} {bk : Nat → Option Blk} {y : α} {l : List Nat} (h : RM.Runs bk .fail y l) : False := by cases h
theorem runs_req {α : Type} {bk : Nat → Option Blk} {p : Prop} {k : RM α} {y : α} {l : List Nat} (h : RM.Runs bk (.req p k) y l) : p ∧ RM.Runs bk k y l := by cases h; exact ⟨‹_›, ‹_›⟩
theorem runs_rd {α : Type} {bk : Nat → Option Blk} {d : Nat} {k : Blk → RM α} {y : α} {l : List Nat} (h : RM.Runs bk (.rd d k) y l) : ∃ b l', bk d = some b ∧ RM.Runs bk (k b) y l' ∧ l = d :: l' := by
  cases h; exact ⟨_, _, ‹_›, ‹_›, rfl⟩
theorem runs_effV {bk : Nat → Option Blk} {z : A} {y : Eff} {l : List Nat} (h : RM.Runs bk (effV z) y l) : y = ⟨z, [], []⟩ ∧ l = [] := runs_ret h

theorem done_effV {o : Oper} {z : A} {eff : Eff} {l : List Nat} {y : Value} (R : RelW c st a w loc S Fm) (r : RM.Runs st.bk (effV z) eff l)
    (h : (execOp a.eval o).run P w = .ok (.value y) w) (ht : TV z (envOf c st w loc S) y) : Done P c (st.app eff) a o w eff.val := by
  obtain ⟨rfl, _⟩ := runs_effV r
  exact done_val R h ht

/-! binary -/
theorem run_intBin {op : BinOp} {k : IntKind} {x y : Int} {eff : Eff} {l : List Nat} (r : RM.Runs st.bk (intBin op k x y) eff l) :
    ∃ z, eff = ⟨.v z, [], []⟩ ∧ plainV z = true ∧ ∀ w, (binOp op 0 (.int k x) (.int k y)).run P w = .ok z w ∧ op ≠ .shl ∧ op ≠ .shr := by
  cases op <;> simp only [intBin] at r <;>
    first
      | exact (runs_fail r).elim
      | (obtain ⟨rfl, _⟩ := runs_effV r; exact ⟨_, rfl, rfl, fun w => ⟨by simp [binOp, Op.intArith, Op.intCmp, Op.intBits, iand, ior, ixor, iandNot], by simp, by simp⟩⟩)
      | (obtain ⟨hy, r⟩ := runs_req r; obtain ⟨rfl, _⟩ := runs_effV r; exact ⟨_, rfl, rfl, fun w => ⟨by simp [binOp, Op.intDiv, hy], by simp, by simp⟩⟩)

end
end Go.PA
