/- PA21: every operation is sound. -/
import Derived.Test.YtmacfbboiippoaaPA20
namespace Go.PA
section
variable {P : Program} {c : Ctx} {st : St} {a : Act} {w : World} {loc : Nat → Option (Option Nat)} {S : Nat → Prop} {Fm : Nat → List Nat}

theorem TV_int {k : IntKind} {n : Int} {e : Env} {y : Value} (h : TV (.v (.int k n)) e y) : y = .int k n := (TV_v.1 h).2

theorem All2.one {α β : Type} {R : α → β → Prop} {x : α} {ys : List β} (h : All2 R [x] ys) : ∃ y, ys = [y] ∧ R x y := by
  cases h with
  | cons h t => cases t; exact ⟨_, rfl, h⟩
theorem All2.two {α β : Type} {R : α → β → Prop} {x x' : α} {ys : List β} (h : All2 R [x, x'] ys) : ∃ y y', ys = [y, y'] ∧ R x y ∧ R x' y' := by
  cases h with
  | cons h t => obtain ⟨y, rfl, h'⟩ := t.one; exact ⟨_, _, rfl, h, h'⟩

theorem VVs_of_All2 {e : Env} {f : Operand → Value} : ∀ {l : List Operand} {xs : List A}, All2 (fun x z => TV z e (f x)) l xs → xs.all A.good = true → VVs xs e (l.map f) []
  | [], _, h, hg => by cases h; simp [VVs]
  | x :: l, _, h, hg => by
    cases h with
    | @cons _ z _ zs h1 h2 =>
      simp only [List.all_cons, Bool.and_eq_true] at hg
      simp only [VVs, List.map_cons]
      exact ⟨f x, l.map f, [], [], rfl, rfl, (TV_good hg.1).1 h1, VVs_of_All2 h2 hg.2⟩

theorem VVs_split : ∀ (xs ys : List A) (e : Env) (vs : List Value), VVs (xs ++ ys) e vs [] → VVs xs e (vs.take xs.length) [] ∧ VVs ys e (vs.drop xs.length) []
  | [], ys, e, vs, h => ⟨by simp [VVs], by simpa using h⟩
  | x :: xs, ys, e, vs, h => by
    simp only [List.cons_append, VVs] at h
    obtain ⟨y, vs', F1, F2, rfl, hF, h1, h2⟩ := h
    simp at hF
    obtain ⟨rfl, rfl⟩ := hF
    obtain ⟨h3, h4⟩ := VVs_split xs ys e vs' h2
    refine ⟨?_, by simpa using h4⟩
    simp only [List.length_cons, List.take_succ_cons, VVs]
    exact ⟨y, _, [], [], rfl, rfl, h1, h3⟩

theorem VVs_at : ∀ (xs : List A) (e : Env) (vs : List Value) (k : Nat) (x : A), VVs xs e vs [] → xs[k]? = some x → ∃ y, vs[k]? = some y ∧ VV x e y []
  | [], e, vs, k, x, h, hx => by simp at hx
  | z :: xs, e, vs, k, x, h, hx => by
    simp only [VVs] at h
    obtain ⟨y, vs', F1, F2, rfl, hF, h1, h2⟩ := h
    simp at hF
    obtain ⟨rfl, rfl⟩ := hF
    cases k with
    | zero => simp at hx; subst hx; exact ⟨y, by simp, h1⟩
    | succ k => simp at hx; simpa using VVs_at xs e vs' k x h2 hx

/-- Which operations make blocks. -/
def allocs : Op → Bool
  | .alloc _ | .box .. | .buildSlice .. | .makeSlice .. | .assign _ | .load .. => true
  | .call c => match c.callee with | .builtin _ => true | _ => false
  | _ => false

theorem aeff_sound {o : Oper} {n : Nat} {xs : List A} {eff : Eff} {rd : List Nat} (R : RelW c st a w loc S Fm) (hx : All2 (fun x z => TV z (envOf c st w loc S) (a.eval x)) o.op.operands.toList xs)
    (hn : allocs o.op = true → st.ids n = false) (r : RM.Runs st.bk (aeff P n o xs) eff rd) : Done P c (st.app eff) a o w eff.val := by
  unfold aeff at r
  cases ho : o.op <;> rw [ho] at r hx hn <;> simp only [Op.operands, allocs] at hx hn <;> try exact (runs_fail r).elim
  case move x =>
    obtain ⟨z, rfl, h1⟩ := hx.one
    exact done_effV R r (exec_value (.inl ho)) h1
  case assign x =>
    obtain ⟨z, rfl, h1⟩ := hx.one
    dsimp only at r
    split at r
    · rename_i x
      split at r
      · rename_i e s ht
        split at r
        · rename_i hs
          obtain rfl := runs_effN r
          refine ⟨_, _, _, _, _, _, exec_value (.inr ho), .inl rfl, R.nilRow (hn trivial) hs _, ?_⟩
          rw [TV_good rfl, VV_mk rfl]
          simp only [VR]
          exact ⟨trivial, by simp [envOf, St.app], none, 0, rfl, by simp, by simp, by simp, fun l hl => by simp [envOf] at hl; subst hl; simp⟩
        · exact (runs_fail r).elim
      · exact (runs_fail r).elim
    · exact done_effV R r (exec_value (.inr ho)) h1
  case pick q x y =>
    cases hx with
    | @cons _ z1 _ zs h1 hx =>
      obtain ⟨z2, z3, rfl, h2, h3⟩ := hx.two
      dsimp only at r
      split at r
      · rename_i t u v heq
        simp only [List.cons.injEq, and_true] at heq
        obtain ⟨rfl, rfl, rfl⟩ := heq
        rw [TV_v] at h1
        have hexec : (execOp a.eval o).run P w = .ok (.value (if t then a.eval x else a.eval y)) w := by
          simp [execOp, ho, h1.2, asBool]
        split at r
        · rename_i p q'
          rw [TV_v] at h2 h3
          refine done_effV R r hexec ?_
          rw [TV_v]
          cases t <;> simp [h2.2, h3.2, plainV]
        · refine done_effV R r hexec ?_
          cases t
          · exact h3
          · exact h2
      · exact (runs_fail r).elim
  case alloc t =>
    dsimp only at r
    split at r
    · rename_i z hz
      obtain rfl := runs_effN r
      exact alloc_sound ho R (hn trivial) hz
    · exact (runs_fail r).elim
  case box t x =>
    obtain ⟨z, rfl, h1⟩ := hx.one
    dsimp only at r
    split at r
    · rename_i hg
      obtain rfl := runs_effN r
      exact box_sound ho R (hn trivial) hg h1
    · exact (runs_fail r).elim
  case build t ps => exact aBuild_sound ho R (by simpa using hx) r
  case buildSlice t len ps => exact aBuildSlice_sound ho R (hn trivial) (by simpa using hx) r
  case load t x =>
    obtain ⟨z, rfl, h1⟩ := hx.one
    exact aLoad_sound ho R h1 r
  case store t x y =>
    obtain ⟨z, z', rfl, h1, h2⟩ := hx.two
    exact aStore_sound ho R h1 h2 r
  case nilCheck x =>
    obtain ⟨z, rfl, h1⟩ := hx.one
    dsimp only at r
    split at r
    · rename_i d p heq
      simp only [List.cons.injEq, and_true] at heq
      subst heq
      obtain ⟨_, ad, hy, _⟩ := TV_ptr h1
      refine done_effV R r ?_ h1
      simp [execOp, ho, hy]
    · rename_i q z heq
      simp only [List.cons.injEq, and_true] at heq
      subst heq
      refine done_effV R r ?_ h1
      rw [TV_good rfl, VV_mk rfl] at h1
      simp only [VR] at h1
      obtain ⟨_, ad, us, hy, _⟩ := h1
      injection hy with hy
      simp [execOp, ho, hy]
    · rename_i f fa ca heq
      simp only [List.cons.injEq, and_true] at heq
      subst heq
      refine done_effV R r ?_ h1
      rw [TV_good rfl, VV_mk rfl] at h1
      simp only [VR] at h1
      obtain ⟨fvs, cvs, _, _, hy, _⟩ := h1
      injection hy with hy
      simp [execOp, ho, hy]
    · exact (runs_fail r).elim
  case binOp op t x y t' =>
    obtain ⟨z, z', rfl, h1, h2⟩ := hx.two
    exact aBin_sound ho R h1 h2 r
  case unOp op t x =>
    obtain ⟨z, rfl, h1⟩ := hx.one
    exact aUn_sound ho R h1 r
  case convert s d x =>
    obtain ⟨z, rfl, h1⟩ := hx.one
    exact aConv_sound ho R h1 r
  case makeFunc fn first caps =>
    dsimp only at r
    split at r
    · rename_i hg
      have hV := VVs_of_All2 hx hg
      have hlen : xs.length = first.size + caps.size := by
        have : ∀ {l : List Operand} {ys : List A}, All2 (fun x z => TV z (envOf c st w loc S) (a.eval x)) l ys → ys.length = l.length := by
          intro l
          induction l with
          | nil => intro ys h; cases h; rfl
          | cons x l ih => intro ys h; cases h with | cons h1 h2 => simp [ih h2]
        rw [this hx]; simp
      have hsp := VVs_split (xs.take first.size) (xs.drop first.size) _ _ (by rw [List.take_append_drop]; exact hV)
      have htl : (xs.take first.size).length = first.size := by simp; omega
      rw [htl] at hsp
      refine done_effV R r (y := .func fn (first.map a.eval) (caps.map a.eval)) ?_ ?_
      · simp [execOp, ho, Instr.makeFunc]
      · rw [TV_good rfl, VV_mk rfl]
        simp only [VR]
        refine ⟨(first.map a.eval).toList, (caps.map a.eval).toList, [], [], by rw [Array.toArray_toList, Array.toArray_toList], rfl, ?_, ?_⟩
        · have : (first.map a.eval).toList = ((first ++ caps).toList.map a.eval).take first.size := by
            simp
          rw [this]; exact hsp.1
        · have : (caps.map a.eval).toList = ((first ++ caps).toList.map a.eval).drop first.size := by
            simp
          rw [this]; exact hsp.2
    · exact (runs_fail r).elim
  case makeSlice t x y =>
    obtain ⟨z, z', rfl, h1, h2⟩ := hx.two
    dsimp only at r
    split at r
    · rename_i k l k' m heq
      simp only [List.cons.injEq, and_true] at heq
      obtain ⟨rfl, rfl⟩ := heq
      exact aMake_sound ho R (hn trivial) (TV_int h1) (TV_int h2) r
    · exact (runs_fail r).elim
  case slice t x lo hi mx =>
    dsimp only at r
    split at r
    · obtain ⟨z, h0, h1⟩ := All2.one (by simpa using hx)
      simp only [List.cons.injEq, and_true] at h0
      subst h0
      exact aSlice_sound (l := none) (h := none) ho R h1 rfl rfl r
    · rename_i l k n
      obtain ⟨z, z', h0, h1, h2⟩ := All2.two (by simpa using hx)
      simp only [List.cons.injEq, and_true] at h0
      obtain ⟨rfl, rfl⟩ := h0
      exact aSlice_sound (l := some n) (h := none) ho R h1 ⟨k, by simp [TV_int h2]⟩ rfl r
    · rename_i l k n
      obtain ⟨z, z', h0, h1, h2⟩ := All2.two (by simpa using hx)
      simp only [List.cons.injEq, and_true] at h0
      obtain ⟨rfl, rfl⟩ := h0
      exact aSlice_sound (l := none) (h := some n) ho R h1 rfl ⟨k, by simp [TV_int h2]⟩ r
    · rename_i l h k n k' n'
      simp at hx
      cases hx with
      | @cons _ z1 _ zs h1 hx =>
        obtain ⟨z2, z3, h0, h2, h3⟩ := hx.two
        simp only [List.cons.injEq, and_true] at h0
        obtain ⟨rfl, rfl⟩ := h0
        exact aSlice_sound (l := some n) (h := some n') ho R h1 ⟨k, by simp [TV_int h2]⟩ ⟨k', by simp [TV_int h3]⟩ r
    · exact (runs_fail r).elim
  case fieldAddr t x k =>
    obtain ⟨z, rfl, h1⟩ := hx.one
    exact aFieldAddr_sound ho R h1 r
  case field t x k =>
    obtain ⟨z, rfl, h1⟩ := hx.one
    exact aField_sound ho R h1 r
  case indexAddr t x i =>
    obtain ⟨z, z', rfl, h1, h2⟩ := hx.two
    dsimp only at r
    split at r
    · rename_i u k n heq
      simp only [List.cons.injEq, and_true] at heq
      obtain ⟨rfl, rfl⟩ := heq
      exact aIndexAddr_sound ho R h1 (TV_int h2) r
    · exact (runs_fail r).elim
  case index t x i =>
    obtain ⟨z, z', rfl, h1, h2⟩ := hx.two
    dsimp only at r
    split at r
    · rename_i u k n heq
      simp only [List.cons.injEq, and_true] at heq
      obtain ⟨rfl, rfl⟩ := heq
      exact aIndex_sound ho R h1 (TV_int h2) r
    · exact (runs_fail r).elim
  case extract x i =>
    obtain ⟨z, rfl, h1⟩ := hx.one
    dsimp only at r
    split at r
    · rename_i ys heq
      simp only [List.cons.injEq, and_true] at heq
      subst heq
      split at r
      · rename_i y hy
        obtain ⟨vs, hv, hvs⟩ := h1
        obtain ⟨u, hu, hvv⟩ := VVs_at ys _ vs i y hvs hy
        refine done_effV R r ?_ (VV_TV hvv)
        simp [execOp, ho, hv, Instr.extract, hu]
      · exact (runs_fail r).elim
    · exact (runs_fail r).elim
  case makeInterface t x =>
    obtain ⟨z, rfl, h1⟩ := hx.one
    dsimp only at r
    split at r
    · rename_i hg
      simp only [Bool.and_eq_true] at hg
      rw [TV_good hg.1] at h1
      refine done_effV R r (y := .iface t (a.eval x)) ?_ ?_
      · unfold tConcrete at hg
        cases hu : P.underlying t with
        | none => simp [hu] at hg
        | some d =>
          cases d <;> first
            | (simp [hu] at hg; done)
            | simp [execOp, ho, Instr.makeInterface, run_underlying hu]
      · rw [TV_good rfl, VV_mk rfl]
        simp only [VR]
        exact ⟨_, rfl, h1⟩
    · exact (runs_fail r).elim
  case call k =>
    dsimp only at r
    cases hk : k.callee with
    | value f => rw [hk] at r; exact (runs_fail r).elim
    | invoke f m => rw [hk] at r; exact (runs_fail r).elim
    | builtin b =>
      rw [hk] at r hn
      dsimp only at r
      have hops : k.operands.toList = k.args.toList := by simp [Call.operands, hk]
      rw [hops] at hx
      unfold aBuiltin at r
      split at r
      · rename_i x0
        have hargs : ∃ x, k.args = #[x] ∧ TV x0 (envOf c st w loc S) (a.eval x) := by
          cases hl : k.args.toList with
          | nil => rw [hl] at hx; cases hx
          | cons x l =>
            rw [hl] at hx
            cases hx with
            | cons h1 h2 =>
              cases h2
              exact ⟨x, by apply Array.toList_inj.1; simp [hl], h1⟩
        obtain ⟨x, hargs, h1⟩ := hargs
        split at r
        · rename_i t hT
          exact aLen_sound ho hk hargs R h1 hT r
        · exact (runs_fail r).elim
      · rename_i x0 y0
        split at r
        · rename_i t t' hT
          split at r
          case isFalse => exact (runs_fail r).elim
          rename_i htt
          subst htt
          have hargs : ∃ x y, k.args = #[x, y] ∧ TV x0 (envOf c st w loc S) (a.eval x) ∧ TV y0 (envOf c st w loc S) (a.eval y) := by
            cases hl : k.args.toList with
            | nil => rw [hl] at hx; cases hx
            | cons x l =>
              rw [hl] at hx
              cases hx with
              | cons h1 h2 =>
                cases h2 with
                | cons h2 h3 =>
                  cases h3
                  exact ⟨x, _, by apply Array.toList_inj.1; simp [hl], h1, h2⟩
          obtain ⟨x, y, hargs, h1, h2⟩ := hargs
          have hT' : k.argTypes = #[t, t] := by apply Array.toList_inj.1; simpa using hT
          refine aAppend_sound ho hk hargs hT' R (hn rfl) (fun hb => ?_) h1 h2 r
          rw [hargs] at hb
          dsimp only at hb
          split at hb
          · rename_i heq
            simp only [List.cons.injEq] at heq
            rw [heq.1]; rfl
          · cases hb
        · exact (runs_fail r).elim
      · exact (runs_fail r).elim
end
end Go.PA
