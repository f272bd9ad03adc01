/- PA36: the contract from the body. -/
import Derived.Test.YtmacfbboiippoaaPA35
namespace Go.PA

section
variable {P : Program} {M : FuncId → List Bool}

theorem getD_ofList (vs : List Value) (k t : Nat) : (vs.toArray ++ Array.replicate k undef).getD t undef = vs.getD t undef := by
  rw [Array.getD_eq_getD_getElem?, Array.getElem?_append]
  split
  · simp
  · rename_i h
    have h2 : vs.length ≤ t := by simpa using h
    rw [Array.getElem?_replicate, List.getD_eq_getElem?_getD, List.getElem?_eq_none h2]
    split <;> rfl

theorem resRel_of {e : Env} {ys : List A} {vs : List Value} {F : List Nat} (h : VVs ys e vs F) : resRel e ys (oneV vs) F := by
  have hl := VVs_length h
  match ys, vs, hl with
  | [y], [v], _ =>
    simp only [VVs] at h
    obtain ⟨y', vs', F1, F2, hv, rfl, h1, h2, rfl⟩ := h
    simp at hv
    obtain ⟨rfl, rfl⟩ := hv
    simpa [resRel, oneV, VV] using h1
  | [], [], _ => exact ⟨[], rfl, h⟩
  | y :: y' :: ys, v :: v' :: vs, _ => exact ⟨v :: v' :: vs, rfl, h⟩

theorem FS_ofW {f : FuncId} {fn : Func} {code : Code} {args : List A} {kb : List Bool} {out : Out} {st0 : St} (hf : P.funcs[f]? = some fn) (hb : fn.body = some code) (hok : fnOk fn args kb = true)
    (he : entrySt args = some st0) (h : ∀ (c : Cx) (a : Act) (w : World), c.N = (fn.ntmps, kb) → Rl c st0 a w → code.wp P (liftQ c (exitQ P fn kb out)) a w) : FS P f args out := by
  intro w S B vs F hvs hnd hF hbd
  unfold entrySt at he
  split at he
  case h_2 => cases he
  rename_i ys bs k hu
  injection he with he
  subst he
  simp only [fnOk, Bool.and_eq_true, decide_eq_true_eq] at hok
  obtain ⟨hn, hkb⟩ := hok
  have hvl := VVs_length hvs
  let c : Cx := { w0 := w, F0 := F, S0 := S, B := B, n := fn.ntmps, kb := kb, gh := fun t => vs.getD t undef }
  let a0 : Act := { tmps := vs.toArray ++ Array.replicate (fn.ntmps - vs.toArray.size) undef, defers := [] }
  have hfram : Fram c.toCtx w S := ⟨fun _ _ _ => rfl, Nat.le_refl _, rfl, rfl, rfl, fun _ h => h, fun _ h => .inl h, hbd, fun _ _ => rfl, fun _ => rfl⟩
  have R0 : RelG c.toCtx (St.none k) a0 w (fun _ => none) S (fun _ => []) [] (F ++ []) := by
    refine ⟨fun t x hx => by simp [St.none] at hx, ?_, rfl, fun d b hb => by simp [St.none] at hb, fun d _ => ⟨rfl, .inl rfl⟩, fun d hd => by simp [St.none] at hd, fun d g h => by simp at h, fun _ => List.nodup_nil, fun d d' _ g hg => by simp at hg,
      fun d g hg => by simp at hg, hfram, by simpa using hnd, fun g _ d hd => by simp at hd, fun g hg => ?_⟩
    · simp only [a0, c]
      simp
      omega
    · obtain ⟨h1, h2, h3⟩ := hF g (by simpa using hg)
      exact ⟨h1, h2, h3, .inl (by simpa using hg)⟩
  obtain ⟨_, loc', Fm', U, hV⟩ := unfs_okV (c := c.toCtx) (a := a0) (w := w) (S := S) args 0 ys bs k (St.none k) (fun _ => none) (fun _ => []) vs F [] hu hvs R0 (fun _ _ _ => rfl)
  have RW := U.rel.toW
  have R1 : Rl c { (St.none k).addBks bs with sl := fun t => ys[t]? } a0 w := by
    refine ⟨⟨loc', S, Fm', fun t x hx => ?_, RW.size, RW.defers, RW.bks, RW.dead, RW.known, RW.nodup, RW.disj, RW.own, RW.fram⟩, fun t ht => getD_ofList _ _ _⟩
    obtain ⟨y, hy, hyv⟩ := VVs_at ys _ vs t x hV hx
    have : a0.tmps.getD t undef = y := by
      rw [getD_ofList, List.getD_eq_getElem?_getD, hy]
      rfl
    rw [this]
    exact (TV_good (VV_isAgg hyv)).2 hyv
  refine calls_of_wp hf hb (wp_mono (h c a0 w rfl R1) fun e a w' hq => ?_)
  have key : ∀ st, (exitM P fn.results.toList kb st).wp st.bk (fun q _ => out = .ret q.1 q.2) → Rl c st a w' →
      a.defers = [] ∧ ∃ v, (results fn a.tmps).run P w' = .ok v w' ∧ ∃ (S' : Nat → Prop) (F' : List Nat), Fram ⟨w, F, S, B, 0⟩ w' S' ∧ F'.Nodup ∧
      (∀ g ∈ F', ¬ S' g ∧ ¬ B g ∧ g < w'.heap.size ∧ (g ∈ F ∨ w.heap.size ≤ g)) ∧
      match out with
      | .ret res back => ∃ Fr Fb, F' = Fr ++ Fb ∧ resRel (cEnv w' S' fun _ => False) res v Fr ∧ backRel (cEnv w' S' B) back vs Fb
      | _ => False := by
    intro st hx R
    obtain ⟨⟨loc, S', Fm, R⟩, hkp⟩ := R
    obtain ⟨q, l, r, rfl⟩ := RM.runs_of_wp hx
    unfold exitM at r
    obtain ⟨rs, l1, l2, r1, r2, _⟩ := RM.runs_bind r
    obtain ⟨q1, l3, l4, r3, r4, _⟩ := RM.runs_bind r2
    obtain ⟨hnb, r5⟩ := runs_req r4
    obtain ⟨q2, l5, l6, r6, r7, _⟩ := RM.runs_bind r5
    obtain ⟨rfl, _⟩ := runs_ret r7
    obtain ⟨rvs, h1, h2⟩ := resVars_ok R r1
    obtain ⟨Fr, h3, T1⟩ := takeAll_ok R 64 rs rvs [] q1 l3 h2 r3
    obtain ⟨Fb, h4, T2⟩ := backPass_ok R 64 kb 0 vs q1.2 q2 l5 (by rw [hkb, hvl]) (fun j hj => by rw [Nat.zero_add]; exact hkp j hj) r6
    have T := Took.append (F1 := []) (F2 := []) R T1 T2 (by simp) (by simp)
    have fr := R.fram
    refine ⟨R.defers, _, results_ok h1, S', Fr ++ Fb, ⟨fr.heap, fr.size, fr.os, fr.tape, fr.output, fr.sub, fr.new, fr.bd, fr.shp, fr.fro⟩, T.nodup, fun g hg => ?_, Fr, Fb, rfl, ?_, h4⟩
    · rcases T.sub g hg with h | ⟨d, _, _, hd⟩
      · simp at h
      · exact R.own d g hd
    · exact resRel_of (VVs_noB _ _ _ _ hnb h3)
  cases e with
  | normal =>
    obtain ⟨st, hx, R⟩ := hq
    obtain ⟨h1, v, h2, S', F', h3, h4, h5, h6⟩ := key st hx R
    refine ⟨h1, v, h2, S', F', h3, h4, h5, ?_⟩
    cases out with
    | ret res back => exact h6
    | pan => exact h6.elim
  | ret =>
    obtain ⟨st, hx, R⟩ := hq
    obtain ⟨h1, v, h2, S', F', h3, h4, h5, h6⟩ := key st hx R
    refine ⟨h1, v, h2, S', F', h3, h4, h5, ?_⟩
    cases out with
    | ret res back => exact h6
    | pan => exact h6.elim
  | exit id =>
    obtain ⟨st, hx, R⟩ := hq
    exact hx.elim
  | goto l => exact hq.elim
  | panic ch => exact hq.elim
  | outgrown => exact hq.elim

end
end Go.PA
