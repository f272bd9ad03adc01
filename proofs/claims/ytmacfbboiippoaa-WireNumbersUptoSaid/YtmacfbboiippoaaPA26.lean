/- PA26: what a call hands back becomes blocks of the frame. -/
import Derived.Test.YtmacfbboiippoaaPA25
namespace Go.PA

def St.addBks (st : St) (bs : List (Nat × Blk)) : St :=
  { st with bk := bs.foldl (fun f q => upd f q.1 (some q.2)) st.bk, ids := fun d => st.ids d || (bs.map (·.1)).contains d }

theorem addBks_nil (st : St) : st.addBks [] = st := by simp [St.addBks]
theorem addBks_append (st : St) (bs bs' : List (Nat × Blk)) : st.addBks (bs ++ bs') = (st.addBks bs).addBks bs' := by
  simp only [St.addBks, List.foldl_append, List.map_append, St.mk.injEq, true_and, and_true]
  funext d
  rw [Bool.or_assoc, List.contains_append]

section
variable {P : Program} {c : Ctx} {a : Act} {w : World} {S : Nat → Prop}

structure Unf (c : Ctx) (a : Act) (w : World) (S : Nat → Prop) (st : St) (loc : Nat → Option (Option Nat)) (bs : List (Nat × Blk)) (k k' : Nat) (X2 : List Nat) (loc' : Nat → Option (Option Nat)) (Fm' : Nat → List Nat) : Prop where
  rel : RelG c (st.addBks bs) a w loc' S Fm' [] X2
  loc : ∀ i, st.ids i = true → loc' i = loc i
  ids : ∀ i, (st.addBks bs).ids i = true → st.ids i = true ∨ (k ≤ i ∧ i < k')

theorem Unf.refl {st : St} {loc : Nat → Option (Option Nat)} {Fm : Nat → List Nat} {X : List Nat} {k : Nat} (R : RelG c st a w loc S Fm [] X) : Unf c a w S st loc [] k k X loc Fm :=
  ⟨by rw [addBks_nil]; exact R, fun _ _ => rfl, fun i h => .inl (by simpa [addBks_nil] using h)⟩

theorem Unf.le {st : St} {loc loc' : Nat → Option (Option Nat)} {bs : List (Nat × Blk)} {k k' : Nat} {X2 : List Nat} {Fm' : Nat → List Nat} (u : Unf c a w S st loc bs k k' X2 loc' Fm') :
    (envOf c st w loc S).Le (envOf c (st.addBks bs) w loc' S) [] :=
  ⟨fun _ _ => rfl, fun _ h => h, fun _ h => .inr h, fun d h => by simp only [envOf, St.addBks] at h ⊢; simp [h], fun d l h hl => by simp only [envOf] at h hl ⊢; rw [← u.loc d h]; exact hl, fun _ _ _ _ => rfl⟩

theorem Unf.trans {st : St} {loc loc1 loc2 : Nat → Option (Option Nat)} {bs bs' : List (Nat × Blk)} {k k1 k2 : Nat} {X1 X2 : List Nat} {Fm1 Fm2 : Nat → List Nat} (h1 : k ≤ k1) (h2 : k1 ≤ k2) (u : Unf c a w S st loc bs k k1 X1 loc1 Fm1)
    (v : Unf c a w S (st.addBks bs) loc1 bs' k1 k2 X2 loc2 Fm2) : Unf c a w S st loc (bs ++ bs') k k2 X2 loc2 Fm2 := by
  refine ⟨by rw [addBks_append]; exact v.rel, fun i h => ?_, fun i h => ?_⟩
  · rw [v.loc i (by simp [St.addBks, h]), u.loc i h]
  · rw [addBks_append] at h
    rcases v.ids i h with h | h
    · rcases u.ids i h with h | h
      · exact .inl h
      · exact .inr ⟨h.1, by omega⟩
    · exact .inr ⟨by omega, h.2⟩

theorem one_new {st : St} {k : Nat} {b : Blk} : st.addBks [(k, b)] = { st with bk := upd st.bk k (some b), ids := fun x => st.ids x || x == k } := by
  simp only [St.addBks, List.foldl_cons, List.foldl_nil, List.map_cons, List.map_nil, St.mk.injEq, true_and, and_true]
  funext d
  by_cases h : d = k <;> simp [h]

theorem nodup_app {F X2 : List Nat} (h : (F ++ X2).Nodup) : F.Nodup ∧ X2.Nodup ∧ ∀ g ∈ F, g ∉ X2 := by
  obtain ⟨h1, h2, h3⟩ := List.nodup_append.1 h
  exact ⟨h1, h2, fun g hg hx => h3 g hg g hx rfl⟩


theorem unf_same (x : A) (k : Nat) (y : A) (bs : List (Nat × Blk)) (k' : Nat) (st : St) (loc : Nat → Option (Option Nat)) (Fm : Nat → List Nat) (vs : List Value) (F X2 : List Nat) (h : x = y ∧ bs = [] ∧ k = k') (hno : x.noown = true)
    (hv : VR x (envOf c st w loc S).close vs F) (R : RelG c st a w loc S Fm [] (F ++ X2)) :
    k ≤ k' ∧ y.isAgg = x.isAgg ∧ ∃ loc' Fm', Unf c a w S st loc bs k k' X2 loc' Fm' ∧ VR y (envOf c (st.addBks bs) w loc' S) vs [] := by
  obtain ⟨rfl, rfl, rfl⟩ := h
  obtain rfl := VR_noown _ _ _ _ hno hv
  exact ⟨Nat.le_refl _, rfl, loc, Fm, .refl R, by rw [addBks_nil]; exact VR_mono _ _ _ _ _ (Env.close_le _ _) hv⟩

mutual
theorem unf_le : ∀ (x : A) (k : Nat) (y : A) (bs : List (Nat × Blk)) (k' : Nat), unf k x = some (y, bs, k') → k ≤ k'
  | .osl s xs, k, y, bs, k', h => by simp only [unf, Option.some.injEq, Prod.mk.injEq] at h; omega
  | .box z, k, y, bs, k', h => by simp only [unf, Option.some.injEq, Prod.mk.injEq] at h; omega
  | .agg xs, k, y, bs, k', h => by
    simp only [unf] at h
    cases hu : unfs k xs with
    | none => simp [hu] at h
    | some q =>
      obtain ⟨ys, bs', k1⟩ := q
      simp only [hu, Option.map_some, Option.some.injEq, Prod.mk.injEq] at h
      have := unfs_le xs k ys bs' k1 hu
      omega
  | .clo f fa ca, k, y, bs, k', h => by
    simp only [unf] at h
    split at h
    · rename_i fa' bs1 k1 hu1
      split at h
      · rename_i ca' bs2 k2 hu2
        simp only [Option.some.injEq, Prod.mk.injEq] at h
        have := unfs_le fa k fa' bs1 k1 hu1
        have := unfs_le ca k1 ca' bs2 k2 hu2
        omega
      · simp at h
    · simp at h
  | .ifc t z, k, y, bs, k', h => by
    simp only [unf] at h
    cases hu : unf k z with
    | none => simp [hu] at h
    | some q =>
      obtain ⟨ys, bs', k1⟩ := q
      simp only [hu, Option.map_some, Option.some.injEq, Prod.mk.injEq] at h
      have := unf_le z k ys bs' k1 hu
      omega
  | .arr t xs, k, y, bs, k', h => by
    simp only [unf] at h
    split at h
    · simp only [Option.some.injEq, Prod.mk.injEq] at h; omega
    · simp at h
  | .v x, k, y, bs, k', h => by simp [unf, A.noown] at h; omega
  | .sl p xs, k, y, bs, k', h => by simp [unf, A.noown] at h; omega
  | .rp p z, k, y, bs, k', h => by simp [unf, A.noown] at h; omega
  | .ref .., k, y, bs, k', h => by simp [unf, A.noown] at h; omega
  | .aref .., k, y, bs, k', h => by simp [unf, A.noown] at h; omega
  | .ptr .., k, y, bs, k', h => by simp [unf, A.noown] at h; omega
  | .und, k, y, bs, k', h => by simp [unf, A.noown] at h
  | .tup _, k, y, bs, k', h => by simp [unf, A.noown] at h
  | .mp .., k, y, bs, k', h => by simp [unf, A.noown] at h
  | .mref _, k, y, bs, k', h => by simp [unf, A.noown] at h
theorem unfs_le : ∀ (xs : List A) (k : Nat) (ys : List A) (bs : List (Nat × Blk)) (k' : Nat), unfs k xs = some (ys, bs, k') → k ≤ k'
  | [], k, ys, bs, k', h => by simp only [unfs, Option.some.injEq, Prod.mk.injEq] at h; omega
  | x :: xs, k, ys, bs, k', h => by
    simp only [unfs] at h
    split at h
    · rename_i x' bs1 k1 hu1
      split at h
      · rename_i xs' bs2 k2 hu2
        simp only [Option.some.injEq, Prod.mk.injEq] at h
        have := unf_le x k x' bs1 k1 hu1
        have := unfs_le xs k1 xs' bs2 k2 hu2
        omega
      · simp at h
    · simp at h
end

mutual
theorem unf_ok : ∀ (x : A) (k : Nat) (y : A) (bs : List (Nat × Blk)) (k' : Nat) (st : St) (loc : Nat → Option (Option Nat)) (Fm : Nat → List Nat) (vs : List Value) (F X2 : List Nat), unf k x = some (y, bs, k') →
    VR x (envOf c st w loc S).close vs F → RelG c st a w loc S Fm [] (F ++ X2) → (∀ i, k ≤ i → i < k' → st.ids i = false) →
    k ≤ k' ∧ y.isAgg = x.isAgg ∧ ∃ loc' Fm', Unf c a w S st loc bs k k' X2 loc' Fm' ∧ VR y (envOf c (st.addBks bs) w loc' S) vs []
  | .osl s xs, k, y, bs, k', st, loc, Fm, vs, F, X2, h, hv, R, hf => by
    simp only [unf, Option.some.injEq, Prod.mk.injEq] at h
    obtain ⟨rfl, rfl, rfl⟩ := h
    refine ⟨by omega, rfl, ?_⟩
    obtain ⟨n1, n2, n3⟩ := nodup_app R.xnd
    have hid := hf k (Nat.le_refl _) (by omega)
    simp only [VR] at hv
    obtain ⟨hs, hss, ⟨rfl, rfl, rfl⟩ | ⟨g, cs, ty, kc, us, Fx, rfl, h1, h2, h3, h4, h5, h6, rfl⟩⟩ := hv
    · refine ⟨_, _, ⟨by rw [one_new]; exact R.fresh (l := none) (F1 := []) hid (fun e he1 he2 he3 _ => ⟨hs, by simp, .inl ⟨he3, rfl, rfl⟩⟩) (by simp) (by simp) (fun g hg => by simpa using hg) List.nodup_nil n2 (by simp), fun i hi => ?_, fun i hi => ?_⟩, ?_⟩
      · have hne : i ≠ k := fun e => by subst e; rw [hid] at hi; cases hi
        simp [hne]
      · rw [one_new] at hi
        simp at hi
        rcases hi with hi | hi
        · exact .inl hi
        · exact .inr ⟨by omega, by omega⟩
      · simp only [VR]
        exact ⟨trivial, by simp [envOf, one_new], none, 0, by simp, by simp, by simp, by simp, fun l hl => by simp [envOf] at hl; subst hl; simp⟩
    · have hcl : ∀ e : Env, e.w = w → e.S = S → VRs xs e.shut us Fx := fun e he1 he2 => by
        refine VRs_mono _ _ _ _ _ ?_ h5
        exact ⟨fun g _ => by simp [Env.shut, Env.close, envOf, he1], fun g h => by simpa [Env.shut, Env.close, envOf, he2] using h, fun g h => h.elim, fun d h => by simp [Env.shut] at h, fun d l h => by simp [Env.shut] at h, fun d g h => by simp [Env.shut] at h⟩
      refine ⟨_, _, ⟨by rw [one_new]; exact R.fresh (l := some g) (F1 := g :: Fx) hid (fun e he1 he2 he3 _ => ⟨hs, hss, .inr ⟨g, cs, ty, kc, us, Fx, he3, h1, h2, by rw [he1]; exact h3, h4, hcl e he1 he2, h6, rfl⟩⟩) (fun g' hg' => by
          injection hg' with hg'; subst hg'; exact (R.xown g (by simp)).2.2.1) (fun g hg => by simp at hg ⊢; rcases hg with hg | hg <;> simp [hg]) (fun g hg => by simp [hg]) n1 n2 n3, fun i hi => ?_, fun i hi => ?_⟩, ?_⟩
      · have hne : i ≠ k := fun e => by subst e; rw [hid] at hi; cases hi
        simp [hne]
      · rw [one_new] at hi
        simp at hi
        rcases hi with hi | hi
        · exact .inl hi
        · exact .inr ⟨by omega, by omega⟩
      · simp only [VR]
        refine ⟨trivial, by simp [envOf, one_new], _, kc, rfl, h1, fun _ => ⟨_, rfl⟩, by simp, fun l hl => ?_⟩
        simp [envOf] at hl
        subst hl
        refine .inr ⟨by simp, fun _ => ?_⟩
        have : w.shape? g = some (ty, cs.size) := shape_cells h3
        simp [envOf, this, h4]
  | .box z, k, y, bs, k', st, loc, Fm, vs, F, X2, h, hv, R, hf => by
    simp only [unf, Option.some.injEq, Prod.mk.injEq] at h
    obtain ⟨rfl, rfl, rfl⟩ := h
    refine ⟨by omega, rfl, ?_⟩
    obtain ⟨n1, n2, n3⟩ := nodup_app R.xnd
    have hid := hf k (Nat.le_refl _) (by omega)
    simp only [VR] at hv
    obtain ⟨g, cs, ty, Fx, rfl, h1, h2, rfl⟩ := hv
    have hid' : ∀ i, st.ids i = true → i ≠ k := fun i hi e => by subst e; rw [hid] at hi; cases hi
    refine ⟨fun x => if x = k then some (some g) else loc x, fun x => if x = k then g :: Fx else Fm x, ⟨?_, fun i hi => by simp [hid' i hi], fun i hi => ?_⟩, ?_⟩
    · rw [one_new]
      -- the content stands in any environment that agrees on the world
      have hcl : ∀ e : Env, e.w = w → e.S = S → (∀ g, c.B g → e.B g) → VR z e cs.toList Fx := fun e he1 he2 he3 => by
        refine VR_mono _ _ _ _ _ ?_ h2
        exact ⟨fun g _ => by simp [Env.close, envOf, he1], fun g h => by simpa [Env.close, envOf, he2] using h, fun g h => .inr (he3 g h), fun d h => by simp [Env.close] at h, fun d l h => by simp [Env.close] at h, fun d g h => by simp [Env.close] at h⟩
      exact RelG.fresh R hid (fun e he1 he2 he3 he4 => ⟨g, cs, ty, Fx, he3, by rw [he1]; exact h1, hcl e he1 he2 he4, rfl⟩) (fun g' hg' => by
          injection hg' with hg'; subst hg'; exact (R.xown g (by simp)).2.2.1) (fun g hg => by simp at hg ⊢; rcases hg with hg | hg <;> simp [hg]) (fun g hg => by simp [hg]) n1 n2 n3
    · rw [one_new] at hi
      simp at hi
      rcases hi with hi | hi
      · exact .inl hi
      · exact .inr ⟨by omega, by omega⟩
    · simp only [VR]
      exact ⟨trivial, by simp [envOf, one_new], _, rfl, fun l hl => by simp [envOf] at hl; exact ⟨g, hl.symm, by simp [offP]⟩⟩
  | .agg xs, k, y, bs, k', st, loc, Fm, vs, F, X2, h, hv, R, hf => by
    simp only [unf] at h
    cases hu : unfs k xs with
    | none => simp [hu] at h
    | some q =>
      obtain ⟨ys, bs', k1⟩ := q
      simp only [hu, Option.map_some, Option.some.injEq, Prod.mk.injEq] at h
      obtain ⟨rfl, rfl, rfl⟩ := h
      simp only [VR] at hv
      obtain ⟨h1, loc', Fm', u, h2⟩ := unfs_okR xs k ys bs' k1 st loc Fm vs F X2 hu hv R hf
      exact ⟨h1, rfl, loc', Fm', u, by simpa only [VR] using h2⟩
  | .clo f fa ca, k, y, bs, k', st, loc, Fm, vs, F, X2, h, hv, R, hf => by
    simp only [unf] at h
    split at h
    · rename_i fa' bs1 k1 hu1
      split at h
      · rename_i ca' bs2 k2 hu2
        simp only [Option.some.injEq, Prod.mk.injEq] at h
        obtain ⟨rfl, rfl, rfl⟩ := h
        simp only [VR] at hv
        obtain ⟨fvs, cvs, Ff, Fc, rfl, rfl, h1, h2⟩ := hv
        have R1 : RelG c st a w loc S Fm [] (Ff ++ (Fc ++ X2)) := by rw [← List.append_assoc]; exact R
        have hk2 := unfs_le ca k1 ca' bs2 k2 hu2
        obtain ⟨h3, loc1, Fm1, u1, h4⟩ := unfs_okV fa k fa' bs1 k1 st loc Fm fvs Ff (Fc ++ X2) hu1 h1 R1 (fun i hi hi' => hf i hi (by omega))
        obtain ⟨h5, loc2, Fm2, u2, h6⟩ := unfs_okV ca k1 ca' bs2 k2 (st.addBks bs1) loc1 Fm1 cvs Fc X2 hu2 h2 u1.rel (fun i hi hi' => by
          have h0 := hf i (by omega) hi'
          cases hh : (st.addBks bs1).ids i with
          | false => rfl
          | true =>
            rcases u1.ids i hh with h | h
            · rw [h0] at h; cases h
            · omega)
        refine ⟨by omega, rfl, loc2, Fm2, Unf.trans h3 h5 u1 u2, ?_⟩
        simp only [VR]
        rw [addBks_append]
        exact ⟨fvs, cvs, [], [], rfl, rfl, VVs_mono _ _ _ _ _ u2.le h4, h6⟩
      · simp at h
    · simp at h
  | .ifc t z, k, y, bs, k', st, loc, Fm, vs, F, X2, h, hv, R, hf => by
    simp only [unf] at h
    cases hu : unf k z with
    | none => simp [hu] at h
    | some q =>
      obtain ⟨z', bs', k1⟩ := q
      simp only [hu, Option.map_some, Option.some.injEq, Prod.mk.injEq] at h
      obtain ⟨rfl, rfl, rfl⟩ := h
      simp only [VR] at hv
      obtain ⟨x, rfl, ⟨hg, cs, hy, hv⟩ | ⟨hg, hv⟩⟩ := hv
      · obtain ⟨h1, h2, loc', Fm', u, h3⟩ := unf_ok z k z' bs' k1 st loc Fm _ F X2 hu hv R hf
        exact ⟨h1, rfl, loc', Fm', u, by simp only [VR]; exact ⟨x, rfl, .inl ⟨h2 ▸ hg, cs, hy, h3⟩⟩⟩
      · obtain ⟨h1, h2, loc', Fm', u, h3⟩ := unf_ok z k z' bs' k1 st loc Fm _ F X2 hu hv R hf
        exact ⟨h1, rfl, loc', Fm', u, by simp only [VR]; exact ⟨x, rfl, .inr ⟨h2 ▸ hg, h3⟩⟩⟩
  | .arr t xs, k, y, bs, k', st, loc, Fm, vs, F, X2, h, hv, R, hf => by
    simp only [unf] at h
    split at h
    · rename_i hno
      simp only [Option.some.injEq, Prod.mk.injEq] at h
      obtain ⟨rfl, rfl, rfl⟩ := h
      obtain rfl := VR_noown (.arr t xs) _ _ _ (by simpa [A.noown] using hno) hv
      exact ⟨Nat.le_refl _, rfl, loc, Fm, .refl R, by rw [addBks_nil]; exact VR_mono _ _ _ _ _ (Env.close_le _ _) hv⟩
    · simp at h
  | .v x, k, y, bs, k', st, loc, Fm, vs, F, X2, h, hv, R, hf => unf_same _ k y bs k' st loc Fm vs F X2 (by simpa [unf, A.noown] using h) rfl hv R
  | .sl p xs, k, y, bs, k', st, loc, Fm, vs, F, X2, h, hv, R, hf => unf_same _ k y bs k' st loc Fm vs F X2 (by simpa [unf, A.noown] using h) rfl hv R
  | .rp p z, k, y, bs, k', st, loc, Fm, vs, F, X2, h, hv, R, hf => unf_same _ k y bs k' st loc Fm vs F X2 (by simpa [unf, A.noown] using h) rfl hv R
  | .ref .., k, y, bs, k', st, loc, Fm, vs, F, X2, h, hv, R, hf => unf_same _ k y bs k' st loc Fm vs F X2 (by simpa [unf, A.noown] using h) rfl hv R
  | .aref .., k, y, bs, k', st, loc, Fm, vs, F, X2, h, hv, R, hf => unf_same _ k y bs k' st loc Fm vs F X2 (by simpa [unf, A.noown] using h) rfl hv R
  | .ptr .., k, y, bs, k', st, loc, Fm, vs, F, X2, h, hv, R, hf => unf_same _ k y bs k' st loc Fm vs F X2 (by simpa [unf, A.noown] using h) rfl hv R
  | .und, k, y, bs, k', st, loc, Fm, vs, F, X2, h, hv, R, hf => by simp [VR] at hv
  | .tup _, k, y, bs, k', st, loc, Fm, vs, F, X2, h, hv, R, hf => by simp [VR] at hv
  | .mp .., k, y, bs, k', st, loc, Fm, vs, F, X2, h, hv, R, hf => by simp [VR] at hv
  | .mref _, k, y, bs, k', st, loc, Fm, vs, F, X2, h, hv, R, hf => by simp [VR] at hv
theorem unfs_okR : ∀ (xs : List A) (k : Nat) (ys : List A) (bs : List (Nat × Blk)) (k' : Nat) (st : St) (loc : Nat → Option (Option Nat)) (Fm : Nat → List Nat) (vs : List Value) (F X2 : List Nat), unfs k xs = some (ys, bs, k') →
    VRs xs (envOf c st w loc S).close vs F → RelG c st a w loc S Fm [] (F ++ X2) → (∀ i, k ≤ i → i < k' → st.ids i = false) →
    k ≤ k' ∧ ∃ loc' Fm', Unf c a w S st loc bs k k' X2 loc' Fm' ∧ VRs ys (envOf c (st.addBks bs) w loc' S) vs []
  | [], k, ys, bs, k', st, loc, Fm, vs, F, X2, h, hv, R, hf => by
    simp only [unfs, Option.some.injEq, Prod.mk.injEq] at h
    obtain ⟨rfl, rfl, rfl⟩ := h
    simp only [VRs] at hv
    obtain ⟨rfl, rfl⟩ := hv
    exact ⟨Nat.le_refl _, loc, Fm, .refl R, by simp [VRs]⟩
  | x :: xs, k, ys, bs, k', st, loc, Fm, vs, F, X2, h, hv, R, hf => by
    simp only [unfs] at h
    split at h
    · rename_i x' bs1 k1 hu1
      split at h
      · rename_i xs' bs2 k2 hu2
        simp only [Option.some.injEq, Prod.mk.injEq] at h
        obtain ⟨rfl, rfl, rfl⟩ := h
        simp only [VRs] at hv
        obtain ⟨us, vs', F1, F2, rfl, rfl, h1, h2⟩ := hv
        have R1 : RelG c st a w loc S Fm [] (F1 ++ (F2 ++ X2)) := by rw [← List.append_assoc]; exact R
        have hk2 := unfs_le xs k1 xs' bs2 k2 hu2
        obtain ⟨h3, _, loc1, Fm1, u1, h4⟩ := unf_ok x k x' bs1 k1 st loc Fm us F1 (F2 ++ X2) hu1 h1 R1 (fun i hi hi' => hf i hi (by omega))
        obtain ⟨h5, loc2, Fm2, u2, h6⟩ := unfs_okR xs k1 xs' bs2 k2 (st.addBks bs1) loc1 Fm1 vs' F2 X2 hu2 h2 u1.rel (fun i hi hi' => by
          have h0 := hf i (by omega) hi'
          cases hh : (st.addBks bs1).ids i with
          | false => rfl
          | true =>
            rcases u1.ids i hh with h | h
            · rw [h0] at h; cases h
            · omega)
        refine ⟨by omega, loc2, Fm2, Unf.trans h3 h5 u1 u2, ?_⟩
        rw [addBks_append]
        have := VRs_cons (VR_mono _ _ _ _ _ u2.le h4) h6
        simpa using this
      · simp at h
    · simp at h
theorem unfs_okV : ∀ (xs : List A) (k : Nat) (ys : List A) (bs : List (Nat × Blk)) (k' : Nat) (st : St) (loc : Nat → Option (Option Nat)) (Fm : Nat → List Nat) (vs : List Value) (F X2 : List Nat), unfs k xs = some (ys, bs, k') →
    VVs xs (envOf c st w loc S).close vs F → RelG c st a w loc S Fm [] (F ++ X2) → (∀ i, k ≤ i → i < k' → st.ids i = false) →
    k ≤ k' ∧ ∃ loc' Fm', Unf c a w S st loc bs k k' X2 loc' Fm' ∧ VVs ys (envOf c (st.addBks bs) w loc' S) vs []
  | [], k, ys, bs, k', st, loc, Fm, vs, F, X2, h, hv, R, hf => by
    simp only [unfs, Option.some.injEq, Prod.mk.injEq] at h
    obtain ⟨rfl, rfl, rfl⟩ := h
    simp only [VVs] at hv
    obtain ⟨rfl, rfl⟩ := hv
    exact ⟨Nat.le_refl _, loc, Fm, .refl R, by simp [VVs]⟩
  | x :: xs, k, ys, bs, k', st, loc, Fm, vs, F, X2, h, hv, R, hf => by
    simp only [unfs] at h
    split at h
    · rename_i x' bs1 k1 hu1
      split at h
      · rename_i xs' bs2 k2 hu2
        simp only [Option.some.injEq, Prod.mk.injEq] at h
        obtain ⟨rfl, rfl, rfl⟩ := h
        simp only [VVs] at hv
        obtain ⟨y, vs', F1, F2, rfl, rfl, h1, h2⟩ := hv
        have R1 : RelG c st a w loc S Fm [] (F1 ++ (F2 ++ X2)) := by rw [← List.append_assoc]; exact R
        have hk2 := unfs_le xs k1 xs' bs2 k2 hu2
        have key : ∃ us, VR x (envOf c st w loc S).close us F1 ∧ ∀ x2 e2, x2.isAgg = x.isAgg → VR x2 e2 us [] → ((x2.isAgg = true ∧ ∃ cs, y = .agg cs ∧ VR x2 e2 cs.toList []) ∨ (x2.isAgg = false ∧ VR x2 e2 [y] [])) := by
          rcases h1 with ⟨hg, cs, hy, hv⟩ | ⟨hg, hv⟩
          · exact ⟨_, hv, fun x2 e2 he hv2 => .inl ⟨he.trans hg, cs, hy, hv2⟩⟩
          · exact ⟨_, hv, fun x2 e2 he hv2 => .inr ⟨he.trans hg, hv2⟩⟩
        obtain ⟨us, hv1, hback⟩ := key
        obtain ⟨h3, hag, loc1, Fm1, u1, h4⟩ := unf_ok x k x' bs1 k1 st loc Fm us F1 (F2 ++ X2) hu1 hv1 R1 (fun i hi hi' => hf i hi (by omega))
        obtain ⟨h5, loc2, Fm2, u2, h6⟩ := unfs_okV xs k1 xs' bs2 k2 (st.addBks bs1) loc1 Fm1 vs' F2 X2 hu2 h2 u1.rel (fun i hi hi' => by
          have h0 := hf i (by omega) hi'
          cases hh : (st.addBks bs1).ids i with
          | false => rfl
          | true =>
            rcases u1.ids i hh with h | h
            · rw [h0] at h; cases h
            · omega)
        refine ⟨by omega, loc2, Fm2, Unf.trans h3 h5 u1 u2, ?_⟩
        rw [addBks_append]
        simp only [VVs]
        exact ⟨y, vs', [], [], rfl, rfl, hback x' _ hag (VR_mono _ _ _ _ _ u2.le h4), h6⟩
      · simp at h
    · simp at h
end

end
end Go.PA
