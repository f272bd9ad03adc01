/- PA37: the blocks' names may be turned. -/
import Derived.Test.YtmacfbboiippoaaPA36
namespace Go.PA

mutual
def ren (π : Nat → Option Nat) : A → Option A
  | .v x => some (.v x)
  | .und => some .und
  | .sl p xs => some (.sl p xs)
  | .rp p a => some (.rp p a)
  | .osl s xs => some (.osl s xs)
  | .box a => some (.box a)
  | .arr t xs => some (.arr t xs)
  | .ref d s off len full => (π d).map fun d' => .ref d' s off len full
  | .aref d p s off len => (π d).map fun d' => .aref d' p s off len
  | .ptr d p => (π d).map fun d' => .ptr d' p
  | .agg xs => (rens π xs).map .agg
  | .tup xs => (rens π xs).map .tup
  | .clo f a b => match rens π a, rens π b with
    | some a', some b' => some (.clo f a' b')
    | _, _ => none
  | .ifc t a => (ren π a).map (.ifc t)
  | .mp .. => none
  | .mref _ => none
def rens (π : Nat → Option Nat) : List A → Option (List A)
  | [] => some []
  | x :: xs => match ren π x, rens π xs with
    | some y, some ys => some (y :: ys)
    | _, _ => none
end

def renB (π : Nat → Option Nat) : Blk → Option Blk
  | .row s xs => some (.row s xs)
  | .froz s xs => some (.froz s xs)
  | .var a => (ren π a).map .var

/-- 'e'' is 'e', the names turned. -/
structure Env.Ren (π : Nat → Option Nat) (e e' : Env) : Prop where
  w : e'.w = e.w
  S : e'.S = e.S
  B : e'.B = e.B
  ids : ∀ d d', π d = some d' → e'.ids d' = true
  loc : ∀ d d' l, π d = some d' → e'.loc d' = some l → e.loc d = some l

section
variable {π : Nat → Option Nat} {e e' : Env}

theorem Env.Ren.cl (h : Env.Ren π e e') (p : Bool) : e'.cl p = e.cl p := by
  cases p <;> simp [Env.cl, Env.close, Env.shut, h.w, h.S, h.B]
theorem Env.Ren.shut (h : Env.Ren π e e') : e'.shut = e.shut := by simp [Env.shut, h.w, h.S]
theorem Env.Ren.close (h : Env.Ren π e e') : e'.close = e.close := by simp [Env.close, h.w, h.S, h.B]
theorem Env.Ren.ok (h : Env.Ren π e e') (p : Bool) (g : Nat) : e'.ok p g ↔ e.ok p g := by simp [Env.ok, h.S, h.B]

mutual
theorem ren_isAgg : ∀ (a a' : A), ren π a = some a' → a'.isAgg = a.isAgg
  | .v x, a', h => by simp [ren] at h; subst h; rfl
  | .und, a', h => by simp [ren] at h; subst h; rfl
  | .sl .., a', h => by simp [ren] at h; subst h; rfl
  | .rp .., a', h => by simp [ren] at h; subst h; rfl
  | .osl .., a', h => by simp [ren] at h; subst h; rfl
  | .box _, a', h => by simp [ren] at h; subst h; rfl
  | .arr .., a', h => by simp [ren] at h; subst h; rfl
  | .ref .., a', h => by simp [ren] at h; obtain ⟨_, _, rfl⟩ := h; rfl
  | .aref .., a', h => by simp [ren] at h; obtain ⟨_, _, rfl⟩ := h; rfl
  | .ptr .., a', h => by simp [ren] at h; obtain ⟨_, _, rfl⟩ := h; rfl
  | .agg .., a', h => by simp [ren] at h; obtain ⟨_, _, rfl⟩ := h; rfl
  | .tup .., a', h => by simp [ren] at h; obtain ⟨_, _, rfl⟩ := h; rfl
  | .clo .., a', h => by
    simp only [ren] at h
    split at h
    · simp at h; subst h; rfl
    · simp at h
  | .ifc .., a', h => by simp [ren] at h; obtain ⟨_, _, rfl⟩ := h; rfl
  | .mp .., a', h => by simp [ren] at h
  | .mref _, a', h => by simp [ren] at h
end

mutual
theorem VR_ren (hr : Env.Ren π e e') : ∀ (a a' : A) (vs : List Value) (F : List Nat), ren π a = some a' → VR a e vs F → VR a' e' vs F
  | .v x, a', vs, F, h, hv => by simp [ren] at h; subst h; simpa only [VR] using hv
  | .und, a', vs, F, h, hv => by simp [VR] at hv
  | .tup _, a', vs, F, h, hv => by simp [VR] at hv
  | .mp .., a', vs, F, h, hv => by simp [VR] at hv
  | .mref _, a', vs, F, h, hv => by simp [VR] at hv
  | .sl p xs, a', vs, F, h, hv => by
    simp [ren] at h; subst h
    simp only [VR] at hv ⊢
    simpa only [hr.cl, hr.w, hr.ok] using hv
  | .rp p x, a', vs, F, h, hv => by
    simp [ren] at h; subst h
    simp only [VR] at hv ⊢
    simpa only [hr.cl, hr.w, hr.ok] using hv
  | .osl s xs, a', vs, F, h, hv => by
    simp [ren] at h; subst h
    simp only [VR] at hv ⊢
    simpa only [hr.shut, hr.w] using hv
  | .box x, a', vs, F, h, hv => by
    simp [ren] at h; subst h
    simp only [VR] at hv ⊢
    simpa only [hr.close, hr.w] using hv
  | .arr t xs, a', vs, F, h, hv => by
    simp [ren] at h; subst h
    simp only [VR] at hv ⊢
    simpa only [hr.shut] using hv
  | .ref d s off len full, a', vs, F, h, hv => by
    simp [ren] at h
    obtain ⟨d', hd, rfl⟩ := h
    simp only [VR] at hv ⊢
    obtain ⟨h1, h2, a, c, h3, h4, h5, h6, h7⟩ := hv
    refine ⟨h1, hr.ids d d' hd, a, c, h3, h4, h5, h6, fun l hl => ?_⟩
    have := h7 l (hr.loc d d' l hd hl)
    simpa only [hr.w] using this
  | .aref d p s off len, a', vs, F, h, hv => by
    simp [ren] at h
    obtain ⟨d', hd, rfl⟩ := h
    simp only [VR] at hv ⊢
    obtain ⟨h1, h2, a, c, h3, h4, h5, h7⟩ := hv
    exact ⟨h1, hr.ids d d' hd, a, c, h3, h4, h5, fun l hl => h7 l (hr.loc d d' l hd hl)⟩
  | .ptr d p, a', vs, F, h, hv => by
    simp [ren] at h
    obtain ⟨d', hd, rfl⟩ := h
    simp only [VR] at hv ⊢
    obtain ⟨h1, h2, ad, h3, h7⟩ := hv
    exact ⟨h1, hr.ids d d' hd, ad, h3, fun l hl => h7 l (hr.loc d d' l hd hl)⟩
  | .agg xs, a', vs, F, h, hv => by
    simp [ren] at h
    obtain ⟨xs', hx, rfl⟩ := h
    simp only [VR] at hv ⊢
    exact VRs_ren hr xs xs' vs F hx hv
  | .ifc t x, a', vs, F, h, hv => by
    simp [ren] at h
    obtain ⟨x', hx, rfl⟩ := h
    simp only [VR] at hv ⊢
    obtain ⟨y, h1, h2⟩ := hv
    refine ⟨y, h1, ?_⟩
    rw [ren_isAgg x x' hx]
    rcases h2 with ⟨h2, cs, h3, h4⟩ | ⟨h2, h4⟩
    · exact .inl ⟨h2, cs, h3, VR_ren hr x x' _ _ hx h4⟩
    · exact .inr ⟨h2, VR_ren hr x x' _ _ hx h4⟩
  | .clo f fa ca, a', vs, F, h, hv => by
    simp only [ren] at h
    split at h
    · rename_i a1 b1 ha hb
      injection h with h
      subst h
      simp only [VR] at hv ⊢
      obtain ⟨fvs, cvs, Ff, Fc, h1, h2, h3, h4⟩ := hv
      exact ⟨fvs, cvs, Ff, Fc, h1, h2, VVs_ren hr fa a1 fvs Ff ha h3, VVs_ren hr ca b1 cvs Fc hb h4⟩
    · cases h
theorem VRs_ren (hr : Env.Ren π e e') : ∀ (xs xs' : List A) (vs : List Value) (F : List Nat), rens π xs = some xs' → VRs xs e vs F → VRs xs' e' vs F
  | [], xs', vs, F, h, hv => by simp [rens] at h; subst h; simpa only [VRs] using hv
  | x :: xs, xs', vs, F, h, hv => by
    simp only [rens] at h
    split at h
    · rename_i y ys hy hys
      injection h with h
      subst h
      simp only [VRs] at hv ⊢
      obtain ⟨us, vs', F1, F2, h1, h2, h3, h4⟩ := hv
      exact ⟨us, vs', F1, F2, h1, h2, VR_ren hr x y us F1 hy h3, VRs_ren hr xs ys vs' F2 hys h4⟩
    · cases h
theorem VVs_ren (hr : Env.Ren π e e') : ∀ (xs xs' : List A) (vs : List Value) (F : List Nat), rens π xs = some xs' → VVs xs e vs F → VVs xs' e' vs F
  | [], xs', vs, F, h, hv => by simp [rens] at h; subst h; simpa only [VVs] using hv
  | x :: xs, xs', vs, F, h, hv => by
    simp only [rens] at h
    split at h
    · rename_i y ys hy hys
      injection h with h
      subst h
      simp only [VVs] at hv ⊢
      obtain ⟨u, vs', F1, F2, h1, h2, h3, h4⟩ := hv
      refine ⟨u, vs', F1, F2, h1, h2, ?_, VVs_ren hr xs ys vs' F2 hys h4⟩
      rw [ren_isAgg x y hy]
      rcases h3 with ⟨h5, cs, h6, h7⟩ | ⟨h5, h7⟩
      · exact .inl ⟨h5, cs, h6, VR_ren hr x y _ _ hy h7⟩
      · exact .inr ⟨h5, VR_ren hr x y _ _ hy h7⟩
    · cases h
end

theorem TV_ren (hr : Env.Ren π e e') {a a' : A} {y : Value} (h : ren π a = some a') (hv : TV a e y) : TV a' e' y := by
  have good : ∀ a : A, a.good = true → ren π a = some a' → TV a e y → TV a' e' y := by
    intro a hg h hv
    have h1 := (TV_good hg).1 hv
    have h2 : VV a' e' y [] := by
      unfold VV at h1 ⊢
      rw [ren_isAgg a a' h]
      rcases h1 with ⟨h5, cs, h6, h7⟩ | ⟨h5, h7⟩
      · exact .inl ⟨h5, cs, h6, VR_ren hr a a' _ _ h h7⟩
      · exact .inr ⟨h5, VR_ren hr a a' _ _ h h7⟩
    exact (TV_good (VV_isAgg h2)).2 h2
  cases a with
  | und => simp [ren] at h; subst h; exact hv
  | tup xs =>
    simp [ren] at h
    obtain ⟨xs', hx, rfl⟩ := h
    obtain ⟨vs, h1, h2⟩ := hv
    exact ⟨vs, h1, VVs_ren hr xs xs' vs [] hx h2⟩
  | mp _ _ => simp [ren] at h
  | mref _ => simp [ren] at h
  | _ => exact good _ rfl h hv

theorem BkR_ren (hr : Env.Ren π e e') {d d' : Nat} {b b' : Blk} {F : List Nat} (hl : e'.loc d' = e.loc d) (h : renB π b = some b') (hv : BkR e d b F) : BkR e' d' b' F := by
  cases b with
  | row s xs =>
    simp [renB] at h; subst h
    simp only [BkR] at hv ⊢
    simpa only [hl, hr.w, hr.shut] using hv
  | froz s xs =>
    simp [renB] at h; subst h
    simp only [BkR] at hv ⊢
    simpa only [hl, hr.w, hr.shut, hr.S] using hv
  | var a =>
    simp [renB] at h
    obtain ⟨a', ha, rfl⟩ := h
    simp only [BkR] at hv ⊢
    obtain ⟨g, cs, ty, Fx, h1, h2, h3, h4⟩ := hv
    exact ⟨g, cs, ty, Fx, hl.trans h1, by rw [hr.w]; exact h2, VR_ren hr a a' _ _ ha h3, h4⟩
end

/-- The names turned by 'π', back by 'σ'. -/
theorem Weak.ren {st st' : St} {π σ : Nat → Option Nat} (h1 : ∀ d d', π d = some d' → σ d' = some d) (h2 : ∀ d d', σ d' = some d → π d = some d')
    (hs : ∀ t x', st'.sl t = some x' → ∃ x, st.sl t = some x ∧ PA.ren π x = some x') (hb : ∀ d' b', st'.bk d' = some b' → ∃ d b, σ d' = some d ∧ st.bk d = some b ∧ renB π b = some b')
    (hi : ∀ d d', π d = some d' → st'.ids d' = true) : Weak st st' := by
  intro c a w ⟨loc, S, Fm, R⟩
  let loc' : Nat → Option (Option Nat) := fun d' => match st'.bk d' with
    | some _ => (σ d').bind loc
    | none => none
  let Fm' : Nat → List Nat := fun d' => match st'.bk d' with
    | some _ => (match σ d' with | some d => Fm d | none => [])
    | none => []
  have hr : Env.Ren π (envOf c st w loc S) (envOf c st' w loc' S) := by
    refine ⟨rfl, rfl, rfl, hi, fun d d' l hd hl => ?_⟩
    simp only [envOf, loc'] at hl ⊢
    split at hl
    · rw [h1 d d' hd] at hl
      exact hl
    · cases hl
  have hF : ∀ d' g, g ∈ Fm' d' → ∃ d, σ d' = some d ∧ g ∈ Fm d := by
    intro d' g hg
    simp only [Fm'] at hg
    split at hg
    · split at hg
      · rename_i d hd
        exact ⟨d, hd, hg⟩
      · simp at hg
    · simp at hg
  refine ⟨loc', S, Fm', fun t x' hx => ?_, R.size, R.defers, fun d' b' hb' => ?_, fun d' hd' => ?_, fun d' hd' => ?_, fun d' => ?_, fun d1 d2 hne g hg hg2 => ?_, fun d' g hg => ?_, R.fram⟩
  · obtain ⟨x, hx1, hx2⟩ := hs t x' hx
    exact TV_ren hr hx2 (R.slots t x hx1)
  · obtain ⟨d, b, h3, h4, h5⟩ := hb d' b' hb'
    have hl : (envOf c st' w loc' S).loc d' = (envOf c st w loc S).loc d := by
      simp only [envOf, loc', hb', h3, Option.bind_some]
    have := BkR_ren hr hl h5 (R.bks d b h4)
    simpa only [Fm', hb', h3] using this
  · simp only [Fm', loc', hd']
    exact ⟨trivial, trivial⟩
  · obtain ⟨b', hb'⟩ := Option.ne_none_iff_exists'.1 hd'
    obtain ⟨d, b, h3, h4, h5⟩ := hb d' b' hb'
    exact hi d d' (h2 d d' h3)
  · simp only [Fm']
    split
    · split
      · exact R.nodup _
      · exact List.nodup_nil
    · exact List.nodup_nil
  · obtain ⟨e1, he1, hg1⟩ := hF d1 g hg
    obtain ⟨e2, he2, hg2'⟩ := hF d2 g hg2
    have : e1 ≠ e2 := fun h => hne (by
      subst h
      have a1 := h2 _ _ he1
      have a2 := h2 _ _ he2
      rw [a1] at a2
      injection a2)
    exact R.disj e1 e2 this g hg1 hg2'
  · obtain ⟨d, _, hg⟩ := hF d' g hg
    exact R.own d g hg

end Go.PA
