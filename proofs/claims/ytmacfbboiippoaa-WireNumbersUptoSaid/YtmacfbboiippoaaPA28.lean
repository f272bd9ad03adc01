/- PA28: calls are sound. -/
import Derived.Test.YtmacfbboiippoaaPA27
namespace Go.PA

def restores : List A → List (Option A) → Option (List (Nat × Blk))
  | [], [] => some []
  | x :: xs, b :: bs => match b with
    | none => restores xs bs
    | some b => match restoreA x b, restores xs bs with
      | some a, some c => some (a ++ c)
      | _, _ => none
  | _, _ => none

def backNobor : List (Option A) → Bool
  | [] => true
  | none :: bs => backNobor bs
  | some b :: bs => b.nobor && backNobor bs

/-- The state behind a call. -/
def aCallEff (nid : Nat) (xs : List (Bool × A)) (rm : List Nat) (res : List A) (back : List (Option A)) : Option (List A × List (Nat × Option Blk) × List Nat) :=
  match unfs nid res, restores (xs.map (·.2)) back with
  | some (ys, bs, _), some rs =>
    if (rs.map (·.1)).Nodup ∧ (∀ d ∈ rs.map (·.1), d ∈ rm) ∧ (!lends xs || backNobor back) = true then
      some (ys, rm.map (fun d => (d, none)) ++ (rs.map (fun q => (q.1, some q.2)) ++ bs.map (fun q => (q.1, some q.2))), bs.map (·.1))
    else none
  | _, _ => none

mutual
theorem unf_ids : ∀ (x : A) (k : Nat) (y : A) (bs : List (Nat × Blk)) (k' : Nat), unf k x = some (y, bs, k') → ∀ i, k ≤ i → i < k' → i ∈ bs.map (·.1)
  | .osl s xs, k, y, bs, k', h, i, h1, h2 => by
    simp only [unf, Option.some.injEq, Prod.mk.injEq] at h
    obtain ⟨_, rfl, rfl⟩ := h
    simp; omega
  | .box z, k, y, bs, k', h, i, h1, h2 => by
    simp only [unf, Option.some.injEq, Prod.mk.injEq] at h
    obtain ⟨_, rfl, rfl⟩ := h
    simp; omega
  | .agg xs, k, y, bs, k', h, i, h1, h2 => by
    simp only [unf] at h
    cases hu : unfs k xs with
    | none => simp [hu] at h
    | some q =>
      obtain ⟨ys, bs', k1⟩ := q
      simp only [hu, Option.map_some, Option.some.injEq, Prod.mk.injEq] at h
      obtain ⟨_, rfl, rfl⟩ := h
      exact unfs_ids xs k ys _ _ hu i h1 h2
  | .clo f fa ca, k, y, bs, k', h, i, h1, h2 => by
    simp only [unf] at h
    split at h
    · rename_i fa' bs1 k1 hu1
      split at h
      · rename_i ca' bs2 k2 hu2
        simp only [Option.some.injEq, Prod.mk.injEq] at h
        obtain ⟨_, rfl, rfl⟩ := h
        rw [List.map_append, List.mem_append]
        rcases Nat.lt_or_ge i k1 with h3 | h3
        · exact .inl (unfs_ids fa k fa' bs1 k1 hu1 i h1 h3)
        · exact .inr (unfs_ids ca k1 ca' bs2 _ hu2 i h3 h2)
      · simp at h
    · simp at h
  | .ifc t z, k, y, bs, k', h, i, h1, h2 => by
    simp only [unf] at h
    cases hu : unf k z with
    | none => simp [hu] at h
    | some q =>
      obtain ⟨ys, bs', k1⟩ := q
      simp only [hu, Option.map_some, Option.some.injEq, Prod.mk.injEq] at h
      obtain ⟨_, rfl, rfl⟩ := h
      exact unf_ids z k ys _ _ hu i h1 h2
  | .arr t xs, k, y, bs, k', h, i, h1, h2 => by
    simp only [unf] at h
    split at h
    · simp only [Option.some.injEq, Prod.mk.injEq] at h; omega
    · simp at h
  | .v x, k, y, bs, k', h, i, h1, h2 => by simp [unf, A.noown] at h; omega
  | .sl p xs, k, y, bs, k', h, i, h1, h2 => by simp [unf, A.noown] at h; omega
  | .rp p z, k, y, bs, k', h, i, h1, h2 => by simp [unf, A.noown] at h; omega
  | .ref .., k, y, bs, k', h, i, h1, h2 => by simp [unf, A.noown] at h; omega
  | .aref .., k, y, bs, k', h, i, h1, h2 => by simp [unf, A.noown] at h; omega
  | .ptr .., k, y, bs, k', h, i, h1, h2 => by simp [unf, A.noown] at h; omega
  | .und, k, y, bs, k', h, i, h1, h2 => by simp [unf, A.noown] at h
  | .tup _, k, y, bs, k', h, i, h1, h2 => by simp [unf, A.noown] at h
  | .mp .., k, y, bs, k', h, i, h1, h2 => by simp [unf, A.noown] at h
  | .mref _, k, y, bs, k', h, i, h1, h2 => by simp [unf, A.noown] at h
theorem unfs_ids : ∀ (xs : List A) (k : Nat) (ys : List A) (bs : List (Nat × Blk)) (k' : Nat), unfs k xs = some (ys, bs, k') → ∀ i, k ≤ i → i < k' → i ∈ bs.map (·.1)
  | [], k, ys, bs, k', h, i, h1, h2 => by simp only [unfs, Option.some.injEq, Prod.mk.injEq] at h; omega
  | x :: xs, k, ys, bs, k', h, i, h1, h2 => by
    simp only [unfs] at h
    split at h
    · rename_i x' bs1 k1 hu1
      split at h
      · rename_i xs' bs2 k2 hu2
        simp only [Option.some.injEq, Prod.mk.injEq] at h
        obtain ⟨_, rfl, rfl⟩ := h
        rw [List.map_append, List.mem_append]
        rcases Nat.lt_or_ge i k1 with h3 | h3
        · exact .inl (unf_ids x k x' bs1 k1 hu1 i h1 h3)
        · exact .inr (unfs_ids xs k1 xs' bs2 _ hu2 i h3 h2)
      · simp at h
    · simp at h
end

theorem foldl_none (rm : List Nat) (f : Nat → Option Blk) : (rm.map (fun d => (d, (none : Option Blk)))).foldl (fun f q => upd f q.1 q.2) f = fun d => if d ∈ rm then none else f d := by
  induction rm generalizing f with
  | nil => simp
  | cons x rm ih =>
    simp only [List.map_cons, List.foldl_cons]
    rw [ih]
    funext d
    by_cases h1 : d ∈ rm <;> by_cases h2 : d = x <;> simp [h1, h2, upd]
theorem foldl_some (rs : List (Nat × Blk)) (f : Nat → Option Blk) : (rs.map (fun q => (q.1, some q.2))).foldl (fun f q => upd f q.1 q.2) f = rs.foldl (fun f q => upd f q.1 (some q.2)) f := by
  rw [List.foldl_map]

section
variable {P : Program} {c : Ctx} {st : St} {a : Act} {w w' : World} {loc : Nat → Option (Option Nat)} {S S' : Nat → Prop} {Fm : Nat → List Nat} {Z : List Nat}

theorem restores_ok : ∀ (xs : List A) (bs : List (Option A)) (rs : List (Nat × Blk)) (vs : List Value) (F : List Nat), restores xs bs = some rs → VVs xs (envOf c st w loc S) vs [] → backRel (cEnv w' S' c.B) bs vs F → ResOk c a w' loc S' Z rs F
  | [], [], rs, vs, F, h, hx, hb => by
    simp only [restores] at h
    injection h with h
    subst h
    simp only [VVs] at hx
    obtain ⟨rfl, _⟩ := hx
    simp only [backRel] at hb
    subst hb
    exact .nil
  | x :: xs, none :: bs, rs, vs, F, h, hx, hb => by
    simp only [restores] at h
    simp only [VVs] at hx
    obtain ⟨v, vs', F1, F2, rfl, hF, h1, h2⟩ := hx
    simp at hF
    obtain ⟨rfl, rfl⟩ := hF
    exact restores_ok xs bs rs vs' F h h2 hb
  | x :: xs, some b :: bs, rs, vs, F, h, hx, hb => by
    simp only [restores] at h
    split at h
    · rename_i r1 r2 hr1 hr2
      injection h with h
      subst h
      simp only [VVs] at hx
      obtain ⟨v, vs', F1, F2, rfl, hF, h1, h2⟩ := hx
      simp at hF
      obtain ⟨rfl, rfl⟩ := hF
      obtain ⟨G1, G2, rfl, h3, h4⟩ := hb
      refine ResOk.append ?_ (restores_ok xs bs r2 vs' G2 hr2 h2 h4)
      rcases h1 with ⟨_, cs, h5, h6⟩ | ⟨h5, h6⟩ <;> rcases h3 with ⟨h7, cs', h8, h9⟩ | ⟨h7, h9⟩
      · rw [h5] at h8; injection h8 with h8; subst h8
        exact restoreA_ok x b r1 _ G1 hr1 h6 h9
      · exfalso
        have := VR_one _ _ _ _ h9 v (by simp)
        rw [h5] at this; simp [Value.oneCell'] at this
      · exfalso
        have := VR_one _ _ _ _ h6 v (by simp)
        rw [h8] at this; simp [Value.oneCell'] at this
      · exact restoreA_ok x b r1 _ G1 hr1 h6 h9
    · simp at h
  | [], _ :: _, rs, vs, F, h, hx, hb => by simp [restores] at h
  | _ :: _, [], rs, vs, F, h, hx, hb => by simp [restores] at h

theorem BkR_loc {e : Env} {d : Nat} {b : Blk} {F : List Nat} (h : BkR e d b F) : e.loc d ≠ none := by
  cases b with
  | row s xs => rcases h.2.2 with ⟨h, _⟩ | ⟨g, cs, ty, k, us, Fx, h, _⟩ <;> simp [h]
  | froz s xs => rcases h.2.2.2 with ⟨h, _⟩ | ⟨g, cs, ty, us, h, _⟩ <;> simp [h]
  | var a => obtain ⟨g, cs, ty, Fx, h, _⟩ := h; simp [h]

theorem back_nobor {B : Nat → Prop} : ∀ {bs : List (Option A)} {vs : List Value} {F : List Nat}, backNobor bs = true → backRel (cEnv w' S' B) bs vs F → backRel (cEnv w' S' c.B) bs vs F
  | [], [], F, _, h => h
  | [], _ :: _, F, _, h => h.elim
  | none :: bs, [], F, _, h => h.elim
  | some _ :: bs, [], F, _, h => h.elim
  | none :: bs, v :: vs, F, hn, h => back_nobor (bs := bs) (vs := vs) (by simpa [backNobor] using hn) h
  | some b :: bs, v :: vs, F, hn, h => by
    simp only [backNobor, Bool.and_eq_true] at hn
    obtain ⟨F1, F2, rfl, h1, h2⟩ := h
    refine ⟨F1, F2, rfl, ?_, back_nobor hn.2 h2⟩
    have hle : ∀ G, (cEnv w' S' B).noB.Le (cEnv w' S' c.B) G := fun G => ⟨fun _ _ => rfl, fun _ h => h, fun _ h => h.elim, fun _ h => by simp [Env.noB, cEnv] at h, fun _ _ h => by simp [Env.noB, cEnv] at h, fun _ _ h => by simp [Env.noB, cEnv] at h⟩
    exact h1.imp (fun ⟨x, cs, y, z⟩ => ⟨x, cs, y, VR_mono _ _ _ _ _ (hle _) (VR_noB _ _ _ _ hn.1 z)⟩) (fun ⟨x, y⟩ => ⟨x, VR_mono _ _ _ _ _ (hle _) (VR_noB _ _ _ _ hn.1 y)⟩)

/-- Behind a call the state goes on. -/
theorem call_after (R : RelW c st a w loc S Fm) {nid : Nat} {xs : List (Bool × A)} {vs : List Value} {rm F F' : List Nat} {res : List A} {back : List (Option A)} {ys : List A} {up : List (Nat × Option Blk)} {nw : List Nat} {rvs : List Value} {Fr Fb : List Nat} {z : A}
    (hvs : VVs (xs.map (·.2)) (envOf c st w loc S) vs []) (T : Took st Fm [] [] rm F)
    (hf : Fram ⟨w, F, S, lentB c Fm xs rm, 0⟩ w' S') (hnd : F'.Nodup) (hF' : ∀ g ∈ F', ¬ S' g ∧ ¬ lentB c Fm xs rm g ∧ g < w'.heap.size ∧ (g ∈ F ∨ w.heap.size ≤ g)) (hFF : F' = Fr ++ Fb)
    (hres : VVs res (cEnv w' S' fun _ => False) rvs Fr) (hback : backRel (cEnv w' S' (lentB c Fm xs rm)) back vs Fb)
    (heff : aCallEff nid xs rm res back = some (ys, up, nw)) (hfresh : ∀ d ∈ nw, st.ids d = false) :
    ∃ loc' Fm', RelW c (st.app ⟨z, up, nw⟩) a w' loc' S' Fm' ∧ VVs ys (envOf c (st.app ⟨z, up, nw⟩) w' loc' S') rvs [] := by
  subst hFF
  unfold aCallEff at heff
  split at heff
  · rename_i ys' bs k' rs hu hr
    split at heff
    · rename_i hc
      simp only [Option.some.injEq, Prod.mk.injEq] at heff
      obtain ⟨rfl, rfl, rfl⟩ := heff
      obtain ⟨hn, hsub, hlb⟩ := hc
      have hB' : ∀ g, c.B g → lentB c Fm xs rm g := fun g hg => by
        unfold lentB
        split
        · exact .inl hg
        · exact hg
      have RG := R.called T hB' hf hnd hF'
      have hback' : backRel (cEnv w' S' c.B) back vs Fb := by
        by_cases hl : lends xs = true
        · simp only [hl, Bool.not_true, Bool.false_or] at hlb
          exact back_nobor hlb hback
        · unfold lentB at hback
          rw [if_neg hl] at hback
          exact hback
      have hperm : (Fb ++ Fr).Nodup := by
        rw [List.nodup_append] at hnd ⊢
        exact ⟨hnd.2.1, hnd.1, fun x hx y hy hxy => hnd.2.2 y hy x hx hxy.symm⟩
      have RG2 := RG.drop (X' := Fb ++ Fr) (fun g hg => by simp at hg ⊢; exact hg.symm) hperm
      have hro := restores_ok (a := a) (Z := rm) _ _ rs vs Fb hr hvs hback'
      obtain ⟨Fm2, RG3⟩ := hro _ _ Fr RG2 (fun d hd => by
        have hdr := hsub d hd
        rcases T.live d hdr with h | h
        · simp at h
        · obtain ⟨b, hb⟩ := Option.ne_none_iff_exists'.1 h
          exact ⟨by simp [hdr], R.known d h, BkR_loc (R.bks d b hb)⟩) hn
      have RG4 := RG3.kill
      have hstate : (St.resBks { st with bk := fun d => if d ∈ rm then none else st.bk d } rs).addBks bs = st.app ⟨z, rm.map (fun d => (d, none)) ++ (rs.map (fun q => (q.1, some q.2)) ++ bs.map (fun q => (q.1, some q.2))), bs.map (·.1)⟩ := by
        simp only [St.addBks, St.resBks, St.app, List.foldl_append, foldl_none, foldl_some]
      have hle : (cEnv w' S' fun _ => False).Le (envOf c (St.resBks { st with bk := fun d => if d ∈ rm then none else st.bk d } rs) w' (fun d => if ((St.resBks { st with bk := fun d => if d ∈ rm then none else st.bk d } rs).bk d).isSome then loc d else none) S').close Fr := ⟨fun _ _ => rfl, fun _ h => h, fun _ h => h.elim, fun _ h => by simp [cEnv] at h, fun _ _ h => by simp [cEnv] at h, fun _ _ h => by simp [cEnv] at h⟩
      have hres' := VVs_mono res _ _ rvs Fr hle hres
      obtain ⟨_, loc', Fm', U, hV⟩ := unfs_okV res nid _ bs k' _ _ _ rvs Fr [] hu hres' (by simpa using RG4) (fun i h1 h2 => hfresh i (unfs_ids res nid _ bs k' hu i h1 h2))
      rw [hstate] at hV
      have := U.rel
      rw [hstate] at this
      exact ⟨loc', Fm', this.toW, hV⟩
    · simp at heff
  · simp at heff

end
end Go.PA
