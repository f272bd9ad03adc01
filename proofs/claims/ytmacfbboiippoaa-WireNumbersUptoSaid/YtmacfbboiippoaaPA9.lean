/- PA9: paths into trees; loads. -/
import Derived.Test.YtmacfbboiippoaaPA8
namespace Go.PA

theorem Env.shut_le (e : Env) (F : List Nat) : e.shut.Le e F :=
  ⟨fun _ _ => rfl, fun _ h => h, fun _ h => h.elim, fun _ h => by simp [Env.shut] at h, fun _ _ h => by simp [Env.shut] at h, fun _ _ h => by simp [Env.shut] at h⟩
theorem Env.close_le (e : Env) (F : List Nat) : e.close.Le e F :=
  ⟨fun _ _ => rfl, fun _ h => h, fun _ h => .inr h, fun _ h => by simp [Env.close] at h, fun _ _ h => by simp [Env.close] at h, fun _ _ h => by simp [Env.close] at h⟩
theorem VR_open {a : A} {e : Env} {vs : List Value} {F : List Nat} (h : VR a e.shut vs F) : VR a e vs F := VR_mono a _ _ _ _ (e.shut_le F) h
theorem VRs_open {xs : List A} {e : Env} {vs : List Value} {F : List Nat} (h : VRs xs e.shut vs F) : VRs xs e vs F := VRs_mono xs _ _ _ _ (e.shut_le F) h
theorem VR_shut {a : A} {e : Env} {vs : List Value} {F : List Nat} (hc : a.closed = true) (hb : a.nobor = true) (h : VR a e vs F) : VR a e.shut vs F := by
  have := VR_noB a _ _ _ hb ((VR_close a e vs F hc).1 h)
  rwa [close_noB] at this

mutual
theorem VR_noown : ∀ (a : A) (e : Env) (vs : List Value) (F : List Nat), a.noown = true → VR a e vs F → F = []
  | .v x, e, vs, F, hc, h => by simp only [VR] at h; exact h.2.2
  | .und, e, vs, F, hc, h => by simp [VR] at h
  | .agg xs, e, vs, F, hc, h => by simp only [VR] at h; exact VRs_noown xs e vs F (by simpa [A.noown] using hc) h
  | .arr tot xs, e, vs, F, hc, h => by simp only [VR] at h; exact VRs_noown xs _ vs F (by simpa [A.noown] using hc) h.2.2
  | .sl p xs, e, vs, F, hc, h => by simp only [VR] at h; exact h.1
  | .osl s xs, e, vs, F, hc, h => by simp [A.noown] at hc
  | .rp p a, e, vs, F, hc, h => by simp only [VR] at h; exact h.1
  | .box a, e, vs, F, hc, h => by simp [A.noown] at hc
  | .ref .., e, vs, F, hc, h => by simp only [VR] at h; exact h.1
  | .aref .., e, vs, F, hc, h => by simp only [VR] at h; exact h.1
  | .ptr .., e, vs, F, hc, h => by simp only [VR] at h; exact h.1
  | .clo f first caps, e, vs, F, hc, h => by
    simp only [A.noown, Bool.and_eq_true] at hc
    simp only [VR] at h
    obtain ⟨fvs, cvs, Ff, Fc, _, rfl, h1, h2⟩ := h
    simp [VVs_noown first e _ _ hc.1 h1, VVs_noown caps e _ _ hc.2 h2]
  | .ifc t a, e, vs, F, hc, h => by
    simp only [A.noown] at hc
    simp only [VR] at h
    obtain ⟨x, _, ⟨_, cs, _, h3⟩ | ⟨_, h3⟩⟩ := h
    · exact VR_noown a e _ F hc h3
    · exact VR_noown a e _ F hc h3
  | .tup _, e, vs, F, hc, h => by simp [VR] at h
  | .mp .., e, vs, F, hc, h => by simp [VR] at h
  | .mref _, e, vs, F, hc, h => by simp [VR] at h
theorem VRs_noown : ∀ (xs : List A) (e : Env) (vs : List Value) (F : List Nat), noowns xs = true → VRs xs e vs F → F = []
  | [], e, vs, F, hc, h => by simp only [VRs] at h; exact h.2
  | x :: xs, e, vs, F, hc, h => by
    simp only [noowns, Bool.and_eq_true] at hc
    simp only [VRs] at h
    obtain ⟨us, vs', F1, F2, _, rfl, h1, h2⟩ := h
    simp [VR_noown x e us F1 hc.1 h1, VRs_noown xs e vs' F2 hc.2 h2]
theorem VVs_noown : ∀ (xs : List A) (e : Env) (vs : List Value) (F : List Nat), noowns xs = true → VVs xs e vs F → F = []
  | [], e, vs, F, hc, h => by simp only [VVs] at h; exact h.2
  | x :: xs, e, vs, F, hc, h => by
    simp only [noowns, Bool.and_eq_true] at hc
    simp only [VVs] at h
    obtain ⟨y, vs', F1, F2, _, rfl, ⟨_, cs, _, h1⟩ | ⟨_, h1⟩, h2⟩ := h
    · simp [VR_noown x e _ F1 hc.1 h1, VVs_noown xs e vs' F2 hc.2 h2]
    · simp [VR_noown x e _ F1 hc.1 h1, VVs_noown xs e vs' F2 hc.2 h2]
end

theorem VRs_at : ∀ (xs : List A) (e : Env) (vs : List Value) (F : List Nat) (k : Nat) (x : A), VRs xs e vs F → xs[k]? = some x →
    ∃ pre us post F1 Fx F2, vs = pre ++ us ++ post ∧ F = F1 ++ Fx ++ F2 ∧ pre.length = szs (xs.take k) ∧ VR x e us Fx ∧
      ∀ y us' Fy, VR y e us' Fy → VRs (xs.set k y) e (pre ++ us' ++ post) (F1 ++ Fy ++ F2)
  | [], e, vs, F, k, x, h, hx => by simp at hx
  | z :: xs, e, vs, F, 0, x, h, hx => by
    simp at hx
    subst hx
    simp only [VRs] at h
    obtain ⟨us, vs', F1, F2, rfl, rfl, h1, h2⟩ := h
    exact ⟨[], us, vs', [], F1, F2, by simp, by simp, by simp [szs], h1, fun y us' Fy hy => by simpa using VRs_cons hy h2⟩
  | z :: xs, e, vs, F, k + 1, x, h, hx => by
    simp at hx
    simp only [VRs] at h
    obtain ⟨us, vs', F1, F2, rfl, rfl, h1, h2⟩ := h
    obtain ⟨pre, ux, post, G1, Gx, G2, rfl, rfl, h3, h4, h5⟩ := VRs_at xs e vs' F2 k x h2 hx
    refine ⟨us ++ pre, ux, post, F1 ++ G1, Gx, G2, by simp, by simp, ?_, h4, fun y us' Fy hy => ?_⟩
    · simp [szs, h3, VR_len z e us F1 h1]
    · have := VRs_cons h1 (h5 y us' Fy hy)
      simpa using this

theorem szs_take_const {xs : List A} {s : Nat} (h : ∀ x ∈ xs, x.sz = s) {k : Nat} (hk : k ≤ xs.length) : szs (xs.take k) = k * s := by
  rw [szs_const (s := s) (fun x hx => h x (List.mem_of_mem_take hx))]
  simp [Nat.min_eq_left hk]

theorem szs_set {xs : List A} {k : Nat} {x y : A} (hx : xs[k]? = some x) (h : y.sz = x.sz) : szs (xs.set k y) = szs xs := by
  induction xs generalizing k with
  | nil => simp at hx
  | cons z xs ih =>
    cases k with
    | zero => simp at hx; subst hx; simp [szs, h]
    | succ k => simp at hx; simp [szs, ih hx]

theorem szAt_elim {xs : List A} {i s : Nat} (h : szAt xs i s) : ∃ x, xs[i]? = some x ∧ x.sz = s ∧ xs.getD i .und = x ∧ i < xs.length := by
  obtain ⟨x, h1, h2⟩ := h
  exact ⟨x, h1, h2, by simp [List.getD_eq_getElem?_getD, h1], (List.getElem?_eq_some_iff.1 h1).1⟩

/-- What lies at a path. -/
theorem getP_sound {bk : Nat → Option Blk} {e : Env} : ∀ (ps : List PS) (a : A) (vs : List Value) (F : List Nat) (x : A) (l : List Nat), VR a e vs F → RM.Runs bk (getP a ps) x l →
    ∃ pre us post Fx, vs = pre ++ us ++ post ∧ pre.length = offP ps ∧ VR x e us Fx ∧ ∀ g ∈ Fx, g ∈ F := by
  intro ps
  induction ps with
  | nil =>
    intro a vs F x l h r
    have hg : getP a [] = .ret a := by cases a <;> rfl
    rw [hg] at r
    obtain ⟨rfl, _⟩ := runs_ret r
    exact ⟨[], vs, [], F, by simp, by simp [offP], h, fun _ h => h⟩
  | cons p ps ih =>
    intro a vs F x l h r
    cases a with
    | agg xs =>
      cases p with
      | fld k off =>
        simp only [getP] at r
        split at r
        · rename_i y hy
          split at r
          · rename_i ho
            simp only [VR] at h
            obtain ⟨pre, us, post, F1, Fx, F2, rfl, rfl, h1, h2, _⟩ := VRs_at xs e vs F k y h hy
            obtain ⟨pre', us', post', Fx', rfl, h3, h4, h5⟩ := ih y us Fx x l h2 r
            exact ⟨pre ++ pre', us', post' ++ post, Fx', by simp, by simp [offP, PS.off, h1, h3, ho], h4, fun g hg => by simp [h5 g hg]⟩
          · exact (runs_fail r).elim
        · exact (runs_fail r).elim
      | idx i s => simp only [getP] at r; exact (runs_fail r).elim
    | arr t xs =>
      cases p with
      | fld k off => simp only [getP] at r; exact (runs_fail r).elim
      | idx i s =>
        simp only [getP] at r
        obtain ⟨hs, r⟩ := runs_req r
        obtain ⟨y, hy, hys, hyd, hyl⟩ := szAt_elim hs
        rw [hyd] at r
        simp only [VR] at h
        obtain ⟨h0, ⟨s', h00⟩, h⟩ := h
        obtain ⟨pre, us, post, F1, Fx, F2, rfl, rfl, h1, h2, _⟩ := VRs_at xs e.shut vs F i y h hy
        obtain ⟨pre', us', post', Fx', rfl, h3, h4, h5⟩ := ih y us Fx x l (VR_open h2) r
        refine ⟨pre ++ pre', us', post' ++ post, Fx', by simp, ?_, h4, fun g hg => by simp [h5 g hg]⟩
        have : s' = s := by rw [← hys]; exact (h00 y (List.mem_of_getElem? hy)).symm
        subst this
        rw [szs_take_const h00 (Nat.le_of_lt hyl)] at h1
        simp [offP, PS.off, h1, h3]
    | _ => cases p <;> (simp only [getP] at r; exact (runs_fail r).elim)

/-- A part is put at a path. -/
theorem setP_sound {bk : Nat → Option Blk} : ∀ (ps : List PS) (a b : A) (e : Env) (vs : List Value) (F : List Nat) (a' : A) (l : List Nat), VR a e vs F → RM.Runs bk (setP a ps b) a' l →
    ∃ pre us post F1 Fx F2 x, vs = pre ++ us ++ post ∧ F = F1 ++ Fx ++ F2 ∧ pre.length = offP ps ∧ us.length = b.sz ∧ VR x e us Fx ∧ a'.sz = a.sz ∧ RM.Runs bk (getP a ps) x [] ∧
      ∀ us' Fy, VR b e us' Fy → VR a' e (pre ++ us' ++ post) (F1 ++ Fy ++ F2) := by
  intro ps
  induction ps with
  | nil =>
    intro a b e vs F a' l h r
    have hg : setP a [] b = if a.sz = b.sz then .ret b else .fail := by cases a <;> rfl
    have hg' : getP a [] = .ret a := by cases a <;> rfl
    rw [hg] at r
    split at r
    · rename_i hs
      obtain ⟨rfl, _⟩ := runs_ret r
      exact ⟨[], vs, [], [], F, [], a, by simp, by simp, by simp [offP], (VR_len a e vs F h).trans hs, h, hs.symm, hg' ▸ .ret a, fun us' Fy hy => by simpa using hy⟩
    · exact (runs_fail r).elim
  | cons p ps ih =>
    intro a b e vs F a' l h r
    cases a with
    | agg xs =>
      cases p with
      | fld k off =>
        simp only [setP] at r
        split at r
        · rename_i y hy
          split at r
          · rename_i ho
            obtain ⟨y', l1, l2, r1, r2, rfl⟩ := RM.runs_bind r
            obtain ⟨rfl, _⟩ := runs_ret r2
            simp only [VR] at h
            obtain ⟨pre, us, post, F1, Fx, F2, rfl, rfl, h1, h2, h3⟩ := VRs_at xs e vs F k y h hy
            obtain ⟨pre', us', post', G1, Gx, G2, x, rfl, rfl, h4, h5, h6, h7, h8, h9⟩ := ih y b e us Fx y' l1 h2 r1
            refine ⟨pre ++ pre', us', post' ++ post, F1 ++ G1, Gx, G2 ++ F2, x, by simp, by simp, by simp [offP, PS.off, h1, h4, ho], h5, h6, ?_, ?_, fun us'' Fy hy' => ?_⟩
            · simp [A.sz, szs_set hy h7]
            · simp only [getP, hy, ho, if_true]; exact h8
            · have := h3 y' _ _ (h9 us'' Fy hy')
              simpa [VR] using this
          · exact (runs_fail r).elim
        · exact (runs_fail r).elim
      | idx i s => simp only [setP] at r; exact (runs_fail r).elim
    | arr t xs =>
      cases p with
      | fld k off => simp only [setP] at r; exact (runs_fail r).elim
      | idx i s =>
        simp only [setP] at r
        split at r
        · rename_i hcl
          simp only [Bool.and_eq_true] at hcl
          obtain ⟨hs, r⟩ := runs_req r
          obtain ⟨y, hy, hys, hyd, hyl⟩ := szAt_elim hs
          rw [hyd] at r
          obtain ⟨y', l1, l2, r1, r2, rfl⟩ := RM.runs_bind r
          obtain ⟨rfl, _⟩ := runs_ret r2
          simp only [VR] at h
          obtain ⟨h0, ⟨s', h00⟩, h⟩ := h
          obtain ⟨pre, us, post, F1, Fx, F2, rfl, rfl, h1, h2, h3⟩ := VRs_at xs e.shut vs F i y h hy
          have hss : s' = s := by rw [← hys]; exact (h00 y (List.mem_of_getElem? hy)).symm
          subst hss
          rw [szs_take_const h00 (Nat.le_of_lt hyl)] at h1
          obtain ⟨pre', us', post', G1, Gx, G2, x, e1, e2, h4, h5, h6, h7, h8, h9⟩ := ih y b e.shut us Fx y' l1 h2 r1
          subst e1; subst e2
          refine ⟨pre ++ pre', us', post' ++ post, F1 ++ G1, Gx, G2 ++ F2, x, by simp, by simp, by simp [offP, PS.off, h1, h4], h5, VR_open h6, by simp [A.sz], ?_, fun us'' Fy hy' => ?_⟩
          · simp only [getP]
            rw [hyd]
            exact .req hs h8
          · have hy2 := VR_shut hcl.1 hcl.2 hy'
            have := h3 y' _ _ (h9 us'' Fy hy2)
            simp only [VR]
            refine ⟨?_, ⟨s', fun z hz => ?_⟩, by simpa using this⟩
            · rw [← h0]
              have := VR_len b e us'' Fy hy'
              simp; omega
            · rcases List.mem_or_eq_of_mem_set hz with hz | hz
              · exact h00 z hz
              · subst hz; rw [h7]; exact hys
        · exact (runs_fail r).elim
    | _ => cases p <;> (simp only [setP] at r; exact (runs_fail r).elim)

end Go.PA
