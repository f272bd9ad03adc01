/- PA27: what was handed over comes back. -/
import Derived.Test.YtmacfbboiippoaaPA26
namespace Go.PA

mutual
/-- What came back of what was handed over: the frame's blocks. -/
def restoreA : A → A → Option (List (Nat × Blk))
  | x, .box b => match x with
    | .ptr d [] => some [(d, .var b)]
    | _ => none
  | x, .osl s' xs => match x with
    | .ref d s off _ full => if s = s' ∧ off = 0 ∧ full = false then some [(d, .row s xs)] else none
    | _ => none
  | x, .agg ys => match x with
    | .agg xs => restoreL xs ys
    | _ => none
  | x, .clo _ f' c' => match x with
    | .clo _ f c => match restoreL f f', restoreL c c' with
      | some a, some b => some (a ++ b)
      | _, _ => none
    | _ => none
  | x, .ifc _ b => match x with
    | .ifc _ a => restoreA a b
    | _ => none
  | _, b => if b.noown then some [] else none
def restoreL : List A → List A → Option (List (Nat × Blk))
  | xs, [] => match xs with
    | [] => some []
    | _ => none
  | xs, y :: ys => match xs with
    | x :: xs => if x.sz = y.sz then match restoreA x y, restoreL xs ys with
      | some a, some b => some (a ++ b)
      | _, _ => none
      else none
    | [] => none
end

def St.resBks (st : St) (rs : List (Nat × Blk)) : St := { st with bk := rs.foldl (fun f q => upd f q.1 (some q.2)) st.bk }

theorem resBks_append (st : St) (rs rs' : List (Nat × Blk)) : st.resBks (rs ++ rs') = (st.resBks rs).resBks rs' := by simp [St.resBks]

theorem foldl_upd_other {rs : List (Nat × Blk)} {f : Nat → Option Blk} {d : Nat} (h : d ∉ rs.map (·.1)) : (rs.foldl (fun f q => upd f q.1 (some q.2)) f) d = f d := by
  induction rs generalizing f with
  | nil => rfl
  | cons q rs ih =>
    simp only [List.map_cons, List.mem_cons, not_or] at h
    simp only [List.foldl_cons]
    rw [ih h.2, upd_app, if_neg h.1]

section
variable {P : Program} {c : Ctx} {st : St} {a : Act} {w w' : World} {loc : Nat → Option (Option Nat)} {S S' : Nat → Prop} {Z : List Nat}

def ResOk (c : Ctx) (a : Act) (w' : World) (loc : Nat → Option (Option Nat)) (S' : Nat → Prop) (Z : List Nat) (rs : List (Nat × Blk)) (F : List Nat) : Prop :=
  ∀ (st1 : St) (Fm1 : Nat → List Nat) (X2 : List Nat), RelG c st1 a w' loc S' Fm1 Z (F ++ X2) → (∀ d ∈ rs.map (·.1), st1.bk d = none ∧ st1.ids d = true ∧ loc d ≠ none) → (rs.map (·.1)).Nodup →
    ∃ Fm2, RelG c (st1.resBks rs) a w' loc S' Fm2 Z X2

theorem ResOk.nil : ResOk c a w' loc S' Z [] [] := fun st1 Fm1 X2 R _ _ => ⟨Fm1, by simpa [St.resBks] using R⟩

theorem ResOk.append {rs rs' : List (Nat × Blk)} {F F' : List Nat} (h : ResOk c a w' loc S' Z rs F) (h' : ResOk c a w' loc S' Z rs' F') : ResOk c a w' loc S' Z (rs ++ rs') (F ++ F') := by
  intro st1 Fm1 X2 R hd hn
  rw [List.map_append] at hn
  obtain ⟨hn1, hn2, hn3⟩ := List.nodup_append.1 hn
  obtain ⟨Fm2, R2⟩ := h st1 Fm1 (F' ++ X2) (by rw [← List.append_assoc]; exact R) (fun d hd' => hd d (by simp only [List.map_append, List.mem_append]; exact .inl hd')) hn1
  obtain ⟨Fm3, R3⟩ := h' (st1.resBks rs) Fm2 X2 R2 (fun d hd' => by
    obtain ⟨h1, h2, h3⟩ := hd d (by simp only [List.map_append, List.mem_append]; exact .inr hd')
    refine ⟨?_, h2, h3⟩
    simp only [St.resBks]
    rw [foldl_upd_other (fun hm => hn3 d hm d hd' rfl)]
    exact h1) hn2
  exact ⟨Fm3, by rw [resBks_append]; exact R3⟩

theorem ResOk.one {d : Nat} {b : Blk} {F : List Nat} (hB : ∀ e : Env, e.w = w' → e.S = S' → e.loc = loc → (∀ g, c.B g → e.B g) → loc d ≠ none → BkR e d b F) : ResOk c a w' loc S' Z [(d, b)] F := by
  intro st1 Fm1 X2 R hd hn
  obtain ⟨h1, h2, h3⟩ := hd d (by simp)
  obtain ⟨n1, n2, n3⟩ := nodup_app R.xnd
  exact ⟨_, R.restore h1 h2 (hB _ rfl rfl rfl (fun _ h => h) h3) (fun g hg => by simp [hg]) (fun g hg => by simp [hg]) n1 n2 n3⟩

theorem cEnv_close_le {e : Env} (h1 : e.w = w') (h2 : e.S = S') (h3 : ∀ g, c.B g → e.B g) (F : List Nat) : (cEnv w' S' c.B).close.Le e F :=
  ⟨fun g _ => by simp [Env.close, cEnv, h1], fun g h => by simpa [Env.close, cEnv, h2] using h, fun g h => .inr (h3 g h), fun d h => by simp [Env.close] at h, fun d l h => by simp [Env.close] at h, fun d g h => by simp [Env.close] at h⟩
theorem cEnv_shut_le {e : Env} (h1 : e.w = w') (h2 : e.S = S') (F : List Nat) : (cEnv w' S' c.B).shut.Le e.shut F :=
  ⟨fun g _ => by simp [Env.shut, cEnv, h1], fun g h => by simpa [Env.shut, cEnv, h2] using h, fun g h => h.elim, fun d h => by simp [Env.shut] at h, fun d l h => by simp [Env.shut] at h, fun d g h => by simp [Env.shut] at h⟩

theorem restore_none {e : Env} (rs : List (Nat × Blk)) (y : A) (us : List Value) (F : List Nat) (h : [] = rs) (hno : y.noown = true) (hy : VR y e us F) : ResOk c a w' loc S' Z rs F := by
  subst h
  rw [VR_noown _ _ _ _ hno hy]
  exact .nil

mutual
theorem restoreA_ok : ∀ (x y : A) (rs : List (Nat × Blk)) (us : List Value) (F : List Nat), restoreA x y = some rs → VR x (envOf c st w loc S) us [] → VR y (cEnv w' S' c.B) us F → ResOk c a w' loc S' Z rs F
  | x, .box b, rs, us, F, h, hx, hy => by
    unfold restoreA at h
    split at h
    · rename_i d
      injection h with h
      subst h
      simp only [VR] at hx hy
      obtain ⟨_, hid, ad, rfl, h1⟩ := hx
      obtain ⟨g, cs, ty, Fx, hu, h2, h3, rfl⟩ := hy
      injection hu with hu; injection hu with hu; injection hu with hu
      refine ResOk.one fun e he1 he2 he3 he4 hl => ?_
      obtain ⟨l, hl⟩ := Option.ne_none_iff_exists'.1 hl
      obtain ⟨g', rfl, h4⟩ := h1 l hl
      rw [hu] at h4
      injection h4 with h4
      subst h4
      exact ⟨g, cs, ty, Fx, by rw [he3]; exact hl, by rw [he1]; exact h2, VR_mono _ _ _ _ _ (cEnv_close_le he1 he2 he4 _) h3, rfl⟩
    · simp at h
  | x, .osl s' xs, rs, us, F, h, hx, hy => by
    unfold restoreA at h
    split at h
    · rename_i d s off len full
      split at h
      · rename_i hc
        obtain ⟨rfl, rfl, rfl⟩ := hc
        injection h with h
        subst h
        simp only [VR] at hx hy
        obtain ⟨_, hid, ax, k, rfl, h1, h2, _, h3⟩ := hx
        obtain ⟨hs, hss, hy⟩ := hy
        refine ResOk.one fun e he1 he2 he3 he4 hl => ⟨hs, hss, ?_⟩
        obtain ⟨l, hl⟩ := Option.ne_none_iff_exists'.1 hl
        have h4 := h3 l hl
        rcases hy with ⟨rfl, hu, rfl⟩ | ⟨g, cs, ty, kc, us', Fx, hu, h5, h6, h7, h8, h9, h10, rfl⟩
        · injection hu with hu; injection hu with hu hu2 hu3
          subst hu hu2 hu3
          cases l with
          | none => exact .inl ⟨by rw [he3]; exact hl, rfl, rfl⟩
          | some g => simp at h4
        · injection hu with hu; injection hu with hu hu2 hu3
          subst hu hu2 hu3
          cases l with
          | none => simp at h4
          | some g' =>
            simp at h4
            obtain ⟨rfl, _⟩ := h4
            exact .inr ⟨g, cs, ty, _, us', Fx, by rw [he3]; exact hl, h5, h6, by rw [he1]; exact h7, h8, VRs_mono _ _ _ _ _ (cEnv_shut_le he1 he2 _) h9, h10, rfl⟩
      · simp at h
    · simp at h
  | x, .agg ys, rs, us, F, h, hx, hy => by
    unfold restoreA at h
    split at h
    · rename_i xs
      simp only [VR] at hx hy
      exact restoreL_okR xs ys rs us F h hx hy
    · simp at h
  | x, .clo f' fa' ca', rs, us, F, h, hx, hy => by
    unfold restoreA at h
    split at h
    · rename_i f fa ca
      split at h
      · rename_i r1 r2 hr1 hr2
        injection h with h
        subst h
        simp only [VR] at hx hy
        obtain ⟨fvs, cvs, F1, F2, rfl, hF, h1, h2⟩ := hx
        simp at hF
        obtain ⟨rfl, rfl⟩ := hF
        obtain ⟨fvs', cvs', G1, G2, hu, rfl, h3, h4⟩ := hy
        injection hu with hu; injection hu with hu1 hu2 hu3
        have e1 : fvs = fvs' := by simpa using hu2
        have e2 : cvs = cvs' := by simpa using hu3
        subst e1 e2
        exact (restoreL_okV fa fa' r1 fvs G1 hr1 h1 h3).append (restoreL_okV ca ca' r2 cvs G2 hr2 h2 h4)
      · simp at h
    · simp at h
  | x, .ifc t' z', rs, us, F, h, hx, hy => by
    unfold restoreA at h
    split at h
    · rename_i t z
      simp only [VR] at hx hy
      obtain ⟨u, rfl, hx⟩ := hx
      obtain ⟨u', hu, hy⟩ := hy
      injection hu with hu; injection hu with hu1 hu2
      subst hu2
      rcases hx with ⟨_, cs, h1, h2⟩ | ⟨h1, h2⟩ <;> rcases hy with ⟨h3, cs', h4, h5⟩ | ⟨h3, h5⟩
      · rw [h1] at h4; injection h4 with h4; subst h4
        exact restoreA_ok z z' rs _ F h h2 h5
      · exfalso
        have := VR_one _ _ _ _ h5 u (by simp)
        rw [h1] at this; simp [Value.oneCell'] at this
      · exfalso
        have := VR_one _ _ _ _ h2 u (by simp)
        rw [h4] at this; simp [Value.oneCell'] at this
      · exact restoreA_ok z z' rs _ F h h2 h5
    · simp at h
  | x, .v y, rs, us, F, h, hx, hy => restore_none _ _ _ _ (by simpa [restoreA, A.noown] using h) rfl hy
  | x, .sl p y, rs, us, F, h, hx, hy => restore_none _ _ _ _ (by simpa [restoreA, A.noown] using h) rfl hy
  | x, .rp p y, rs, us, F, h, hx, hy => restore_none _ _ _ _ (by simpa [restoreA, A.noown] using h) rfl hy
  | x, .ref .., rs, us, F, h, hx, hy => restore_none _ _ _ _ (by simpa [restoreA, A.noown] using h) rfl hy
  | x, .aref .., rs, us, F, h, hx, hy => restore_none _ _ _ _ (by simpa [restoreA, A.noown] using h) rfl hy
  | x, .ptr .., rs, us, F, h, hx, hy => restore_none _ _ _ _ (by simpa [restoreA, A.noown] using h) rfl hy
  | x, .arr t ys, rs, us, F, h, hx, hy => by
    unfold restoreA at h
    split at h
    · rename_i hno
      injection h with h
      exact restore_none _ _ _ _ h hno hy
    · simp at h
  | x, .und, rs, us, F, h, hx, hy => by simp [VR] at hy
  | x, .tup _, rs, us, F, h, hx, hy => by simp [VR] at hy
  | x, .mp .., rs, us, F, h, hx, hy => by simp [VR] at hy
  | x, .mref _, rs, us, F, h, hx, hy => by simp [VR] at hy
theorem restoreL_okR : ∀ (xs ys : List A) (rs : List (Nat × Blk)) (us : List Value) (F : List Nat), restoreL xs ys = some rs → VRs xs (envOf c st w loc S) us [] → VRs ys (cEnv w' S' c.B) us F → ResOk c a w' loc S' Z rs F
  | xs, [], rs, us, F, h, hx, hy => by
    unfold restoreL at h
    split at h
    · injection h with h
      subst h
      simp only [VRs] at hy
      rw [hy.2]
      exact .nil
    · simp at h
  | xs, y :: ys, rs, us, F, h, hx, hy => by
    unfold restoreL at h
    split at h
    · rename_i x xs
      split at h
      case isFalse => simp at h
      rename_i hsz
      split at h
      · rename_i r1 r2 hr1 hr2
        injection h with h
        subst h
        simp only [VRs] at hx hy
        obtain ⟨u1, u2, F1, F2, rfl, hF, h1, h2⟩ := hx
        simp at hF
        obtain ⟨rfl, rfl⟩ := hF
        obtain ⟨u1', u2', G1, G2, hu, rfl, h3, h4⟩ := hy
        have hlen : u1.length = u1'.length := by
          have e1 := VR_len _ _ _ _ h1
          have e2 := VR_len _ _ _ _ h3
          rw [e1, e2]
          exact hsz
        obtain ⟨rfl, rfl⟩ := List.append_inj hu hlen
        exact (restoreA_ok x y r1 u1 G1 hr1 h1 h3).append (restoreL_okR xs ys r2 u2 G2 hr2 h2 h4)
      · simp at h
    · simp at h
theorem restoreL_okV : ∀ (xs ys : List A) (rs : List (Nat × Blk)) (us : List Value) (F : List Nat), restoreL xs ys = some rs → VVs xs (envOf c st w loc S) us [] → VVs ys (cEnv w' S' c.B) us F → ResOk c a w' loc S' Z rs F
  | xs, [], rs, us, F, h, hx, hy => by
    unfold restoreL at h
    split at h
    · injection h with h
      subst h
      simp only [VVs] at hy
      rw [hy.2]
      exact .nil
    · simp at h
  | xs, y :: ys, rs, us, F, h, hx, hy => by
    unfold restoreL at h
    split at h
    · rename_i x xs
      split at h
      case isFalse => simp at h
      split at h
      · rename_i r1 r2 hr1 hr2
        injection h with h
        subst h
        simp only [VVs] at hx hy
        obtain ⟨u, us', F1, F2, rfl, hF, h1, h2⟩ := hx
        simp at hF
        obtain ⟨rfl, rfl⟩ := hF
        obtain ⟨u', us'', G1, G2, hu, rfl, h3, h4⟩ := hy
        injection hu with hu1 hu2
        subst hu1 hu2
        refine ResOk.append ?_ (restoreL_okV xs ys r2 us' G2 hr2 h2 h4)
        rcases h1 with ⟨_, cs, h5, h6⟩ | ⟨h5, h6⟩ <;> rcases h3 with ⟨h7, cs', h8, h9⟩ | ⟨h7, h9⟩
        · rw [h5] at h8; injection h8 with h8; subst h8
          exact restoreA_ok x y r1 _ G1 hr1 h6 h9
        · exfalso
          have := VR_one _ _ _ _ h9 u (by simp)
          rw [h5] at this; simp [Value.oneCell'] at this
        · exfalso
          have := VR_one _ _ _ _ h6 u (by simp)
          rw [h8] at this; simp [Value.oneCell'] at this
        · exact restoreA_ok x y r1 _ G1 hr1 h6 h9
      · simp at h
    · simp at h
end

end
end Go.PA
