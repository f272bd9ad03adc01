/- PA2: lemmas on VR. -/
import Derived.Test.YtmacfbboiippoaaPA1
namespace Go.PA

mutual
theorem VR_len : ∀ (a : A) (e : Env) (vs : List Value) (F : List Nat), VR a e vs F → vs.length = a.sz
  | .v x, e, vs, F, h => by simp only [VR] at h; simp [h.2.1, A.sz]
  | .und, e, vs, F, h => by simp [VR] at h
  | .agg xs, e, vs, F, h => by simp only [VR] at h; simp only [A.sz]; exact VRs_len xs e vs F h
  | .arr tot xs, e, vs, F, h => by simp only [VR] at h; simp [A.sz, h.1]
  | .sl p xs, e, vs, F, h => by simp only [VR] at h; obtain ⟨_, a, c, us, rfl, _⟩ := h; simp [A.sz]
  | .osl s xs, e, vs, F, h => by
    simp only [VR] at h
    rcases h with ⟨_, _, ⟨_, rfl, _⟩ | ⟨g, cs, ty, c, us, Fx, rfl, _⟩⟩ <;> simp [A.sz]
  | .rp p a, e, vs, F, h => by simp only [VR] at h; obtain ⟨_, ad, us, rfl, _⟩ := h; simp [A.sz]
  | .box a, e, vs, F, h => by simp only [VR] at h; obtain ⟨g, cs, ty, Fx, rfl, _⟩ := h; simp [A.sz]
  | .ref .., e, vs, F, h => by simp only [VR] at h; obtain ⟨_, _, a, c, rfl, _⟩ := h; simp [A.sz]
  | .aref .., e, vs, F, h => by simp only [VR] at h; obtain ⟨_, _, a, c, rfl, _⟩ := h; simp [A.sz]
  | .ptr .., e, vs, F, h => by simp only [VR] at h; obtain ⟨_, _, a, rfl, _⟩ := h; simp [A.sz]
  | .clo .., e, vs, F, h => by simp only [VR] at h; obtain ⟨_, _, _, _, rfl, _⟩ := h; simp [A.sz]
  | .ifc .., e, vs, F, h => by simp only [VR] at h; obtain ⟨_, rfl, _⟩ := h; simp [A.sz]
  | .tup _, e, vs, F, h => by simp [VR] at h
  | .mp .., e, vs, F, h => by simp [VR] at h
  | .mref _, e, vs, F, h => by simp [VR] at h
theorem VRs_len : ∀ (xs : List A) (e : Env) (vs : List Value) (F : List Nat), VRs xs e vs F → vs.length = szs xs
  | [], e, vs, F, h => by simp only [VRs] at h; simp [h.1, szs]
  | x :: xs, e, vs, F, h => by
    simp only [VRs] at h
    obtain ⟨us, vs', F1, F2, rfl, rfl, h1, h2⟩ := h
    simp [szs, VR_len x e us F1 h1, VRs_len xs e vs' F2 h2]
end

structure Env.Le (e e' : Env) (F : List Nat) : Prop where
  heap : ∀ g, (g ∈ F ∨ e.S g ∨ e.B g) → e'.w.heap[g]? = e.w.heap[g]?
  S : ∀ g, e.S g → e'.S g
  B : ∀ g, e.B g → e'.S g ∨ e'.B g
  ids : ∀ d, e.ids d = true → e'.ids d = true
  loc : ∀ d l, e.ids d = true → e'.loc d = some l → e.loc d = some l
  shp : ∀ d g, e.ids d = true → e'.loc d = some (some g) → (e'.w.shape? g).map (·.2) = (e.w.shape? g).map (·.2)

theorem Env.Le.sub {e e' : Env} {F F' : List Nat} (h : e.Le e' F) (hs : ∀ g, g ∈ F' → g ∈ F) : e.Le e' F' :=
  ⟨fun g hg => h.heap g (hg.imp (hs g) id), h.S, h.B, h.ids, h.loc, h.shp⟩
theorem Env.Le.closed {e e' : Env} {F : List Nat} (h : e.Le e' F) : e.close.Le e'.close F :=
  ⟨h.heap, h.S, h.B, fun _ h => by simp [Env.close] at h, fun _ _ h => by simp [Env.close] at h, fun _ _ h => by simp [Env.close] at h⟩
theorem Env.Le.shut {e e' : Env} {F : List Nat} (h : e.Le e' F) : e.shut.Le e'.shut F :=
  ⟨fun g hg => h.heap g (hg.imp id (Or.imp id False.elim)), h.S, fun _ h => by simp [Env.shut] at h, fun _ h => by simp [Env.shut] at h, fun _ _ h => by simp [Env.shut] at h, fun _ _ h => by simp [Env.shut] at h⟩
theorem Env.Le.cl {e e' : Env} {F : List Nat} (h : e.Le e' F) (p : Bool) : (e.cl p).Le (e'.cl p) F := by
  cases p
  · exact h.closed
  · exact h.shut
theorem Env.Le.okk {e e' : Env} {F : List Nat} (h : e.Le e' F) {p : Bool} {g : Nat} (hg : e.ok p g) : e'.ok p g := by
  rcases hg with hg | ⟨hp, hg⟩
  · exact .inl (h.S g hg)
  · exact (h.B g hg).imp id fun x => ⟨hp, x⟩
theorem Env.ok_or {e : Env} {p : Bool} {g : Nat} (hg : e.ok p g) : e.S g ∨ e.B g := hg.imp id And.right
theorem Env.Le.cell {e e' : Env} {F : List Nat} (h : e.Le e' F) {p : Bool} {a : Addr} (hg : e.ok p a.block) : e'.w.cell? a = e.w.cell? a :=
  World.cell?_of_block (h.heap _ (.inr (Env.ok_or hg)))

theorem block_add (a : Addr) (n : Nat) : (a.add n).block = a.block := by unfold Addr.add; split <;> rfl

mutual
theorem VR_mono : ∀ (a : A) (e e' : Env) (vs : List Value) (F : List Nat), e.Le e' F → VR a e vs F → VR a e' vs F
  | .v x, e, e', vs, F, hl, h => by simpa only [VR] using h
  | .und, e, e', vs, F, hl, h => by simp [VR] at h
  | .agg xs, e, e', vs, F, hl, h => by simp only [VR] at h ⊢; exact VRs_mono xs e e' vs F hl h
  | .arr tot xs, e, e', vs, F, hl, h => by simp only [VR] at h ⊢; exact ⟨h.1, h.2.1, VRs_mono xs _ _ vs F hl.shut h.2.2⟩
  | .sl p xs, e, e', vs, F, hl, h => by
    simp only [VR] at h ⊢
    obtain ⟨rfl, a, c, us, rfl, hc, hs, hx, hh⟩ := h
    refine ⟨rfl, a, c, us, rfl, hc, hs, VRs_mono xs _ _ us [] (hl.cl p) hx, fun hne => ?_⟩
    obtain ⟨ad, rfl, hok, hcell⟩ := hh hne
    exact ⟨ad, rfl, hl.okk hok, fun j u hu => (hl.cell (a := ad.add j) (by rw [block_add]; exact hok)).trans (hcell j u hu)⟩
  | .osl s xs, e, e', vs, F, hl, h => by
    simp only [VR] at h ⊢
    refine ⟨h.1, h.2.1, h.2.2.imp id ?_⟩
    rintro ⟨g, cs, ty, c, us, Fx, rfl, h1, h2, h3, h4, h5, h6, rfl⟩
    exact ⟨g, cs, ty, c, us, Fx, rfl, h1, h2, (hl.heap g (.inl (by simp))).trans h3, h4, VRs_mono xs _ _ us Fx (hl.sub (fun x hx => by simp [hx])).shut h5, h6, rfl⟩
  | .rp p a, e, e', vs, F, hl, h => by
    simp only [VR] at h ⊢
    obtain ⟨rfl, ad, us, rfl, hok, hx, hcell⟩ := h
    exact ⟨rfl, ad, us, rfl, hl.okk hok, VR_mono a _ _ us [] (hl.cl p) hx, fun j u hu => (hl.cell (a := ad.add j) (by rw [block_add]; exact hok)).trans (hcell j u hu)⟩
  | .box a, e, e', vs, F, hl, h => by
    simp only [VR] at h ⊢
    obtain ⟨g, cs, ty, Fx, rfl, h3, h5, rfl⟩ := h
    exact ⟨g, cs, ty, Fx, rfl, (hl.heap g (.inl (by simp))).trans h3, VR_mono a _ _ _ Fx (hl.sub (fun x hx => by simp [hx])).closed h5, rfl⟩
  | .ref d s off len full, e, e', vs, F, hl, h => by
    simp only [VR] at h ⊢
    obtain ⟨rfl, hi, a, c, rfl, h1, h0, h2, h3⟩ := h
    refine ⟨rfl, hl.ids d hi, a, c, rfl, h1, h0, h2, fun l hloc => ?_⟩
    have := h3 l (hl.loc d l hi hloc)
    cases l with
    | none => exact this
    | some g => exact this.imp id fun ⟨x, y⟩ => ⟨x, fun hf => (hl.shp d g hi hloc).trans (y hf)⟩
  | .aref d p s off len, e, e', vs, F, hl, h => by
    simp only [VR] at h ⊢
    obtain ⟨rfl, hi, a, c, rfl, h1, h0, h3⟩ := h
    exact ⟨rfl, hl.ids d hi, a, c, rfl, h1, h0, fun l hloc => h3 l (hl.loc d l hi hloc)⟩
  | .ptr d p, e, e', vs, F, hl, h => by
    simp only [VR] at h ⊢
    obtain ⟨rfl, hi, ad, rfl, h3⟩ := h
    exact ⟨rfl, hl.ids d hi, ad, rfl, fun l hloc => h3 l (hl.loc d l hi hloc)⟩
  | .clo f first caps, e, e', vs, F, hl, h => by
    simp only [VR] at h ⊢
    obtain ⟨fvs, cvs, Ff, Fc, rfl, rfl, h1, h2⟩ := h
    exact ⟨fvs, cvs, Ff, Fc, rfl, rfl, VVs_mono first e e' fvs Ff (hl.sub (fun x hx => by simp [hx])) h1, VVs_mono caps e e' cvs Fc (hl.sub (fun x hx => by simp [hx])) h2⟩
  | .ifc t a, e, e', vs, F, hl, h => by
    simp only [VR] at h ⊢
    obtain ⟨x, rfl, h⟩ := h
    exact ⟨x, rfl, h.imp (fun ⟨h1, cs, h2, h3⟩ => ⟨h1, cs, h2, VR_mono a e e' _ F hl h3⟩) (fun ⟨h1, h2⟩ => ⟨h1, VR_mono a e e' _ F hl h2⟩)⟩
  | .tup _, e, e', vs, F, hl, h => by simp [VR] at h
  | .mp .., e, e', vs, F, hl, h => by simp [VR] at h
  | .mref _, e, e', vs, F, hl, h => by simp [VR] at h
theorem VRs_mono : ∀ (xs : List A) (e e' : Env) (vs : List Value) (F : List Nat), e.Le e' F → VRs xs e vs F → VRs xs e' vs F
  | [], e, e', vs, F, hl, h => by simpa only [VRs] using h
  | x :: xs, e, e', vs, F, hl, h => by
    simp only [VRs] at h ⊢
    obtain ⟨us, vs', F1, F2, rfl, rfl, h1, h2⟩ := h
    exact ⟨us, vs', F1, F2, rfl, rfl, VR_mono x e e' us F1 (hl.sub (fun x hx => by simp [hx])) h1, VRs_mono xs e e' vs' F2 (hl.sub (fun x hx => by simp [hx])) h2⟩
theorem VVs_mono : ∀ (xs : List A) (e e' : Env) (vs : List Value) (F : List Nat), e.Le e' F → VVs xs e vs F → VVs xs e' vs F
  | [], e, e', vs, F, hl, h => by simpa only [VVs] using h
  | x :: xs, e, e', vs, F, hl, h => by
    simp only [VVs] at h ⊢
    obtain ⟨y, vs', F1, F2, rfl, rfl, h1, h2⟩ := h
    have hl1 : e.Le e' F1 := hl.sub (fun x hx => by simp [hx])
    exact ⟨y, vs', F1, F2, rfl, rfl, h1.imp (fun ⟨h1, cs, h2, h3⟩ => ⟨h1, cs, h2, VR_mono x e e' _ F1 hl1 h3⟩) (fun ⟨h1, h2⟩ => ⟨h1, VR_mono x e e' _ F1 hl1 h2⟩),
      VVs_mono xs e e' vs' F2 (hl.sub (fun x hx => by simp [hx])) h2⟩
end

theorem VV_mono {a : A} {e e' : Env} {y : Value} {F : List Nat} (hl : e.Le e' F) (h : VV a e y F) : VV a e' y F :=
  h.imp (fun ⟨h1, cs, h2, h3⟩ => ⟨h1, cs, h2, VR_mono a e e' _ F hl h3⟩) (fun ⟨h1, h2⟩ => ⟨h1, VR_mono a e e' _ F hl h2⟩)
theorem TV_mono {a : A} {e e' : Env} {y : Value} (hl : e.Le e' []) (h : TV a e y) : TV a e' y := by
  unfold TV at *
  split at h
  · exact h
  · obtain ⟨vs, h1, h2⟩ := h; exact ⟨vs, h1, VVs_mono _ e e' vs [] hl h2⟩
  · exact VV_mono hl h

mutual
def A.closed : A → Bool
  | .ref .. | .aref .. | .ptr .. | .mref _ | .und | .tup _ => false
  | .agg xs => closeds xs
  | .clo _ f c => closeds f && closeds c
  | .ifc _ a => a.closed
  | _ => true
def closeds : List A → Bool
  | [] => true
  | x :: xs => x.closed && closeds xs
end

@[simp] theorem close_close (e : Env) : e.close.close = e.close := rfl
@[simp] theorem close_shut (e : Env) : e.close.shut = e.shut := rfl
@[simp] theorem shut_shut (e : Env) : e.shut.shut = e.shut := rfl
@[simp] theorem shut_close (e : Env) : e.shut.close = e.shut := rfl
@[simp] theorem close_cl (e : Env) (p : Bool) : e.close.cl p = e.cl p := by cases p <;> rfl
@[simp] theorem shut_cl (e : Env) (p : Bool) : e.shut.cl p = e.shut := by cases p <;> rfl

mutual
/-- What names no block of the frame does not hang on the names. -/
theorem VR_close : ∀ (a : A) (e : Env) (vs : List Value) (F : List Nat), a.closed = true → (VR a e vs F ↔ VR a e.close vs F)
  | .v x, e, vs, F, hc => by simp only [VR]
  | .und, e, vs, F, hc => by simp [VR]
  | .agg xs, e, vs, F, hc => by simp only [VR]; exact VRs_close xs e vs F (by simpa [A.closed] using hc)
  | .arr tot xs, e, vs, F, hc => by simp only [VR, close_shut]
  | .sl p xs, e, vs, F, hc => by simp only [VR, close_cl]; rfl
  | .osl s xs, e, vs, F, hc => by simp only [VR, close_shut]; rfl
  | .rp p a, e, vs, F, hc => by simp only [VR, close_cl]; rfl
  | .box a, e, vs, F, hc => by simp only [VR, close_close]; rfl
  | .ref .., e, vs, F, hc => by simp [A.closed] at hc
  | .aref .., e, vs, F, hc => by simp [A.closed] at hc
  | .ptr .., e, vs, F, hc => by simp [A.closed] at hc
  | .clo f first caps, e, vs, F, hc => by
    simp only [A.closed, Bool.and_eq_true] at hc
    simp only [VR, VVs_close first e _ _ hc.1, VVs_close caps e _ _ hc.2]
  | .ifc t a, e, vs, F, hc => by
    simp only [A.closed] at hc
    simp only [VR, VR_close a e _ _ hc]
  | .tup _, e, vs, F, hc => by simp [VR]
  | .mp .., e, vs, F, hc => by simp [VR]
  | .mref _, e, vs, F, hc => by simp [VR]
theorem VRs_close : ∀ (xs : List A) (e : Env) (vs : List Value) (F : List Nat), closeds xs = true → (VRs xs e vs F ↔ VRs xs e.close vs F)
  | [], e, vs, F, hc => by simp only [VRs]
  | x :: xs, e, vs, F, hc => by
    simp only [closeds, Bool.and_eq_true] at hc
    simp only [VRs, VR_close x e _ _ hc.1, VRs_close xs e _ _ hc.2]
theorem VVs_close : ∀ (xs : List A) (e : Env) (vs : List Value) (F : List Nat), closeds xs = true → (VVs xs e vs F ↔ VVs xs e.close vs F)
  | [], e, vs, F, hc => by simp only [VVs]
  | x :: xs, e, vs, F, hc => by
    simp only [closeds, Bool.and_eq_true] at hc
    simp only [VVs, VR_close x e _ _ hc.1, VVs_close xs e _ _ hc.2]
end
theorem VV_close {a : A} {e : Env} {y : Value} {F : List Nat} (hc : a.closed = true) : VV a e y F ↔ VV a e.close y F := by
  unfold VV; simp only [VR_close a e _ _ hc]


mutual
theorem VR_isclosed : ∀ (a : A) (e : Env) (vs : List Value) (F : List Nat), VR a e.close vs F → a.closed = true
  | .v x, e, vs, F, h => rfl
  | .und, e, vs, F, h => by simp [VR] at h
  | .agg xs, e, vs, F, h => by simp only [VR] at h; simpa [A.closed] using VRs_isclosed xs e vs F h
  | .arr tot xs, e, vs, F, h => rfl
  | .sl p xs, e, vs, F, h => rfl
  | .osl s xs, e, vs, F, h => rfl
  | .rp p a, e, vs, F, h => rfl
  | .box a, e, vs, F, h => rfl
  | .ref .., e, vs, F, h => by simp [VR, Env.close] at h
  | .aref .., e, vs, F, h => by simp [VR, Env.close] at h
  | .ptr .., e, vs, F, h => by simp [VR, Env.close] at h
  | .clo f first caps, e, vs, F, h => by
    simp only [VR] at h
    obtain ⟨fvs, cvs, Ff, Fc, _, _, h1, h2⟩ := h
    simp [A.closed, VVs_isclosed first e _ _ h1, VVs_isclosed caps e _ _ h2]
  | .ifc t a, e, vs, F, h => by
    simp only [VR] at h
    obtain ⟨x, _, ⟨_, cs, _, h3⟩ | ⟨_, h3⟩⟩ := h
    · simpa [A.closed] using VR_isclosed a e _ _ h3
    · simpa [A.closed] using VR_isclosed a e _ _ h3
  | .tup _, e, vs, F, h => by simp [VR] at h
  | .mp .., e, vs, F, h => by simp [VR] at h
  | .mref _, e, vs, F, h => by simp [VR] at h
theorem VRs_isclosed : ∀ (xs : List A) (e : Env) (vs : List Value) (F : List Nat), VRs xs e.close vs F → closeds xs = true
  | [], e, vs, F, h => rfl
  | x :: xs, e, vs, F, h => by
    simp only [VRs] at h
    obtain ⟨_, _, _, _, _, _, h1, h2⟩ := h
    simp [closeds, VR_isclosed x e _ _ h1, VRs_isclosed xs e _ _ h2]
theorem VVs_isclosed : ∀ (xs : List A) (e : Env) (vs : List Value) (F : List Nat), VVs xs e.close vs F → closeds xs = true
  | [], e, vs, F, h => rfl
  | x :: xs, e, vs, F, h => by
    simp only [VVs] at h
    obtain ⟨_, _, _, _, _, _, ⟨_, cs, _, h3⟩ | ⟨_, h3⟩, h2⟩ := h
    · simp [closeds, VR_isclosed x e _ _ h3, VVs_isclosed xs e _ _ h2]
    · simp [closeds, VR_isclosed x e _ _ h3, VVs_isclosed xs e _ _ h2]
end

mutual
def A.nobor : A → Bool
  | .sl p _ | .rp p _ => p
  | .box a => a.nobor
  | .agg xs => nobors xs
  | .clo _ f c => nobors f && nobors c
  | .ifc _ a => a.nobor
  | _ => true
def nobors : List A → Bool
  | [] => true
  | x :: xs => x.nobor && nobors xs
end

/-- Nothing is borrowed any more. -/
def Env.noB (e : Env) : Env := { e with B := fun _ => False }
theorem noB_shut (e : Env) : e.noB.shut = e.shut := rfl
theorem noB_close (e : Env) : e.noB.close = e.shut := rfl
theorem close_noB (e : Env) : e.close.noB = e.shut := rfl
theorem noB_cl_true (e : Env) : e.noB.cl true = e.cl true := rfl
theorem noB_ok_true {e : Env} {g : Nat} (h : e.ok true g) : e.noB.ok true g := by
  rcases h with h | ⟨h, _⟩
  · exact .inl h
  · cases h

mutual
theorem VR_noB : ∀ (a : A) (e : Env) (vs : List Value) (F : List Nat), a.nobor = true → VR a e vs F → VR a e.noB vs F
  | .v x, e, vs, F, hc, h => by simpa only [VR] using h
  | .und, e, vs, F, hc, h => by simp [VR] at h
  | .agg xs, e, vs, F, hc, h => by simp only [VR] at h ⊢; exact VRs_noB xs e vs F (by simpa [A.nobor] using hc) h
  | .arr tot xs, e, vs, F, hc, h => by simp only [VR, noB_shut] at h ⊢; exact h
  | .sl p xs, e, vs, F, hc, h => by
    simp only [A.nobor] at hc
    subst hc
    simp only [VR] at h ⊢
    obtain ⟨rfl, a, c, us, rfl, h1, h2, h3, h4⟩ := h
    exact ⟨rfl, a, c, us, rfl, h1, h2, h3, fun hne => let ⟨ad, x, y, z⟩ := h4 hne; ⟨ad, x, noB_ok_true y, z⟩⟩
  | .osl s xs, e, vs, F, hc, h => by simp only [VR, noB_shut] at h ⊢; exact h
  | .rp p a, e, vs, F, hc, h => by
    simp only [A.nobor] at hc
    subst hc
    simp only [VR] at h ⊢
    obtain ⟨rfl, ad, us, rfl, h1, h2, h3⟩ := h
    exact ⟨rfl, ad, us, rfl, noB_ok_true h1, h2, h3⟩
  | .box a, e, vs, F, hc, h => by
    simp only [A.nobor] at hc
    simp only [VR, noB_close] at h ⊢
    obtain ⟨g, cs, ty, Fx, rfl, h1, h2, rfl⟩ := h
    exact ⟨g, cs, ty, Fx, rfl, h1, by have := VR_noB a e.close _ _ hc h2; rwa [close_noB] at this, rfl⟩
  | .ref .., e, vs, F, hc, h => by simp only [VR] at h ⊢; exact h
  | .aref .., e, vs, F, hc, h => by simp only [VR] at h ⊢; exact h
  | .ptr .., e, vs, F, hc, h => by simp only [VR] at h ⊢; exact h
  | .clo f first caps, e, vs, F, hc, h => by
    simp only [A.nobor, Bool.and_eq_true] at hc
    simp only [VR] at h ⊢
    obtain ⟨fvs, cvs, Ff, Fc, rfl, rfl, h1, h2⟩ := h
    exact ⟨fvs, cvs, Ff, Fc, rfl, rfl, VVs_noB first e _ _ hc.1 h1, VVs_noB caps e _ _ hc.2 h2⟩
  | .ifc t a, e, vs, F, hc, h => by
    simp only [A.nobor] at hc
    simp only [VR] at h ⊢
    obtain ⟨x, rfl, h⟩ := h
    exact ⟨x, rfl, h.imp (fun ⟨h1, cs, h2, h3⟩ => ⟨h1, cs, h2, VR_noB a e _ F hc h3⟩) (fun ⟨h1, h2⟩ => ⟨h1, VR_noB a e _ F hc h2⟩)⟩
  | .tup _, e, vs, F, hc, h => by simp [VR] at h
  | .mp .., e, vs, F, hc, h => by simp [VR] at h
  | .mref _, e, vs, F, hc, h => by simp [VR] at h
theorem VRs_noB : ∀ (xs : List A) (e : Env) (vs : List Value) (F : List Nat), nobors xs = true → VRs xs e vs F → VRs xs e.noB vs F
  | [], e, vs, F, hc, h => by simpa only [VRs] using h
  | x :: xs, e, vs, F, hc, h => by
    simp only [nobors, Bool.and_eq_true] at hc
    simp only [VRs] at h ⊢
    obtain ⟨us, vs', F1, F2, rfl, rfl, h1, h2⟩ := h
    exact ⟨us, vs', F1, F2, rfl, rfl, VR_noB x e us F1 hc.1 h1, VRs_noB xs e vs' F2 hc.2 h2⟩
theorem VVs_noB : ∀ (xs : List A) (e : Env) (vs : List Value) (F : List Nat), nobors xs = true → VVs xs e vs F → VVs xs e.noB vs F
  | [], e, vs, F, hc, h => by simpa only [VVs] using h
  | x :: xs, e, vs, F, hc, h => by
    simp only [nobors, Bool.and_eq_true] at hc
    simp only [VVs] at h ⊢
    obtain ⟨y, vs', F1, F2, rfl, rfl, h1, h2⟩ := h
    exact ⟨y, vs', F1, F2, rfl, rfl, h1.imp (fun ⟨h1, cs, h2, h3⟩ => ⟨h1, cs, h2, VR_noB x e _ F1 hc.1 h3⟩) (fun ⟨h1, h2⟩ => ⟨h1, VR_noB x e _ F1 hc.1 h2⟩),
      VVs_noB xs e vs' F2 hc.2 h2⟩
end

/-! lists -/
theorem VRs_append : ∀ (xs ys : List A) (e : Env) (us vs : List Value) (F G : List Nat), VRs xs e us F → VRs ys e vs G → VRs (xs ++ ys) e (us ++ vs) (F ++ G)
  | [], ys, e, us, vs, F, G, h, h' => by simp only [VRs] at h; simpa [h.1, h.2] using h'
  | x :: xs, ys, e, us, vs, F, G, h, h' => by
    simp only [VRs] at h
    obtain ⟨u1, u2, F1, F2, rfl, rfl, h1, h2⟩ := h
    simp only [List.cons_append, VRs]
    exact ⟨u1, u2 ++ vs, F1, F2 ++ G, by simp, by simp, h1, VRs_append xs ys e u2 vs F2 G h2 h'⟩
theorem VRs_split : ∀ (xs ys : List A) (e : Env) (vs : List Value) (F : List Nat), VRs (xs ++ ys) e vs F → ∃ us ws F1 F2, vs = us ++ ws ∧ F = F1 ++ F2 ∧ VRs xs e us F1 ∧ VRs ys e ws F2
  | [], ys, e, vs, F, h => ⟨[], vs, [], F, by simp, by simp, by simp [VRs], h⟩
  | x :: xs, ys, e, vs, F, h => by
    simp only [List.cons_append, VRs] at h
    obtain ⟨u1, u2, F1, F2, rfl, rfl, h1, h2⟩ := h
    obtain ⟨us, ws, G1, G2, rfl, rfl, h3, h4⟩ := VRs_split xs ys e u2 F2 h2
    exact ⟨u1 ++ us, ws, F1 ++ G1, G2, by simp, by simp, by simp only [VRs]; exact ⟨u1, us, F1, G1, rfl, rfl, h1, h3⟩, h4⟩
theorem VRs_cons {x : A} {xs : List A} {e : Env} {us vs : List Value} {F G : List Nat} (h : VR x e us F) (h' : VRs xs e vs G) : VRs (x :: xs) e (us ++ vs) (F ++ G) := by
  simp only [VRs]; exact ⟨us, vs, F, G, rfl, rfl, h, h'⟩
theorem szs_append (xs ys : List A) : szs (xs ++ ys) = szs xs + szs ys := by
  induction xs with
  | nil => simp [szs]
  | cons x xs ih => simp [szs, ih]; omega
theorem szs_const {xs : List A} {s : Nat} (h : ∀ x ∈ xs, x.sz = s) : szs xs = xs.length * s := by
  induction xs with
  | nil => simp [szs]
  | cons x xs ih =>
    simp only [szs, List.length_cons, Nat.add_mul, Nat.one_mul]
    rw [ih (fun y hy => h y (by simp [hy])), h x (by simp)]
    omega

end Go.PA
