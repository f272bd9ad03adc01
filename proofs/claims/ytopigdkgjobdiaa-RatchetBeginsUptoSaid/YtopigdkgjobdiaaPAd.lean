/- More of the walk: stops and cuts, lists. -/
import Derived.Test.YtopigdkgjobdiaaPAc
set_option linter.unusedSimpArgs false
set_option linter.unusedVariables false
/- PA46: stops and cuts of the walk. -/
namespace Go.PA

/-- The walk stops here. -/
def Stop (p : Prop) : Prop := p
theorem Stop.go {p : Prop} (h : p) : Stop p := h

section
variable {P : Program} {N : Nat × List Bool} {st : St} {Q : AExit → St → Prop}

theorem SW.stopI (id : Nat) {ops : Array Oper} {d : Bool} {c y : Code} (h : Stop (SW P N (.seq (.seq (.region id ops d) c) y) Q st)) : SW P N (.seq (.seq (.region id ops d) c) y) Q st := h
theorem SW.stopB (id : Nat) {b y : Code} (h : Stop (SW P N (.seq (.block id b) y) Q st)) : SW P N (.seq (.block id b) y) Q st := h
theorem SW.stopR (id : Nat) {ops : Array Oper} {d : Bool} {y : Code} (h : Stop (SW P N (.seq (.region id ops d) y) Q st)) : SW P N (.seq (.region id ops d) y) Q st := h
theorem SW.stopL {b : Code} (h : Stop (SW P N (.loop b) Q st)) : SW P N (.loop b) Q st := h

/-- A cut: what is behind begins with one of a family of states. -/
theorem SW.cutS {x y : Code} {γ : Type} (R : γ → St) (h1 : ∀ K : St → Prop, (∀ st, (∃ g, Weak st (R g)) → K st) → SW P N x (AExit.then K Q) st) (h2 : ∀ g, SW P N y Q (R g)) : SW P N (.seq x y) Q st :=
  SW.seq (h1 (SW P N y Q) fun _ ⟨g, hw⟩ => SW.weak hw (h2 g))
end


end Go.PA

/- PA47: an element's own parts, held by the frame till now, go into the row; a row is frozen with all that it owns. -/
namespace Go.PA

/-- What stood at a place by name stands there as its own. -/
theorem Weak.absorbH {st : St} {d : Nat} {b : A → Blk} {y x : A} {rm l : List Nat} (hh : Hole b) (hb : st.bk d = some (b y)) (r : RM.Runs st.bk (takeA false 64 y [d]) (x, rm) l) :
    Weak st { st with bk := fun k => if k = d then some (b x) else if k ∈ rm then none else st.bk k } := by
  intro c a w ⟨loc, S, Fm, R⟩
  obtain ⟨u, F1, F2, F3, hF, hv, hr⟩ := hh _ _ _ _ (R.bks d _ hb)
  have hnd := hF ▸ R.nodup d
  simp only [List.nodup_append] at hnd
  have hF2d : ∀ z ∈ F2, z ∈ Fm d := fun z hz => by rw [hF]; simp [hz]
  obtain ⟨_, F', h14, T⟩ := takeA_ok R false 64 y u F2 [d] (x, rm) l hv r hnd.2.1.1 (fun z hz => ⟨d, by simp, hF2d z hz⟩)
  have G := hole_rel R (j := none) (x := x) (rm := rm) (F' := F') hb hF (fun z hz => by
    rcases T.sub z hz with h | ⟨d', h, h', h''⟩
    · exact .inl h
    · exact .inr ⟨d', h, by simpa using h', h''⟩) T.nodup (fun e' hle hl hw _ _ => hr e' x F' hle hl (VR_mono _ (envOf c st w loc S).close _ _ _ ⟨fun g hg => by rw [hw]; rfl, hle.S, hle.B, fun _ h => by simp [Env.close] at h, fun _ _ h => by simp [Env.close] at h, fun _ _ h => by simp [Env.close] at h⟩ h14)) [] (by simp) List.nodup_nil (by simp)
  exact ⟨_, S, _, by simpa using G.toW⟩

theorem Weak.absorb {st : St} {d s : Nat} {pre post : List A} {y x : A} {rm l : List Nat} (hb : st.bk d = some (.row s (pre ++ y :: post))) (r : RM.Runs st.bk (takeA false 64 y [d]) (x, rm) l) :
    Weak st { st with bk := fun k => if k = d then some (.row s (pre ++ x :: post)) else if k ∈ rm then none else st.bk k } := Weak.absorbH (Hole.row s pre post) hb r

theorem Weak.trans {st1 st2 st3 : St} (h : Weak st1 st2) (h' : Weak st2 st3) : Weak st1 st3 := fun c a w R => h' c a w (h c a w R)

mutual
/-- Frozen: what it owned is there for good. -/
def frz : A → A
  | .osl _ xs => .sl true (frzs xs)
  | .box a => .rp true (frz a)
  | .agg xs => .agg (frzs xs)
  | .arr t xs => .arr t (frzs xs)
  | .ifc t a => .ifc t (frz a)
  | a => a
def frzs : List A → List A
  | [] => []
  | x :: xs => frz x :: frzs xs
/-- May it be frozen? -/
def frzOk : A → Bool
  | .osl _ xs => frzOks xs
  | .box a => frzOk a && a.closed
  | .agg xs => frzOks xs
  | .arr _ xs => frzOks xs
  | .ifc _ a => frzOk a
  | .clo .. => false
  | .mp .. | .yl _ => false
  | _ => true
def frzOks : List A → Bool
  | [] => true
  | x :: xs => frzOk x && frzOks xs
end

mutual
theorem frz_sz : ∀ a : A, (frz a).sz = a.sz
  | .osl .. | .box _ | .arr .. | .ifc .. | .v _ | .und | .sl .. | .rp .. | .ref .. | .aref .. | .ptr .. | .clo .. | .tup _ | .mp .. | .mref _ | .yl _ | .yref _ => by simp [frz, A.sz]
  | .agg xs => by simp only [frz, A.sz]; exact frzs_szs xs
theorem frzs_szs : ∀ xs : List A, szs (frzs xs) = szs xs
  | [] => rfl
  | x :: xs => by simp only [frzs, szs, frz_sz x, frzs_szs xs]
end
theorem frzs_len : ∀ xs : List A, (frzs xs).length = xs.length
  | [] => rfl
  | x :: xs => by simp [frzs, frzs_len xs]
theorem frzs_mem : ∀ (xs : List A) (y : A), y ∈ frzs xs → ∃ x ∈ xs, y = frz x
  | [], y, h => by simp [frzs] at h
  | x :: xs, y, h => by
    simp only [frzs, List.mem_cons] at h
    rcases h with rfl | h
    · exact ⟨x, by simp, rfl⟩
    · obtain ⟨z, h1, h2⟩ := frzs_mem xs y h
      exact ⟨z, by simp [h1], h2⟩
theorem frz_isAgg (a : A) : (frz a).isAgg = a.isAgg := by cases a <;> rfl

mutual
theorem VR_frz : ∀ (a : A) (e e' : Env) (vs : List Value) (F : List Nat), frzOk a = true → e'.w = e.w → (∀ g, e.S g → e'.S g) → (∀ g ∈ F, e'.S g) → VR a e.shut vs F → VR (frz a) e'.shut vs []
  | .v x, e, e', vs, F, hk, hw, hS, hF, h => by simpa [frz, VR] using ⟨by simpa [VR] using h.1, by simp only [VR] at h; exact h.2.1⟩
  | .und, e, e', vs, F, hk, hw, hS, hF, h => by simp [VR] at h
  | .tup _, e, e', vs, F, hk, hw, hS, hF, h => by simp [VR] at h
  | .mp .., e, e', vs, F, hk, hw, hS, hF, h => by simp [frzOk] at hk
  | .mref _, e, e', vs, F, hk, hw, hS, hF, h => by simp [VR, Env.shut] at h
  | .yl _, e, e', vs, F, hk, hw, hS, hF, h => by simp [frzOk] at hk
  | .yref _, e, e', vs, F, hk, hw, hS, hF, h => by simp [VR, Env.shut] at h
  | .clo .., e, e', vs, F, hk, hw, hS, hF, h => by simp [frzOk] at hk
  | .ref .., e, e', vs, F, hk, hw, hS, hF, h => by simp [VR, Env.shut] at h
  | .aref .., e, e', vs, F, hk, hw, hS, hF, h => by simp [VR, Env.shut] at h
  | .ptr .., e, e', vs, F, hk, hw, hS, hF, h => by simp [VR, Env.shut] at h
  | .sl p xs, e, e', vs, F, hk, hw, hS, hF, h => by
    obtain rfl : F = [] := by simp only [VR] at h; exact h.1
    simp only [frz]
    refine VR_mono _ e.shut e'.shut _ _ ⟨fun g _ => by simp [Env.shut, hw], fun g h => hS g h, fun g h => h.elim, fun d h => by simp [Env.shut] at h, fun d l h => by simp [Env.shut] at h, fun d g h => by simp [Env.shut] at h⟩ h
  | .rp p a, e, e', vs, F, hk, hw, hS, hF, h => by
    obtain rfl : F = [] := by simp only [VR] at h; exact h.1
    simp only [frz]
    refine VR_mono _ e.shut e'.shut _ _ ⟨fun g _ => by simp [Env.shut, hw], fun g h => hS g h, fun g h => h.elim, fun d h => by simp [Env.shut] at h, fun d l h => by simp [Env.shut] at h, fun d g h => by simp [Env.shut] at h⟩ h
  | .agg xs, e, e', vs, F, hk, hw, hS, hF, h => by
    simp only [VR, frz] at h ⊢
    exact VRs_frz xs e e' vs F (by simpa [frzOk] using hk) hw hS hF h
  | .arr t xs, e, e', vs, F, hk, hw, hS, hF, h => by
    simp only [VR, frz, shut_shut] at h ⊢
    obtain ⟨h1, ⟨s, h2⟩, h3⟩ := h
    refine ⟨h1, ⟨s, fun y hy => ?_⟩, VRs_frz xs e e' vs F (by simpa [frzOk] using hk) hw hS hF h3⟩
    obtain ⟨x, hx, rfl⟩ := frzs_mem xs y hy
    rw [frz_sz]; exact h2 x hx
  | .ifc t a, e, e', vs, F, hk, hw, hS, hF, h => by
    simp only [VR, frz, frz_isAgg] at h ⊢
    obtain ⟨x, h1, h2⟩ := h
    refine ⟨x, h1, h2.imp (fun ⟨h3, cs, h4, h5⟩ => ⟨h3, cs, h4, VR_frz a e e' _ F (by simpa [frzOk] using hk) hw hS hF h5⟩) fun ⟨h3, h4⟩ => ⟨h3, VR_frz a e e' _ F (by simpa [frzOk] using hk) hw hS hF h4⟩⟩
  | .box a, e, e', vs, F, hk, hw, hS, hF, h => by
    simp only [frzOk, Bool.and_eq_true] at hk
    simp only [VR, frz, shut_close, shut_cl] at h ⊢
    obtain ⟨g, cs, ty, Fx, rfl, h2, h3, rfl⟩ := h
    refine ⟨trivial, ⟨g, 0, none⟩, cs.toList, rfl, .inl (hF g (by simp)), VR_frz a e e' _ Fx hk.1 hw hS (fun z hz => hF z (by simp [hz])) h3, fun j u hu => ?_⟩
    have hc := cells_at (w := e'.w) (pre := []) (us := cs.toList) (post := []) (o := 0) (by rw [hw]; exact h2) ⟨[], by simp⟩ rfl
    exact hc j u hu
  | .osl s xs, e, e', vs, F, hk, hw, hS, hF, h => by
    simp only [frzOk] at hk
    simp only [VR, frz, shut_shut, shut_cl] at h ⊢
    obtain ⟨h0, hss, ⟨rfl, rfl, _⟩ | ⟨g, cs, ty, c, us, Fx, rfl, h1, h2, h3, h4, h5, h6, rfl⟩⟩ := h
    · exact ⟨trivial, none, 0, [], rfl, by simp [frzs], ⟨0, by simp [frzs]⟩, by simp [frzs, VRs], by simp [frzs]⟩
    · refine ⟨trivial, some ⟨g, 0, none⟩, c, us, by rw [frzs_len], by rw [frzs_len]; exact h1, ⟨s, fun y hy => ?_⟩, VRs_frz xs e e' us Fx hk hw hS (fun z hz => hF z (by simp [hz])) h5, fun _ => ⟨_, rfl, .inl (hF g (by simp)), fun j u hu => ?_⟩⟩
      · obtain ⟨x, hx, rfl⟩ := frzs_mem xs y hy
        rw [frz_sz]; exact hss x hx
      · obtain ⟨rest, hrest⟩ := take_append_drop' h6
        have hc := cells_at (w := e'.w) (pre := []) (us := us) (post := []) (o := 0) (by rw [hw]; exact h3) ⟨rest, by simpa using hrest⟩ rfl
        exact hc j u hu
theorem VRs_frz : ∀ (xs : List A) (e e' : Env) (vs : List Value) (F : List Nat), frzOks xs = true → e'.w = e.w → (∀ g, e.S g → e'.S g) → (∀ g ∈ F, e'.S g) → VRs xs e.shut vs F → VRs (frzs xs) e'.shut vs []
  | [], e, e', vs, F, hk, hw, hS, hF, h => by simp only [VRs] at h; simp [frzs, VRs, h.1]
  | x :: xs, e, e', vs, F, hk, hw, hS, hF, h => by
    simp only [frzOks, Bool.and_eq_true] at hk
    simp only [VRs] at h
    obtain ⟨us, vs', F1, F2, rfl, rfl, h1, h2⟩ := h
    exact VRs_cons (F := []) (G := []) (VR_frz x e e' us F1 hk.1 hw hS (fun g hg => hF g (by simp [hg])) h1) (VRs_frz xs e e' vs' F2 hk.2 hw hS (fun g hg => hF g (by simp [hg])) h2)
end

/-- A row is frozen, with all that it owns. -/
theorem Weak.freezeAll {st : St} {d s : Nat} {xs : List A} (hb : st.bk d = some (.row s xs)) (hk : frzOks xs = true) (hcl : closeds xs = true) (hnb : nobors xs = true) : Weak st { st with bk := upd st.bk d (some (.froz s (frzs xs))) } := by
  intro c a w ⟨loc, S, Fm, R⟩
  obtain ⟨h0, h1, h2⟩ := R.bks d _ hb
  have hsz : ∀ y ∈ frzs xs, y.sz = s := fun y hy => by
    obtain ⟨x, hx, rfl⟩ := frzs_mem xs y hy
    rw [frz_sz]; exact h1 x hx
  have general : ∀ (S' : Nat → Prop), (∀ g, S g → S' g) → (∀ g, S' g → S g ∨ g ∈ Fm d) → BkR (envOf c { st with bk := upd st.bk d (some (.froz s (frzs xs))) } w loc S') d (.froz s (frzs xs)) [] →
      Rel c { st with bk := upd st.bk d (some (.froz s (frzs xs))) } a w := by
    intro S' hS hS' hB
    have hle : ∀ F, (envOf c st w loc S).Le (envOf c { st with bk := upd st.bk d (some (.froz s (frzs xs))) } w loc S') F := fun F => ⟨fun _ _ => rfl, hS, fun _ h => .inr h, fun _ h => h, fun _ _ _ h => h, fun _ _ _ _ => rfl⟩
    refine ⟨loc, S', fun x => if x = d then [] else Fm x, fun t x hx => TV_mono (hle []) (R.slots t x hx), R.size, R.defers.next (fun _ _ _ _ => rfl) (fun g h => (hS' g h).imp id fun h => .inl ⟨d, h⟩) (fun x g h => by
      split at h
      · simp at h
      · exact .inl ⟨x, h⟩) (fun g h => by simp at h), fun p hp t x hx => TV_mono (hle []) (R.ghosts p hp t x hx), fun x b hx => ?_, fun x hx => ?_, fun x hx => ?_, fun x => ?_, fun x y hxy g hg => ?_, fun x g hg => ?_, ?_⟩
    · simp only [upd] at hx
      split at hx
      · rename_i he
        subst he
        injection hx with hx
        subst hx
        simpa using hB
      · rename_i he
        simp only [if_neg he]
        exact BkR_mono (hle _) rfl (R.bks x b hx)
    · simp only [upd] at hx
      split at hx
      · cases hx
      · rename_i he
        simp only [if_neg he]
        exact R.dead x hx
    · simp only [upd] at hx
      split at hx
      · rename_i he
        subst he
        exact R.known _ (by rw [hb]; simp)
      · exact R.known x hx
    · split
      · exact List.nodup_nil
      · exact R.nodup x
    · split at hg
      · simp at hg
      · split
        · simp
        · exact R.disj x y hxy g hg
    · split at hg
      · simp at hg
      · rename_i he
        obtain ⟨o1, o2, o3, o4⟩ := R.own x g hg
        refine ⟨fun h => ?_, o2, o3, o4⟩
        rcases hS' g h with h | h
        · exact o1 h
        · exact R.disj x d he g hg h
    · refine ⟨R.fram.heap, R.fram.size, R.fram.os, R.fram.tape, R.fram.output, fun g h => hS g (R.fram.sub g h), fun g h => ?_, fun g h => ?_, R.fram.shp, R.fram.fro⟩
      · rcases hS' g h with h | h
        · exact R.fram.new g h
        · exact .inr (R.own d g h).2.2.2
      · rcases h with h | h
        · rcases hS' g h with h | h
          · exact R.fram.bd g (.inl h)
          · exact (R.own d g h).2.2.1
        · exact R.fram.bd g (.inr h)
  rcases h2 with ⟨h3, rfl, h5⟩ | ⟨g, cs, ty, cp, us, Fx, h3, h4, h5, h6, h7, h8, h9, h10⟩
  · refine general S (fun _ h => h) (fun _ h => .inl h) ?_
    exact ⟨rfl, h0, hsz, .inl ⟨h3, rfl⟩⟩
  · refine general (fun x => S x ∨ x ∈ Fm d) (fun _ h => .inl h) (fun x h => h) ?_
    refine ⟨rfl, h0, hsz, .inr ⟨g, cs, ty, us, h3, .inr (by rw [h10]; simp), h6, ⟨cp, by rw [frzs_len]; exact h4, h7⟩, ?_, h9⟩⟩
    exact VRs_frz xs (envOf c st w loc S) _ us Fx hk rfl (fun g h => .inl h) (fun g hg => .inr (by rw [h10]; simp [hg])) (VRs_shut hcl hnb h8)
end Go.PA

/- PA48: lists of lists of bytes, of fields: rows of like trees. -/
namespace Go.PA

section
variable {α : Type} {f : α → A}
theorem noowns_map (h : ∀ x, (f x).noown = true) : ∀ l : List α, noowns (l.map f) = true
  | [] => rfl
  | x :: l => by simp only [List.map_cons, noowns, h x, noowns_map h l, Bool.true_and]
theorem nobors_map (h : ∀ x, (f x).nobor = true) : ∀ l : List α, nobors (l.map f) = true
  | [] => rfl
  | x :: l => by simp only [List.map_cons, nobors, h x, nobors_map h l, Bool.true_and]
theorem closeds_map (h : ∀ x, (f x).closed = true) : ∀ l : List α, closeds (l.map f) = true
  | [] => rfl
  | x :: l => by simp only [List.map_cons, closeds, h x, closeds_map h l, Bool.true_and]
theorem lndOks_map (h : ∀ x, lndOk (f x) = true) : ∀ l : List α, lndOks (l.map f) = true
  | [] => rfl
  | x :: l => by simp only [List.map_cons, lndOks, h x, lndOks_map h l, Bool.true_and]
theorem lnds_map {g : α → A} (h : ∀ x, lnd (f x) = g x) : ∀ l : List α, lnds (l.map f) = l.map g
  | [] => rfl
  | x :: l => by simp only [List.map_cons, lnds, h x, lnds_map h l]
theorem frzOks_map (h : ∀ x, frzOk (f x) = true) : ∀ l : List α, frzOks (l.map f) = true
  | [] => rfl
  | x :: l => by simp only [List.map_cons, frzOks, h x, frzOks_map h l, Bool.true_and]
theorem frzs_map {g : α → A} (h : ∀ x, frz (f x) = g x) : ∀ l : List α, frzs (l.map f) = l.map g
  | [] => rfl
  | x :: l => by simp only [List.map_cons, frzs, h x, frzs_map h l]
theorem sz_map {s : Nat} (h : ∀ x, (f x).sz = s) {l : List α} : (∀ y, y ∈ l.map f → y.sz = s) ↔ True :=
  ⟨fun _ => trivial, fun _ y hy => by obtain ⟨x, _, rfl⟩ := List.mem_map.1 hy; exact h x⟩

theorem getD_map [Inhabited α] {l : List α} {n : Nat} (h : n < l.length) : (l.map f).getD n .und = f (l.getD n default) := by
  simp [List.getD_eq_getElem?_getD, h]

theorem idx_map {P : Program} {t : TypeId} {s : Nat} [Inhabited α] (hs : ∀ x, (f x).sz = s) {q : Bool} {l : List α} {n : Int} {bk : Nat → Option Blk} {K : Eff → List Nat → Prop} {acc : List Nat} (h : (tSlice P t).map (·.2) = some s) :
    (aIndexAddr P t (.sl q (l.map f)) n).wpA bk K acc = ((0 ≤ n ∧ n < l.length) ∧ K ⟨.rp q (f (l.getD n.toNat default)), [], []⟩ acc) := by
  cases ht : tSlice P t with
  | none => rw [ht] at h; cases h
  | some e =>
    rw [ht] at h
    obtain ⟨e, s'⟩ := e
    simp only [Option.map_some, Option.some.injEq] at h
    subst h
    simp only [aIndexAddr, ht, RM.wpA, effV, List.length_map, eq_iff_iff]
    constructor
    · intro ⟨⟨h1, h2, h3⟩, h4⟩
      rw [getD_map (by omega)] at h4
      exact ⟨⟨h1, h2⟩, h4⟩
    · intro ⟨⟨h1, h2⟩, h4⟩
      rw [getD_map (by omega)]
      exact ⟨⟨h1, h2, f (l.getD n.toNat default), by rw [List.getElem?_map, List.getD_eq_getElem?_getD, List.getElem?_eq_getElem (by omega)]; rfl, hs _⟩, h4⟩

theorem getR_map {β : Type} [Inhabited α] {s : Nat} {xs : List α} {i : Nat} {bk : Nat → Option Blk} {k : A → RM β} {K : β → List Nat → Prop} {acc : List Nat} :
    ((getR (xs.map f) s [.idx i s]).bind k).wpA bk K acc = (i < xs.length ∧ (k (f (xs.getD i default))).wpA bk K acc) := by
  simp only [getR, if_true, RM.bind, RM.wpA, List.length_map, eq_iff_iff]
  constructor
  · intro ⟨h1, h2⟩
    rw [getD_map h1] at h2
    exact ⟨h1, by simpa [getP, RM.bind] using h2⟩
  · intro ⟨h1, h2⟩
    rw [getD_map h1]
    exact ⟨h1, by simpa [getP, RM.bind] using h2⟩
end

theorem map_take' {α : Type} {f : α → A} {l : List α} {n : Nat} : (l.map f).take n = (l.take n).map f := List.map_take.symm
theorem map_drop' {α : Type} {f : α → A} {l : List α} {n : Nat} : (l.map f).drop n = (l.drop n).map f := List.map_drop.symm

/-! lists of bytes: read, owned -/
def iT (p : Bool) (x : List Nat) : A := .sl p (bA x)
def iO (x : List Nat) : A := .osl 1 (bA x)
theorem iT_app {p : Bool} {x : List Nat} : iT p x = .sl p (bA x) := rfl
theorem iT_noowns {p : Bool} {l : List (List Nat)} : noowns (l.map (iT p)) = true := noowns_map (fun _ => rfl) l
theorem iT_nobors {l : List (List Nat)} : nobors (l.map (iT true)) = true := nobors_map (fun x => by simp [iT, A.nobor]) l
theorem iT_closeds {p : Bool} {l : List (List Nat)} : closeds (l.map (iT p)) = true := closeds_map (fun _ => rfl) l
theorem iT_lndOks {p : Bool} {l : List (List Nat)} : lndOks (l.map (iT p)) = true := lndOks_map (fun _ => rfl) l
theorem iT_lnds {p : Bool} {l : List (List Nat)} : lnds (l.map (iT p)) = l.map (iT p) := lnds_map (fun _ => rfl) l
theorem iT_sz {p : Bool} {l : List (List Nat)} : (∀ y, y ∈ l.map (iT p) → y.sz = 1) ↔ True := sz_map (f := iT p) (s := 1) fun _ => rfl
theorem iO_nobors {l : List (List Nat)} : nobors (l.map iO) = true := nobors_map (fun x => by simp [iO, A.nobor]) l
theorem iO_closeds {l : List (List Nat)} : closeds (l.map iO) = true := closeds_map (fun _ => rfl) l
theorem iO_lndOks {l : List (List Nat)} : lndOks (l.map iO) = true := lndOks_map (fun x => by simp [iO, lndOk, bA_lndOks]) l
theorem iO_lnds {l : List (List Nat)} : lnds (l.map iO) = l.map (iT false) := lnds_map (fun x => by simp [iO, iT, lnd, bA_lnds]) l
theorem iO_sz {l : List (List Nat)} : (∀ y, y ∈ l.map iO → y.sz = 1) ↔ True := sz_map (f := iO) (s := 1) fun _ => rfl
theorem bA_frzOks (l : List Nat) : frzOks (bA l) = true := frzOks_map (fun _ => rfl) l
theorem bA_frzs (l : List Nat) : frzs (bA l) = bA l := frzs_map (fun _ => rfl) l
theorem iO_frzOks {l : List (List Nat)} : frzOks (l.map iO) = true := frzOks_map (fun x => by simp [iO, frzOk, bA_frzOks]) l
theorem iO_frzs {l : List (List Nat)} : frzs (l.map iO) = l.map (iT true) := frzs_map (fun x => by simp [iO, iT, frz, bA_frzs]) l
theorem idx_iT {P : Program} {t : TypeId} {p q : Bool} {l : List (List Nat)} {n : Int} {bk : Nat → Option Blk} {K : Eff → List Nat → Prop} {acc : List Nat} (h : (tSlice P t).map (·.2) = some 1) :
    (aIndexAddr P t (.sl q (l.map (iT p))) n).wpA bk K acc = ((0 ≤ n ∧ n < l.length) ∧ K ⟨.rp q (.sl p (bA (l.getD n.toNat []))), [], []⟩ acc) := idx_map (s := 1) (fun _ => rfl) h

/-! fields -/
structure Fld where
  no : Int
  ty : Int
  num : Nat
  data : List Nat
deriving Inhabited, DecidableEq
def fT (p : Bool) (x : Fld) : A := .agg [.v (.int .i64 x.no), .v (.int .i64 x.ty), .v (.int .u64 x.num), .sl p (bA x.data)]
def fO (x : Fld) : A := .agg [.v (.int .i64 x.no), .v (.int .i64 x.ty), .v (.int .u64 x.num), .osl 1 (bA x.data)]
theorem fT_noowns {p : Bool} {l : List Fld} : noowns (l.map (fT p)) = true := noowns_map (fun _ => rfl) l
theorem fT_nobors {l : List Fld} : nobors (l.map (fT true)) = true := nobors_map (fun x => by simp [fT, A.nobor, nobors]) l
theorem fT_closeds {p : Bool} {l : List Fld} : closeds (l.map (fT p)) = true := closeds_map (fun _ => rfl) l
theorem fT_lndOks {p : Bool} {l : List Fld} : lndOks (l.map (fT p)) = true := lndOks_map (fun _ => rfl) l
theorem fT_lnds {p : Bool} {l : List Fld} : lnds (l.map (fT p)) = l.map (fT p) := lnds_map (fun _ => rfl) l
theorem fT_sz {p : Bool} {l : List Fld} : (∀ y, y ∈ l.map (fT p) → y.sz = 4) ↔ True := sz_map (f := fT p) (s := 4) fun _ => rfl
theorem fO_nobors {l : List Fld} : nobors (l.map fO) = true := nobors_map (fun x => by simp [fO, A.nobor, nobors]) l
theorem fO_closeds {l : List Fld} : closeds (l.map fO) = true := closeds_map (fun _ => rfl) l
theorem fO_lndOks {l : List Fld} : lndOks (l.map fO) = true := lndOks_map (fun x => by simp [fO, lndOk, lndOks, bA_lndOks]) l
theorem fO_lnds {l : List Fld} : lnds (l.map fO) = l.map (fT false) := lnds_map (fun x => by simp [fO, fT, lnd, lnds, bA_lnds]) l
theorem fO_sz {l : List Fld} : (∀ y, y ∈ l.map fO → y.sz = 4) ↔ True := sz_map (f := fO) (s := 4) fun _ => rfl
theorem fO_frzOks {l : List Fld} : frzOks (l.map fO) = true := frzOks_map (fun x => by simp [fO, frzOk, frzOks, bA_frzOks]) l
theorem fO_frzs {l : List Fld} : frzs (l.map fO) = l.map (fT true) := frzs_map (fun x => by simp [fO, fT, frz, frzs, bA_frzs]) l
theorem idx_fT {P : Program} {t : TypeId} {p q : Bool} {l : List Fld} {n : Int} {bk : Nat → Option Blk} {K : Eff → List Nat → Prop} {acc : List Nat} (h : (tSlice P t).map (·.2) = some 4) :
    (aIndexAddr P t (.sl q (l.map (fT p))) n).wpA bk K acc = ((0 ≤ n ∧ n < l.length) ∧ K ⟨.rp q (fT p (l.getD n.toNat default)), [], []⟩ acc) := idx_map (s := 4) (fun _ => rfl) h
theorem fT_app {p : Bool} {x : Fld} : fT p x = .agg [.v (.int .i64 x.no), .v (.int .i64 x.ty), .v (.int .u64 x.num), .sl p (bA x.data)] := rfl

attribute [go_sem] bA_set map_take' map_drop' List.length_map iT_app iT_noowns iT_nobors iT_closeds iT_lndOks iT_lnds iT_sz iO_nobors iO_closeds iO_lndOks iO_lnds iO_sz bA_frzOks bA_frzs iO_frzOks iO_frzs idx_iT
  fT_app fT_noowns fT_nobors fT_closeds fT_lndOks fT_lnds fT_sz fO_nobors fO_closeds fO_lndOks fO_lnds fO_sz fO_frzOks fO_frzs idx_fT
end Go.PA
