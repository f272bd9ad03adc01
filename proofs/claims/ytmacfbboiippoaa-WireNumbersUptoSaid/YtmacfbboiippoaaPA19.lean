/- PA19: append. -/
import Derived.Test.YtmacfbboiippoaaPA18
namespace Go.PA
section
variable {P : Program} {c : Ctx} {st : St} {a : Act} {w : World} {loc : Nat → Option (Option Nat)} {S : Nat → Prop} {Fm : Nat → List Nat}

/-- A row gets another name. -/
theorem RelW.rename (R : RelW c st a w loc S Fm) {d n s : Nat} {xs : List A} (hb : st.bk d = some (.row s xs)) (hn : st.ids n = false) (st' : St)
    (hsl : ∀ t, st'.sl t = st.sl t) (hbk : ∀ x, st'.bk x = if x = n then some (.row s xs) else if x = d then none else st.bk x) (hids : ∀ x, st'.ids x = (st.ids x || x == n)) :
    RelW c st' a w (fun x => if x = n then loc d else if x = d then none else loc x) S (fun x => if x = n then Fm d else if x = d then [] else Fm x) := by
  have hdn : d ≠ n := fun e => by
    subst e
    have := R.known d (by rw [hb]; simp)
    rw [hn] at this; cases this
  have hst : Step c st w loc S Fm (fun _ => False) st' w (fun x => if x = n then loc d else if x = d then none else loc x) S (fun x => if x = n then Fm d else if x = d then [] else Fm x) := by
    refine ⟨hsl, fun g h => h.elim, fun g hg _ => rfl, fun g hg => rfl, Nat.le_refl _, rfl, rfl, rfl, fun _ h => h, fun _ h => .inl h,
      fun g hg => R.fram.bd g (.inl hg), fun x hx => by simp [hids, hx], fun x l hx hl => ?_, fun _ => rfl⟩
    have hne : x ≠ n := fun e => by subst e; rw [hn] at hx; cases hx
    simp only [if_neg hne] at hl
    split at hl
    · cases hl
    · exact hl
  refine R.next hst (fun x b' hb' => ?_) (fun x hx => ?_) (fun x hx => ?_) (fun x => ?_) (fun x y hne g hg => ?_) (fun x g hg => ?_)
  · rw [hbk] at hb'
    by_cases hx : x = n
    · subst hx
      simp only [if_true] at hb'
      injection hb' with hb'
      subst hb'
      right
      have hB := R.bks d _ hb
      have hle : (envOf c st w loc S).Le (envOf c st' w (fun y => if y = x then loc d else if y = d then none else loc y) S) (Fm d) := hst.le R fun g hg => ⟨R.fmLt hg, id⟩
      obtain ⟨h1, h2, h3⟩ := hB
      simp only [if_true]
      refine ⟨h1, h2, ?_⟩
      rcases h3 with ⟨h3, h4⟩ | ⟨g, cs, ty, k, us, Fx, h3, h4, h5, h6, h7, h8, h9, h10⟩
      · exact .inl ⟨by simpa [envOf] using h3, h4⟩
      · refine .inr ⟨g, cs, ty, k, us, Fx, by simpa [envOf] using h3, h4, h5, h6, h7, VRs_mono _ _ _ _ _ (hle.sub fun z hz => by rw [h10]; simp [hz]).shut h8, h9, h10⟩
    · simp only [if_neg hx] at hb'
      by_cases hxd : x = d
      · simp [hxd] at hb'
      · simp only [if_neg hxd] at hb'
        exact .inl ⟨hb', by simp [hx, hxd], by simp [hx, hxd], by simp⟩
  · rw [hbk] at hx
    by_cases hxn : x = n
    · simp [hxn] at hx
    · simp only [if_neg hxn] at hx ⊢
      by_cases hxd : x = d
      · simp [hxd]
      · simp only [if_neg hxd] at hx ⊢
        exact R.dead x hx
  · rw [hids]
    rw [hbk] at hx
    by_cases hxn : x = n
    · simp [hxn]
    · simp only [if_neg hxn] at hx
      by_cases hxd : x = d
      · simp [hxd] at hx
      · simp only [if_neg hxd] at hx
        simp [R.known x hx]
  · by_cases h1 : x = n
    · simp [h1, R.nodup d]
    · by_cases h2 : x = d <;> simp [h1, h2, R.nodup x]
      rw [if_neg hdn]; simp
  · by_cases h1 : x = n
    · simp only [h1, if_true] at hg
      have hy : y ≠ n := fun e => hne (h1.trans e.symm)
      simp only [if_neg hy]
      by_cases h2 : y = d
      · simp [h2]
      · simp only [if_neg h2]; exact R.disj d y (fun e => h2 e.symm) g hg
    · simp only [if_neg h1] at hg
      by_cases h2 : x = d
      · simp [h2] at hg
      · simp only [if_neg h2] at hg
        by_cases h3 : y = n
        · simp only [h3, if_true]; exact R.disj x d h2 g hg
        · simp only [if_neg h3]
          by_cases h4 : y = d
          · simp [h4]
          · simp only [if_neg h4]; exact R.disj x y hne g hg
  · have hF : ∃ d0, g ∈ Fm d0 := by
      by_cases h1 : x = n
      · simp only [h1, if_true] at hg; exact ⟨d, hg⟩
      · simp only [if_neg h1] at hg
        by_cases h2 : x = d
        · simp [h2] at hg
        · simp only [if_neg h2] at hg; exact ⟨x, hg⟩
    obtain ⟨d0, hd0⟩ := hF
    exact ⟨.inl ⟨d0, hd0⟩, (R.own d0 g hd0).1, R.fmLt hd0⟩

/-- A row's contents go into a new block. -/
theorem RelW.regrow (R : RelW c st a w loc S Fm) {d n s : Nat} {xs : List A} (hb : st.bk d = some (.row s xs)) (hn : st.ids n = false) (st' : St) (b : Blk)
    (hsl : ∀ t, st'.sl t = st.sl t) (hbk : ∀ x, st'.bk x = if x = n then some b else if x = d then none else st.bk x) (hids : ∀ x, st'.ids x = (st.ids x || x == n))
    (cs : Array Value) (ty : TypeId) (w1 : World) (hw : w1.heap = w.heap) (hos : w1.os = w.os) (ht : w1.tape = w.tape) (ho : w1.output = w.output) (Fx : List Nat)
    (hFx : ∀ g ∈ Fx, g ∈ Fm d) (hnd : Fx.Nodup)
    (hB : ∀ e, e.w = w1.alloc (.cells cs ty) → e.loc n = some (some w.heap.size) → (∀ F : List Nat, (∀ g ∈ F, g < w.heap.size) → (envOf c st w loc S).Le e F) → BkR e n b (w.heap.size :: Fx)) :
    RelW c st' a (w1.alloc (.cells cs ty)) (fun x => if x = n then some (some w.heap.size) else if x = d then none else loc x) S (fun x => if x = n then w.heap.size :: Fx else if x = d then [] else Fm x) := by
  have hdn : d ≠ n := fun e => by
    subst e
    have := R.known d (by rw [hb]; simp)
    rw [hn] at this; cases this
  have hsz : (w1.alloc (.cells cs ty)).heap.size = w.heap.size + 1 := by rw [World.size_alloc, hw]
  have hold : ∀ g, g < w.heap.size → (w1.alloc (.cells cs ty)).heap[g]? = w.heap[g]? := fun g hg => by
    rw [heap_alloc_old _ _ _ (by rw [hw]; exact hg), hw]
  have hst : Step c st w loc S Fm (fun _ => False) st' (w1.alloc (.cells cs ty)) (fun x => if x = n then some (some w.heap.size) else if x = d then none else loc x) S (fun x => if x = n then w.heap.size :: Fx else if x = d then [] else Fm x) := by
    refine ⟨hsl, fun g h => h.elim, fun g hg _ => hold g hg, fun g hg => by rw [shape_of_heap (hold g hg)], by omega, hos, ht, ho, fun _ h => h, fun _ h => .inl h,
      fun g hg => by have := R.fram.bd g (.inl hg); omega, fun x hx => by simp [hids, hx], fun x l hx hl => ?_, frozen_alloc hw⟩
    have hne : x ≠ n := fun e => by subst e; rw [hn] at hx; cases hx
    simp only [if_neg hne] at hl
    split at hl
    · cases hl
    · exact hl
  have hlt : ∀ g ∈ Fx, g < w.heap.size := fun g hg => R.fmLt (hFx g hg)
  refine R.next hst (fun x b' hb' => ?_) (fun x hx => ?_) (fun x hx => ?_) (fun x => ?_) (fun x y hne g hg => ?_) (fun x g hg => ?_)
  · rw [hbk] at hb'
    by_cases hx : x = n
    · subst hx
      simp only [if_true] at hb'
      injection hb' with hb'
      subst hb'
      right
      simp only [if_true]
      exact hB _ rfl (by simp [envOf]) (fun F hF => hst.le R fun g hg => ⟨hF g hg, id⟩)
    · simp only [if_neg hx] at hb'
      by_cases hxd : x = d
      · simp [hxd] at hb'
      · simp only [if_neg hxd] at hb'
        exact .inl ⟨hb', by simp [hx, hxd], by simp [hx, hxd], by simp⟩
  · rw [hbk] at hx
    by_cases hxn : x = n
    · simp [hxn] at hx
    · simp only [if_neg hxn] at hx ⊢
      by_cases hxd : x = d
      · simp [hxd]
      · simp only [if_neg hxd] at hx ⊢
        exact R.dead x hx
  · rw [hids]
    rw [hbk] at hx
    by_cases hxn : x = n
    · simp [hxn]
    · simp only [if_neg hxn] at hx
      by_cases hxd : x = d
      · simp [hxd] at hx
      · simp only [if_neg hxd] at hx
        simp [R.known x hx]
  · by_cases h1 : x = n
    · simp only [h1, if_true, List.nodup_cons]
      exact ⟨fun h => by have := hlt _ h; omega, hnd⟩
    · by_cases h2 : x = d
      · simp only [h2, if_neg hdn, if_true]; exact List.nodup_nil
      · simp [h1, h2, R.nodup x]
  · by_cases h1 : x = n
    · simp only [h1, if_true] at hg
      have hy : y ≠ n := fun e => hne (h1.trans e.symm)
      simp only [if_neg hy]
      by_cases h2 : y = d
      · simp [h2]
      · simp only [if_neg h2]
        rcases List.mem_cons.1 hg with hg | hg
        · subst hg; intro h; have := R.fmLt h; omega
        · exact R.disj d y (fun e => h2 e.symm) g (hFx g hg)
    · simp only [if_neg h1] at hg
      by_cases h2 : x = d
      · simp [h2] at hg
      · simp only [if_neg h2] at hg
        by_cases h3 : y = n
        · simp only [h3, if_true, List.mem_cons, not_or]
          exact ⟨fun h => by have := R.fmLt hg; omega, fun h => R.disj x d h2 g hg (hFx g h)⟩
        · simp only [if_neg h3]
          by_cases h4 : y = d
          · simp [h4]
          · simp only [if_neg h4]; exact R.disj x y hne g hg
  · by_cases h1 : x = n
    · simp only [h1, if_true, List.mem_cons] at hg
      rcases hg with hg | hg
      · subst hg
        exact ⟨.inr (Nat.le_refl _), fun hS => by have := R.fram.bd _ (.inl hS); omega, by omega⟩
      · exact ⟨.inl ⟨d, hFx g hg⟩, (R.own d g (hFx g hg)).1, by have := hlt g hg; omega⟩
    · simp only [if_neg h1] at hg
      by_cases h2 : x = d
      · simp [h2] at hg
      · simp only [if_neg h2] at hg
        exact ⟨.inl ⟨x, hg⟩, (R.own x g hg).1, by have := R.fmLt hg; omega⟩

end
end Go.PA
