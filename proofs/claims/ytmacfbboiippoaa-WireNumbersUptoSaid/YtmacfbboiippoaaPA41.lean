/- PA41: a row is frozen: nobody writes to it any more. -/
import Derived.Test.YtmacfbboiippoaaPA40
namespace Go.PA

theorem Weak.freeze {st : St} {d s : Nat} {xs : List A} (hb : st.bk d = some (.row s xs)) (hn : noowns xs = true) : Weak st { st with bk := upd st.bk d (some (.froz s xs)) } := by
  intro c a w ⟨loc, S, Fm, R⟩
  obtain ⟨h0, h1, h2⟩ := R.bks d _ hb
  have general : ∀ (S' : Nat → Prop), (∀ g, S g → S' g) → (∀ g, S' g → S g ∨ g ∈ Fm d) → BkR (envOf c { st with bk := upd st.bk d (some (.froz s xs)) } w loc S') d (.froz s xs) [] →
      Rel c { st with bk := upd st.bk d (some (.froz s xs)) } a w := by
    intro S' hS hS' hB
    have hle : ∀ F, (envOf c st w loc S).Le (envOf c { st with bk := upd st.bk d (some (.froz s xs)) } w loc S') F := fun F => ⟨fun _ _ => rfl, hS, fun _ h => .inr h, fun _ h => h, fun _ _ _ h => h, fun _ _ _ _ => rfl⟩
    refine ⟨loc, S', fun x => if x = d then [] else Fm x, fun t x hx => TV_mono (hle []) (R.slots t x hx), R.size, R.defers, fun x b hx => ?_, fun x hx => ?_, fun x hx => ?_, fun x => ?_, fun x y hxy g hg => ?_, fun x g hg => ?_, ?_⟩
    · simp only [upd] at hx
      split at hx
      · rename_i he
        subst he
        injection hx with hx
        subst hx
        simpa using hB
      · rename_i he
        simp only [if_neg he]
        exact BkR_mono (hle _) rfl (R.bks x b hx)
    · simp only [upd] at hx
      split at hx
      · cases hx
      · rename_i he
        simp only [if_neg he]
        exact R.dead x hx
    · simp only [upd] at hx
      split at hx
      · rename_i he
        subst he
        exact R.known _ (by rw [hb]; simp)
      · exact R.known x hx
    · split
      · exact List.nodup_nil
      · exact R.nodup x
    · split at hg
      · simp at hg
      · split
        · simp
        · exact R.disj x y hxy g hg
    · split at hg
      · simp at hg
      · rename_i he
        obtain ⟨o1, o2, o3, o4⟩ := R.own x g hg
        refine ⟨fun h => ?_, o2, o3, o4⟩
        rcases hS' g h with h | h
        · exact o1 h
        · exact R.disj x d he g hg h
    · refine ⟨R.fram.heap, R.fram.size, R.fram.os, R.fram.tape, R.fram.output, fun g h => hS g (R.fram.sub g h), fun g h => ?_, fun g h => ?_, R.fram.shp, R.fram.fro⟩
      · rcases hS' g h with h | h
        · exact R.fram.new g h
        · exact .inr (R.own d g h).2.2.2
      · rcases h with h | h
        · rcases hS' g h with h | h
          · exact R.fram.bd g (.inl h)
          · exact (R.own d g h).2.2.1
        · exact R.fram.bd g (.inr h)
  rcases h2 with ⟨h3, rfl, h5⟩ | ⟨g, cs, ty, cp, us, Fx, h3, h4, h5, h6, h7, h8, h9, h10⟩
  · refine general S (fun _ h => h) (fun _ h => .inl h) ?_
    exact ⟨rfl, h0, h1, .inl ⟨h3, rfl⟩⟩
  · obtain rfl := VRs_noown _ _ _ _ hn h8
    refine general (fun x => S x ∨ x = g) (fun _ h => .inl h) (fun x h => h.imp id fun h => by rw [h, h10]; simp) ?_
    refine ⟨rfl, h0, h1, .inr ⟨g, cs, ty, us, h3, .inr rfl, h6, ⟨cp, h4, h7⟩, VRs_mono _ _ _ _ _ ?_ h8, h9⟩⟩
    exact ⟨fun _ _ => rfl, fun _ h => .inl h, fun _ h => h.elim, fun _ h => by simp [Env.shut] at h, fun _ _ h => by simp [Env.shut] at h, fun _ _ h => by simp [Env.shut] at h⟩

end Go.PA
