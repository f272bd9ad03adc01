/- PA22: what is handed to a call. -/
import Derived.Test.YtmacfbboiippoaaPA21
namespace Go.PA
section
variable {P : Program} {c : Ctx} {st : St} {a : Act} {w : World} {loc : Nat → Option (Option Nat)} {S : Nat → Prop} {Fm : Nat → List Nat}

/-- What taking comes to. -/
structure Took (st : St) (Fm : Nat → List Nat) (F0 : List Nat) (rm rm' : List Nat) (F' : List Nat) : Prop where
  nodup : F'.Nodup
  sub : ∀ g ∈ F', g ∈ F0 ∨ ∃ d, d ∈ rm' ∧ d ∉ rm ∧ g ∈ Fm d
  mono : ∀ d ∈ rm, d ∈ rm'
  live : ∀ d ∈ rm', d ∈ rm ∨ st.bk d ≠ none

theorem Took.refl {F0 rm : List Nat} (h : F0.Nodup) : Took st Fm F0 rm rm F0 := ⟨h, fun _ h => .inl h, fun _ h => h, fun _ h => .inl h⟩

/-- Two takings, one behind the other. -/
theorem Took.append (R : RelW c st a w loc S Fm) {F1 F2 G1 G2 rm rm1 rm2 : List Nat} (h1 : Took st Fm F1 rm rm1 G1) (h2 : Took st Fm F2 rm1 rm2 G2) (hF : ∀ g ∈ F1 ++ F2, ∃ d ∈ rm, g ∈ Fm d) (hnd : (F1 ++ F2).Nodup) :
    Took st Fm (F1 ++ F2) rm rm2 (G1 ++ G2) := by
  refine ⟨List.nodup_append.2 ⟨h1.nodup, h2.nodup, fun x hx y hy hxy => ?_⟩, fun g hg => ?_, fun d hd => h2.mono d (h1.mono d hd), fun d hd => ?_⟩
  · subst hxy
    have hdis := (List.nodup_append.1 hnd).2.2
    rcases h1.sub x hx with h3 | ⟨d, h3, h4, h5⟩ <;> rcases h2.sub x hy with h6 | ⟨d', h6, h7, h8⟩
    · exact hdis x h3 x h6 rfl
    · obtain ⟨d0, hd0, hx0⟩ := hF x (by simp [h3])
      exact R.disj d' d0 (fun e => h7 (e ▸ h1.mono d0 hd0)) x h8 hx0
    · obtain ⟨d0, hd0, hx0⟩ := hF x (by simp [h6])
      exact R.disj d d0 (fun e => h4 (e ▸ hd0)) x h5 hx0
    · exact R.disj d d' (fun e => h7 (e ▸ h3)) x h5 h8
  · rcases List.mem_append.1 hg with hg | hg
    · rcases h1.sub g hg with h3 | ⟨d, h3, h4, h5⟩
      · exact .inl (by simp [h3])
      · exact .inr ⟨d, h2.mono d h3, h4, h5⟩
    · rcases h2.sub g hg with h3 | ⟨d, h3, h4, h5⟩
      · exact .inl (by simp [h3])
      · exact .inr ⟨d, h3, fun h => h4 (h1.mono d h), h5⟩
  · rcases h2.live d hd with h | h
    · exact h1.live d h
    · exact .inr h

def TakeOk (st : St) (e : Env) (Fm : Nat → List Nat) (f : A → List Nat → RM (A × List Nat)) : Prop :=
  ∀ (x : A) (vs : List Value) (F0 rm : List Nat) (q : A × List Nat) (l : List Nat), VR x e vs F0 → RM.Runs st.bk (f x rm) q l → F0.Nodup → (∀ g ∈ F0, ∃ d ∈ rm, g ∈ Fm d) →
    x.isAgg = q.1.isAgg ∧ ∃ F', VR q.1 e.close vs F' ∧ Took st Fm F0 rm q.2 F'

theorem takesW_VRs (R : RelW c st a w loc S Fm) {f : A → List Nat → RM (A × List Nat)} (hf : TakeOk st (envOf c st w loc S) Fm f) : ∀ (xs : List A) (vs : List Value) (F0 rm : List Nat) (q : List A × List Nat) (l : List Nat),
    VRs xs (envOf c st w loc S) vs F0 → RM.Runs st.bk (takesW f xs rm) q l → F0.Nodup → (∀ g ∈ F0, ∃ d ∈ rm, g ∈ Fm d) → ∃ F', VRs q.1 (envOf c st w loc S).close vs F' ∧ Took st Fm F0 rm q.2 F'
  | [], vs, F0, rm, q, l, h, r, hnd, hF => by
    simp only [takesW] at r
    obtain ⟨rfl, _⟩ := runs_ret r
    simp only [VRs] at h
    obtain ⟨rfl, rfl⟩ := h
    exact ⟨[], by simp [VRs], .refl hnd⟩
  | x :: xs, vs, F0, rm, q, l, h, r, hnd, hF => by
    simp only [takesW] at r
    obtain ⟨q1, l1, l2, r1, r2, _⟩ := RM.runs_bind r
    obtain ⟨q2, l3, l4, r3, r4, _⟩ := RM.runs_bind r2
    obtain ⟨rfl, _⟩ := runs_ret r4
    simp only [VRs] at h
    obtain ⟨us, vs', F1, F2, rfl, rfl, h1, h2⟩ := h
    have hnd' := List.nodup_append.1 hnd
    obtain ⟨_, G1, h3, T1⟩ := hf x us F1 rm q1 l1 h1 r1 hnd'.1 (fun g hg => hF g (by simp [hg]))
    obtain ⟨G2, h4, T2⟩ := takesW_VRs R hf xs vs' F2 q1.2 q2 l3 h2 r3 hnd'.2.1 (fun g hg => let ⟨d, hd, hg'⟩ := hF g (by simp [hg]); ⟨d, T1.mono d hd, hg'⟩)
    exact ⟨G1 ++ G2, VRs_cons h3 h4, Took.append R T1 T2 hF hnd⟩

theorem takesW_VVs (R : RelW c st a w loc S Fm) {f : A → List Nat → RM (A × List Nat)} (hf : TakeOk st (envOf c st w loc S) Fm f) : ∀ (xs : List A) (vs : List Value) (F0 rm : List Nat) (q : List A × List Nat) (l : List Nat),
    VVs xs (envOf c st w loc S) vs F0 → RM.Runs st.bk (takesW f xs rm) q l → F0.Nodup → (∀ g ∈ F0, ∃ d ∈ rm, g ∈ Fm d) → ∃ F', VVs q.1 (envOf c st w loc S).close vs F' ∧ Took st Fm F0 rm q.2 F'
  | [], vs, F0, rm, q, l, h, r, hnd, hF => by
    simp only [takesW] at r
    obtain ⟨rfl, _⟩ := runs_ret r
    simp only [VVs] at h
    obtain ⟨rfl, rfl⟩ := h
    exact ⟨[], by simp [VVs], .refl hnd⟩
  | x :: xs, vs, F0, rm, q, l, h, r, hnd, hF => by
    simp only [takesW] at r
    obtain ⟨q1, l1, l2, r1, r2, _⟩ := RM.runs_bind r
    obtain ⟨q2, l3, l4, r3, r4, _⟩ := RM.runs_bind r2
    obtain ⟨rfl, _⟩ := runs_ret r4
    simp only [VVs] at h
    obtain ⟨y, vs', F1, F2, rfl, rfl, h1, h2⟩ := h
    have hnd' := List.nodup_append.1 hnd
    have key : ∃ G1, ((q1.1.isAgg = true ∧ ∃ cs, y = .agg cs ∧ VR q1.1 (envOf c st w loc S).close cs.toList G1) ∨ (q1.1.isAgg = false ∧ VR q1.1 (envOf c st w loc S).close [y] G1)) ∧ Took st Fm F1 rm q1.2 G1 := by
      rcases h1 with ⟨hg, cs, hy, hv⟩ | ⟨hg, hv⟩
      · obtain ⟨he, G1, h3, T1⟩ := hf x _ F1 rm q1 l1 hv r1 hnd'.1 (fun g hg => hF g (by simp [hg]))
        exact ⟨G1, .inl ⟨he ▸ hg, cs, hy, h3⟩, T1⟩
      · obtain ⟨he, G1, h3, T1⟩ := hf x _ F1 rm q1 l1 hv r1 hnd'.1 (fun g hg => hF g (by simp [hg]))
        exact ⟨G1, .inr ⟨he ▸ hg, h3⟩, T1⟩
    obtain ⟨G1, h3, T1⟩ := key
    obtain ⟨G2, h4, T2⟩ := takesW_VVs R hf xs vs' F2 q1.2 q2 l3 h2 r3 hnd'.2.1 (fun g hg => let ⟨d, hd, hg'⟩ := hF g (by simp [hg]); ⟨d, T1.mono d hd, hg'⟩)
    exact ⟨G1 ++ G2, by simp only [VVs]; exact ⟨y, vs', G1, G2, rfl, rfl, h3, h4⟩, Took.append R T1 T2 hF hnd⟩

theorem takeA_ok (R : RelW c st a w loc S Fm) (bor : Bool) : ∀ n, TakeOk st (envOf c st w loc S) Fm (takeA bor n) := by
  intro n
  induction n with
  | zero => intro x vs F0 rm q l h r; simp only [takeA] at r; exact (runs_fail r).elim
  | succ n ih =>
    intro x vs F0 rm q l h r hnd hF
    have keep : ∀ {z : A}, z.closed = true → VR z (envOf c st w loc S) vs F0 → RM.Runs st.bk (.ret (z, rm)) q l → z.isAgg = q.1.isAgg ∧ ∃ F', VR q.1 (envOf c st w loc S).close vs F' ∧ Took st Fm F0 rm q.2 F' := by
      intro z hc hz r
      obtain ⟨rfl, _⟩ := runs_ret r
      exact ⟨rfl, F0, (VR_close z _ _ _ hc).1 hz, .refl hnd⟩
    simp only [takeA] at r
    cases x <;> (try dsimp only at r)
    case v x => exact keep rfl h r
    case und => exact (runs_fail r).elim
    case arr t xs => exact keep rfl h r
    case osl s xs => exact keep rfl h r
    case tup xs => exact (runs_fail r).elim
    case mp k v => exact (runs_fail r).elim
    case mref d => exact (runs_fail r).elim
    case aref d p s off len => exact (runs_fail r).elim
    case sl p xs =>
      split at r
      · exact keep rfl h r
      · exact (runs_fail r).elim
    case rp p a =>
      split at r
      · exact keep rfl h r
      · exact (runs_fail r).elim
    case box a =>
      split at r
      · exact keep rfl h r
      · exact (runs_fail r).elim
    case ref d s off len full =>
      split at r
      · exact (runs_fail r).elim
      · rename_i hrm
        obtain ⟨b, l', hb, rr, _⟩ := runs_rd r
        clear r
        have r := rr
        clear rr
        have hB := R.bks d b hb
        simp only [VR] at h
        obtain ⟨rfl, hid, bx, k, rfl, h1, h2, h3, h4⟩ := h
        cases b with
        | row s' xs =>
          dsimp only at r
          split at r
          · rename_i hc
            obtain ⟨rfl, rfl, rfl⟩ := hc
            obtain ⟨hle, r⟩ := runs_req r
            obtain ⟨rfl, _⟩ := runs_ret r
            obtain ⟨h0, hss, ⟨h5, h6, h7⟩ | ⟨g, cs, ty, kc, us, Fx, h5, h6, h7, h8, h9, h10, h11, h12⟩⟩ := hB
            · subst h6
              have := h4 _ h5
              simp only at this
              obtain ⟨_, rfl, rfl, rfl⟩ := this
              refine ⟨rfl, [], ?_, List.nodup_nil, by simp, fun x hx => by simp [hx], fun x hx => ?_⟩
              · simp only [VR]
                exact ⟨h0, by simp, .inl ⟨by simp, trivial, trivial⟩⟩
              · rcases List.mem_cons.1 hx with rfl | hx
                · exact .inr (by rw [hb]; simp)
                · exact .inl hx
            · have := h4 _ h5
              simp only [ne_eq, not_true_eq_false, and_false, false_or, Nat.zero_mul, Nat.zero_add] at this
              obtain ⟨rfl, hsh⟩ := this
              have hsh' := hsh trivial
              have hcs : (envOf c st w loc S).w.shape? g = some (ty, cs.size) := shape_cells h8
              rw [hcs] at hsh'
              injection hsh' with hcs2
              have hkk : k = kc := by
                simp only at hcs2
                rw [h9] at hcs2
                exact (Nat.eq_of_mul_eq_mul_right h0 hcs2).symm
              subst hkk
              have hsplit : VRs (xs.take len ++ xs.drop len) (envOf c st w loc S).shut us Fx := by rw [List.take_append_drop]; exact h10
              obtain ⟨u1, u2, F1, F2, rfl, rfl, h13, h14⟩ := VRs_split _ _ _ _ _ hsplit
              have hlen : (xs.take len).length = len := by simp; omega
              have hndd := h12 ▸ R.nodup d
              refine ⟨rfl, g :: F1, ?_, ?_, fun x hx => .inr ⟨d, by simp, by simpa using hrm, by rw [h12]; simp at hx ⊢; rcases hx with hx | hx <;> simp [hx]⟩, fun x hx => by simp [hx], fun x hx => ?_⟩
              · simp only [VR]
                refine ⟨h0, fun x hx => hss x (List.mem_of_mem_take hx), .inr ⟨g, cs, ty, k, u1, F1, by rw [hlen], by rw [hlen]; exact h1, h7, h8, h9, h13, ?_, rfl⟩⟩
                have := congrArg (List.take u1.length) h11
                rw [List.take_take, List.take_left] at this
                rwa [show min u1.length (u1 ++ u2).length = u1.length by simp] at this
              · simp only [List.nodup_cons, List.nodup_append, List.mem_append] at hndd ⊢
                exact ⟨fun h => hndd.1 (.inl h), hndd.2.1⟩
              · rcases List.mem_cons.1 hx with rfl | hx
                · exact .inr (by rw [hb]; simp)
                · exact .inl hx
          · exact (runs_fail r).elim
        | froz s' xs =>
          dsimp only at r
          split at r
          · rename_i hc
            subst hc
            obtain ⟨hle, r⟩ := runs_req r
            obtain ⟨rfl, _⟩ := runs_ret r
            have hlen : ((xs.drop off).take len).length = len := by simp; omega
            obtain ⟨_, h0, hss, ⟨h5, h6⟩ | ⟨g, cs, ty, us, h5, h6, h7, h8, h9, h10⟩⟩ := hB
            · subst h6
              refine ⟨rfl, [], ?_, .refl List.nodup_nil⟩
              simp only [VR]
              exact ⟨trivial, bx, k, [], by rw [hlen], by simp, ⟨0, by simp⟩, by simp [VRs], by simp⟩
            · obtain ⟨us', h11, h12⟩ := row_src (e := envOf c st w loc S) hss h5 h7 h9 h10 hle h1 h4
              refine ⟨rfl, [], ?_, .refl List.nodup_nil⟩
              simp only [VR]
              refine ⟨trivial, bx, k, us', by rw [hlen], by rw [hlen]; exact h1, ⟨s, fun x hx => hss x (List.mem_of_mem_drop (List.mem_of_mem_take hx))⟩, h11, fun hne => ?_⟩
              obtain ⟨ad, rfl, hcell⟩ := h12 hne
              have hpos : 0 < len := by rw [← hlen]; exact List.length_pos_iff.2 hne
              refine ⟨ad, rfl, .inl ?_, hcell⟩
              rcases h4 _ h5 with ⟨h, _⟩ | ⟨h, _⟩
              · omega
              · injection h with h; subst h; exact h6
          · exact (runs_fail r).elim
        | var z => exact (runs_fail r).elim
    case ptr d p =>
      cases p with
      | cons p ps => exact (runs_fail r).elim
      | nil =>
        dsimp only at r
        split at r
        · exact (runs_fail r).elim
        · rename_i hrm
          obtain ⟨b, l', hb, rr, _⟩ := runs_rd r
          clear r
          have r := rr
          clear rr
          have hB := R.bks d b hb
          simp only [VR] at h
          obtain ⟨rfl, hid, ad, rfl, h1⟩ := h
          cases b with
          | row s' xs => exact (runs_fail r).elim
          | froz s' xs => exact (runs_fail r).elim
          | var z =>
            obtain ⟨q1, l1, l2, r1, r2, _⟩ := RM.runs_bind r
            obtain ⟨rfl, _⟩ := runs_ret r2
            obtain ⟨g, cs, ty, Fx, h2, h3, h4, h5⟩ := hB
            obtain ⟨g', hg', rfl⟩ := h1 _ h2
            injection hg' with hg'; subst hg'
            have hndd := h5 ▸ R.nodup d
            rw [List.nodup_cons] at hndd
            obtain ⟨_, F', h6, T⟩ := ih z _ Fx (d :: rm) q1 l1 h4 r1 hndd.2 (fun x hx => ⟨d, by simp, by rw [h5]; simp [hx]⟩)
            refine ⟨rfl, g :: F', ?_, ?_, fun x hx => ?_, fun x hx => T.mono x (by simp [hx]), fun x hx => ?_⟩
            · simp only [VR]
              exact ⟨g, cs, ty, F', rfl, h3, h6, rfl⟩
            · rw [List.nodup_cons]
              refine ⟨fun hg => ?_, T.nodup⟩
              rcases T.sub g hg with h7 | ⟨d', h7, h8, h9⟩
              · exact hndd.1 h7
              · exact R.disj d' d (fun e => h8 (by simp [e])) g h9 (by rw [h5]; simp)
            · rcases List.mem_cons.1 hx with rfl | hx
              · exact .inr ⟨d, T.mono d (by simp), by simpa using hrm, by rw [h5]; simp⟩
              · rcases T.sub x hx with h7 | ⟨d', h7, h8, h9⟩
                · exact .inr ⟨d, T.mono d (by simp), by simpa using hrm, by rw [h5]; simp [h7]⟩
                · exact .inr ⟨d', h7, fun h => h8 (by simp [h]), h9⟩
            · rcases T.live x hx with h7 | h7
              · rcases List.mem_cons.1 h7 with rfl | h7
                · exact .inr (by rw [hb]; simp)
                · exact .inl h7
              · exact .inr h7
    case agg xs =>
      obtain ⟨q1, l1, l2, r1, r2, _⟩ := RM.runs_bind r
      obtain ⟨rfl, _⟩ := runs_ret r2
      simp only [VR] at h
      obtain ⟨F', h1, T⟩ := takesW_VRs R ih xs vs F0 rm q1 l1 h r1 hnd hF
      exact ⟨rfl, F', by simpa only [VR] using h1, T⟩
    case clo f fa ca =>
      obtain ⟨q1, l1, l2, r1, r2, _⟩ := RM.runs_bind r
      obtain ⟨q2, l3, l4, r3, r4, _⟩ := RM.runs_bind r2
      obtain ⟨rfl, _⟩ := runs_ret r4
      simp only [VR] at h
      obtain ⟨fvs, cvs, Ff, Fc, rfl, rfl, h1, h2⟩ := h
      have hnd' := List.nodup_append.1 hnd
      obtain ⟨G1, h3, T1⟩ := takesW_VVs R ih fa fvs Ff rm q1 l1 h1 r1 hnd'.1 (fun g hg => hF g (by simp [hg]))
      obtain ⟨G2, h4, T2⟩ := takesW_VVs R ih ca cvs Fc q1.2 q2 l3 h2 r3 hnd'.2.1 (fun g hg => let ⟨d, hd, hg'⟩ := hF g (by simp [hg]); ⟨d, T1.mono d hd, hg'⟩)
      exact ⟨rfl, G1 ++ G2, by simp only [VR]; exact ⟨fvs, cvs, G1, G2, rfl, rfl, h3, h4⟩, Took.append R T1 T2 hF hnd⟩
    case ifc t z =>
      obtain ⟨q1, l1, l2, r1, r2, _⟩ := RM.runs_bind r
      obtain ⟨rfl, _⟩ := runs_ret r2
      simp only [VR] at h
      obtain ⟨x, rfl, h⟩ := h
      rcases h with ⟨hg, cs, hy, hv⟩ | ⟨hg, hv⟩
      · obtain ⟨he, G1, h3, T1⟩ := ih z _ F0 rm q1 l1 hv r1 hnd hF
        exact ⟨rfl, G1, by simp only [VR]; exact ⟨x, rfl, .inl ⟨he ▸ hg, cs, hy, h3⟩⟩, T1⟩
      · obtain ⟨he, G1, h3, T1⟩ := ih z _ F0 rm q1 l1 hv r1 hnd hF
        exact ⟨rfl, G1, by simp only [VR]; exact ⟨x, rfl, .inr ⟨he ▸ hg, h3⟩⟩, T1⟩

end
end Go.PA
