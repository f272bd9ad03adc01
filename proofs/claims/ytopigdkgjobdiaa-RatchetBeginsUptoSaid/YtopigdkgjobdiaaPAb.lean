/- Calls, bodies of code, contracts, the walk. -/
import Derived.Test.YtopigdkgjobdiaaPAa
import Derived.Scope
import Derived.Attr
import Derived.IntWalk
set_option linter.unusedSimpArgs false
set_option linter.unusedVariables false
/- PA22: what is handed to a call. -/
namespace Go.PA
section
variable {P : Program} {c : Ctx} {st : St} {a : Act} {w : World} {loc : Nat → Option (Option Nat)} {S : Nat → Prop} {Fm : Nat → List Nat}

/-- What taking comes to. -/
structure Took (st : St) (Fm : Nat → List Nat) (F0 : List Nat) (rm rm' : List Nat) (F' : List Nat) : Prop where
  nodup : F'.Nodup
  sub : ∀ g ∈ F', g ∈ F0 ∨ ∃ d, d ∈ rm' ∧ d ∉ rm ∧ g ∈ Fm d
  mono : ∀ d ∈ rm, d ∈ rm'
  live : ∀ d ∈ rm', d ∈ rm ∨ st.bk d ≠ none

theorem Took.refl {F0 rm : List Nat} (h : F0.Nodup) : Took st Fm F0 rm rm F0 := ⟨h, fun _ h => .inl h, fun _ h => h, fun _ h => .inl h⟩

/-- Two takings, one behind the other. -/
theorem Took.append (R : RelW c st a w loc S Fm) {F1 F2 G1 G2 rm rm1 rm2 : List Nat} (h1 : Took st Fm F1 rm rm1 G1) (h2 : Took st Fm F2 rm1 rm2 G2) (hF : ∀ g ∈ F1 ++ F2, ∃ d ∈ rm, g ∈ Fm d) (hnd : (F1 ++ F2).Nodup) :
    Took st Fm (F1 ++ F2) rm rm2 (G1 ++ G2) := by
  refine ⟨List.nodup_append.2 ⟨h1.nodup, h2.nodup, fun x hx y hy hxy => ?_⟩, fun g hg => ?_, fun d hd => h2.mono d (h1.mono d hd), fun d hd => ?_⟩
  · subst hxy
    have hdis := (List.nodup_append.1 hnd).2.2
    rcases h1.sub x hx with h3 | ⟨d, h3, h4, h5⟩ <;> rcases h2.sub x hy with h6 | ⟨d', h6, h7, h8⟩
    · exact hdis x h3 x h6 rfl
    · obtain ⟨d0, hd0, hx0⟩ := hF x (by simp [h3])
      exact R.disj d' d0 (fun e => h7 (e ▸ h1.mono d0 hd0)) x h8 hx0
    · obtain ⟨d0, hd0, hx0⟩ := hF x (by simp [h6])
      exact R.disj d d0 (fun e => h4 (e ▸ hd0)) x h5 hx0
    · exact R.disj d d' (fun e => h7 (e ▸ h3)) x h5 h8
  · rcases List.mem_append.1 hg with hg | hg
    · rcases h1.sub g hg with h3 | ⟨d, h3, h4, h5⟩
      · exact .inl (by simp [h3])
      · exact .inr ⟨d, h2.mono d h3, h4, h5⟩
    · rcases h2.sub g hg with h3 | ⟨d, h3, h4, h5⟩
      · exact .inl (by simp [h3])
      · exact .inr ⟨d, h3, fun h => h4 (h1.mono d h), h5⟩
  · rcases h2.live d hd with h | h
    · exact h1.live d h
    · exact .inr h

def TakeOk (st : St) (e : Env) (Fm : Nat → List Nat) (f : A → List Nat → RM (A × List Nat)) : Prop :=
  ∀ (x : A) (vs : List Value) (F0 rm : List Nat) (q : A × List Nat) (l : List Nat), VR x e vs F0 → RM.Runs st.bk (f x rm) q l → F0.Nodup → (∀ g ∈ F0, ∃ d ∈ rm, g ∈ Fm d) →
    x.isAgg = q.1.isAgg ∧ ∃ F', VR q.1 e.close vs F' ∧ Took st Fm F0 rm q.2 F'

theorem takesW_VRs (R : RelW c st a w loc S Fm) {f : A → List Nat → RM (A × List Nat)} (hf : TakeOk st (envOf c st w loc S) Fm f) : ∀ (xs : List A) (vs : List Value) (F0 rm : List Nat) (q : List A × List Nat) (l : List Nat),
    VRs xs (envOf c st w loc S) vs F0 → RM.Runs st.bk (takesW f xs rm) q l → F0.Nodup → (∀ g ∈ F0, ∃ d ∈ rm, g ∈ Fm d) → ∃ F', VRs q.1 (envOf c st w loc S).close vs F' ∧ Took st Fm F0 rm q.2 F'
  | [], vs, F0, rm, q, l, h, r, hnd, hF => by
    simp only [takesW] at r
    obtain ⟨rfl, _⟩ := runs_ret r
    simp only [VRs] at h
    obtain ⟨rfl, rfl⟩ := h
    exact ⟨[], by simp [VRs], .refl hnd⟩
  | x :: xs, vs, F0, rm, q, l, h, r, hnd, hF => by
    simp only [takesW] at r
    obtain ⟨q1, l1, l2, r1, r2, _⟩ := RM.runs_bind r
    obtain ⟨q2, l3, l4, r3, r4, _⟩ := RM.runs_bind r2
    obtain ⟨rfl, _⟩ := runs_ret r4
    simp only [VRs] at h
    obtain ⟨us, vs', F1, F2, rfl, rfl, h1, h2⟩ := h
    have hnd' := List.nodup_append.1 hnd
    obtain ⟨_, G1, h3, T1⟩ := hf x us F1 rm q1 l1 h1 r1 hnd'.1 (fun g hg => hF g (by simp [hg]))
    obtain ⟨G2, h4, T2⟩ := takesW_VRs R hf xs vs' F2 q1.2 q2 l3 h2 r3 hnd'.2.1 (fun g hg => let ⟨d, hd, hg'⟩ := hF g (by simp [hg]); ⟨d, T1.mono d hd, hg'⟩)
    exact ⟨G1 ++ G2, VRs_cons h3 h4, Took.append R T1 T2 hF hnd⟩

theorem takesW_VVs (R : RelW c st a w loc S Fm) {f : A → List Nat → RM (A × List Nat)} (hf : TakeOk st (envOf c st w loc S) Fm f) : ∀ (xs : List A) (vs : List Value) (F0 rm : List Nat) (q : List A × List Nat) (l : List Nat),
    VVs xs (envOf c st w loc S) vs F0 → RM.Runs st.bk (takesW f xs rm) q l → F0.Nodup → (∀ g ∈ F0, ∃ d ∈ rm, g ∈ Fm d) → ∃ F', VVs q.1 (envOf c st w loc S).close vs F' ∧ Took st Fm F0 rm q.2 F'
  | [], vs, F0, rm, q, l, h, r, hnd, hF => by
    simp only [takesW] at r
    obtain ⟨rfl, _⟩ := runs_ret r
    simp only [VVs] at h
    obtain ⟨rfl, rfl⟩ := h
    exact ⟨[], by simp [VVs], .refl hnd⟩
  | x :: xs, vs, F0, rm, q, l, h, r, hnd, hF => by
    simp only [takesW] at r
    obtain ⟨q1, l1, l2, r1, r2, _⟩ := RM.runs_bind r
    obtain ⟨q2, l3, l4, r3, r4, _⟩ := RM.runs_bind r2
    obtain ⟨rfl, _⟩ := runs_ret r4
    simp only [VVs] at h
    obtain ⟨y, vs', F1, F2, rfl, rfl, h1, h2⟩ := h
    have hnd' := List.nodup_append.1 hnd
    have key : ∃ G1, ((q1.1.isAgg = true ∧ ∃ cs, y = .agg cs ∧ VR q1.1 (envOf c st w loc S).close cs.toList G1) ∨ (q1.1.isAgg = false ∧ VR q1.1 (envOf c st w loc S).close [y] G1)) ∧ Took st Fm F1 rm q1.2 G1 := by
      rcases h1 with ⟨hg, cs, hy, hv⟩ | ⟨hg, hv⟩
      · obtain ⟨he, G1, h3, T1⟩ := hf x _ F1 rm q1 l1 hv r1 hnd'.1 (fun g hg => hF g (by simp [hg]))
        exact ⟨G1, .inl ⟨he ▸ hg, cs, hy, h3⟩, T1⟩
      · obtain ⟨he, G1, h3, T1⟩ := hf x _ F1 rm q1 l1 hv r1 hnd'.1 (fun g hg => hF g (by simp [hg]))
        exact ⟨G1, .inr ⟨he ▸ hg, h3⟩, T1⟩
    obtain ⟨G1, h3, T1⟩ := key
    obtain ⟨G2, h4, T2⟩ := takesW_VVs R hf xs vs' F2 q1.2 q2 l3 h2 r3 hnd'.2.1 (fun g hg => let ⟨d, hd, hg'⟩ := hF g (by simp [hg]); ⟨d, T1.mono d hd, hg'⟩)
    exact ⟨G1 ++ G2, by simp only [VVs]; exact ⟨y, vs', G1, G2, rfl, rfl, h3, h4⟩, Took.append R T1 T2 hF hnd⟩

theorem VVs_shut {xs : List A} {e : Env} {vs : List Value} {F : List Nat} (hc : closeds xs = true) (hb : nobors xs = true) (h : VVs xs e vs F) : VVs xs e.shut vs F := by
  have := VVs_noB xs e.close vs F hb ((VVs_close xs e vs F hc).1 h)
  rwa [close_noB] at this

theorem takeA_ok (R : RelW c st a w loc S Fm) (bor : Bool) : ∀ n, TakeOk st (envOf c st w loc S) Fm (takeA bor n) := by
  intro n
  induction n with
  | zero => intro x vs F0 rm q l h r; simp only [takeA] at r; exact (runs_fail r).elim
  | succ n ih =>
    intro x vs F0 rm q l h r hnd hF
    have keep : ∀ {z : A}, z.closed = true → VR z (envOf c st w loc S) vs F0 → RM.Runs st.bk (.ret (z, rm)) q l → z.isAgg = q.1.isAgg ∧ ∃ F', VR q.1 (envOf c st w loc S).close vs F' ∧ Took st Fm F0 rm q.2 F' := by
      intro z hc hz r
      obtain ⟨rfl, _⟩ := runs_ret r
      exact ⟨rfl, F0, (VR_close z _ _ _ hc).1 hz, .refl hnd⟩
    simp only [takeA] at r
    cases x <;> (try dsimp only at r)
    case v x => exact keep rfl h r
    case und => exact (runs_fail r).elim
    case arr t xs => exact keep rfl h r
    case osl s xs => exact keep rfl h r
    case tup xs => exact (runs_fail r).elim
    case mp k v => exact keep rfl h r
    case mref d =>
      split at r
      · exact (runs_fail r).elim
      · rename_i hrm
        obtain ⟨b, l', hb, rr, _⟩ := runs_rd r
        have hB := R.bks d b hb
        simp only [VR] at h
        obtain ⟨rfl, hid, g', rfl, h4⟩ := h
        cases b with
        | row _ _ => exact (runs_fail rr).elim
        | froz _ _ => exact (runs_fail rr).elim
        | var _ => exact (runs_fail rr).elim
        | yld _ => exact (runs_fail rr).elim
        | mp ks xs =>
          dsimp only at rr
          split at rr
          · rename_i hc
            obtain ⟨rfl, _⟩ := runs_ret rr
            obtain ⟨g, es, clock, Fx, h5, h6, h7, h8, h9, h10⟩ := hB
            have hg := h4 _ h5
            injection hg with hg
            subst hg
            refine ⟨rfl, g :: Fx, ?_, by rw [← h10]; exact R.nodup d, fun x hx => .inr ⟨d, by simp, by simpa using hrm, by rw [h10]; exact hx⟩, fun x hx => by simp [hx], fun x hx => ?_⟩
            · simp only [VR]
              exact ⟨g, es, clock, Fx, rfl, h6, h7, h8, VVs_shut (e := envOf c st w loc S) hc.1 hc.2 h9, rfl⟩
            · rcases List.mem_cons.1 hx with rfl | hx
              · exact .inr (by rw [hb]; simp)
              · exact .inl hx
          · exact (runs_fail rr).elim
    case yl Q =>
      split at r
      · exact keep rfl h r
      · exact (runs_fail r).elim
    case yref d =>
      split at r
      · exact (runs_fail r).elim
      · rename_i hrm
        obtain ⟨b, l', hb, rr, _⟩ := runs_rd r
        have hB := R.bks d b hb
        simp only [VR] at h
        obtain ⟨rfl, hid, g', rfl, h4⟩ := h
        cases b with
        | row _ _ => exact (runs_fail rr).elim
        | froz _ _ => exact (runs_fail rr).elim
        | var _ => exact (runs_fail rr).elim
        | mp _ _ => exact (runs_fail rr).elim
        | yld Q =>
          obtain ⟨rfl, _⟩ := runs_ret rr
          obtain ⟨g, o, h5, h6, h7, h8⟩ := hB
          have hg := h4 _ h5
          injection hg with hg
          subst hg
          refine ⟨rfl, Fm d, ?_, R.nodup d, fun x hx => .inr ⟨d, by simp, by intro h; apply hrm; simp [h], hx⟩, fun x hx => by simp [hx], fun x hx => ?_⟩
          · simp only [VR]
            exact ⟨g, o, rfl, h6, h7, fun e' he => h8 e' he⟩
          · rcases List.mem_cons.1 hx with rfl | hx
            · exact .inr (by rw [hb]; simp)
            · exact .inl hx
    case aref d p s off len => exact (runs_fail r).elim
    case sl p xs =>
      split at r
      · exact keep rfl h r
      · exact (runs_fail r).elim
    case rp p a =>
      split at r
      · exact keep rfl h r
      · exact (runs_fail r).elim
    case box a =>
      split at r
      · exact keep rfl h r
      · exact (runs_fail r).elim
    case ref d s off len full =>
      split at r
      · exact (runs_fail r).elim
      · rename_i hrm
        obtain ⟨b, l', hb, rr, _⟩ := runs_rd r
        clear r
        have r := rr
        clear rr
        have hB := R.bks d b hb
        simp only [VR] at h
        obtain ⟨rfl, hid, bx, k, rfl, h1, h2, h3, h4⟩ := h
        cases b with
        | mp _ _ => exact (runs_fail r).elim
        | yld _ => exact (runs_fail r).elim
        | row s' xs =>
          dsimp only at r
          split at r
          · rename_i hc
            obtain ⟨rfl, rfl, rfl, hcl, hnb⟩ := hc
            obtain ⟨hle, r⟩ := runs_req r
            obtain ⟨rfl, _⟩ := runs_ret r
            obtain ⟨h0, hss, ⟨h5, h6, h7⟩ | ⟨g, cs, ty, kc, us, Fx, h5, h6, h7, h8, h9, h10, h11, h12⟩⟩ := hB
            · subst h6
              have := h4 _ h5
              simp only at this
              obtain ⟨_, rfl, rfl, rfl⟩ := this
              refine ⟨rfl, [], ?_, List.nodup_nil, by simp, fun x hx => by simp [hx], fun x hx => ?_⟩
              · simp only [VR]
                exact ⟨h0, by simp, .inl ⟨by simp, trivial, trivial⟩⟩
              · rcases List.mem_cons.1 hx with rfl | hx
                · exact .inr (by rw [hb]; simp)
                · exact .inl hx
            · have := h4 _ h5
              simp only [ne_eq, not_true_eq_false, and_false, false_or, Nat.zero_mul, Nat.zero_add] at this
              obtain ⟨rfl, hsh⟩ := this
              have hsh' := hsh trivial
              have hcs : (envOf c st w loc S).w.shape? g = some (ty, cs.size) := shape_cells h8
              rw [hcs] at hsh'
              injection hsh' with hcs2
              have hkk : k = kc := by
                simp only at hcs2
                rw [h9] at hcs2
                exact (Nat.eq_of_mul_eq_mul_right h0 hcs2).symm
              subst hkk
              have hsplit : VRs (xs.take len ++ xs.drop len) (envOf c st w loc S).shut us Fx := by rw [List.take_append_drop]; exact VRs_shut hcl hnb h10
              obtain ⟨u1, u2, F1, F2, rfl, rfl, h13, h14⟩ := VRs_split _ _ _ _ _ hsplit
              have hlen : (xs.take len).length = len := by simp; omega
              have hndd := h12 ▸ R.nodup d
              refine ⟨rfl, g :: F1, ?_, ?_, fun x hx => .inr ⟨d, by simp, by simpa using hrm, by rw [h12]; simp at hx ⊢; rcases hx with hx | hx <;> simp [hx]⟩, fun x hx => by simp [hx], fun x hx => ?_⟩
              · simp only [VR]
                refine ⟨h0, fun x hx => hss x (List.mem_of_mem_take hx), .inr ⟨g, cs, ty, k, u1, F1, by rw [hlen], by rw [hlen]; exact h1, h7, h8, h9, h13, ?_, rfl⟩⟩
                have := congrArg (List.take u1.length) h11
                rw [List.take_take, List.take_left] at this
                rwa [show min u1.length (u1 ++ u2).length = u1.length by simp] at this
              · simp only [List.nodup_cons, List.nodup_append, List.mem_append] at hndd ⊢
                exact ⟨fun h => hndd.1 (.inl h), hndd.2.1⟩
              · rcases List.mem_cons.1 hx with rfl | hx
                · exact .inr (by rw [hb]; simp)
                · exact .inl hx
          · exact (runs_fail r).elim
        | froz s' xs =>
          dsimp only at r
          split at r
          · rename_i hc
            subst hc
            obtain ⟨hle, r⟩ := runs_req r
            obtain ⟨rfl, _⟩ := runs_ret r
            have hlen : ((xs.drop off).take len).length = len := by simp; omega
            obtain ⟨_, h0, hss, ⟨h5, h6⟩ | ⟨g, cs, ty, us, h5, h6, h7, h8, h9, h10⟩⟩ := hB
            · subst h6
              refine ⟨rfl, [], ?_, .refl List.nodup_nil⟩
              simp only [VR]
              exact ⟨trivial, bx, k, [], by rw [hlen], by simp, ⟨0, by simp⟩, by simp [VRs], by simp⟩
            · obtain ⟨us', h11, h12⟩ := row_src (e := envOf c st w loc S) hss h5 h7 h9 h10 hle h1 h4
              refine ⟨rfl, [], ?_, .refl List.nodup_nil⟩
              simp only [VR]
              refine ⟨trivial, bx, k, us', by rw [hlen], by rw [hlen]; exact h1, ⟨s, fun x hx => hss x (List.mem_of_mem_drop (List.mem_of_mem_take hx))⟩, h11, fun hne => ?_⟩
              obtain ⟨ad, rfl, hcell⟩ := h12 hne
              have hpos : 0 < len := by rw [← hlen]; exact List.length_pos_iff.2 hne
              refine ⟨ad, rfl, .inl ?_, hcell⟩
              rcases h4 _ h5 with ⟨h, _⟩ | ⟨h, _⟩
              · omega
              · injection h with h; subst h; exact h6
          · exact (runs_fail r).elim
        | var z => exact (runs_fail r).elim
    case ptr d p =>
      cases p with
      | cons p ps => exact (runs_fail r).elim
      | nil =>
        dsimp only at r
        split at r
        · exact (runs_fail r).elim
        · rename_i hrm
          obtain ⟨b, l', hb, rr, _⟩ := runs_rd r
          clear r
          have r := rr
          clear rr
          have hB := R.bks d b hb
          simp only [VR] at h
          obtain ⟨rfl, hid, ad, rfl, h1⟩ := h
          cases b with
          | mp _ _ => exact (runs_fail r).elim
          | yld _ => exact (runs_fail r).elim
          | row s' xs => exact (runs_fail r).elim
          | froz s' xs => exact (runs_fail r).elim
          | var z =>
            obtain ⟨q1, l1, l2, r1, r2, _⟩ := RM.runs_bind r
            obtain ⟨rfl, _⟩ := runs_ret r2
            obtain ⟨g, cs, ty, Fx, h2, h3, h4, h5⟩ := hB
            obtain ⟨g', hg', rfl⟩ := h1 _ h2
            injection hg' with hg'; subst hg'
            have hndd := h5 ▸ R.nodup d
            rw [List.nodup_cons] at hndd
            obtain ⟨_, F', h6, T⟩ := ih z _ Fx (d :: rm) q1 l1 h4 r1 hndd.2 (fun x hx => ⟨d, by simp, by rw [h5]; simp [hx]⟩)
            refine ⟨rfl, g :: F', ?_, ?_, fun x hx => ?_, fun x hx => T.mono x (by simp [hx]), fun x hx => ?_⟩
            · simp only [VR]
              exact ⟨g, cs, ty, F', rfl, h3, h6, rfl⟩
            · rw [List.nodup_cons]
              refine ⟨fun hg => ?_, T.nodup⟩
              rcases T.sub g hg with h7 | ⟨d', h7, h8, h9⟩
              · exact hndd.1 h7
              · exact R.disj d' d (fun e => h8 (by simp [e])) g h9 (by rw [h5]; simp)
            · rcases List.mem_cons.1 hx with rfl | hx
              · exact .inr ⟨d, T.mono d (by simp), by simpa using hrm, by rw [h5]; simp⟩
              · rcases T.sub x hx with h7 | ⟨d', h7, h8, h9⟩
                · exact .inr ⟨d, T.mono d (by simp), by simpa using hrm, by rw [h5]; simp [h7]⟩
                · exact .inr ⟨d', h7, fun h => h8 (by simp [h]), h9⟩
            · rcases T.live x hx with h7 | h7
              · rcases List.mem_cons.1 h7 with rfl | h7
                · exact .inr (by rw [hb]; simp)
                · exact .inl h7
              · exact .inr h7
    case agg xs =>
      obtain ⟨q1, l1, l2, r1, r2, _⟩ := RM.runs_bind r
      obtain ⟨rfl, _⟩ := runs_ret r2
      simp only [VR] at h
      obtain ⟨F', h1, T⟩ := takesW_VRs R ih xs vs F0 rm q1 l1 h r1 hnd hF
      exact ⟨rfl, F', by simpa only [VR] using h1, T⟩
    case clo f fa ca =>
      obtain ⟨q1, l1, l2, r1, r2, _⟩ := RM.runs_bind r
      obtain ⟨q2, l3, l4, r3, r4, _⟩ := RM.runs_bind r2
      obtain ⟨rfl, _⟩ := runs_ret r4
      simp only [VR] at h
      obtain ⟨fvs, cvs, Ff, Fc, rfl, rfl, h1, h2⟩ := h
      have hnd' := List.nodup_append.1 hnd
      obtain ⟨G1, h3, T1⟩ := takesW_VVs R ih fa fvs Ff rm q1 l1 h1 r1 hnd'.1 (fun g hg => hF g (by simp [hg]))
      obtain ⟨G2, h4, T2⟩ := takesW_VVs R ih ca cvs Fc q1.2 q2 l3 h2 r3 hnd'.2.1 (fun g hg => let ⟨d, hd, hg'⟩ := hF g (by simp [hg]); ⟨d, T1.mono d hd, hg'⟩)
      exact ⟨rfl, G1 ++ G2, by simp only [VR]; exact ⟨fvs, cvs, G1, G2, rfl, rfl, h3, h4⟩, Took.append R T1 T2 hF hnd⟩
    case ifc t z =>
      obtain ⟨q1, l1, l2, r1, r2, _⟩ := RM.runs_bind r
      obtain ⟨rfl, _⟩ := runs_ret r2
      simp only [VR] at h
      obtain ⟨x, rfl, h⟩ := h
      rcases h with ⟨hg, cs, hy, hv⟩ | ⟨hg, hv⟩
      · obtain ⟨he, G1, h3, T1⟩ := ih z _ F0 rm q1 l1 hv r1 hnd hF
        exact ⟨rfl, G1, by simp only [VR]; exact ⟨x, rfl, .inl ⟨he ▸ hg, cs, hy, h3⟩⟩, T1⟩
      · obtain ⟨he, G1, h3, T1⟩ := ih z _ F0 rm q1 l1 hv r1 hnd hF
        exact ⟨rfl, G1, by simp only [VR]; exact ⟨x, rfl, .inr ⟨he ▸ hg, h3⟩⟩, T1⟩

end
end Go.PA

/- PA23: what is lent to a call. -/
namespace Go.PA
section
variable {P : Program} {c : Ctx} {st : St} {a : Act} {w : World} {loc : Nat → Option (Option Nat)} {S : Nat → Prop} {Fm : Nat → List Nat}

/-- The callee's world: what of the frame is not handed over is lent. -/
def lendEnv (c : Ctx) (w : World) (S : Nat → Prop) (Fm : Nat → List Nat) (rm : List Nat) : Env :=
  ⟨w, fun _ => none, fun _ => false, S, fun g => c.B g ∨ ∃ d, d ∉ rm ∧ g ∈ Fm d⟩

theorem close_lend (rm : List Nat) (F : List Nat) : (envOf c st w loc S).close.Le (lendEnv c w S Fm rm) F :=
  ⟨fun _ _ => rfl, fun _ h => h, fun _ h => .inr (.inl h), fun _ h => by simp [Env.close] at h, fun _ _ h => by simp [Env.close] at h, fun _ _ h => by simp [Env.close] at h⟩
theorem shut_lend (rm : List Nat) (F : List Nat) : (envOf c st w loc S).shut.Le (lendEnv c w S Fm rm).shut F :=
  ⟨fun _ _ => rfl, fun _ h => h, fun _ h => h.elim, fun _ h => by simp [Env.shut] at h, fun _ _ h => by simp [Env.shut] at h, fun _ _ h => by simp [Env.shut] at h⟩

def RoOk (bk : Nat → Option Blk) (e e' : Env) (f : A → RM A) : Prop :=
  ∀ (x : A) (vs : List Value) (y : A) (l : List Nat), VR x e vs [] → RM.Runs bk (f x) y l → x.isAgg = y.isAgg ∧ VR y e' vs []

theorem rosW_VRs {bk : Nat → Option Blk} {e e' : Env} {f : A → RM A} (hf : RoOk bk e e' f) : ∀ (xs : List A) (vs : List Value) (ys : List A) (l : List Nat), VRs xs e vs [] → RM.Runs bk (rosW f xs) ys l → VRs ys e' vs []
  | [], vs, ys, l, h, r => by
    simp only [rosW] at r
    obtain ⟨rfl, _⟩ := runs_ret r
    simpa only [VRs] using h
  | x :: xs, vs, ys, l, h, r => by
    simp only [rosW] at r
    obtain ⟨y, l1, l2, r1, r2, _⟩ := RM.runs_bind r
    obtain ⟨ys', l3, l4, r3, r4, _⟩ := RM.runs_bind r2
    obtain ⟨rfl, _⟩ := runs_ret r4
    simp only [VRs] at h
    obtain ⟨us, vs', F1, F2, rfl, hF, h1, h2⟩ := h
    simp at hF
    obtain ⟨rfl, rfl⟩ := hF
    exact VRs_cons (hf x us y l1 h1 r1).2 (rosW_VRs hf xs vs' ys' l3 h2 r3)
theorem rosW_VVs {bk : Nat → Option Blk} {e e' : Env} {f : A → RM A} (hf : RoOk bk e e' f) : ∀ (xs : List A) (vs : List Value) (ys : List A) (l : List Nat), VVs xs e vs [] → RM.Runs bk (rosW f xs) ys l → VVs ys e' vs []
  | [], vs, ys, l, h, r => by
    simp only [rosW] at r
    obtain ⟨rfl, _⟩ := runs_ret r
    simpa only [VVs] using h
  | x :: xs, vs, ys, l, h, r => by
    simp only [rosW] at r
    obtain ⟨y, l1, l2, r1, r2, _⟩ := RM.runs_bind r
    obtain ⟨ys', l3, l4, r3, r4, _⟩ := RM.runs_bind r2
    obtain ⟨rfl, _⟩ := runs_ret r4
    simp only [VVs] at h ⊢
    obtain ⟨u, vs', F1, F2, rfl, hF, h1, h2⟩ := h
    simp at hF
    obtain ⟨rfl, rfl⟩ := hF
    refine ⟨u, vs', [], [], rfl, rfl, ?_, rosW_VVs hf xs vs' ys' l3 h2 r3⟩
    rcases h1 with ⟨hg, cs, hy, hv⟩ | ⟨hg, hv⟩
    · obtain ⟨he, hv'⟩ := hf x _ y l1 hv r1
      exact .inl ⟨he ▸ hg, cs, hy, hv'⟩
    · obtain ⟨he, hv'⟩ := hf x _ y l1 hv r1
      exact .inr ⟨he ▸ hg, hv'⟩

theorem ro_slice {e' : Env} {p : Bool} {b : Option Addr} {k len s g : Nat} {ys : List A} {us : List Value} (hlen : ys.length = len) (hk : len ≤ k) (hs : ∀ x ∈ ys, x.sz = s) (hx : VRs ys (e'.cl p) us [])
    (hc : ys ≠ [] → ∃ ad, b = some ad ∧ ad.block = g ∧ ∀ j u, us[j]? = some u → e'.w.cell? (ad.add j) = some u) (hok : e'.ok p g) : VR (.sl p ys) e' [.slice b len k] [] := by
  simp only [VR]
  refine ⟨trivial, b, k, us, by rw [hlen], by rw [hlen]; exact hk, ⟨s, hs⟩, hx, fun hne => ?_⟩
  obtain ⟨ad, h1, h2, h3⟩ := hc hne
  exact ⟨ad, h1, h2 ▸ hok, h3⟩

theorem rosW_len {bk : Nat → Option Blk} {f : A → RM A} : ∀ (xs ys : List A) (l : List Nat), RM.Runs bk (rosW f xs) ys l → ys.length = xs.length
  | [], ys, l, r => by
    simp only [rosW] at r
    obtain ⟨rfl, _⟩ := runs_ret r
    rfl
  | x :: xs, ys, l, r => by
    simp only [rosW] at r
    obtain ⟨y, l1, l2, r1, r2, _⟩ := RM.runs_bind r
    obtain ⟨ys', l3, l4, r3, r4, _⟩ := RM.runs_bind r2
    obtain ⟨rfl, _⟩ := runs_ret r4
    simp [rosW_len xs ys' _ r3]

theorem lnd_isAgg (a : A) : (lnd a).isAgg = a.isAgg := by cases a <;> rfl
mutual
theorem lnd_sz : ∀ a : A, (lnd a).sz = a.sz
  | .osl .. | .box _ | .arr .. | .ifc .. | .v _ | .und | .sl .. | .rp .. | .ref .. | .aref .. | .ptr .. | .clo .. | .tup _ | .mp .. | .mref _ | .yl _ | .yref _ => by simp [lnd, A.sz]
  | .agg xs => by simp only [lnd, A.sz]; exact lnds_szs xs
theorem lnds_szs : ∀ xs : List A, szs (lnds xs) = szs xs
  | [] => rfl
  | x :: xs => by simp only [lnds, szs, lnd_sz x, lnds_szs xs]
end
theorem lnds_len : ∀ xs : List A, (lnds xs).length = xs.length
  | [] => rfl
  | x :: xs => by simp [lnds, lnds_len xs]
theorem lnds_mem : ∀ (xs : List A) (y : A), y ∈ lnds xs → ∃ x ∈ xs, y = lnd x
  | [], y, h => by simp [lnds] at h
  | x :: xs, y, h => by
    simp only [lnds, List.mem_cons] at h
    rcases h with rfl | h
    · exact ⟨x, by simp, rfl⟩
    · obtain ⟨z, h1, h2⟩ := lnds_mem xs y h
      exact ⟨z, by simp [h1], h2⟩

theorem close_le2 {e e' : Env} (hw : e'.w = e.w) (hS : ∀ g, e.S g → e'.S g) (hB : ∀ g, e.B g → e'.B g) (F : List Nat) : e.close.Le e'.close F :=
  ⟨fun g _ => by simp [Env.close, hw], fun g h => hS g h, fun g h => .inr (hB g h), fun d h => by simp [Env.close] at h, fun d l h => by simp [Env.close] at h, fun d g h => by simp [Env.close] at h⟩

mutual
theorem VR_lnd : ∀ (a : A) (e e' : Env) (vs : List Value) (F : List Nat), lndOk a = true → e'.w = e.w → (∀ g, e.S g → e'.S g) → (∀ g, e.B g → e'.B g) → (∀ g ∈ F, e'.B g) → VR a e.close vs F → VR (lnd a) e'.close vs []
  | .v x, e, e', vs, F, hk, hw, hS, hB, hF, h => by
    simp only [VR] at h
    simp only [lnd, VR]
    exact ⟨h.1, h.2.1, trivial⟩
  | .und, e, e', vs, F, hk, hw, hS, hB, hF, h => by simp [VR] at h
  | .tup _, e, e', vs, F, hk, hw, hS, hB, hF, h => by simp [VR] at h
  | .mp .., e, e', vs, F, hk, hw, hS, hB, hF, h => by simp [lndOk] at hk
  | .mref _, e, e', vs, F, hk, hw, hS, hB, hF, h => by simp [VR, Env.close] at h
  | .yl _, e, e', vs, F, hk, hw, hS, hB, hF, h => by simp [lndOk] at hk
  | .yref _, e, e', vs, F, hk, hw, hS, hB, hF, h => by simp [VR, Env.close] at h
  | .ref .., e, e', vs, F, hk, hw, hS, hB, hF, h => by simp [VR, Env.close] at h
  | .aref .., e, e', vs, F, hk, hw, hS, hB, hF, h => by simp [VR, Env.close] at h
  | .ptr .., e, e', vs, F, hk, hw, hS, hB, hF, h => by simp [VR, Env.close] at h
  | .sl p xs, e, e', vs, F, hk, hw, hS, hB, hF, h => by
    obtain rfl : F = [] := by simp only [VR] at h; exact h.1
    exact VR_mono _ _ _ _ _ (close_le2 hw hS hB _) h
  | .rp p a, e, e', vs, F, hk, hw, hS, hB, hF, h => by
    obtain rfl : F = [] := by simp only [VR] at h; exact h.1
    exact VR_mono _ _ _ _ _ (close_le2 hw hS hB _) h
  | .clo f a b, e, e', vs, F, hk, hw, hS, hB, hF, h => by
    obtain rfl : F = [] := VR_noown (.clo f a b) _ _ _ (by simpa [A.noown, lndOk] using hk) h
    exact VR_mono _ _ _ _ _ (close_le2 hw hS hB _) h
  | .arr t xs, e, e', vs, F, hk, hw, hS, hB, hF, h => by
    obtain rfl : F = [] := VR_noown (.arr t xs) _ _ _ (by simpa [A.noown, lndOk] using hk) h
    exact VR_mono _ _ _ _ _ (close_le2 hw hS hB _) h
  | .agg xs, e, e', vs, F, hk, hw, hS, hB, hF, h => by
    simp only [VR, lnd] at h ⊢
    exact VRs_lnd xs e e' vs F (by simpa [lndOk] using hk) hw hS hB hF h
  | .ifc t a, e, e', vs, F, hk, hw, hS, hB, hF, h => by
    simp only [VR, lnd, lnd_isAgg] at h ⊢
    obtain ⟨x, h1, h2⟩ := h
    exact ⟨x, h1, h2.imp (fun ⟨h3, cs, h4, h5⟩ => ⟨h3, cs, h4, VR_lnd a e e' _ F (by simpa [lndOk] using hk) hw hS hB hF h5⟩) fun ⟨h3, h4⟩ => ⟨h3, VR_lnd a e e' _ F (by simpa [lndOk] using hk) hw hS hB hF h4⟩⟩
  | .box a, e, e', vs, F, hk, hw, hS, hB, hF, h => by
    simp only [lndOk, Bool.and_eq_true] at hk
    simp only [VR, lnd, close_close, close_cl] at h ⊢
    obtain ⟨g, cs, ty, Fx, rfl, h2, h3, rfl⟩ := h
    refine ⟨trivial, ⟨g, 0, none⟩, cs.toList, rfl, .inr ⟨rfl, hF g (by simp)⟩, VR_lnd a e e' _ Fx hk.1 hw hS hB (fun z hz => hF z (by simp [hz])) h3, fun j u hu => ?_⟩
    exact cells_at (w := e'.w) (pre := []) (us := cs.toList) (post := []) (o := 0) (by rw [hw]; exact h2) ⟨[], by simp⟩ rfl j u hu
  | .osl s xs, e, e', vs, F, hk, hw, hS, hB, hF, h => by
    simp only [lndOk] at hk
    simp only [VR, lnd, close_shut, close_cl] at h ⊢
    obtain ⟨h0, hss, ⟨rfl, rfl, _⟩ | ⟨g, cs, ty, c, us, Fx, rfl, h1, h2, h3, h4, h5, h6, rfl⟩⟩ := h
    · exact ⟨trivial, none, 0, [], rfl, by simp [lnds], ⟨0, by simp [lnds]⟩, by simp [lnds, VRs], by simp [lnds]⟩
    · have h5' : VRs xs e.close us Fx := VRs_open (e := e.close) h5
      refine ⟨trivial, some ⟨g, 0, none⟩, c, us, by rw [lnds_len], by rw [lnds_len]; exact h1, ⟨s, fun y hy => ?_⟩, VRs_lnd xs e e' us Fx hk hw hS hB (fun z hz => hF z (by simp [hz])) h5', fun _ => ⟨_, rfl, .inr ⟨rfl, hF g (by simp)⟩, fun j u hu => ?_⟩⟩
      · obtain ⟨x, hx, rfl⟩ := lnds_mem xs y hy
        rw [lnd_sz]; exact hss x hx
      · obtain ⟨rest, hrest⟩ := take_append_drop' h6
        exact cells_at (w := e'.w) (pre := []) (us := us) (post := []) (o := 0) (by rw [hw]; exact h3) ⟨rest, by simpa using hrest⟩ rfl j u hu
theorem VRs_lnd : ∀ (xs : List A) (e e' : Env) (vs : List Value) (F : List Nat), lndOks xs = true → e'.w = e.w → (∀ g, e.S g → e'.S g) → (∀ g, e.B g → e'.B g) → (∀ g ∈ F, e'.B g) → VRs xs e.close vs F → VRs (lnds xs) e'.close vs []
  | [], e, e', vs, F, hk, hw, hS, hB, hF, h => by simp only [VRs] at h; simp [lnds, VRs, h.1]
  | x :: xs, e, e', vs, F, hk, hw, hS, hB, hF, h => by
    simp only [lndOks, Bool.and_eq_true] at hk
    simp only [VRs] at h
    obtain ⟨us, vs', F1, F2, rfl, rfl, h1, h2⟩ := h
    exact VRs_cons (F := []) (G := []) (VR_lnd x e e' us F1 hk.1 hw hS hB (fun g hg => hF g (by simp [hg])) h1) (VRs_lnd xs e e' vs' F2 hk.2 hw hS hB (fun g hg => hF g (by simp [hg])) h2)
end

theorem roA_ok (R : RelW c st a w loc S Fm) (rm : List Nat) : ∀ n, RoOk st.bk (envOf c st w loc S) (lendEnv c w S Fm rm) (roA rm n) := by
  intro n
  induction n with
  | zero => intro x vs y l h r; simp only [roA] at r; exact (runs_fail r).elim
  | succ n ih =>
    intro x vs y l h r
    have keep : ∀ {z : A}, z.closed = true → VR z (envOf c st w loc S) vs [] → RM.Runs st.bk (.ret z) y l → z.isAgg = y.isAgg ∧ VR y (lendEnv c w S Fm rm) vs [] := by
      intro z hc hz r
      obtain ⟨rfl, _⟩ := runs_ret r
      exact ⟨rfl, VR_mono _ _ _ _ _ (close_lend rm _) ((VR_close y _ _ _ hc).1 hz)⟩
    simp only [roA] at r
    cases x <;> (try dsimp only at r)
    case v x => exact keep rfl h r
    case und => exact (runs_fail r).elim
    case arr t xs =>
      split at r
      · exact keep rfl h r
      · exact (runs_fail r).elim
    case osl s xs => exact (runs_fail r).elim
    case tup xs => exact (runs_fail r).elim
    case mp k v => exact (runs_fail r).elim
    case mref d => exact (runs_fail r).elim
    case yl Q => exact (runs_fail r).elim
    case yref d => exact (runs_fail r).elim
    case box a => exact (runs_fail r).elim
    case sl p xs => exact keep rfl h r
    case rp p a => exact keep rfl h r
    case ref d s off len full =>
      split at r
      · exact (runs_fail r).elim
      · rename_i hrm
        obtain ⟨b, l', hb, rr, _⟩ := runs_rd r
        clear r
        have hB := R.bks d b hb
        simp only [VR] at h
        obtain ⟨_, hid, bx, k, rfl, h1, h2, h3, h4⟩ := h
        cases b with
        | mp _ _ => exact (runs_fail rr).elim
        | yld _ => exact (runs_fail rr).elim
        | row s' xs =>
          dsimp only at rr
          split at rr
          · rename_i hc
            subst hc
            have finish : ∀ ys : List A, ys.length = xs.length → (∀ x ∈ ys, x.sz = s) → (∀ g cs ty us Fx, loc d = some (some g) → w.heap[g]? = some (.cells cs ty (0, 0)) → VRs xs (envOf c st w loc S) us Fx → Fm d = g :: Fx → VRs ys (lendEnv c w S Fm rm).close us []) → off + len ≤ xs.length →
                (A.ref d s off len full).isAgg = (A.sl false ((ys.drop off).take len)).isAgg ∧ VR (.sl false ((ys.drop off).take len)) (lendEnv c w S Fm rm) [.slice bx len k] [] := by
              intro ys hyl hys hyv hle
              refine ⟨rfl, ?_⟩
              have hlen : ((ys.drop off).take len).length = len := by simp; omega
              obtain ⟨h0, hss, ⟨h5, h6, h7⟩ | ⟨g, cs, ty, kc, us, Fx, h5, h6, h7, h8, h9, h10, h11, h12⟩⟩ := hB
              · subst h6
                have hl0 : len = 0 := by simp at hle; omega
                subst hl0
                simp only [VR]
                exact ⟨trivial, bx, k, [], by simp, by simp, ⟨0, by simp⟩, by simp [VRs], by simp⟩
              · have hyv' := hyv g cs ty us Fx h5 h8 h10 h12
                obtain ⟨us', h13, h14⟩ := row_src (e := envOf c st w loc S) hys h5 h8 hyv' h11 (by rw [hyl]; exact hle) h1 h4
                refine ro_slice (p := false) (g := g) hlen h1 (fun x hx => hys x (List.mem_of_mem_drop (List.mem_of_mem_take hx))) (us := us') h13 (fun hne => ?_) (.inr ⟨rfl, .inr ⟨d, by simpa using hrm, by rw [h12]; simp⟩⟩)
                obtain ⟨ad, rfl, hcell⟩ := h14 hne
                have hpos : 0 < len := by rw [← hlen]; exact List.length_pos_iff.2 hne
                refine ⟨ad, rfl, ?_, hcell⟩
                rcases h4 _ h5 with ⟨h, _⟩ | ⟨h, _⟩
                · omega
                · injection h with h; rw [h]
            have hss : ∀ x ∈ xs, x.sz = s := hB.2.1
            split at rr
            · rename_i hcl
              split at rr
              · rename_i hk
                obtain ⟨hle, r2⟩ := runs_req rr
                obtain ⟨rfl, _⟩ := runs_ret r2
                refine finish (lnds xs) (lnds_len xs) (fun y hy => ?_) (fun g cs ty us Fx h5 h8 h10 h12 => ?_) hle
                · obtain ⟨x, hx, rfl⟩ := lnds_mem xs y hy
                  rw [lnd_sz]; exact hss x hx
                · exact VRs_lnd xs (envOf c st w loc S) (lendEnv c w S Fm rm) us Fx hk rfl (fun g h => h) (fun g h => .inl h) (fun z hz => .inr ⟨d, by simpa using hrm, by rw [h12]; simp [hz]⟩) ((VRs_close _ _ _ _ hcl).1 h10)
              · exact (runs_fail rr).elim
            · obtain ⟨ys, l1, l2, r1, r2, _⟩ := RM.runs_bind rr
              obtain ⟨⟨hle, hno, hcy, hsy⟩, r3⟩ := runs_req r2
              obtain ⟨rfl, _⟩ := runs_ret r3
              refine finish ys (rosW_len xs ys _ r1) hsy (fun g cs ty us Fx h5 h8 h10 h12 => ?_) hle
              obtain rfl := VRs_noown _ _ _ _ hno h10
              exact (VRs_close _ _ _ _ hcy).1 (rosW_VRs ih xs us ys _ h10 r1)
          · exact (runs_fail rr).elim
        | froz s' xs =>
          dsimp only at rr
          split at rr
          · rename_i hc
            subst hc
            obtain ⟨hle, r2⟩ := runs_req rr
            obtain ⟨rfl, _⟩ := runs_ret r2
            refine ⟨rfl, ?_⟩
            have hlen : ((xs.drop off).take len).length = len := by simp; omega
            obtain ⟨_, h0, hss, ⟨h5, h6⟩ | ⟨g, cs, ty, us, h5, h6, h7, h8, h9, h10⟩⟩ := hB
            · subst h6
              have hl0 : len = 0 := by simp at hle; omega
              subst hl0
              simp only [VR]
              exact ⟨trivial, bx, k, [], by simp, by simp, ⟨0, by simp⟩, by simp [VRs], by simp⟩
            · obtain ⟨us', h13, h14⟩ := row_src (e := envOf c st w loc S) hss h5 h7 h9 h10 hle h1 h4
              refine ro_slice (p := true) (g := g) hlen h1 (fun x hx => hss x (List.mem_of_mem_drop (List.mem_of_mem_take hx))) (us := us') (VRs_mono _ _ _ _ _ (shut_lend rm _) h13) (fun hne => ?_) (.inl h6)
              obtain ⟨ad, rfl, hcell⟩ := h14 hne
              have hpos : 0 < len := by rw [← hlen]; exact List.length_pos_iff.2 hne
              refine ⟨ad, rfl, ?_, hcell⟩
              rcases h4 _ h5 with ⟨h, _⟩ | ⟨h, _⟩
              · omega
              · injection h with h; rw [h]
          · exact (runs_fail rr).elim
        | var z => exact (runs_fail rr).elim
    case aref d p s off len =>
      split at r
      · exact (runs_fail r).elim
      · rename_i hrm
        obtain ⟨b, l', hb, rr, _⟩ := runs_rd r
        clear r
        have hB := R.bks d b hb
        simp only [VR] at h
        obtain ⟨_, hid, bx, k, rfl, h1, h2, h4⟩ := h
        cases b with
        | mp _ _ => exact (runs_fail rr).elim
        | yld _ => exact (runs_fail rr).elim
        | row s' xs => exact (runs_fail rr).elim
        | froz s' xs => exact (runs_fail rr).elim
        | var z =>
          obtain ⟨z1, l1, l2, r1, r2, _⟩ := RM.runs_bind rr
          split at r2
          · rename_i tot xs
            obtain ⟨⟨hfit, hno, hss⟩, r2⟩ := runs_req r2
            obtain ⟨rfl, _⟩ := runs_ret r2
            refine ⟨rfl, ?_⟩
            have hlen : ((xs.drop off).take len).length = len := by simp; omega
            obtain ⟨g, cs, ty, Fx, h5, h6, h7, h8⟩ := hB
            obtain ⟨pre, us, post, Fy, h9, h10, h11, h12⟩ := getP_sound p _ _ _ _ _ h7 r1
            simp only [VR] at h11
            obtain ⟨_, _, h11⟩ := h11
            obtain rfl := VRs_noown _ _ _ _ hno h11
            obtain ⟨pre', mid, post', rfl, h13, h14⟩ := VRs_drop_take hss h11 off len hfit
            refine ro_slice (p := false) (g := g) hlen h1 (fun x hx => hss x (List.mem_of_mem_drop (List.mem_of_mem_take hx))) (us := mid) ?_ (fun hne => ?_) (.inr ⟨rfl, .inr ⟨d, by simpa using hrm, by rw [h8]; simp⟩⟩)
            · exact VRs_mono _ _ _ _ _ (Env.shut_le _ _) (VRs_mono _ _ _ _ _ (shut_lend rm _) h14)
            · have hpos : 0 < len := by rw [← hlen]; exact List.length_pos_iff.2 hne
              obtain ⟨g', hg', ⟨h, _⟩ | h⟩ := h4 _ h5
              · omega
              · injection hg' with hg'; subst hg'
                exact ⟨_, h, rfl, cells_at h6 (pre := pre ++ pre') (post := post' ++ post) ⟨[], by rw [h9]; simp⟩ (by simp [h10, h13])⟩
          · exact (runs_fail r2).elim
    case ptr d p =>
      split at r
      · exact (runs_fail r).elim
      · rename_i hrm
        obtain ⟨b, l', hb, rr, _⟩ := runs_rd r
        clear r
        have hB := R.bks d b hb
        simp only [VR] at h
        obtain ⟨_, hid, ad, rfl, h1⟩ := h
        cases b with
        | mp _ _ => exact (runs_fail rr).elim
        | yld _ => exact (runs_fail rr).elim
        | var z =>
          obtain ⟨z1, l1, l2, r1, r2, _⟩ := RM.runs_bind rr
          split at r2
          · rename_i hc
            simp only [Bool.and_eq_true] at hc
            obtain ⟨rfl, _⟩ := runs_ret r2
            refine ⟨rfl, ?_⟩
            obtain ⟨g, cs, ty, Fx, h5, h6, h7, h8⟩ := hB
            obtain ⟨pre, us, post, Fy, h9, h10, h11, h12⟩ := getP_sound p _ _ _ _ _ h7 r1
            obtain rfl := VR_noown _ _ _ _ hc.1 h11
            obtain ⟨g', hg', rfl⟩ := h1 _ h5
            injection hg' with hg'; subst hg'
            simp only [VR]
            refine ⟨trivial, _, us, rfl, .inr ⟨rfl, .inr ⟨d, by simpa using hrm, by rw [h8]; simp⟩⟩, VR_mono _ _ _ _ _ ?_ ((VR_close _ _ _ _ hc.2).1 h11), cells_at (post := post) h6 ⟨[], by rw [h9]; simp⟩ h10⟩
            exact (close_lend (st := st) (loc := loc) rm _).closed
          · exact (runs_fail r2).elim
        | row s xs =>
          obtain ⟨z1, l1, l2, r1, r2, _⟩ := RM.runs_bind rr
          split at r2
          · rename_i hno
            obtain ⟨rfl, _⟩ := runs_ret r2
            refine ⟨rfl, ?_⟩
            obtain ⟨h0, hss, ⟨_, h6, _⟩ | ⟨g, cs, ty, kc, us, Fx, h5, h6, h7, h8, h9, h10, h11, h12⟩⟩ := hB
            · subst h6
              cases p with
              | nil => simp only [getR] at r1; exact (runs_fail r1).elim
              | cons p ps =>
                cases p <;> simp only [getR] at r1
                · exact (runs_fail r1).elim
                · split at r1
                  · have := (runs_req r1).1; simp at this
                  · exact (runs_fail r1).elim
            · obtain ⟨pre, us', post, Fy, h13, h14, h15, h16⟩ := getR_sound hss h10 r1
              rw [Bool.and_eq_true] at hno
              obtain rfl := VR_noown _ _ _ _ hno.1 h15
              obtain ⟨g', hg', rfl⟩ := h1 _ h5
              injection hg' with hg'; subst hg'
              obtain ⟨rest, hrest⟩ := take_append_drop' h11
              simp only [VR]
              exact ⟨trivial, _, us', rfl, .inr ⟨rfl, .inr ⟨d, by simpa using hrm, by rw [h12]; simp⟩⟩, VR_mono _ (envOf c st w loc S).close _ _ _ (close_lend (st := st) (loc := loc) rm _).closed ((VR_close _ _ _ _ hno.2).1 h15), cells_at h8 ⟨rest, by rw [hrest, h13]⟩ h14⟩
          · exact (runs_fail r2).elim
        | froz s xs =>
          obtain ⟨z1, l1, l2, r1, r2, _⟩ := RM.runs_bind rr
          obtain ⟨rfl, _⟩ := runs_ret r2
          refine ⟨rfl, ?_⟩
          obtain ⟨_, h0, hss, ⟨h5, h6⟩ | ⟨g, cs, ty, us, h5, h6, h7, h8, h9, h10⟩⟩ := hB
          · subst h6
            cases p with
            | nil => simp only [getR] at r1; exact (runs_fail r1).elim
            | cons p ps =>
              cases p <;> simp only [getR] at r1
              · exact (runs_fail r1).elim
              · split at r1
                · have := (runs_req r1).1; simp at this
                · exact (runs_fail r1).elim
          · obtain ⟨pre, us', post, Fy, h13, h14, h15, h16⟩ := getR_sound hss h9 r1
            have hFy : Fy = [] := List.eq_nil_iff_forall_not_mem.2 fun x hx => by simpa using h16 x hx
            subst hFy
            obtain ⟨g', hg', rfl⟩ := h1 _ h5
            injection hg' with hg'; subst hg'
            obtain ⟨rest, hrest⟩ := take_append_drop' h10
            simp only [VR]
            exact ⟨trivial, _, us', rfl, .inl h6, VR_mono _ _ _ _ _ (shut_lend rm _) h15, cells_at h7 ⟨rest, by rw [hrest, h13]⟩ h14⟩
    case agg xs =>
      obtain ⟨ys, l1, l2, r1, r2, _⟩ := RM.runs_bind r
      obtain ⟨rfl, _⟩ := runs_ret r2
      simp only [VR] at h
      exact ⟨rfl, by simpa only [VR] using rosW_VRs ih xs vs ys l1 h r1⟩
    case clo f fa ca =>
      obtain ⟨fa', l1, l2, r1, r2, _⟩ := RM.runs_bind r
      obtain ⟨ca', l3, l4, r3, r4, _⟩ := RM.runs_bind r2
      obtain ⟨rfl, _⟩ := runs_ret r4
      simp only [VR] at h
      obtain ⟨fvs, cvs, Ff, Fc, rfl, hF, h1, h2⟩ := h
      simp at hF
      obtain ⟨rfl, rfl⟩ := hF
      refine ⟨rfl, ?_⟩
      simp only [VR]
      exact ⟨fvs, cvs, [], [], rfl, rfl, rosW_VVs ih fa fvs fa' l1 h1 r1, rosW_VVs ih ca cvs ca' l3 h2 r3⟩
    case ifc t z =>
      obtain ⟨z', l1, l2, r1, r2, _⟩ := RM.runs_bind r
      obtain ⟨rfl, _⟩ := runs_ret r2
      simp only [VR] at h
      obtain ⟨x, rfl, h⟩ := h
      refine ⟨rfl, ?_⟩
      simp only [VR]
      refine ⟨x, rfl, ?_⟩
      rcases h with ⟨hg, cs, hy, hv⟩ | ⟨hg, hv⟩
      · obtain ⟨he, hv'⟩ := ih z _ z' l1 hv r1
        exact .inl ⟨he ▸ hg, cs, hy, hv'⟩
      · obtain ⟨he, hv'⟩ := ih z _ z' l1 hv r1
        exact .inr ⟨he ▸ hg, hv'⟩

end
end Go.PA

/- PA24: what a function does: its contract; calls. -/
namespace Go.PA

inductive Out where
  | ret (res : List A) (back : List (Option A))
  | pan (x : A) (back : List (Option A))

def cEnv (w : World) (S B : Nat → Prop) : Env := ⟨w, fun _ => none, fun _ => false, S, B⟩

def resRel (e : Env) (res : List A) (v : Value) (F : List Nat) : Prop :=
  match res with
  | [r] => VV r e v F
  | rs => ∃ vs : List Value, v = .tuple vs.toArray ∧ VVs rs e vs F

def backRel (e : Env) : List (Option A) → List Value → List Nat → Prop
  | [], [], F => F = []
  | none :: bs, _ :: vs, F => backRel e bs vs F
  | some a :: bs, v :: vs, F => ∃ F1 F2, F = F1 ++ F2 ∧ VV a e v F1 ∧ backRel e bs vs F2
  | _, _, _ => False

/-- The contract: handed 'args', the function comes to 'out'. -/
def FS (P : Program) (f : FuncId) (args : List A) (out : Out) : Prop :=
  ∀ (w : World) (S B : Nat → Prop) (vs : List Value) (F : List Nat), VVs args (cEnv w S B) vs F → F.Nodup → (∀ g ∈ F, ¬ S g ∧ ¬ B g ∧ g < w.heap.size) → (∀ g, S g ∨ B g → g < w.heap.size) →
    Calls P f vs.toArray w fun e w' => ∃ (S' : Nat → Prop) (F' : List Nat), Fram ⟨w, F, S, B, 0⟩ w' S' ∧ F'.Nodup ∧
      (∀ g ∈ F', ¬ S' g ∧ ¬ B g ∧ g < w'.heap.size ∧ (g ∈ F ∨ w.heap.size ≤ g)) ∧
      match out, e with
      | .ret res back, .returned v => ∃ Fr Fb, F' = Fr ++ Fb ∧ resRel (cEnv w' S' fun _ => False) res v Fr ∧ backRel (cEnv w' S' B) back vs Fb
      | .pan x back, .panicked chain => ∃ v Fr Fb, chain = [{ v, recovered := false }] ∧ F' = Fr ++ Fb ∧ VV x (cEnv w' S' fun _ => False) v Fr ∧ backRel (cEnv w' S' B) back vs Fb
      | _, _ => False

/-! handing over -/
def ownPass (m : Nat) : List (Bool × A) → List Nat → RM (List (Option A) × List Nat)
  | [], rm => .ret ([], rm)
  | (b, x) :: r, rm => match b with
    | true => (takeA true m x rm).bind fun q => (ownPass m r q.2).bind fun q' => .ret (some q.1 :: q'.1, q'.2)
    | false => (ownPass m r rm).bind fun q' => .ret (none :: q'.1, q'.2)

def roPass (m : Nat) (rm : List Nat) : List (Bool × A) → List (Option A) → RM (List A)
  | [], [] => .ret []
  | q :: r, o :: ys => match o with
    | some y => (roPass m rm r ys).bind fun zs => .ret (y :: zs)
    | none => (roA rm m q.2).bind fun y => (roPass m rm r ys).bind fun zs => .ret (y :: zs)
  | _, _ => .fail

/-- Is a block of the frame's own lent? -/
def lends (xs : List (Bool × A)) : Bool := xs.any fun q => !q.1 && !q.2.closed

def plainPass : List (Bool × A) → List (Option A) → List A
  | q :: r, o :: ys => o.getD q.2 :: plainPass r ys
  | _, _ => []

/-- The arguments as the callee gets them, and what the frame gave away. -/
def handOver (m : Nat) (xs : List (Bool × A)) : RM (List A × List Nat) :=
  (ownPass m xs []).bind fun q => if lends xs then (roPass m q.2 xs q.1).bind fun args => .ret (args, q.2) else .ret (plainPass xs q.1, q.2)

section
variable {P : Program} {c : Ctx} {st : St} {a : Act} {w : World} {loc : Nat → Option (Option Nat)} {S : Nat → Prop} {Fm : Nat → List Nat}

theorem backRel_mono {e e' : Env} : ∀ {ys : List (Option A)} {vs : List Value} {F : List Nat}, e.Le e' F → backRel e ys vs F → backRel e' ys vs F
  | [], [], F, _, h => h
  | [], _ :: _, F, _, h => h.elim
  | none :: ys, [], F, _, h => h.elim
  | some _ :: ys, [], F, _, h => h.elim
  | none :: ys, v :: vs, F, hl, h => backRel_mono (ys := ys) (vs := vs) hl h
  | some y :: ys, v :: vs, F, hl, h => by
    obtain ⟨F1, F2, rfl, h1, h2⟩ := h
    exact ⟨F1, F2, rfl, VV_mono (hl.sub fun g hg => by simp [hg]) h1, backRel_mono (hl.sub fun g hg => by simp [hg]) h2⟩

theorem ownPass_sound (R : RelW c st a w loc S Fm) (m : Nat) : ∀ (xs : List (Bool × A)) (vs : List Value) (rm : List Nat) (q : List (Option A) × List Nat) (l : List Nat),
    VVs (xs.map (·.2)) (envOf c st w loc S) vs [] → RM.Runs st.bk (ownPass m xs rm) q l → ∃ F, backRel (envOf c st w loc S).close q.1 vs F ∧ Took st Fm [] rm q.2 F
  | [], vs, rm, q, l, h, r => by
    simp only [ownPass] at r
    obtain ⟨rfl, _⟩ := runs_ret r
    simp only [List.map_nil, VVs] at h
    obtain ⟨rfl, _⟩ := h
    exact ⟨[], rfl, .refl List.nodup_nil⟩
  | (true, x) :: xs, vs, rm, q, l, h, r => by
    simp only [ownPass] at r
    obtain ⟨q1, l1, l2, r1, r2, _⟩ := RM.runs_bind r
    obtain ⟨q2, l3, l4, r3, r4, _⟩ := RM.runs_bind r2
    obtain ⟨rfl, _⟩ := runs_ret r4
    simp only [List.map_cons, VVs] at h
    obtain ⟨y, vs', F1, F2, rfl, hF, h1, h2⟩ := h
    simp at hF
    obtain ⟨rfl, rfl⟩ := hF
    have key : ∃ G1, VV q1.1 (envOf c st w loc S).close y G1 ∧ Took st Fm [] rm q1.2 G1 := by
      rcases h1 with ⟨hg, cs, hy, hv⟩ | ⟨hg, hv⟩
      · obtain ⟨he, G1, h3, T1⟩ := takeA_ok R true m x _ [] rm q1 l1 hv r1 List.nodup_nil (by simp)
        exact ⟨G1, .inl ⟨he ▸ hg, cs, hy, h3⟩, T1⟩
      · obtain ⟨he, G1, h3, T1⟩ := takeA_ok R true m x _ [] rm q1 l1 hv r1 List.nodup_nil (by simp)
        exact ⟨G1, .inr ⟨he ▸ hg, h3⟩, T1⟩
    obtain ⟨G1, h3, T1⟩ := key
    obtain ⟨G2, h4, T2⟩ := ownPass_sound R m xs vs' q1.2 q2 l3 h2 r3
    exact ⟨G1 ++ G2, ⟨G1, G2, rfl, h3, h4⟩, Took.append (F1 := []) (F2 := []) R T1 T2 (by simp) (by simp)⟩
  | (false, x) :: xs, vs, rm, q, l, h, r => by
    simp only [ownPass] at r
    obtain ⟨q2, l3, l4, r3, r4, _⟩ := RM.runs_bind r
    obtain ⟨rfl, _⟩ := runs_ret r4
    simp only [List.map_cons, VVs] at h
    obtain ⟨y, vs', F1, F2, rfl, hF, h1, h2⟩ := h
    simp at hF
    obtain ⟨rfl, rfl⟩ := hF
    obtain ⟨G2, h4, T2⟩ := ownPass_sound R m xs vs' rm q2 l3 h2 r3
    exact ⟨G2, h4, T2⟩

theorem roPass_sound (R : RelW c st a w loc S Fm) (m : Nat) (rm : List Nat) : ∀ (xs : List (Bool × A)) (ys : List (Option A)) (vs : List Value) (F : List Nat) (args : List A) (l : List Nat),
    VVs (xs.map (·.2)) (envOf c st w loc S) vs [] → backRel (envOf c st w loc S).close ys vs F → RM.Runs st.bk (roPass m rm xs ys) args l → VVs args (lendEnv c w S Fm rm) vs F
  | [], [], vs, F, args, l, h, hb, r => by
    simp only [roPass] at r
    obtain ⟨rfl, _⟩ := runs_ret r
    simp only [List.map_nil, VVs] at h
    obtain ⟨rfl, _⟩ := h
    simp only [backRel] at hb
    simp [VVs, hb]
  | [], _ :: _, vs, F, args, l, h, hb, r => by simp only [roPass] at r; exact (runs_fail r).elim
  | _ :: _, [], vs, F, args, l, h, hb, r => by simp only [roPass] at r; exact (runs_fail r).elim
  | x :: xs, some y :: ys, vs, F, args, l, h, hb, r => by
    simp only [roPass] at r
    obtain ⟨q2, l3, l4, r3, r4, _⟩ := RM.runs_bind r
    obtain ⟨rfl, _⟩ := runs_ret r4
    simp only [List.map_cons, VVs] at h
    obtain ⟨v, vs', F1, F2, rfl, hF, h1, h2⟩ := h
    simp at hF
    obtain ⟨rfl, rfl⟩ := hF
    obtain ⟨G1, G2, rfl, h3, h4⟩ := hb
    have := roPass_sound R m rm xs ys vs' G2 q2 l3 h2 h4 r3
    simp only [VVs]
    exact ⟨v, vs', G1, G2, rfl, rfl, VV_mono (close_lend rm _) h3, this⟩
  | x :: xs, none :: ys, vs, F, args, l, h, hb, r => by
    simp only [roPass] at r
    obtain ⟨q1, l1, l2, r1, r2, _⟩ := RM.runs_bind r
    obtain ⟨q2, l3, l4, r3, r4, _⟩ := RM.runs_bind r2
    obtain ⟨rfl, _⟩ := runs_ret r4
    simp only [List.map_cons, VVs] at h
    obtain ⟨v, vs', F1, F2, rfl, hF, h1, h2⟩ := h
    simp at hF
    obtain ⟨rfl, rfl⟩ := hF
    have := roPass_sound R m rm xs ys vs' F q2 l3 h2 hb r3
    simp only [VVs]
    refine ⟨v, vs', [], F, rfl, rfl, ?_, this⟩
    rcases h1 with ⟨hg, cs, hy, hv⟩ | ⟨hg, hv⟩
    · obtain ⟨he, hv'⟩ := roA_ok R rm m x.2 _ q1 l1 hv r1
      exact .inl ⟨he ▸ hg, cs, hy, hv'⟩
    · obtain ⟨he, hv'⟩ := roA_ok R rm m x.2 _ q1 l1 hv r1
      exact .inr ⟨he ▸ hg, hv'⟩

theorem plainPass_sound : ∀ (m : Nat) (xs : List (Bool × A)) (rm : List Nat) (q : List (Option A) × List Nat) (l : List Nat) (vs : List Value) (F : List Nat), lends xs = false → RM.Runs st.bk (ownPass m xs rm) q l →
    VVs (xs.map (·.2)) (envOf c st w loc S) vs [] → backRel (envOf c st w loc S).close q.1 vs F → VVs (plainPass xs q.1) (envOf c st w loc S).close vs F
  | m, [], rm, q, l, vs, F, hl, r, h, hb => by
    simp only [ownPass] at r
    obtain ⟨rfl, _⟩ := runs_ret r
    simp only [List.map_nil, VVs] at h
    obtain ⟨rfl, _⟩ := h
    simp only [backRel] at hb
    simp [plainPass, VVs, hb]
  | m, (b, x) :: xs, rm, q, l, vs, F, hl, r, h, hb => by
    simp only [lends, List.any_cons, Bool.or_eq_false_iff, Bool.and_eq_false_iff, Bool.not_eq_false'] at hl
    simp only [List.map_cons, VVs] at h
    obtain ⟨v, vs', F1, F2, rfl, hF, h1, h2⟩ := h
    simp at hF
    obtain ⟨rfl, rfl⟩ := hF
    cases b with
    | true =>
      simp only [ownPass] at r
      obtain ⟨q1, l1, l2, r1, r2, _⟩ := RM.runs_bind r
      obtain ⟨q2, l3, l4, r3, r4, _⟩ := RM.runs_bind r2
      obtain ⟨rfl, _⟩ := runs_ret r4
      obtain ⟨G1, G2, rfl, h3, h4⟩ := hb
      simp only [plainPass, Option.getD_some, VVs]
      exact ⟨v, vs', G1, G2, rfl, rfl, h3, plainPass_sound m xs q1.2 q2 l3 vs' G2 hl.2 r3 h2 h4⟩
    | false =>
      simp only [ownPass] at r
      obtain ⟨q2, l3, l4, r3, r4, _⟩ := RM.runs_bind r
      obtain ⟨rfl, _⟩ := runs_ret r4
      simp only [plainPass, Option.getD_none, VVs]
      have hcl : x.closed = true := by
        rcases hl.1 with h | h
        · cases h
        · exact h
      exact ⟨v, vs', [], F, rfl, rfl, (VV_close hcl).1 h1, plainPass_sound m xs rm q2 l3 vs' F hl.2 r3 h2 hb⟩

/-- What is borrowed behind the call's beginning. -/
def lentB (c : Ctx) (Fm : Nat → List Nat) (xs : List (Bool × A)) (rm : List Nat) : Nat → Prop :=
  if lends xs then fun g => c.B g ∨ ∃ d, d ∉ rm ∧ g ∈ Fm d else c.B

theorem handOver_sound (R : RelW c st a w loc S Fm) {m : Nat} {xs : List (Bool × A)} {vs : List Value} {q : List A × List Nat} {l : List Nat}
    (h : VVs (xs.map (·.2)) (envOf c st w loc S) vs []) (r : RM.Runs st.bk (handOver m xs) q l) : ∃ F, VVs q.1 (cEnv w S (lentB c Fm xs q.2)) vs F ∧ Took st Fm [] [] q.2 F := by
  unfold handOver at r
  obtain ⟨q1, l1, l2, r1, r2, _⟩ := RM.runs_bind r
  obtain ⟨F, h1, T⟩ := ownPass_sound R m xs vs [] q1 l1 h r1
  split at r2
  · rename_i hl
    obtain ⟨q2, l3, l4, r3, r4, _⟩ := RM.runs_bind r2
    obtain ⟨rfl, _⟩ := runs_ret r4
    refine ⟨F, ?_, T⟩
    have := roPass_sound R m q1.2 xs q1.1 vs F q2 l3 h h1 r3
    simpa [lentB, hl, cEnv, lendEnv] using this
  · rename_i hl
    obtain ⟨rfl, _⟩ := runs_ret r2
    refine ⟨F, ?_, T⟩
    have := plainPass_sound m xs [] q1 l1 vs F (by simpa using hl) r1 h h1
    simpa [lentB, hl, cEnv, envOf, Env.close] using this

end
end Go.PA

/- PA25: behind a call. -/
namespace Go.PA

/-- Like RelW; the names in Z keep their place though their blocks are gone; X are blocks of the frame's own that no name has. -/
structure RelG (c : Ctx) (st : St) (a : Act) (w : World) (loc : Nat → Option (Option Nat)) (S : Nat → Prop) (Fm : Nat → List Nat) (Z X : List Nat) : Prop where
  slots : ∀ t x, st.sl t = some x → TV x (envOf c st w loc S) (a.tmps.getD t undef)
  size : a.tmps.size = c.n
  defers : Marks c a w S Fm X
  ghosts : ∀ p, p ∈ st.gs → ∀ t x, p.2 t = some x → TV x (envOf c st w loc S) (p.1.getD t undef)
  bks : ∀ d b, st.bk d = some b → BkR (envOf c st w loc S) d b (Fm d)
  dead : ∀ d, st.bk d = none → Fm d = [] ∧ (loc d = none ∨ d ∈ Z)
  known : ∀ d, st.bk d ≠ none → st.ids d = true
  lt : ∀ d g, loc d = some (some g) → g < w.heap.size
  nodup : ∀ d, (Fm d).Nodup
  disj : ∀ d d', d ≠ d' → ∀ g, g ∈ Fm d → g ∉ Fm d'
  own : ∀ d g, g ∈ Fm d → ¬ S g ∧ ¬ c.B g ∧ g < w.heap.size ∧ (g ∈ c.F0 ∨ c.w0.heap.size ≤ g)
  fram : Fram c w S
  xnd : X.Nodup
  xfm : ∀ g ∈ X, ∀ d, g ∉ Fm d
  xown : ∀ g ∈ X, ¬ S g ∧ ¬ c.B g ∧ g < w.heap.size ∧ (g ∈ c.F0 ∨ c.w0.heap.size ≤ g)

section
variable {P : Program} {c : Ctx} {st : St} {a : Act} {w : World} {loc : Nat → Option (Option Nat)} {S : Nat → Prop} {Fm : Nat → List Nat}

theorem RelW.toG (R : RelW c st a w loc S Fm) : RelG c st a w loc S Fm [] [] :=
  ⟨R.slots, R.size, R.defers, R.ghosts, R.bks, fun d hd => ⟨(R.dead d hd).1, .inl (R.dead d hd).2⟩, R.known, fun _ _ h => R.locLt h, R.nodup, R.disj, R.own, R.fram, List.nodup_nil, by simp, by simp⟩
theorem RelG.toW {X : List Nat} (R : RelG c st a w loc S Fm [] X) : RelW c st a w loc S Fm :=
  ⟨R.slots, R.size, (R.defers.next (fun _ _ _ _ => rfl) (fun g h => .inl h) (fun d g h => .inl ⟨d, h⟩) (fun g h => by simp at h)), R.ghosts, R.bks, fun d hd => ⟨(R.dead d hd).1, (R.dead d hd).2.resolve_right (by simp)⟩, R.known, R.nodup, R.disj, R.own, R.fram⟩
theorem RelG.drop {Z X X' : List Nat} (R : RelG c st a w loc S Fm Z X) (hs : ∀ g ∈ X', g ∈ X) (hn : X'.Nodup) : RelG c st a w loc S Fm Z X' :=
  { R with defers := R.defers.next (fun _ _ _ _ => rfl) (fun g h => .inl h) (fun d g h => .inl ⟨d, h⟩) (fun g h => .inr (.inl (hs g h))), xnd := hn, xfm := fun g hg => R.xfm g (hs g hg), xown := fun g hg => R.xown g (hs g hg) }

/-- A new world, the frame's own blocks as they were but for those that were handed over. -/
theorem RelW.called (R : RelW c st a w loc S Fm) {rm F F' : List Nat} {w' : World} {S' B' : Nat → Prop} (T : Took st Fm [] [] rm F) (hB' : ∀ g, c.B g → B' g)
    (hf : Fram ⟨w, F, S, B', 0⟩ w' S') (hnd : F'.Nodup)
    (hF' : ∀ g ∈ F', ¬ S' g ∧ ¬ B' g ∧ g < w'.heap.size ∧ (g ∈ F ∨ w.heap.size ≤ g)) :
    RelG c { st with bk := fun d => if d ∈ rm then none else st.bk d } a w' loc S' (fun d => if d ∈ rm then [] else Fm d) rm F' := by
  have hFrm : ∀ g ∈ F, ∃ d, d ∈ rm ∧ g ∈ Fm d := fun g hg => by
    rcases T.sub g hg with h | ⟨d, h1, _, h2⟩
    · simp at h
    · exact ⟨d, h1, h2⟩
  have hkeep : ∀ d, d ∉ rm → ∀ g ∈ Fm d, g ∉ F := fun d hd g hg hgF => by
    obtain ⟨d', h1, h2⟩ := hFrm g hgF
    exact R.disj d d' (fun e => hd (e ▸ h1)) g hg h2
  have hSB : ∀ g, S g ∨ c.B g → g < w.heap.size ∧ g ∉ F := fun g hg => by
    refine ⟨R.fram.bd g hg, fun hgF => ?_⟩
    obtain ⟨d', h1, h2⟩ := hFrm g hgF
    have := R.own d' g h2
    exact hg.elim this.1 this.2.1
  have hle : ∀ (G : List Nat), (∀ g ∈ G, g < w.heap.size ∧ g ∉ F) → (envOf c st w loc S).Le (envOf c { st with bk := fun d => if d ∈ rm then none else st.bk d } w' loc S') G := fun G hG =>
    ⟨fun g hg => by
      have : g < w.heap.size ∧ g ∉ F := by
        rcases hg with hg | hg
        · exact hG g hg
        · exact hSB g hg
      exact hf.heap g this.1 this.2, hf.sub, fun g hg => .inr hg, fun d hd => hd, fun d l _ h => h, fun d g _ hl => hf.shp g (R.locLt hl)⟩
  have hSw : ∀ d, d ∉ rm → ∀ g ∈ Fm d, ¬ S' g := fun d hd g hg hS => by
    rcases hf.new g hS with h | h | h
    · exact (R.own d g hg).1 h
    · exact hkeep d hd g hg h
    · have := R.fmLt hg; simp only at h; omega
  refine ⟨fun t x hx => TV_mono (hle [] (by simp)) (R.slots t x hx), R.size, R.defers.next (fun g hg hn _ => hf.heap g hg fun h => let ⟨d', _, h2⟩ := hFrm g h; hn d' h2) (fun g hg => (hf.new g hg).imp id fun h => h.elim (fun h => let ⟨d', _, h2⟩ := hFrm g h; .inl ⟨d', h2⟩) fun h => .inr (.inr h))
      (fun d g hg => by
        split at hg
        · simp at hg
        · exact .inl ⟨d, hg⟩) (fun g hg => (hF' g hg).2.2.2.elim (fun h => let ⟨d', _, h2⟩ := hFrm g h; .inl ⟨d', h2⟩) fun h => .inr (.inr h)), fun p hp t x hx => TV_mono (hle [] (by simp)) (R.ghosts p hp t x hx), fun d b hb => ?_, fun d hd => ?_, fun d hd => ?_, fun d g hl => Nat.lt_of_lt_of_le (R.locLt hl) hf.size, fun d => ?_, fun d d' hne g hg => ?_,
    fun d g hg => ?_, ?_, hnd, fun g hg d => ?_, fun g hg => ?_⟩
  · simp only at hb
    by_cases hd : d ∈ rm
    · simp [hd] at hb
    · simp only [if_neg hd] at hb ⊢
      exact BkR_mono (hle _ fun g hg => ⟨R.fmLt hg, hkeep d hd g hg⟩) rfl (R.bks d b hb)
  · simp only at hd ⊢
    by_cases hdr : d ∈ rm
    · simp [hdr]
    · simp only [if_neg hdr] at hd ⊢
      exact ⟨(R.dead d hd).1, .inl (R.dead d hd).2⟩
  · simp only at hd
    by_cases hdr : d ∈ rm
    · simp [hdr] at hd
    · simp only [if_neg hdr] at hd
      exact R.known d hd
  · by_cases hdr : d ∈ rm <;> simp [hdr, R.nodup d]
  · by_cases h1 : d ∈ rm
    · simp [h1] at hg
    · simp only [if_neg h1] at hg
      by_cases h2 : d' ∈ rm
      · simp [h2]
      · simp only [if_neg h2]; exact R.disj d d' hne g hg
  · by_cases h1 : d ∈ rm
    · simp [h1] at hg
    · simp only [if_neg h1] at hg
      have := R.own d g hg
      exact ⟨hSw d h1 g hg, this.2.1, Nat.lt_of_lt_of_le this.2.2.1 hf.size, this.2.2.2⟩
  · refine ⟨fun g hg hgF => ?_, Nat.le_trans R.fram.size hf.size, hf.os.trans R.fram.os, hf.tape.trans R.fram.tape, hf.output.trans R.fram.output, fun g hg => hf.sub g (R.fram.sub g hg), fun g hg => ?_, fun g hg => ?_,
      fun g hg => (hf.shp g (Nat.lt_of_lt_of_le hg R.fram.size)).trans (R.fram.shp g hg), fun x => (hf.fro x).trans (R.fram.fro x)⟩
    · refine (hf.heap g (Nat.lt_of_lt_of_le hg R.fram.size) fun h => ?_).trans (R.fram.heap g hg hgF)
      obtain ⟨d', _, h2⟩ := hFrm g h
      rcases (R.own d' g h2).2.2.2 with h3 | h3
      · exact hgF h3
      · omega
    · rcases hf.new g hg with h | h | h
      · exact R.fram.new g h
      · obtain ⟨d', _, h2⟩ := hFrm g h
        exact .inr (R.own d' g h2).2.2.2
      · exact .inr (.inr (Nat.le_trans R.fram.size h))
    · rcases hg with h | h
      · exact hf.bd g (.inl h)
      · exact hf.bd g (.inr (hB' g h))
  · by_cases h1 : d ∈ rm
    · simp [h1]
    · simp only [if_neg h1]
      intro h
      rcases (hF' g hg).2.2.2 with h4 | h4
      · exact hkeep d h1 g h h4
      · have := R.fmLt h; omega
  · obtain ⟨h1, h2, h3, h4⟩ := hF' g hg
    refine ⟨h1, fun h => h2 (hB' g h), h3, ?_⟩
    rcases h4 with h4 | h4
    · obtain ⟨d', _, h5⟩ := hFrm g h4
      exact (R.own d' g h5).2.2.2
    · exact .inr (Nat.le_trans R.fram.size h4)

/-- A name that kept its place gets a block again. -/
theorem RelG.restore {Z X F1 X2 : List Nat} (R : RelG c st a w loc S Fm Z X) {d : Nat} {b : Blk} (hd : st.bk d = none) (hid : st.ids d = true) (hB : BkR (envOf c st w loc S) d b F1)
    (h1 : ∀ g ∈ F1, g ∈ X) (h2 : ∀ g ∈ X2, g ∈ X) (hn1 : F1.Nodup) (hn2 : X2.Nodup) (hdj : ∀ g ∈ F1, g ∉ X2) :
    RelG c { st with bk := upd st.bk d (some b) } a w loc S (fun x => if x = d then F1 else Fm x) Z X2 := by
  have he : envOf c { st with bk := upd st.bk d (some b) } w loc S = envOf c st w loc S := rfl
  refine ⟨fun t x hx => R.slots t x hx, R.size, (R.defers.next (fun _ _ _ _ => rfl) (fun g h => .inl h) (fun x g hg => by
      by_cases hx : x = d
      · simp only [hx, if_true] at hg; exact .inr (.inl (h1 g hg))
      · simp only [if_neg hx] at hg; exact .inl ⟨x, hg⟩) (fun g hg => .inr (.inl (h2 g hg)))), fun p hp t x hx => R.ghosts p hp t x hx, fun x y hy => ?_, fun x hx => ?_, fun x hx => ?_, R.lt, fun x => ?_, fun x y hne g hg => ?_, fun x g hg => ?_, R.fram, hn2, fun g hg x => ?_, fun g hg => R.xown g (h2 g hg)⟩
  · simp only [upd] at hy
    rw [he]
    by_cases hxd : x = d
    · subst hxd
      simp only [if_true] at hy ⊢
      injection hy with hy
      subst hy
      exact hB
    · simp only [if_neg hxd] at hy ⊢
      exact R.bks x y hy
  · simp only [upd] at hx
    by_cases hxd : x = d
    · simp [hxd] at hx
    · simp only [if_neg hxd] at hx ⊢
      exact R.dead x hx
  · simp only [upd] at hx
    by_cases hxd : x = d
    · subst hxd; exact hid
    · simp only [if_neg hxd] at hx
      exact R.known x hx
  · by_cases hxd : x = d <;> simp [hxd, hn1, R.nodup x]
  · by_cases hx : x = d
    · subst hx
      simp only [if_true] at hg
      simp only [if_neg (fun e => hne e.symm : ¬ y = x)]
      exact R.xfm g (h1 g hg) y
    · simp only [if_neg hx] at hg
      by_cases hy : y = d
      · simp only [hy, if_true]
        exact fun h => R.xfm g (h1 g h) x hg
      · simp only [if_neg hy]; exact R.disj x y hne g hg
  · by_cases hx : x = d
    · simp only [hx, if_true] at hg; exact R.xown g (h1 g hg)
    · simp only [if_neg hx] at hg; exact R.own x g hg
  · by_cases hx : x = d
    · simp only [hx, if_true]; exact fun h => hdj g h hg
    · simp only [if_neg hx]; exact R.xfm g (h2 g hg) x

/-- The names that kept their place for nothing lose it. -/
theorem RelG.kill {Z X : List Nat} (R : RelG c st a w loc S Fm Z X) : RelG c st a w (fun d => if (st.bk d).isSome then loc d else none) S Fm [] X := by
  have hle : ∀ F, (envOf c st w loc S).Le (envOf c st w (fun d => if (st.bk d).isSome then loc d else none) S) F := fun F =>
    ⟨fun _ _ => rfl, fun _ h => h, fun _ h => .inr h, fun _ h => h, (fun d l _ h => by
      simp only [envOf] at h ⊢
      split at h
      · exact h
      · cases h), fun _ _ _ _ => rfl⟩
  refine ⟨fun t x hx => TV_mono (hle []) (R.slots t x hx), R.size, R.defers, fun p hp t x hx => TV_mono (hle []) (R.ghosts p hp t x hx), fun x y hy => ?_, fun x hx => ⟨(R.dead x hx).1, .inl (by simp [hx])⟩, R.known, fun d g h => ?_, R.nodup, R.disj, R.own, R.fram, R.xnd, R.xfm, R.xown⟩
  · exact BkR_mono (hle _) (by simp [envOf, hy]) (R.bks x y hy)
  · split at h
    · exact R.lt d g h
    · cases h

/-- A new name. -/
theorem RelG.fresh {X F1 X2 : List Nat} (R : RelG c st a w loc S Fm [] X) {d : Nat} {b : Blk} {l : Option Nat} (hid : st.ids d = false)
    (hB : ∀ e : Env, e.w = w → e.S = S → e.loc d = some l → (∀ g, c.B g → e.B g) → BkR e d b F1) (hl : ∀ g, l = some g → g < w.heap.size)
    (h1 : ∀ g ∈ F1, g ∈ X) (h2 : ∀ g ∈ X2, g ∈ X) (hn1 : F1.Nodup) (hn2 : X2.Nodup) (hdj : ∀ g ∈ F1, g ∉ X2) :
    RelG c { st with bk := upd st.bk d (some b), ids := fun x => st.ids x || x == d } a w (fun x => if x = d then some l else loc x) S (fun x => if x = d then F1 else Fm x) [] X2 := by
  have hle : ∀ F, (envOf c st w loc S).Le (envOf c { st with bk := upd st.bk d (some b), ids := fun x => st.ids x || x == d } w (fun x => if x = d then some l else loc x) S) F := fun F =>
    ⟨fun _ _ => rfl, fun _ h => h, fun _ h => .inr h, fun x h => by simp only [envOf] at h ⊢; simp [h], fun x m hx h => by
      have hne : x ≠ d := fun e => by subst e; simp only [envOf] at hx; rw [hid] at hx; cases hx
      simpa [envOf, hne] using h, fun _ _ _ _ => rfl⟩
  refine ⟨fun t x hx => TV_mono (hle []) (R.slots t x hx), R.size, (R.defers.next (fun _ _ _ _ => rfl) (fun g h => .inl h) (fun x g hg => by
      by_cases hx : x = d
      · simp only [hx, if_true] at hg; exact .inr (.inl (h1 g hg))
      · simp only [if_neg hx] at hg; exact .inl ⟨x, hg⟩) (fun g hg => .inr (.inl (h2 g hg)))), fun p hp t x hx => TV_mono (hle []) (R.ghosts p hp t x hx), fun x y hy => ?_, fun x hx => ?_, fun x hx => ?_, fun x g h => ?_, fun x => ?_, fun x y hne g hg => ?_, fun x g hg => ?_, R.fram, hn2, fun g hg x => ?_, fun g hg => R.xown g (h2 g hg)⟩
  · simp only [upd] at hy
    by_cases hxd : x = d
    · subst hxd
      simp only [if_true] at hy ⊢
      injection hy with hy
      subst hy
      exact hB _ rfl rfl (by simp [envOf]) (fun _ h => h)
    · simp only [if_neg hxd] at hy ⊢
      exact BkR_mono (hle _) (by simp [envOf, hxd]) (R.bks x y hy)
  · simp only [upd] at hx
    by_cases hxd : x = d
    · simp [hxd] at hx
    · simp only [if_neg hxd] at hx ⊢
      exact R.dead x hx
  · simp only [upd] at hx
    by_cases hxd : x = d
    · simp [hxd]
    · simp only [if_neg hxd] at hx
      simp [R.known x hx]
  · by_cases hxd : x = d
    · simp only [hxd, if_true] at h; injection h with h; exact hl g h
    · simp only [if_neg hxd] at h; exact R.lt x g h
  · by_cases hxd : x = d <;> simp [hxd, hn1, R.nodup x]
  · by_cases hx : x = d
    · subst hx
      simp only [if_true] at hg
      simp only [if_neg (fun e => hne e.symm : ¬ y = x)]
      exact R.xfm g (h1 g hg) y
    · simp only [if_neg hx] at hg
      by_cases hy : y = d
      · simp only [hy, if_true]
        exact fun h => R.xfm g (h1 g h) x hg
      · simp only [if_neg hy]; exact R.disj x y hne g hg
  · by_cases hx : x = d
    · simp only [hx, if_true] at hg; exact R.xown g (h1 g hg)
    · simp only [if_neg hx] at hg; exact R.own x g hg
  · by_cases hx : x = d
    · simp only [hx, if_true]; exact fun h => hdj g h hg
    · simp only [if_neg hx]; exact R.xfm g (h2 g hg) x

end
end Go.PA

/- PA26: what a call hands back becomes blocks of the frame. -/
namespace Go.PA

def St.addBks (st : St) (bs : List (Nat × Blk)) : St :=
  { st with bk := bs.foldl (fun f q => upd f q.1 (some q.2)) st.bk, ids := fun d => st.ids d || (bs.map (·.1)).contains d }

theorem addBks_nil (st : St) : st.addBks [] = st := by simp [St.addBks]
theorem addBks_append (st : St) (bs bs' : List (Nat × Blk)) : st.addBks (bs ++ bs') = (st.addBks bs).addBks bs' := by
  simp only [St.addBks, List.foldl_append, List.map_append, St.mk.injEq, true_and, and_true]
  funext d
  rw [Bool.or_assoc, List.contains_append]

section
variable {P : Program} {c : Ctx} {a : Act} {w : World} {S : Nat → Prop}

structure Unf (c : Ctx) (a : Act) (w : World) (S : Nat → Prop) (st : St) (loc : Nat → Option (Option Nat)) (Fm : Nat → List Nat) (bs : List (Nat × Blk)) (k k' : Nat) (X2 : List Nat) (loc' : Nat → Option (Option Nat)) (Fm' : Nat → List Nat) : Prop where
  rel : RelG c (st.addBks bs) a w loc' S Fm' [] X2
  loc : ∀ i, st.ids i = true → loc' i = loc i
  ids : ∀ i, (st.addBks bs).ids i = true → st.ids i = true ∨ (k ≤ i ∧ i < k')
  fm : ∀ i, st.ids i = true → Fm' i = Fm i

theorem Unf.refl {st : St} {loc : Nat → Option (Option Nat)} {Fm : Nat → List Nat} {X : List Nat} {k : Nat} (R : RelG c st a w loc S Fm [] X) : Unf c a w S st loc Fm [] k k X loc Fm :=
  ⟨by rw [addBks_nil]; exact R, fun _ _ => rfl, fun i h => .inl (by simpa [addBks_nil] using h), fun _ _ => rfl⟩

theorem Unf.le {st : St} {loc loc' : Nat → Option (Option Nat)} {bs : List (Nat × Blk)} {k k' : Nat} {X2 : List Nat} {Fm Fm' : Nat → List Nat} (u : Unf c a w S st loc Fm bs k k' X2 loc' Fm') :
    ∀ {F : List Nat}, (envOf c st w loc S).Le (envOf c (st.addBks bs) w loc' S) F := fun {F} =>
  ⟨fun _ _ => rfl, fun _ h => h, fun _ h => .inr h, fun d h => by simp only [envOf, St.addBks] at h ⊢; simp [h], fun d l h hl => by simp only [envOf] at h hl ⊢; rw [← u.loc d h]; exact hl, fun _ _ _ _ => rfl⟩

theorem Unf.trans {st : St} {loc loc1 loc2 : Nat → Option (Option Nat)} {bs bs' : List (Nat × Blk)} {k k1 k2 : Nat} {X1 X2 : List Nat} {Fm Fm1 Fm2 : Nat → List Nat} (h1 : k ≤ k1) (h2 : k1 ≤ k2) (u : Unf c a w S st loc Fm bs k k1 X1 loc1 Fm1)
    (v : Unf c a w S (st.addBks bs) loc1 Fm1 bs' k1 k2 X2 loc2 Fm2) : Unf c a w S st loc Fm (bs ++ bs') k k2 X2 loc2 Fm2 := by
  refine ⟨by rw [addBks_append]; exact v.rel, fun i h => ?_, fun i h => ?_, fun i h => by rw [v.fm i (by simp [St.addBks, h]), u.fm i h]⟩
  · rw [v.loc i (by simp [St.addBks, h]), u.loc i h]
  · rw [addBks_append] at h
    rcases v.ids i h with h | h
    · rcases u.ids i h with h | h
      · exact .inl h
      · exact .inr ⟨h.1, by omega⟩
    · exact .inr ⟨by omega, h.2⟩

theorem one_new {st : St} {k : Nat} {b : Blk} : st.addBks [(k, b)] = { st with bk := upd st.bk k (some b), ids := fun x => st.ids x || x == k } := by
  simp only [St.addBks, List.foldl_cons, List.foldl_nil, List.map_cons, List.map_nil, St.mk.injEq, true_and, and_true]
  funext d
  by_cases h : d = k <;> simp [h]

theorem nodup_app {F X2 : List Nat} (h : (F ++ X2).Nodup) : F.Nodup ∧ X2.Nodup ∧ ∀ g ∈ F, g ∉ X2 := by
  obtain ⟨h1, h2, h3⟩ := List.nodup_append.1 h
  exact ⟨h1, h2, fun g hg hx => h3 g hg g hx rfl⟩


theorem unf_same (x : A) (k : Nat) (y : A) (bs : List (Nat × Blk)) (k' : Nat) (st : St) (loc : Nat → Option (Option Nat)) (Fm : Nat → List Nat) (vs : List Value) (F X2 : List Nat) (h : x = y ∧ bs = [] ∧ k = k') (hno : x.noown = true)
    (hv : VR x (envOf c st w loc S) vs F) (R : RelG c st a w loc S Fm [] (F ++ X2)) :
    k ≤ k' ∧ y.isAgg = x.isAgg ∧ ∃ loc' Fm', Unf c a w S st loc Fm bs k k' X2 loc' Fm' ∧ VR y (envOf c (st.addBks bs) w loc' S) vs [] := by
  obtain ⟨rfl, rfl, rfl⟩ := h
  obtain rfl := VR_noown _ _ _ _ hno hv
  exact ⟨Nat.le_refl _, rfl, loc, Fm, .refl R, by rw [addBks_nil]; exact hv⟩

mutual
theorem unf_le : ∀ (x : A) (k : Nat) (y : A) (bs : List (Nat × Blk)) (k' : Nat), unf k x = some (y, bs, k') → k ≤ k'
  | .osl s xs, k, y, bs, k', h => by simp only [unf, Option.some.injEq, Prod.mk.injEq] at h; omega
  | .box z, k, y, bs, k', h => by simp only [unf, Option.some.injEq, Prod.mk.injEq] at h; omega
  | .agg xs, k, y, bs, k', h => by
    simp only [unf] at h
    cases hu : unfs k xs with
    | none => simp [hu] at h
    | some q =>
      obtain ⟨ys, bs', k1⟩ := q
      simp only [hu, Option.map_some, Option.some.injEq, Prod.mk.injEq] at h
      have := unfs_le xs k ys bs' k1 hu
      omega
  | .clo f fa ca, k, y, bs, k', h => by
    simp only [unf] at h
    split at h
    · rename_i fa' bs1 k1 hu1
      split at h
      · rename_i ca' bs2 k2 hu2
        simp only [Option.some.injEq, Prod.mk.injEq] at h
        have := unfs_le fa k fa' bs1 k1 hu1
        have := unfs_le ca k1 ca' bs2 k2 hu2
        omega
      · simp at h
    · simp at h
  | .ifc t z, k, y, bs, k', h => by
    simp only [unf] at h
    cases hu : unf k z with
    | none => simp [hu] at h
    | some q =>
      obtain ⟨ys, bs', k1⟩ := q
      simp only [hu, Option.map_some, Option.some.injEq, Prod.mk.injEq] at h
      have := unf_le z k ys bs' k1 hu
      omega
  | .arr t xs, k, y, bs, k', h => by
    simp only [unf] at h
    split at h
    · simp only [Option.some.injEq, Prod.mk.injEq] at h; omega
    · simp at h
  | .v x, k, y, bs, k', h => by simp [unf, A.noown] at h; omega
  | .sl p xs, k, y, bs, k', h => by simp [unf, A.noown] at h; omega
  | .rp p z, k, y, bs, k', h => by simp [unf, A.noown] at h; omega
  | .ref .., k, y, bs, k', h => by simp [unf, A.noown] at h; omega
  | .aref .., k, y, bs, k', h => by simp [unf, A.noown] at h; omega
  | .ptr .., k, y, bs, k', h => by simp [unf, A.noown] at h; omega
  | .und, k, y, bs, k', h => by simp [unf, A.noown] at h
  | .tup _, k, y, bs, k', h => by simp [unf, A.noown] at h
  | .mp .., k, y, bs, k', h => by simp [unf] at h; omega
  | .mref _, k, y, bs, k', h => by simp [unf, A.noown] at h; omega
  | .yl _, k, y, bs, k', h => by simp [unf] at h; omega
  | .yref _, k, y, bs, k', h => by simp [unf, A.noown] at h; omega
theorem unfs_le : ∀ (xs : List A) (k : Nat) (ys : List A) (bs : List (Nat × Blk)) (k' : Nat), unfs k xs = some (ys, bs, k') → k ≤ k'
  | [], k, ys, bs, k', h => by simp only [unfs, Option.some.injEq, Prod.mk.injEq] at h; omega
  | x :: xs, k, ys, bs, k', h => by
    simp only [unfs] at h
    split at h
    · rename_i x' bs1 k1 hu1
      split at h
      · rename_i xs' bs2 k2 hu2
        simp only [Option.some.injEq, Prod.mk.injEq] at h
        have := unf_le x k x' bs1 k1 hu1
        have := unfs_le xs k1 xs' bs2 k2 hu2
        omega
      · simp at h
    · simp at h
end

theorem unf_one {st : St} {loc : Nat → Option (Option Nat)} {Fm : Nat → List Nat} {k g : Nat} {b : Blk} {F X2 : List Nat} (R : RelG c st a w loc S Fm [] (F ++ X2)) (hid : st.ids k = false)
    (hB : ∀ e : Env, e.w = w → e.S = S → e.loc k = some (some g) → (∀ g, c.B g → e.B g) → BkR e k b F) (n1 : F.Nodup) (n2 : X2.Nodup) (n3 : ∀ g ∈ F, g ∉ X2) :
    Unf c a w S st loc Fm [(k, b)] k (k + 1) X2 (fun x => if x = k then some (some g) else loc x) (fun x => if x = k then F else Fm x) := by
  have hid' : ∀ i, st.ids i = true → i ≠ k := fun i hi e => by subst e; rw [hid] at hi; cases hi
  refine ⟨?_, fun i hi => by simp [hid' i hi], fun i hi => ?_, fun i hi => by simp [hid' i hi]⟩
  · rw [one_new]
    refine RelG.fresh R hid hB (fun g' hg' => ?_) (fun g hg => by simp [hg]) (fun g hg => by simp [hg]) n1 n2 n3
    have hB2 := hB ⟨w, fun x => some (some g), fun _ => false, S, c.B⟩ rfl rfl rfl (fun _ h => h)
    injection hg' with hg'; subst hg'
    exact BkR_lt hB2 rfl
  · rw [one_new] at hi
    simp at hi
    rcases hi with hi | hi
    · exact .inl hi
    · exact .inr ⟨by omega, by omega⟩

mutual
theorem unf_ok : ∀ (x : A) (k : Nat) (y : A) (bs : List (Nat × Blk)) (k' : Nat) (st : St) (loc : Nat → Option (Option Nat)) (Fm : Nat → List Nat) (vs : List Value) (F X2 : List Nat), unf k x = some (y, bs, k') →
    VR x (envOf c st w loc S) vs F → RelG c st a w loc S Fm [] (F ++ X2) → (∀ i, k ≤ i → i < k' → st.ids i = false) →
    k ≤ k' ∧ y.isAgg = x.isAgg ∧ ∃ loc' Fm', Unf c a w S st loc Fm bs k k' X2 loc' Fm' ∧ VR y (envOf c (st.addBks bs) w loc' S) vs []
  | .osl s xs, k, y, bs, k', st, loc, Fm, vs, F, X2, h, hv, R, hf => by
    simp only [unf, Option.some.injEq, Prod.mk.injEq] at h
    obtain ⟨rfl, rfl, rfl⟩ := h
    refine ⟨by omega, rfl, ?_⟩
    obtain ⟨n1, n2, n3⟩ := nodup_app R.xnd
    have hid := hf k (Nat.le_refl _) (by omega)
    simp only [VR] at hv
    obtain ⟨hs, hss, ⟨rfl, rfl, rfl⟩ | ⟨g, cs, ty, kc, us, Fx, rfl, h1, h2, h3, h4, h5, h6, rfl⟩⟩ := hv
    · refine ⟨_, _, ⟨by rw [one_new]; exact R.fresh (l := none) (F1 := []) hid (fun e he1 he2 he3 _ => ⟨hs, by simp, .inl ⟨he3, rfl, rfl⟩⟩) (by simp) (by simp) (fun g hg => by simpa using hg) List.nodup_nil n2 (by simp), fun i hi => ?_, fun i hi => ?_, fun i hi => by
        have hne : i ≠ k := fun e => by subst e; rw [hid] at hi; cases hi
        simp [hne]⟩, ?_⟩
      · have hne : i ≠ k := fun e => by subst e; rw [hid] at hi; cases hi
        simp [hne]
      · rw [one_new] at hi
        simp at hi
        rcases hi with hi | hi
        · exact .inl hi
        · exact .inr ⟨by omega, by omega⟩
      · simp only [VR]
        exact ⟨trivial, by simp [envOf, one_new], none, 0, by simp, by simp, by simp, by simp, fun l hl => by simp [envOf] at hl; subst hl; simp⟩
    · have hcl : ∀ e : Env, e.w = w → e.S = S → VRs xs e.shut us Fx := fun e he1 he2 => by
        refine VRs_mono _ _ _ _ _ ?_ h5
        exact ⟨fun g _ => by simp [Env.shut, envOf, he1], fun g h => by simpa [Env.shut, Env.close, envOf, he2] using h, fun g h => h.elim, fun d h => by simp [Env.shut] at h, fun d l h => by simp [Env.shut] at h, fun d g h => by simp [Env.shut] at h⟩
      refine ⟨_, _, ⟨by rw [one_new]; exact R.fresh (l := some g) (F1 := g :: Fx) hid (fun e he1 he2 he3 _ => ⟨hs, hss, .inr ⟨g, cs, ty, kc, us, Fx, he3, h1, h2, by rw [he1]; exact h3, h4, VRs_open (hcl e he1 he2), h6, rfl⟩⟩) (fun g' hg' => by
          injection hg' with hg'; subst hg'; exact (R.xown g (by simp)).2.2.1) (fun g hg => by simp at hg ⊢; rcases hg with hg | hg <;> simp [hg]) (fun g hg => by simp [hg]) n1 n2 n3, fun i hi => ?_, fun i hi => ?_, fun i hi => by
        have hne : i ≠ k := fun e => by subst e; rw [hid] at hi; cases hi
        simp [hne]⟩, ?_⟩
      · have hne : i ≠ k := fun e => by subst e; rw [hid] at hi; cases hi
        simp [hne]
      · rw [one_new] at hi
        simp at hi
        rcases hi with hi | hi
        · exact .inl hi
        · exact .inr ⟨by omega, by omega⟩
      · simp only [VR]
        refine ⟨trivial, by simp [envOf, one_new], _, kc, rfl, h1, fun _ => ⟨_, rfl⟩, by simp, fun l hl => ?_⟩
        simp [envOf] at hl
        subst hl
        refine .inr ⟨by simp, fun _ => ?_⟩
        have : w.shape? g = some (ty, cs.size) := shape_cells h3
        simp [envOf, this, h4]
  | .box z, k, y, bs, k', st, loc, Fm, vs, F, X2, h, hv, R, hf => by
    simp only [unf, Option.some.injEq, Prod.mk.injEq] at h
    obtain ⟨rfl, rfl, rfl⟩ := h
    refine ⟨by omega, rfl, ?_⟩
    obtain ⟨n1, n2, n3⟩ := nodup_app R.xnd
    have hid := hf k (Nat.le_refl _) (by omega)
    simp only [VR] at hv
    obtain ⟨g, cs, ty, Fx, rfl, h1, h2, rfl⟩ := hv
    have hid' : ∀ i, st.ids i = true → i ≠ k := fun i hi e => by subst e; rw [hid] at hi; cases hi
    refine ⟨fun x => if x = k then some (some g) else loc x, fun x => if x = k then g :: Fx else Fm x, ⟨?_, fun i hi => by simp [hid' i hi], fun i hi => ?_, fun i hi => by simp [hid' i hi]⟩, ?_⟩
    · rw [one_new]
      -- the content stands in any environment that agrees on the world
      have hcl : ∀ e : Env, e.w = w → e.S = S → (∀ g, c.B g → e.B g) → VR z e cs.toList Fx := fun e he1 he2 he3 => by
        refine VR_mono _ _ _ _ _ ?_ h2
        exact ⟨fun g _ => by simp [Env.close, envOf, he1], fun g h => by simpa [Env.close, envOf, he2] using h, fun g h => .inr (he3 g h), fun d h => by simp [Env.close] at h, fun d l h => by simp [Env.close] at h, fun d g h => by simp [Env.close] at h⟩
      exact RelG.fresh R hid (fun e he1 he2 he3 he4 => ⟨g, cs, ty, Fx, he3, by rw [he1]; exact h1, hcl e he1 he2 he4, rfl⟩) (fun g' hg' => by
          injection hg' with hg'; subst hg'; exact (R.xown g (by simp)).2.2.1) (fun g hg => by simp at hg ⊢; rcases hg with hg | hg <;> simp [hg]) (fun g hg => by simp [hg]) n1 n2 n3
    · rw [one_new] at hi
      simp at hi
      rcases hi with hi | hi
      · exact .inl hi
      · exact .inr ⟨by omega, by omega⟩
    · simp only [VR]
      exact ⟨trivial, by simp [envOf, one_new], _, rfl, fun l hl => by simp [envOf] at hl; exact ⟨g, hl.symm, by simp [offP]⟩⟩
  | .agg xs, k, y, bs, k', st, loc, Fm, vs, F, X2, h, hv, R, hf => by
    simp only [unf] at h
    cases hu : unfs k xs with
    | none => simp [hu] at h
    | some q =>
      obtain ⟨ys, bs', k1⟩ := q
      simp only [hu, Option.map_some, Option.some.injEq, Prod.mk.injEq] at h
      obtain ⟨rfl, rfl, rfl⟩ := h
      simp only [VR] at hv
      obtain ⟨h1, loc', Fm', u, h2⟩ := unfs_okR xs k ys bs' k1 st loc Fm vs F X2 hu hv R hf
      exact ⟨h1, rfl, loc', Fm', u, by simpa only [VR] using h2⟩
  | .clo f fa ca, k, y, bs, k', st, loc, Fm, vs, F, X2, h, hv, R, hf => by
    simp only [unf] at h
    split at h
    · rename_i fa' bs1 k1 hu1
      split at h
      · rename_i ca' bs2 k2 hu2
        simp only [Option.some.injEq, Prod.mk.injEq] at h
        obtain ⟨rfl, rfl, rfl⟩ := h
        simp only [VR] at hv
        obtain ⟨fvs, cvs, Ff, Fc, rfl, rfl, h1, h2⟩ := hv
        have R1 : RelG c st a w loc S Fm [] (Ff ++ (Fc ++ X2)) := by rw [← List.append_assoc]; exact R
        have hk2 := unfs_le ca k1 ca' bs2 k2 hu2
        obtain ⟨h3, loc1, Fm1, u1, h4⟩ := unfs_okV fa k fa' bs1 k1 st loc Fm fvs Ff (Fc ++ X2) hu1 h1 R1 (fun i hi hi' => hf i hi (by omega))
        obtain ⟨h5, loc2, Fm2, u2, h6⟩ := unfs_okV ca k1 ca' bs2 k2 (st.addBks bs1) loc1 Fm1 cvs Fc X2 hu2 (VVs_mono _ _ _ _ _ u1.le h2) u1.rel (fun i hi hi' => by
          have h0 := hf i (by omega) hi'
          cases hh : (st.addBks bs1).ids i with
          | false => rfl
          | true =>
            rcases u1.ids i hh with h | h
            · rw [h0] at h; cases h
            · omega)
        refine ⟨by omega, rfl, loc2, Fm2, Unf.trans h3 h5 u1 u2, ?_⟩
        simp only [VR]
        rw [addBks_append]
        exact ⟨fvs, cvs, [], [], rfl, rfl, VVs_mono _ _ _ _ _ u2.le h4, h6⟩
      · simp at h
    · simp at h
  | .ifc t z, k, y, bs, k', st, loc, Fm, vs, F, X2, h, hv, R, hf => by
    simp only [unf] at h
    cases hu : unf k z with
    | none => simp [hu] at h
    | some q =>
      obtain ⟨z', bs', k1⟩ := q
      simp only [hu, Option.map_some, Option.some.injEq, Prod.mk.injEq] at h
      obtain ⟨rfl, rfl, rfl⟩ := h
      simp only [VR] at hv
      obtain ⟨x, rfl, ⟨hg, cs, hy, hv⟩ | ⟨hg, hv⟩⟩ := hv
      · obtain ⟨h1, h2, loc', Fm', u, h3⟩ := unf_ok z k z' bs' k1 st loc Fm _ F X2 hu hv R hf
        exact ⟨h1, rfl, loc', Fm', u, by simp only [VR]; exact ⟨x, rfl, .inl ⟨h2 ▸ hg, cs, hy, h3⟩⟩⟩
      · obtain ⟨h1, h2, loc', Fm', u, h3⟩ := unf_ok z k z' bs' k1 st loc Fm _ F X2 hu hv R hf
        exact ⟨h1, rfl, loc', Fm', u, by simp only [VR]; exact ⟨x, rfl, .inr ⟨h2 ▸ hg, h3⟩⟩⟩
  | .arr t xs, k, y, bs, k', st, loc, Fm, vs, F, X2, h, hv, R, hf => by
    simp only [unf] at h
    split at h
    · rename_i hno
      simp only [Option.some.injEq, Prod.mk.injEq] at h
      obtain ⟨rfl, rfl, rfl⟩ := h
      obtain rfl := VR_noown (.arr t xs) _ _ _ (by simpa [A.noown] using hno) hv
      exact ⟨Nat.le_refl _, rfl, loc, Fm, .refl R, by rw [addBks_nil]; exact hv⟩
    · simp at h
  | .v x, k, y, bs, k', st, loc, Fm, vs, F, X2, h, hv, R, hf => unf_same _ k y bs k' st loc Fm vs F X2 (by simpa [unf, A.noown] using h) rfl hv R
  | .sl p xs, k, y, bs, k', st, loc, Fm, vs, F, X2, h, hv, R, hf => unf_same _ k y bs k' st loc Fm vs F X2 (by simpa [unf, A.noown] using h) rfl hv R
  | .rp p z, k, y, bs, k', st, loc, Fm, vs, F, X2, h, hv, R, hf => unf_same _ k y bs k' st loc Fm vs F X2 (by simpa [unf, A.noown] using h) rfl hv R
  | .ref .., k, y, bs, k', st, loc, Fm, vs, F, X2, h, hv, R, hf => unf_same _ k y bs k' st loc Fm vs F X2 (by simpa [unf, A.noown] using h) rfl hv R
  | .aref .., k, y, bs, k', st, loc, Fm, vs, F, X2, h, hv, R, hf => unf_same _ k y bs k' st loc Fm vs F X2 (by simpa [unf, A.noown] using h) rfl hv R
  | .ptr .., k, y, bs, k', st, loc, Fm, vs, F, X2, h, hv, R, hf => unf_same _ k y bs k' st loc Fm vs F X2 (by simpa [unf, A.noown] using h) rfl hv R
  | .und, k, y, bs, k', st, loc, Fm, vs, F, X2, h, hv, R, hf => by simp [VR] at hv
  | .tup _, k, y, bs, k', st, loc, Fm, vs, F, X2, h, hv, R, hf => by simp [VR] at hv
  | .mref _, k, y, bs, k', st, loc, Fm, vs, F, X2, h, hv, R, hf => unf_same _ k y bs k' st loc Fm vs F X2 (by simpa [unf, A.noown] using h) rfl hv R
  | .yref _, k, y, bs, k', st, loc, Fm, vs, F, X2, h, hv, R, hf => unf_same _ k y bs k' st loc Fm vs F X2 (by simpa [unf, A.noown] using h) rfl hv R
  | .mp ks xs, k, y, bs, k', st, loc, Fm, vs, F, X2, h, hv, R, hf => by
    simp only [unf, Option.some.injEq, Prod.mk.injEq] at h
    obtain ⟨rfl, rfl, rfl⟩ := h
    obtain ⟨n1, n2, n3⟩ := nodup_app R.xnd
    have hid := hf k (Nat.le_refl _) (by omega)
    simp only [VR] at hv
    obtain ⟨g, es, clock, Fx, rfl, h1, h2, h3, h4, rfl⟩ := hv
    refine ⟨by omega, rfl, _, _, unf_one R hid (b := .mp ks xs) (g := g) (fun e he1 he2 he3 he4 => ?_) n1 n2 n3, ?_⟩
    · have hle : ∀ F, (envOf c st w loc S).shut.Le e F := fun F => ⟨fun g _ => by simp [Env.shut, envOf, he1], fun g h => by simpa [Env.shut, envOf, he2] using h, fun g h => by simp [Env.shut] at h, fun d h => by simp [Env.shut] at h, fun d l h => by simp [Env.shut] at h, fun d g h => by simp [Env.shut] at h⟩
      exact ⟨g, es, clock, Fx, he3, by rw [he1]; exact h1, h2, VVs_mono _ _ _ _ _ (hle _).shut h3, VVs_mono _ _ _ _ _ (hle _) h4, rfl⟩
    · simp only [VR]
      exact ⟨trivial, by simp [envOf, one_new], g, rfl, fun l hl => by simp [envOf] at hl; exact hl.symm⟩
  | .yl Q, k, y, bs, k', st, loc, Fm, vs, F, X2, h, hv, R, hf => by
    simp only [unf, Option.some.injEq, Prod.mk.injEq] at h
    obtain ⟨rfl, rfl, rfl⟩ := h
    obtain ⟨n1, n2, n3⟩ := nodup_app R.xnd
    have hid := hf k (Nat.le_refl _) (by omega)
    simp only [VR] at hv
    obtain ⟨g, o, rfl, h1, h2, h3⟩ := hv
    refine ⟨by omega, rfl, _, _, unf_one R hid (b := .yld Q) (g := g) (fun e he1 he2 he3 he4 => ?_) n1 n2 n3, ?_⟩
    · have hle : ∀ F, (envOf c st w loc S).close.Le e.close F := fun F => ⟨fun g _ => by simp [Env.close, envOf, he1], fun g h => by simpa [Env.close, envOf, he2] using h, fun g h => .inr (he4 g h), fun d h => by simp [Env.close] at h, fun d l h => by simp [Env.close] at h, fun d g h => by simp [Env.close] at h⟩
      exact ⟨g, o, he3, by rw [he1]; exact h1, h2, fun e2 h => h3 e2 ((hle _).trans h)⟩
    · simp only [VR]
      exact ⟨trivial, by simp [envOf, one_new], g, rfl, fun l hl => by simp [envOf] at hl; exact hl.symm⟩
theorem unfs_okR : ∀ (xs : List A) (k : Nat) (ys : List A) (bs : List (Nat × Blk)) (k' : Nat) (st : St) (loc : Nat → Option (Option Nat)) (Fm : Nat → List Nat) (vs : List Value) (F X2 : List Nat), unfs k xs = some (ys, bs, k') →
    VRs xs (envOf c st w loc S) vs F → RelG c st a w loc S Fm [] (F ++ X2) → (∀ i, k ≤ i → i < k' → st.ids i = false) →
    k ≤ k' ∧ ∃ loc' Fm', Unf c a w S st loc Fm bs k k' X2 loc' Fm' ∧ VRs ys (envOf c (st.addBks bs) w loc' S) vs []
  | [], k, ys, bs, k', st, loc, Fm, vs, F, X2, h, hv, R, hf => by
    simp only [unfs, Option.some.injEq, Prod.mk.injEq] at h
    obtain ⟨rfl, rfl, rfl⟩ := h
    simp only [VRs] at hv
    obtain ⟨rfl, rfl⟩ := hv
    exact ⟨Nat.le_refl _, loc, Fm, .refl R, by simp [VRs]⟩
  | x :: xs, k, ys, bs, k', st, loc, Fm, vs, F, X2, h, hv, R, hf => by
    simp only [unfs] at h
    split at h
    · rename_i x' bs1 k1 hu1
      split at h
      · rename_i xs' bs2 k2 hu2
        simp only [Option.some.injEq, Prod.mk.injEq] at h
        obtain ⟨rfl, rfl, rfl⟩ := h
        simp only [VRs] at hv
        obtain ⟨us, vs', F1, F2, rfl, rfl, h1, h2⟩ := hv
        have R1 : RelG c st a w loc S Fm [] (F1 ++ (F2 ++ X2)) := by rw [← List.append_assoc]; exact R
        have hk2 := unfs_le xs k1 xs' bs2 k2 hu2
        obtain ⟨h3, _, loc1, Fm1, u1, h4⟩ := unf_ok x k x' bs1 k1 st loc Fm us F1 (F2 ++ X2) hu1 h1 R1 (fun i hi hi' => hf i hi (by omega))
        obtain ⟨h5, loc2, Fm2, u2, h6⟩ := unfs_okR xs k1 xs' bs2 k2 (st.addBks bs1) loc1 Fm1 vs' F2 X2 hu2 (VRs_mono _ _ _ _ _ u1.le h2) u1.rel (fun i hi hi' => by
          have h0 := hf i (by omega) hi'
          cases hh : (st.addBks bs1).ids i with
          | false => rfl
          | true =>
            rcases u1.ids i hh with h | h
            · rw [h0] at h; cases h
            · omega)
        refine ⟨by omega, loc2, Fm2, Unf.trans h3 h5 u1 u2, ?_⟩
        rw [addBks_append]
        have := VRs_cons (VR_mono _ _ _ _ _ u2.le h4) h6
        simpa using this
      · simp at h
    · simp at h
theorem unfs_okV : ∀ (xs : List A) (k : Nat) (ys : List A) (bs : List (Nat × Blk)) (k' : Nat) (st : St) (loc : Nat → Option (Option Nat)) (Fm : Nat → List Nat) (vs : List Value) (F X2 : List Nat), unfs k xs = some (ys, bs, k') →
    VVs xs (envOf c st w loc S) vs F → RelG c st a w loc S Fm [] (F ++ X2) → (∀ i, k ≤ i → i < k' → st.ids i = false) →
    k ≤ k' ∧ ∃ loc' Fm', Unf c a w S st loc Fm bs k k' X2 loc' Fm' ∧ VVs ys (envOf c (st.addBks bs) w loc' S) vs []
  | [], k, ys, bs, k', st, loc, Fm, vs, F, X2, h, hv, R, hf => by
    simp only [unfs, Option.some.injEq, Prod.mk.injEq] at h
    obtain ⟨rfl, rfl, rfl⟩ := h
    simp only [VVs] at hv
    obtain ⟨rfl, rfl⟩ := hv
    exact ⟨Nat.le_refl _, loc, Fm, .refl R, by simp [VVs]⟩
  | x :: xs, k, ys, bs, k', st, loc, Fm, vs, F, X2, h, hv, R, hf => by
    simp only [unfs] at h
    split at h
    · rename_i x' bs1 k1 hu1
      split at h
      · rename_i xs' bs2 k2 hu2
        simp only [Option.some.injEq, Prod.mk.injEq] at h
        obtain ⟨rfl, rfl, rfl⟩ := h
        simp only [VVs] at hv
        obtain ⟨y, vs', F1, F2, rfl, rfl, h1, h2⟩ := hv
        have R1 : RelG c st a w loc S Fm [] (F1 ++ (F2 ++ X2)) := by rw [← List.append_assoc]; exact R
        have hk2 := unfs_le xs k1 xs' bs2 k2 hu2
        have key : ∃ us, VR x (envOf c st w loc S) us F1 ∧ ∀ x2 e2, x2.isAgg = x.isAgg → VR x2 e2 us [] → ((x2.isAgg = true ∧ ∃ cs, y = .agg cs ∧ VR x2 e2 cs.toList []) ∨ (x2.isAgg = false ∧ VR x2 e2 [y] [])) := by
          rcases h1 with ⟨hg, cs, hy, hv⟩ | ⟨hg, hv⟩
          · exact ⟨_, hv, fun x2 e2 he hv2 => .inl ⟨he.trans hg, cs, hy, hv2⟩⟩
          · exact ⟨_, hv, fun x2 e2 he hv2 => .inr ⟨he.trans hg, hv2⟩⟩
        obtain ⟨us, hv1, hback⟩ := key
        obtain ⟨h3, hag, loc1, Fm1, u1, h4⟩ := unf_ok x k x' bs1 k1 st loc Fm us F1 (F2 ++ X2) hu1 hv1 R1 (fun i hi hi' => hf i hi (by omega))
        obtain ⟨h5, loc2, Fm2, u2, h6⟩ := unfs_okV xs k1 xs' bs2 k2 (st.addBks bs1) loc1 Fm1 vs' F2 X2 hu2 (VVs_mono _ _ _ _ _ u1.le h2) u1.rel (fun i hi hi' => by
          have h0 := hf i (by omega) hi'
          cases hh : (st.addBks bs1).ids i with
          | false => rfl
          | true =>
            rcases u1.ids i hh with h | h
            · rw [h0] at h; cases h
            · omega)
        refine ⟨by omega, loc2, Fm2, Unf.trans h3 h5 u1 u2, ?_⟩
        rw [addBks_append]
        simp only [VVs]
        exact ⟨y, vs', [], [], rfl, rfl, hback x' _ hag (VR_mono _ _ _ _ _ u2.le h4), h6⟩
      · simp at h
    · simp at h
end

end
end Go.PA

/- PA27: what was handed over comes back. -/
namespace Go.PA

mutual
/-- What came back of what was handed over: the frame's blocks. -/
def restoreA : A → A → Option (List (Nat × Blk))
  | x, .box b => match x with
    | .ptr d [] => some [(d, .var b)]
    | _ => none
  | x, .osl s' xs => match x with
    | .ref d s off _ full => if s = s' ∧ off = 0 ∧ full = false then some [(d, .row s xs)] else none
    | _ => none
  | x, .mp ks vs => match x with
    | .mref d => some [(d, .mp ks vs)]
    | _ => none
  | x, .yl R => match x with
    | .yref d => some [(d, .yld R)]
    | _ => none
  | x, .agg ys => match x with
    | .agg xs => restoreL xs ys
    | _ => none
  | x, .clo _ f' c' => match x with
    | .clo _ f c => match restoreL f f', restoreL c c' with
      | some a, some b => some (a ++ b)
      | _, _ => none
    | _ => none
  | x, .ifc _ b => match x with
    | .ifc _ a => restoreA a b
    | _ => none
  | _, b => if b.noown then some [] else none
def restoreL : List A → List A → Option (List (Nat × Blk))
  | xs, [] => match xs with
    | [] => some []
    | _ => none
  | xs, y :: ys => match xs with
    | x :: xs => if x.sz = y.sz then match restoreA x y, restoreL xs ys with
      | some a, some b => some (a ++ b)
      | _, _ => none
      else none
    | [] => none
end

def St.resBks (st : St) (rs : List (Nat × Blk)) : St := { st with bk := rs.foldl (fun f q => upd f q.1 (some q.2)) st.bk }

theorem resBks_append (st : St) (rs rs' : List (Nat × Blk)) : st.resBks (rs ++ rs') = (st.resBks rs).resBks rs' := by simp [St.resBks]

theorem foldl_upd_other {rs : List (Nat × Blk)} {f : Nat → Option Blk} {d : Nat} (h : d ∉ rs.map (·.1)) : (rs.foldl (fun f q => upd f q.1 (some q.2)) f) d = f d := by
  induction rs generalizing f with
  | nil => rfl
  | cons q rs ih =>
    simp only [List.map_cons, List.mem_cons, not_or] at h
    simp only [List.foldl_cons]
    rw [ih h.2, upd_app, if_neg h.1]

section
variable {P : Program} {c : Ctx} {st : St} {a : Act} {w w' : World} {loc : Nat → Option (Option Nat)} {S S' : Nat → Prop} {Z : List Nat}

def ResOk (c : Ctx) (a : Act) (w' : World) (loc : Nat → Option (Option Nat)) (S' : Nat → Prop) (Z : List Nat) (rs : List (Nat × Blk)) (F : List Nat) : Prop :=
  ∀ (st1 : St) (Fm1 : Nat → List Nat) (X2 : List Nat), RelG c st1 a w' loc S' Fm1 Z (F ++ X2) → (∀ d ∈ rs.map (·.1), st1.bk d = none ∧ st1.ids d = true ∧ loc d ≠ none) → (rs.map (·.1)).Nodup →
    ∃ Fm2, RelG c (st1.resBks rs) a w' loc S' Fm2 Z X2

theorem ResOk.nil : ResOk c a w' loc S' Z [] [] := fun st1 Fm1 X2 R _ _ => ⟨Fm1, by simpa [St.resBks] using R⟩

theorem ResOk.append {rs rs' : List (Nat × Blk)} {F F' : List Nat} (h : ResOk c a w' loc S' Z rs F) (h' : ResOk c a w' loc S' Z rs' F') : ResOk c a w' loc S' Z (rs ++ rs') (F ++ F') := by
  intro st1 Fm1 X2 R hd hn
  rw [List.map_append] at hn
  obtain ⟨hn1, hn2, hn3⟩ := List.nodup_append.1 hn
  obtain ⟨Fm2, R2⟩ := h st1 Fm1 (F' ++ X2) (by rw [← List.append_assoc]; exact R) (fun d hd' => hd d (by simp only [List.map_append, List.mem_append]; exact .inl hd')) hn1
  obtain ⟨Fm3, R3⟩ := h' (st1.resBks rs) Fm2 X2 R2 (fun d hd' => by
    obtain ⟨h1, h2, h3⟩ := hd d (by simp only [List.map_append, List.mem_append]; exact .inr hd')
    refine ⟨?_, h2, h3⟩
    simp only [St.resBks]
    rw [foldl_upd_other (fun hm => hn3 d hm d hd' rfl)]
    exact h1) hn2
  exact ⟨Fm3, by rw [resBks_append]; exact R3⟩

theorem ResOk.one {d : Nat} {b : Blk} {F : List Nat} (hB : ∀ e : Env, e.w = w' → e.S = S' → e.loc = loc → (∀ g, c.B g → e.B g) → loc d ≠ none → BkR e d b F) : ResOk c a w' loc S' Z [(d, b)] F := by
  intro st1 Fm1 X2 R hd hn
  obtain ⟨h1, h2, h3⟩ := hd d (by simp)
  obtain ⟨n1, n2, n3⟩ := nodup_app R.xnd
  exact ⟨_, R.restore h1 h2 (hB _ rfl rfl rfl (fun _ h => h) h3) (fun g hg => by simp [hg]) (fun g hg => by simp [hg]) n1 n2 n3⟩

theorem cEnv_close_le {e : Env} (h1 : e.w = w') (h2 : e.S = S') (h3 : ∀ g, c.B g → e.B g) (F : List Nat) : (cEnv w' S' c.B).close.Le e F :=
  ⟨fun g _ => by simp [Env.close, cEnv, h1], fun g h => by simpa [Env.close, cEnv, h2] using h, fun g h => .inr (h3 g h), fun d h => by simp [Env.close] at h, fun d l h => by simp [Env.close] at h, fun d g h => by simp [Env.close] at h⟩
theorem cEnv_shut_le {e : Env} (h1 : e.w = w') (h2 : e.S = S') (F : List Nat) : (cEnv w' S' c.B).shut.Le e.shut F :=
  ⟨fun g _ => by simp [Env.shut, cEnv, h1], fun g h => by simpa [Env.shut, cEnv, h2] using h, fun g h => h.elim, fun d h => by simp [Env.shut] at h, fun d l h => by simp [Env.shut] at h, fun d g h => by simp [Env.shut] at h⟩

theorem restore_none {e : Env} (rs : List (Nat × Blk)) (y : A) (us : List Value) (F : List Nat) (h : [] = rs) (hno : y.noown = true) (hy : VR y e us F) : ResOk c a w' loc S' Z rs F := by
  subst h
  rw [VR_noown _ _ _ _ hno hy]
  exact .nil

mutual
theorem restoreA_ok : ∀ (x y : A) (rs : List (Nat × Blk)) (us : List Value) (F : List Nat), restoreA x y = some rs → VR x (envOf c st w loc S) us [] → VR y (cEnv w' S' c.B) us F → ResOk c a w' loc S' Z rs F
  | x, .box b, rs, us, F, h, hx, hy => by
    unfold restoreA at h
    split at h
    · rename_i d
      injection h with h
      subst h
      simp only [VR] at hx hy
      obtain ⟨_, hid, ad, rfl, h1⟩ := hx
      obtain ⟨g, cs, ty, Fx, hu, h2, h3, rfl⟩ := hy
      injection hu with hu; injection hu with hu; injection hu with hu
      refine ResOk.one fun e he1 he2 he3 he4 hl => ?_
      obtain ⟨l, hl⟩ := Option.ne_none_iff_exists'.1 hl
      obtain ⟨g', rfl, h4⟩ := h1 l hl
      rw [hu] at h4
      injection h4 with h4
      subst h4
      exact ⟨g, cs, ty, Fx, by rw [he3]; exact hl, by rw [he1]; exact h2, VR_mono _ _ _ _ _ (cEnv_close_le he1 he2 he4 _) h3, rfl⟩
    · simp at h
  | x, .osl s' xs, rs, us, F, h, hx, hy => by
    unfold restoreA at h
    split at h
    · rename_i d s off len full
      split at h
      · rename_i hc
        obtain ⟨rfl, rfl, rfl⟩ := hc
        injection h with h
        subst h
        simp only [VR] at hx hy
        obtain ⟨_, hid, ax, k, rfl, h1, h2, _, h3⟩ := hx
        obtain ⟨hs, hss, hy⟩ := hy
        refine ResOk.one fun e he1 he2 he3 he4 hl => ⟨hs, hss, ?_⟩
        obtain ⟨l, hl⟩ := Option.ne_none_iff_exists'.1 hl
        have h4 := h3 l hl
        rcases hy with ⟨rfl, hu, rfl⟩ | ⟨g, cs, ty, kc, us', Fx, hu, h5, h6, h7, h8, h9, h10, rfl⟩
        · injection hu with hu; injection hu with hu hu2 hu3
          subst hu hu2 hu3
          cases l with
          | none => exact .inl ⟨by rw [he3]; exact hl, rfl, rfl⟩
          | some g => simp at h4
        · injection hu with hu; injection hu with hu hu2 hu3
          subst hu hu2 hu3
          cases l with
          | none => simp at h4
          | some g' =>
            simp at h4
            obtain ⟨rfl, _⟩ := h4
            exact .inr ⟨g, cs, ty, _, us', Fx, by rw [he3]; exact hl, h5, h6, by rw [he1]; exact h7, h8, VRs_open (VRs_mono _ _ _ _ _ (cEnv_shut_le he1 he2 _) h9), h10, rfl⟩
      · simp at h
    · simp at h
  | x, .agg ys, rs, us, F, h, hx, hy => by
    unfold restoreA at h
    split at h
    · rename_i xs
      simp only [VR] at hx hy
      exact restoreL_okR xs ys rs us F h hx hy
    · simp at h
  | x, .clo f' fa' ca', rs, us, F, h, hx, hy => by
    unfold restoreA at h
    split at h
    · rename_i f fa ca
      split at h
      · rename_i r1 r2 hr1 hr2
        injection h with h
        subst h
        simp only [VR] at hx hy
        obtain ⟨fvs, cvs, F1, F2, rfl, hF, h1, h2⟩ := hx
        simp at hF
        obtain ⟨rfl, rfl⟩ := hF
        obtain ⟨fvs', cvs', G1, G2, hu, rfl, h3, h4⟩ := hy
        injection hu with hu; injection hu with hu1 hu2 hu3
        have e1 : fvs = fvs' := by simpa using hu2
        have e2 : cvs = cvs' := by simpa using hu3
        subst e1 e2
        exact (restoreL_okV fa fa' r1 fvs G1 hr1 h1 h3).append (restoreL_okV ca ca' r2 cvs G2 hr2 h2 h4)
      · simp at h
    · simp at h
  | x, .ifc t' z', rs, us, F, h, hx, hy => by
    unfold restoreA at h
    split at h
    · rename_i t z
      simp only [VR] at hx hy
      obtain ⟨u, rfl, hx⟩ := hx
      obtain ⟨u', hu, hy⟩ := hy
      injection hu with hu; injection hu with hu1 hu2
      subst hu2
      rcases hx with ⟨_, cs, h1, h2⟩ | ⟨h1, h2⟩ <;> rcases hy with ⟨h3, cs', h4, h5⟩ | ⟨h3, h5⟩
      · rw [h1] at h4; injection h4 with h4; subst h4
        exact restoreA_ok z z' rs _ F h h2 h5
      · exfalso
        have := VR_one _ _ _ _ h5 u (by simp)
        rw [h1] at this; simp [Value.oneCell'] at this
      · exfalso
        have := VR_one _ _ _ _ h2 u (by simp)
        rw [h4] at this; simp [Value.oneCell'] at this
      · exact restoreA_ok z z' rs _ F h h2 h5
    · simp at h
  | x, .v y, rs, us, F, h, hx, hy => restore_none _ _ _ _ (by simpa [restoreA, A.noown] using h) rfl hy
  | x, .sl p y, rs, us, F, h, hx, hy => restore_none _ _ _ _ (by simpa [restoreA, A.noown] using h) rfl hy
  | x, .rp p y, rs, us, F, h, hx, hy => restore_none _ _ _ _ (by simpa [restoreA, A.noown] using h) rfl hy
  | x, .ref .., rs, us, F, h, hx, hy => restore_none _ _ _ _ (by simpa [restoreA, A.noown] using h) rfl hy
  | x, .aref .., rs, us, F, h, hx, hy => restore_none _ _ _ _ (by simpa [restoreA, A.noown] using h) rfl hy
  | x, .ptr .., rs, us, F, h, hx, hy => restore_none _ _ _ _ (by simpa [restoreA, A.noown] using h) rfl hy
  | x, .arr t ys, rs, us, F, h, hx, hy => by
    unfold restoreA at h
    split at h
    · rename_i hno
      injection h with h
      exact restore_none _ _ _ _ h hno hy
    · simp at h
  | x, .und, rs, us, F, h, hx, hy => by simp [VR] at hy
  | x, .tup _, rs, us, F, h, hx, hy => by simp [VR] at hy
  | x, .mp ks xs, rs, us, F, h, hx, hy => by
    unfold restoreA at h
    split at h
    · rename_i d
      injection h with h
      subst h
      simp only [VR] at hx hy
      obtain ⟨_, hid, ad, rfl, h1⟩ := hx
      obtain ⟨g, es, clock, Fx, hu, h2, h3, h4, h5, rfl⟩ := hy
      injection hu with hu; injection hu with hu; injection hu with hu
      refine ResOk.one fun e he1 he2 he3 he4 hl => ?_
      obtain ⟨l, hl⟩ := Option.ne_none_iff_exists'.1 hl
      have h6 := h1 l hl
      rw [hu] at h6
      subst h6
      refine ⟨g, es, clock, Fx, by rw [he3]; exact hl, by rw [he1]; exact h2, h3, VVs_mono _ _ _ _ _ (cEnv_shut_le he1 he2 _) h4, VVs_mono _ _ _ _ _ ((cEnv_shut_le he1 he2 _).trans (Env.shut_le _ _)) h5, rfl⟩
    · simp at h
  | x, .mref _, rs, us, F, h, hx, hy => by simp [VR, cEnv] at hy
  | x, .yl Q, rs, us, F, h, hx, hy => by
    unfold restoreA at h
    split at h
    · rename_i d
      injection h with h
      subst h
      simp only [VR] at hx hy
      obtain ⟨_, hid, ad, rfl, h1⟩ := hx
      obtain ⟨g, o, hu, h2, h3, h4⟩ := hy
      simp only [List.cons.injEq, Value.func.injEq, Fn.yield.injEq, and_true] at hu
      refine ResOk.one fun e he1 he2 he3 he4 hl => ?_
      obtain ⟨l, hl⟩ := Option.ne_none_iff_exists'.1 hl
      have h6 := h1 l hl
      subst hu
      subst h6
      exact ⟨_, o, by rw [he3]; exact hl, by rw [he1]; exact h2, h3, fun e2 h7 => h4 e2 ((cEnv_close_le he1 he2 he4 _).closed.trans h7)⟩
    · simp at h
  | x, .yref _, rs, us, F, h, hx, hy => by simp [VR, cEnv] at hy
theorem restoreL_okR : ∀ (xs ys : List A) (rs : List (Nat × Blk)) (us : List Value) (F : List Nat), restoreL xs ys = some rs → VRs xs (envOf c st w loc S) us [] → VRs ys (cEnv w' S' c.B) us F → ResOk c a w' loc S' Z rs F
  | xs, [], rs, us, F, h, hx, hy => by
    unfold restoreL at h
    split at h
    · injection h with h
      subst h
      simp only [VRs] at hy
      rw [hy.2]
      exact .nil
    · simp at h
  | xs, y :: ys, rs, us, F, h, hx, hy => by
    unfold restoreL at h
    split at h
    · rename_i x xs
      split at h
      case isFalse => simp at h
      rename_i hsz
      split at h
      · rename_i r1 r2 hr1 hr2
        injection h with h
        subst h
        simp only [VRs] at hx hy
        obtain ⟨u1, u2, F1, F2, rfl, hF, h1, h2⟩ := hx
        simp at hF
        obtain ⟨rfl, rfl⟩ := hF
        obtain ⟨u1', u2', G1, G2, hu, rfl, h3, h4⟩ := hy
        have hlen : u1.length = u1'.length := by
          have e1 := VR_len _ _ _ _ h1
          have e2 := VR_len _ _ _ _ h3
          rw [e1, e2]
          exact hsz
        obtain ⟨rfl, rfl⟩ := List.append_inj hu hlen
        exact (restoreA_ok x y r1 u1 G1 hr1 h1 h3).append (restoreL_okR xs ys r2 u2 G2 hr2 h2 h4)
      · simp at h
    · simp at h
theorem restoreL_okV : ∀ (xs ys : List A) (rs : List (Nat × Blk)) (us : List Value) (F : List Nat), restoreL xs ys = some rs → VVs xs (envOf c st w loc S) us [] → VVs ys (cEnv w' S' c.B) us F → ResOk c a w' loc S' Z rs F
  | xs, [], rs, us, F, h, hx, hy => by
    unfold restoreL at h
    split at h
    · injection h with h
      subst h
      simp only [VVs] at hy
      rw [hy.2]
      exact .nil
    · simp at h
  | xs, y :: ys, rs, us, F, h, hx, hy => by
    unfold restoreL at h
    split at h
    · rename_i x xs
      split at h
      case isFalse => simp at h
      split at h
      · rename_i r1 r2 hr1 hr2
        injection h with h
        subst h
        simp only [VVs] at hx hy
        obtain ⟨u, us', F1, F2, rfl, hF, h1, h2⟩ := hx
        simp at hF
        obtain ⟨rfl, rfl⟩ := hF
        obtain ⟨u', us'', G1, G2, hu, rfl, h3, h4⟩ := hy
        injection hu with hu1 hu2
        subst hu1 hu2
        refine ResOk.append ?_ (restoreL_okV xs ys r2 us' G2 hr2 h2 h4)
        rcases h1 with ⟨_, cs, h5, h6⟩ | ⟨h5, h6⟩ <;> rcases h3 with ⟨h7, cs', h8, h9⟩ | ⟨h7, h9⟩
        · rw [h5] at h8; injection h8 with h8; subst h8
          exact restoreA_ok x y r1 _ G1 hr1 h6 h9
        · exfalso
          have := VR_one _ _ _ _ h9 u (by simp)
          rw [h5] at this; simp [Value.oneCell'] at this
        · exfalso
          have := VR_one _ _ _ _ h6 u (by simp)
          rw [h8] at this; simp [Value.oneCell'] at this
        · exact restoreA_ok x y r1 _ G1 hr1 h6 h9
      · simp at h
    · simp at h
end

end
end Go.PA

/- PA28: calls are sound. -/
namespace Go.PA

def restores : List A → List (Option A) → Option (List (Nat × Blk))
  | [], [] => some []
  | x :: xs, b :: bs => match b with
    | none => restores xs bs
    | some b => match restoreA x b, restores xs bs with
      | some a, some c => some (a ++ c)
      | _, _ => none
  | _, _ => none

def backNobor : List (Option A) → Bool
  | [] => true
  | none :: bs => backNobor bs
  | some b :: bs => b.nobor && backNobor bs

/-- The state behind a call. -/
def aCallEff (nid : Nat) (xs : List (Bool × A)) (rm : List Nat) (res : List A) (back : List (Option A)) : Option (List A × List (Nat × Option Blk) × List Nat) :=
  match unfs nid res, restores (xs.map (·.2)) back with
  | some (ys, bs, _), some rs =>
    if (rs.map (·.1)).Nodup ∧ (∀ d ∈ rs.map (·.1), d ∈ rm) ∧ (!lends xs || backNobor back) = true then
      some (ys, rm.map (fun d => (d, none)) ++ (rs.map (fun q => (q.1, some q.2)) ++ bs.map (fun q => (q.1, some q.2))), bs.map (·.1))
    else none
  | _, _ => none

mutual
theorem unf_ids : ∀ (x : A) (k : Nat) (y : A) (bs : List (Nat × Blk)) (k' : Nat), unf k x = some (y, bs, k') → ∀ i, k ≤ i → i < k' → i ∈ bs.map (·.1)
  | .osl s xs, k, y, bs, k', h, i, h1, h2 => by
    simp only [unf, Option.some.injEq, Prod.mk.injEq] at h
    obtain ⟨_, rfl, rfl⟩ := h
    simp; omega
  | .box z, k, y, bs, k', h, i, h1, h2 => by
    simp only [unf, Option.some.injEq, Prod.mk.injEq] at h
    obtain ⟨_, rfl, rfl⟩ := h
    simp; omega
  | .agg xs, k, y, bs, k', h, i, h1, h2 => by
    simp only [unf] at h
    cases hu : unfs k xs with
    | none => simp [hu] at h
    | some q =>
      obtain ⟨ys, bs', k1⟩ := q
      simp only [hu, Option.map_some, Option.some.injEq, Prod.mk.injEq] at h
      obtain ⟨_, rfl, rfl⟩ := h
      exact unfs_ids xs k ys _ _ hu i h1 h2
  | .clo f fa ca, k, y, bs, k', h, i, h1, h2 => by
    simp only [unf] at h
    split at h
    · rename_i fa' bs1 k1 hu1
      split at h
      · rename_i ca' bs2 k2 hu2
        simp only [Option.some.injEq, Prod.mk.injEq] at h
        obtain ⟨_, rfl, rfl⟩ := h
        rw [List.map_append, List.mem_append]
        rcases Nat.lt_or_ge i k1 with h3 | h3
        · exact .inl (unfs_ids fa k fa' bs1 k1 hu1 i h1 h3)
        · exact .inr (unfs_ids ca k1 ca' bs2 _ hu2 i h3 h2)
      · simp at h
    · simp at h
  | .ifc t z, k, y, bs, k', h, i, h1, h2 => by
    simp only [unf] at h
    cases hu : unf k z with
    | none => simp [hu] at h
    | some q =>
      obtain ⟨ys, bs', k1⟩ := q
      simp only [hu, Option.map_some, Option.some.injEq, Prod.mk.injEq] at h
      obtain ⟨_, rfl, rfl⟩ := h
      exact unf_ids z k ys _ _ hu i h1 h2
  | .arr t xs, k, y, bs, k', h, i, h1, h2 => by
    simp only [unf] at h
    split at h
    · simp only [Option.some.injEq, Prod.mk.injEq] at h; omega
    · simp at h
  | .v x, k, y, bs, k', h, i, h1, h2 => by simp [unf, A.noown] at h; omega
  | .sl p xs, k, y, bs, k', h, i, h1, h2 => by simp [unf, A.noown] at h; omega
  | .rp p z, k, y, bs, k', h, i, h1, h2 => by simp [unf, A.noown] at h; omega
  | .ref .., k, y, bs, k', h, i, h1, h2 => by simp [unf, A.noown] at h; omega
  | .aref .., k, y, bs, k', h, i, h1, h2 => by simp [unf, A.noown] at h; omega
  | .ptr .., k, y, bs, k', h, i, h1, h2 => by simp [unf, A.noown] at h; omega
  | .und, k, y, bs, k', h, i, h1, h2 => by simp [unf, A.noown] at h
  | .tup _, k, y, bs, k', h, i, h1, h2 => by simp [unf, A.noown] at h
  | .mp .., k, y, bs, k', h, i, h1, h2 => by
    simp [unf] at h
    obtain ⟨_, rfl, rfl⟩ := h
    simp; omega
  | .mref _, k, y, bs, k', h, i, h1, h2 => by simp [unf, A.noown] at h; omega
  | .yl _, k, y, bs, k', h, i, h1, h2 => by
    simp [unf] at h
    obtain ⟨_, rfl, rfl⟩ := h
    simp; omega
  | .yref _, k, y, bs, k', h, i, h1, h2 => by simp [unf, A.noown] at h; omega
theorem unfs_ids : ∀ (xs : List A) (k : Nat) (ys : List A) (bs : List (Nat × Blk)) (k' : Nat), unfs k xs = some (ys, bs, k') → ∀ i, k ≤ i → i < k' → i ∈ bs.map (·.1)
  | [], k, ys, bs, k', h, i, h1, h2 => by simp only [unfs, Option.some.injEq, Prod.mk.injEq] at h; omega
  | x :: xs, k, ys, bs, k', h, i, h1, h2 => by
    simp only [unfs] at h
    split at h
    · rename_i x' bs1 k1 hu1
      split at h
      · rename_i xs' bs2 k2 hu2
        simp only [Option.some.injEq, Prod.mk.injEq] at h
        obtain ⟨_, rfl, rfl⟩ := h
        rw [List.map_append, List.mem_append]
        rcases Nat.lt_or_ge i k1 with h3 | h3
        · exact .inl (unf_ids x k x' bs1 k1 hu1 i h1 h3)
        · exact .inr (unfs_ids xs k1 xs' bs2 _ hu2 i h3 h2)
      · simp at h
    · simp at h
end

theorem foldl_none (rm : List Nat) (f : Nat → Option Blk) : (rm.map (fun d => (d, (none : Option Blk)))).foldl (fun f q => upd f q.1 q.2) f = fun d => if d ∈ rm then none else f d := by
  induction rm generalizing f with
  | nil => simp
  | cons x rm ih =>
    simp only [List.map_cons, List.foldl_cons]
    rw [ih]
    funext d
    by_cases h1 : d ∈ rm <;> by_cases h2 : d = x <;> simp [h1, h2, upd]
theorem foldl_some (rs : List (Nat × Blk)) (f : Nat → Option Blk) : (rs.map (fun q => (q.1, some q.2))).foldl (fun f q => upd f q.1 q.2) f = rs.foldl (fun f q => upd f q.1 (some q.2)) f := by
  rw [List.foldl_map]

section
variable {P : Program} {c : Ctx} {st : St} {a : Act} {w w' : World} {loc : Nat → Option (Option Nat)} {S S' : Nat → Prop} {Fm : Nat → List Nat} {Z : List Nat}

theorem restores_ok : ∀ (xs : List A) (bs : List (Option A)) (rs : List (Nat × Blk)) (vs : List Value) (F : List Nat), restores xs bs = some rs → VVs xs (envOf c st w loc S) vs [] → backRel (cEnv w' S' c.B) bs vs F → ResOk c a w' loc S' Z rs F
  | [], [], rs, vs, F, h, hx, hb => by
    simp only [restores] at h
    injection h with h
    subst h
    simp only [VVs] at hx
    obtain ⟨rfl, _⟩ := hx
    simp only [backRel] at hb
    subst hb
    exact .nil
  | x :: xs, none :: bs, rs, vs, F, h, hx, hb => by
    simp only [restores] at h
    simp only [VVs] at hx
    obtain ⟨v, vs', F1, F2, rfl, hF, h1, h2⟩ := hx
    simp at hF
    obtain ⟨rfl, rfl⟩ := hF
    exact restores_ok xs bs rs vs' F h h2 hb
  | x :: xs, some b :: bs, rs, vs, F, h, hx, hb => by
    simp only [restores] at h
    split at h
    · rename_i r1 r2 hr1 hr2
      injection h with h
      subst h
      simp only [VVs] at hx
      obtain ⟨v, vs', F1, F2, rfl, hF, h1, h2⟩ := hx
      simp at hF
      obtain ⟨rfl, rfl⟩ := hF
      obtain ⟨G1, G2, rfl, h3, h4⟩ := hb
      refine ResOk.append ?_ (restores_ok xs bs r2 vs' G2 hr2 h2 h4)
      rcases h1 with ⟨_, cs, h5, h6⟩ | ⟨h5, h6⟩ <;> rcases h3 with ⟨h7, cs', h8, h9⟩ | ⟨h7, h9⟩
      · rw [h5] at h8; injection h8 with h8; subst h8
        exact restoreA_ok x b r1 _ G1 hr1 h6 h9
      · exfalso
        have := VR_one _ _ _ _ h9 v (by simp)
        rw [h5] at this; simp [Value.oneCell'] at this
      · exfalso
        have := VR_one _ _ _ _ h6 v (by simp)
        rw [h8] at this; simp [Value.oneCell'] at this
      · exact restoreA_ok x b r1 _ G1 hr1 h6 h9
    · simp at h
  | [], _ :: _, rs, vs, F, h, hx, hb => by simp [restores] at h
  | _ :: _, [], rs, vs, F, h, hx, hb => by simp [restores] at h

theorem BkR_loc {e : Env} {d : Nat} {b : Blk} {F : List Nat} (h : BkR e d b F) : e.loc d ≠ none := by
  cases b with
  | mp _ _ => obtain ⟨_, _, _, _, h, _⟩ := h; simp [h]
  | yld _ => obtain ⟨_, _, h, _⟩ := h; simp [h]
  | row s xs => rcases h.2.2 with ⟨h, _⟩ | ⟨g, cs, ty, k, us, Fx, h, _⟩ <;> simp [h]
  | froz s xs => rcases h.2.2.2 with ⟨h, _⟩ | ⟨g, cs, ty, us, h, _⟩ <;> simp [h]
  | var a => obtain ⟨g, cs, ty, Fx, h, _⟩ := h; simp [h]

theorem back_nobor {B : Nat → Prop} : ∀ {bs : List (Option A)} {vs : List Value} {F : List Nat}, backNobor bs = true → backRel (cEnv w' S' B) bs vs F → backRel (cEnv w' S' c.B) bs vs F
  | [], [], F, _, h => h
  | [], _ :: _, F, _, h => h.elim
  | none :: bs, [], F, _, h => h.elim
  | some _ :: bs, [], F, _, h => h.elim
  | none :: bs, v :: vs, F, hn, h => back_nobor (bs := bs) (vs := vs) (by simpa [backNobor] using hn) h
  | some b :: bs, v :: vs, F, hn, h => by
    simp only [backNobor, Bool.and_eq_true] at hn
    obtain ⟨F1, F2, rfl, h1, h2⟩ := h
    refine ⟨F1, F2, rfl, ?_, back_nobor hn.2 h2⟩
    have hle : ∀ G, (cEnv w' S' B).noB.Le (cEnv w' S' c.B) G := fun G => ⟨fun _ _ => rfl, fun _ h => h, fun _ h => h.elim, fun _ h => by simp [Env.noB, cEnv] at h, fun _ _ h => by simp [Env.noB, cEnv] at h, fun _ _ h => by simp [Env.noB, cEnv] at h⟩
    exact h1.imp (fun ⟨x, cs, y, z⟩ => ⟨x, cs, y, VR_mono _ _ _ _ _ (hle _) (VR_noB _ _ _ _ hn.1 z)⟩) (fun ⟨x, y⟩ => ⟨x, VR_mono _ _ _ _ _ (hle _) (VR_noB _ _ _ _ hn.1 y)⟩)

/-- Behind a call the state goes on. -/
theorem call_after (R : RelW c st a w loc S Fm) {nid : Nat} {xs : List (Bool × A)} {vs : List Value} {rm F F' : List Nat} {res : List A} {back : List (Option A)} {ys : List A} {up : List (Nat × Option Blk)} {nw : List Nat} {rvs : List Value} {Fr Fb : List Nat} {z : A}
    (hvs : VVs (xs.map (·.2)) (envOf c st w loc S) vs []) (T : Took st Fm [] [] rm F)
    (hf : Fram ⟨w, F, S, lentB c Fm xs rm, 0⟩ w' S') (hnd : F'.Nodup) (hF' : ∀ g ∈ F', ¬ S' g ∧ ¬ lentB c Fm xs rm g ∧ g < w'.heap.size ∧ (g ∈ F ∨ w.heap.size ≤ g)) (hFF : F' = Fr ++ Fb)
    (hres : VVs res (cEnv w' S' fun _ => False) rvs Fr) (hback : backRel (cEnv w' S' (lentB c Fm xs rm)) back vs Fb)
    (heff : aCallEff nid xs rm res back = some (ys, up, nw)) (hfresh : ∀ d ∈ nw, st.ids d = false) :
    ∃ loc' Fm', RelW c (st.app ⟨z, up, nw⟩) a w' loc' S' Fm' ∧ VVs ys (envOf c (st.app ⟨z, up, nw⟩) w' loc' S') rvs [] := by
  subst hFF
  unfold aCallEff at heff
  split at heff
  · rename_i ys' bs k' rs hu hr
    split at heff
    · rename_i hc
      simp only [Option.some.injEq, Prod.mk.injEq] at heff
      obtain ⟨rfl, rfl, rfl⟩ := heff
      obtain ⟨hn, hsub, hlb⟩ := hc
      have hB' : ∀ g, c.B g → lentB c Fm xs rm g := fun g hg => by
        unfold lentB
        split
        · exact .inl hg
        · exact hg
      have RG := R.called T hB' hf hnd hF'
      have hback' : backRel (cEnv w' S' c.B) back vs Fb := by
        by_cases hl : lends xs = true
        · simp only [hl, Bool.not_true, Bool.false_or] at hlb
          exact back_nobor hlb hback
        · unfold lentB at hback
          rw [if_neg hl] at hback
          exact hback
      have hperm : (Fb ++ Fr).Nodup := by
        rw [List.nodup_append] at hnd ⊢
        exact ⟨hnd.2.1, hnd.1, fun x hx y hy hxy => hnd.2.2 y hy x hx hxy.symm⟩
      have RG2 := RG.drop (X' := Fb ++ Fr) (fun g hg => by simp at hg ⊢; exact hg.symm) hperm
      have hro := restores_ok (a := a) (Z := rm) _ _ rs vs Fb hr hvs hback'
      obtain ⟨Fm2, RG3⟩ := hro _ _ Fr RG2 (fun d hd => by
        have hdr := hsub d hd
        rcases T.live d hdr with h | h
        · simp at h
        · obtain ⟨b, hb⟩ := Option.ne_none_iff_exists'.1 h
          exact ⟨by simp [hdr], R.known d h, BkR_loc (R.bks d b hb)⟩) hn
      have RG4 := RG3.kill
      have hstate : (St.resBks { st with bk := fun d => if d ∈ rm then none else st.bk d } rs).addBks bs = st.app ⟨z, rm.map (fun d => (d, none)) ++ (rs.map (fun q => (q.1, some q.2)) ++ bs.map (fun q => (q.1, some q.2))), bs.map (·.1)⟩ := by
        simp only [St.addBks, St.resBks, St.app, List.foldl_append, foldl_none, foldl_some]
      have hle : (cEnv w' S' fun _ => False).Le (envOf c (St.resBks { st with bk := fun d => if d ∈ rm then none else st.bk d } rs) w' (fun d => if ((St.resBks { st with bk := fun d => if d ∈ rm then none else st.bk d } rs).bk d).isSome then loc d else none) S').close Fr := ⟨fun _ _ => rfl, fun _ h => h, fun _ h => h.elim, fun _ h => by simp [cEnv] at h, fun _ _ h => by simp [cEnv] at h, fun _ _ h => by simp [cEnv] at h⟩
      have hres' := VVs_mono res _ _ rvs Fr hle hres
      obtain ⟨_, loc', Fm', U, hV⟩ := unfs_okV res nid _ bs k' _ _ _ rvs Fr [] hu (VVs_mono _ _ _ _ _ (Env.close_le _ _) hres') (by simpa using RG4) (fun i h1 h2 => hfresh i (unfs_ids res nid _ bs k' hu i h1 h2))
      rw [hstate] at hV
      have := U.rel
      rw [hstate] at this
      exact ⟨loc', Fm', this.toW, hV⟩
    · simp at heff
  · simp at heff

end

theorem VRs_at2 {e : Env} {x : A} {post : List A} : ∀ {pre : List A} {us : List Value} {F : List Nat}, VRs (pre ++ x :: post) e us F →
    ∃ u1 u2 u3 F1 F2 F3, us = u1 ++ (u2 ++ u3) ∧ F = F1 ++ (F2 ++ F3) ∧ VRs pre e u1 F1 ∧ VR x e u2 F2 ∧ VRs post e u3 F3
  | [], us, F, h => by
    simp only [List.nil_append, VRs] at h
    obtain ⟨u2, u3, F2, F3, rfl, rfl, h1, h2⟩ := h
    exact ⟨[], u2, u3, [], F2, F3, rfl, rfl, by simp [VRs], h1, h2⟩
  | y :: pre, us, F, h => by
    simp only [List.cons_append, VRs] at h
    obtain ⟨v1, vs, G1, G2, rfl, rfl, h1, h2⟩ := h
    obtain ⟨u1, u2, u3, F1, F2, F3, rfl, rfl, h3, h4, h5⟩ := VRs_at2 h2
    exact ⟨v1 ++ u1, u2, u3, G1 ++ F1, F2, F3, by simp, by simp, VRs_cons h1 h3, h4, h5⟩

/-- A place in a block: what stands there, and what else could. -/
def Hole (b : A → Blk) : Prop := ∀ (e : Env) (d : Nat) (x : A) (F : List Nat), BkR e d (b x) F → ∃ u F1 Fx F2, F = F1 ++ (Fx ++ F2) ∧ VR x e u Fx ∧
  ∀ (e' : Env) (z : A) (Fz : List Nat), e.Le e' (F1 ++ F2) → e'.loc d = e.loc d → VR z e' u Fz → BkR e' d (b z) (F1 ++ (Fz ++ F2))

theorem Hole.row (s : Nat) (pre post : List A) : Hole fun x => .row s (pre ++ x :: post) := by
  intro e d x F ⟨h0, h1, h2⟩
  rcases h2 with ⟨_, h, _⟩ | ⟨g, cs, ty, k, us, Fx, h3, h4, h5, h6, h7, h8, h9, rfl⟩
  · simp at h
  obtain ⟨u1, u2, u3, F1, F2, F3, rfl, rfl, h11, h12, h13⟩ := VRs_at2 h8
  refine ⟨u2, g :: F1, F2, F3, rfl, h12, fun e' z Fz hle hl hz => ⟨h0, fun y hy => ?_, .inr ⟨g, cs, ty, k, u1 ++ (u2 ++ u3), F1 ++ (Fz ++ F3), hl.trans h3, by simpa using h4, h5, ?_, h7, ?_, h9, rfl⟩⟩⟩
  · rcases List.mem_append.1 hy with hy | hy
    · exact h1 y (by simp [hy])
    · rcases List.mem_cons.1 hy with rfl | hy
      · rw [← VR_len _ _ _ _ hz, VR_len _ _ _ _ h12]
        exact h1 x (by simp)
      · exact h1 y (by simp [hy])
  · rw [hle.heap g (.inl (by simp))]; exact h6
  · exact VRs_append _ _ _ _ _ _ _ (VRs_mono _ _ _ _ _ (hle.sub fun y hy => by simp [hy]) h11) (VRs_cons hz (VRs_mono _ _ _ _ _ (hle.sub fun y hy => by simp [hy]) h13))

theorem Hole.var : Hole .var := by
  intro e d x F ⟨g, cs, ty, Fx, h1, h2, h3, h4⟩
  subst h4
  refine ⟨cs.toList, [g], Fx, [], by simp, h3, fun e' z Fz hle hl hz => ⟨g, cs, ty, Fz, hl.trans h1, ?_, hz, by simp⟩⟩
  rw [hle.heap g (.inl (by simp))]; exact h2

theorem Hole.agg {b : A → Blk} (h : Hole b) (pre post : List A) : Hole fun x => b (.agg (pre ++ x :: post)) := by
  intro e d x F hB
  obtain ⟨u, F1, Fx, F2, rfl, hv, hr⟩ := h e d _ F hB
  simp only [VR] at hv
  obtain ⟨u1, u2, u3, G1, G2, G3, rfl, rfl, h11, h12, h13⟩ := VRs_at2 hv
  refine ⟨u2, F1 ++ G1, G2, G3 ++ F2, by simp, h12, fun e' z Fz hle hl hz => ?_⟩
  have := hr e' (.agg (pre ++ z :: post)) (G1 ++ (Fz ++ G3)) (hle.sub fun y hy => by simp at hy ⊢; rcases hy with hy | hy <;> simp [hy]) hl (by
    simp only [VR]
    exact VRs_append _ _ _ _ _ _ _ (VRs_mono _ _ _ _ _ (hle.sub fun y hy => by simp [hy]) h11) (VRs_cons hz (VRs_mono _ _ _ _ _ (hle.sub fun y hy => by simp [hy]) h13)))
  simpa using this

/-- A block's contents at one place turn; with it what the names own. -/
theorem hole_rel {st : St} {c : Ctx} {a : Act} {w : World} {loc : Nat → Option (Option Nat)} {S : Nat → Prop} {Fm : Nat → List Nat} (R : RelW c st a w loc S Fm) {d : Nat} {b : A → Blk} {y x : A} {rm F1 F2 F3 F' : List Nat} {j : Option Nat}
    (hb : st.bk d = some (b y)) (hF : Fm d = F1 ++ (F2 ++ F3))
    (hF' : ∀ z ∈ F', z ∈ F2 ∨ ∃ d', d' ∈ rm ∧ d' ≠ d ∧ z ∈ Fm d') (hn : F'.Nodup)
    (hnew : ∀ e' : Env, (envOf c st w loc S).Le e' (F1 ++ F3) → e'.loc d = loc d → e'.w = w → e'.ids = (fun i => st.ids i || j == some i) → (∀ i, e'.loc i = if i = d then loc i else if i ∈ rm then none else loc i) → BkR e' d (b x) (F1 ++ (F' ++ F3)))
    (X : List Nat) (hX : ∀ z ∈ X, z ∈ F2) (hXn : X.Nodup) (hXF : ∀ z ∈ X, z ∉ F') :
    RelG c { st with bk := fun k => if k = d then some (b x) else if k ∈ rm then none else st.bk k, ids := fun i => st.ids i || j == some i } a w (fun i => if i = d then loc i else if i ∈ rm then none else loc i) S
      (fun i => if i = d then F1 ++ (F' ++ F3) else if i ∈ rm then [] else Fm i) [] X := by
  have hnd := hF ▸ R.nodup d
  simp only [List.nodup_append, List.mem_append] at hnd
  obtain ⟨hn1, ⟨hn2, hn3, hn23⟩, hn123⟩ := hnd
  have hF2d : ∀ z ∈ F2, z ∈ Fm d := fun z hz => by rw [hF]; simp [hz]
  have hle : ∀ G, (envOf c st w loc S).Le (envOf c { st with bk := fun k => if k = d then some (b x) else if k ∈ rm then none else st.bk k, ids := fun i => st.ids i || j == some i } w (fun i => if i = d then loc i else if i ∈ rm then none else loc i) S) G := fun G =>
    ⟨fun _ _ => rfl, fun _ h => h, fun _ h => .inr h, fun i h => by simp only [envOf] at h ⊢; simp [h], fun i v _ hl => by
      simp only [envOf] at hl ⊢
      split at hl
      · exact hl
      · split at hl
        · cases hl
        · exact hl, fun _ _ _ _ => rfl⟩
  have out : ∀ z ∈ F', z ∉ F1 ∧ z ∉ F3 := fun z hz => by
    rcases hF' z hz with h | ⟨d', h, h', h''⟩
    · exact ⟨fun h2 => hn123 z h2 z (.inl h) rfl, fun h2 => hn23 z h z h2 rfl⟩
    · have hdd : z ∉ Fm d := R.disj d' d h' z h''
      rw [hF] at hdd
      simp only [List.mem_append, not_or] at hdd
      exact ⟨hdd.1, hdd.2.2⟩
  have mem : ∀ i z, z ∈ (if i = d then F1 ++ (F' ++ F3) else if i ∈ rm then [] else Fm i) → (i = d ∧ (z ∈ F1 ∨ z ∈ F' ∨ z ∈ F3) ∧ (z ∈ Fm d ∨ ∃ d', d' ∈ rm ∧ d' ≠ d ∧ z ∈ Fm d')) ∨ (i ≠ d ∧ i ∉ rm ∧ z ∈ Fm i) := fun i z hz => by
    by_cases hi : i = d
    · simp only [if_pos hi, List.mem_append] at hz
      refine .inl ⟨hi, hz, ?_⟩
      rcases hz with h | h | h
      · exact .inl (by rw [hF]; simp [h])
      · exact (hF' z h).imp (hF2d z) id
      · exact .inl (by rw [hF]; simp [h])
    · simp only [if_neg hi] at hz
      by_cases hir : i ∈ rm
      · simp [hir] at hz
      · simp only [if_neg hir] at hz
        exact .inr ⟨hi, hir, hz⟩
  refine ⟨fun t z hz => TV_mono (hle []) (R.slots t z hz), R.size, R.defers.next (fun _ _ _ _ => rfl) (fun g h => .inl h) (fun i g h => .inl (by
      rcases mem i g h with ⟨_, _, h | ⟨d', _, _, h⟩⟩ | ⟨_, _, h⟩
      · exact ⟨d, h⟩
      · exact ⟨d', h⟩
      · exact ⟨i, h⟩)) (fun g h => .inl ⟨d, hF2d g (hX g h)⟩), fun p hp t z hz => TV_mono (hle []) (R.ghosts p hp t z hz), fun i b' hi => ?_, fun i hi => ?_, fun i hi => ?_, fun i g hl => ?_, fun i => ?_, fun i i' hii z hz => ?_, fun i z hz => ?_, R.fram, hXn, fun z hz i hi => ?_, fun z hz => R.own d z (hF2d z (hX z hz))⟩
  · by_cases hid : i = d
    · subst hid
      simp only [if_true, Option.some.injEq] at hi
      subst hi
      simp only [if_true]
      exact hnew _ (hle _) (by simp [envOf]) rfl rfl (fun _ => rfl)
    · simp only [if_neg hid] at hi ⊢
      by_cases hir : i ∈ rm
      · simp [hir] at hi
      · simp only [if_neg hir] at hi ⊢
        refine BkR_mono (hle _) ?_ (R.bks i b' hi)
        simp only [envOf, if_neg hid, if_neg hir]
  · by_cases hid : i = d
    · simp [hid] at hi
    · simp only [if_neg hid] at hi ⊢
      by_cases hir : i ∈ rm
      · simp [hir]
      · simp only [if_neg hir] at hi ⊢
        exact ⟨(R.dead i hi).1, .inl (R.dead i hi).2⟩
  · have hk : st.ids i = true := by
      by_cases hid : i = d
      · exact R.known i (by rw [hid, hb]; simp)
      · simp only [if_neg hid] at hi
        by_cases hir : i ∈ rm
        · simp [hir] at hi
        · simp only [if_neg hir] at hi
          exact R.known i hi
    simp [hk]
  · refine R.locLt (d := i) ?_
    split at hl
    · exact hl
    · split at hl
      · cases hl
      · exact hl
  · by_cases hid : i = d
    · simp only [if_pos hid]
      simp only [List.nodup_append, List.mem_append]
      refine ⟨hn1, ⟨hn, hn3, fun z hz z' hz' e => (out z hz).2 (e ▸ hz')⟩, fun z hz z' hz' e => ?_⟩
      subst e
      rcases hz' with h | h
      · exact (out z h).1 hz
      · exact hn123 z hz z (.inr h) rfl
    · simp only [if_neg hid]
      split
      · exact List.nodup_nil
      · exact R.nodup i
  · intro hz2
    rcases mem i z hz with ⟨e1, _, h⟩ | ⟨e1, e2, h⟩ <;> rcases mem i' z hz2 with ⟨e3, _, h'⟩ | ⟨e3, e4, h'⟩
    · exact hii (e1.trans e3.symm)
    · rcases h with h | ⟨d', hd1, hd2, h⟩
      · exact R.disj d i' (fun e => e3 e.symm) z h h'
      · exact R.disj d' i' (fun e => e4 (e ▸ hd1)) z h h'
    · rcases h' with h' | ⟨d', hd1, hd2, h'⟩
      · exact R.disj i d e1 z h h'
      · exact R.disj i d' (fun e => e2 (e ▸ hd1)) z h h'
    · exact R.disj i i' hii z h h'
  · rcases mem i z hz with ⟨e1, _, h⟩ | ⟨e1, e2, h⟩
    · rcases h with h | ⟨d', _, _, h⟩
      · exact R.own d _ h
      · exact R.own d' _ h
    · exact R.own i z h
  · rcases mem i z hi with ⟨e1, h, _⟩ | ⟨e1, e2, h⟩
    · have hz2 := hX z hz
      rcases h with h | h | h
      · exact hn123 z h z (.inl hz2) rfl
      · exact hXF z hz h
      · exact hn23 z hz2 z h rfl
    · exact R.disj d i (fun e => e1 e.symm) z (hF2d z (hX z hz)) h

mutual
/-- What it owns is named 'j', of which nothing is known. -/
def plc (j : Nat) : A → A
  | .osl s xs => .ref j s 0 xs.length false
  | .box _ => .ptr j []
  | .mp _ _ => .mref j
  | .yl _ => .yref j
  | .agg xs => .agg (plcs j xs)
  | .clo f a c => .clo f (plcs j a) (plcs j c)
  | .ifc t a => .ifc t (plc j a)
  | a => a
def plcs (j : Nat) : List A → List A
  | [] => []
  | x :: xs => plc j x :: plcs j xs
end

theorem plc_isAgg (j : Nat) (a : A) : (plc j a).isAgg = a.isAgg := by cases a <;> rfl

mutual
theorem VR_plc (j : Nat) : ∀ (x : A) (k : Nat) (q : A × List (Nat × Blk) × Nat) (e : Env) (vs : List Value) (F : List Nat), unf k x = some q → e.ids j = true → e.loc j = none → VR x e vs F → VR (plc j x) e vs []
  | .osl s xs, k, q, e, vs, F, hu, hi, hl, h => by
    simp only [VR] at h
    simp only [plc, VR]
    obtain ⟨h0, hss, ⟨rfl, rfl, _⟩ | ⟨g, cs, ty, c, us, Fx, rfl, h1, h2, h3, h4, h5, h6, rfl⟩⟩ := h
    · exact ⟨trivial, hi, none, 0, by simp, by simp, by simp, by simp, fun l h => by rw [hl] at h; cases h⟩
    · exact ⟨trivial, hi, _, c, rfl, h1, fun _ => ⟨_, rfl⟩, by simp, fun l h => by rw [hl] at h; cases h⟩
  | .box a, k, q, e, vs, F, hu, hi, hl, h => by
    simp only [VR] at h
    simp only [plc, VR]
    obtain ⟨g, cs, ty, Fx, rfl, h3, h5, rfl⟩ := h
    exact ⟨trivial, hi, _, rfl, fun l h => by rw [hl] at h; cases h⟩
  | .agg xs, k, q, e, vs, F, hu, hi, hl, h => by
    simp only [unf] at hu
    cases hq : unfs k xs with
    | none => simp [hq] at hu
    | some q' =>
      simp only [VR, plc] at h ⊢
      exact VRs_plc j xs k q' e vs F hq hi hl h
  | .clo f a b, k, q, e, vs, F, hu, hi, hl, h => by
    simp only [unf] at hu
    split at hu
    · rename_i a' bs k1 h1
      split at hu
      · rename_i c' bs' k2 h2
        simp only [VR, plc] at h ⊢
        obtain ⟨fvs, cvs, Ff, Fc, rfl, rfl, h3, h4⟩ := h
        exact ⟨fvs, cvs, [], [], rfl, rfl, VVs_plc j a k _ e fvs Ff h1 hi hl h3, VVs_plc j b k1 _ e cvs Fc h2 hi hl h4⟩
      · simp at hu
    · simp at hu
  | .ifc t a, k, q, e, vs, F, hu, hi, hl, h => by
    simp only [unf] at hu
    cases hq : unf k a with
    | none => simp [hq] at hu
    | some q' =>
      simp only [VR, plc, plc_isAgg] at h ⊢
      obtain ⟨x, h1, h2⟩ := h
      exact ⟨x, h1, h2.imp (fun ⟨h3, cs, h4, h5⟩ => ⟨h3, cs, h4, VR_plc j a k q' e _ F hq hi hl h5⟩) fun ⟨h3, h4⟩ => ⟨h3, VR_plc j a k q' e _ F hq hi hl h4⟩⟩
  | .arr t xs, k, q, e, vs, F, hu, hi, hl, h => by
    simp only [unf] at hu
    split at hu
    · rename_i hno
      obtain rfl := VR_noown (.arr t xs) _ _ _ (by simpa [A.noown] using hno) h
      exact h
    · simp at hu
  | .v x, k, q, e, vs, F, hu, hi, hl, h => by
    obtain rfl := VR_noown (.v x) _ _ _ rfl h
    exact h
  | .sl p xs, k, q, e, vs, F, hu, hi, hl, h => by
    obtain rfl := VR_noown (.sl p xs) _ _ _ rfl h
    exact h
  | .rp p a, k, q, e, vs, F, hu, hi, hl, h => by
    obtain rfl := VR_noown (.rp p a) _ _ _ rfl h
    exact h
  | .ref d s off len full, k, q, e, vs, F, hu, hi, hl, h => by
    obtain rfl := VR_noown (.ref d s off len full) _ _ _ rfl h
    exact h
  | .aref d p s off len, k, q, e, vs, F, hu, hi, hl, h => by
    obtain rfl := VR_noown (.aref d p s off len) _ _ _ rfl h
    exact h
  | .ptr d p, k, q, e, vs, F, hu, hi, hl, h => by
    obtain rfl := VR_noown (.ptr d p) _ _ _ rfl h
    exact h
  | .und, k, q, e, vs, F, hu, hi, hl, h => by simp [VR] at h
  | .tup _, k, q, e, vs, F, hu, hi, hl, h => by simp [VR] at h
  | .mp .., k, q, e, vs, F, hu, hi, hl, h => by
    simp only [VR] at h
    obtain ⟨g, _, _, _, rfl, _⟩ := h
    simp only [plc, VR]
    exact ⟨trivial, hi, g, rfl, fun l h => by rw [hl] at h; cases h⟩
  | .mref d, k, q, e, vs, F, hu, hi, hl, h => by
    obtain rfl := VR_noown (.mref d) _ _ _ rfl h
    exact h
  | .yl _, k, q, e, vs, F, hu, hi, hl, h => by
    simp only [VR] at h
    obtain ⟨g, _, rfl, _⟩ := h
    simp only [plc, VR]
    exact ⟨trivial, hi, g, rfl, fun l h => by rw [hl] at h; cases h⟩
  | .yref d, k, q, e, vs, F, hu, hi, hl, h => by
    obtain rfl := VR_noown (.yref d) _ _ _ rfl h
    exact h
theorem VRs_plc (j : Nat) : ∀ (xs : List A) (k : Nat) (q : List A × List (Nat × Blk) × Nat) (e : Env) (vs : List Value) (F : List Nat), unfs k xs = some q → e.ids j = true → e.loc j = none → VRs xs e vs F → VRs (plcs j xs) e vs []
  | [], k, q, e, vs, F, hu, hi, hl, h => by simp only [VRs] at h; simp [plcs, VRs, h.1]
  | x :: xs, k, q, e, vs, F, hu, hi, hl, h => by
    simp only [unfs] at hu
    split at hu
    · rename_i y bs k1 h1
      split at hu
      · rename_i ys bs' k2 h2
        simp only [VRs] at h
        obtain ⟨us, vs', F1, F2, rfl, rfl, h3, h4⟩ := h
        exact VRs_cons (F := []) (G := []) (VR_plc j x k _ e us F1 h1 hi hl h3) (VRs_plc j xs k1 _ e vs' F2 h2 hi hl h4)
      · simp at hu
    · simp at hu
theorem VVs_plc (j : Nat) : ∀ (xs : List A) (k : Nat) (q : List A × List (Nat × Blk) × Nat) (e : Env) (vs : List Value) (F : List Nat), unfs k xs = some q → e.ids j = true → e.loc j = none → VVs xs e vs F → VVs (plcs j xs) e vs []
  | [], k, q, e, vs, F, hu, hi, hl, h => by simp only [VVs] at h; simp [plcs, VVs, h.1]
  | x :: xs, k, q, e, vs, F, hu, hi, hl, h => by
    simp only [unfs] at hu
    split at hu
    · rename_i y bs k1 h1
      split at hu
      · rename_i ys bs' k2 h2
        simp only [VVs] at h
        obtain ⟨u, vs', F1, F2, rfl, rfl, h3, h4⟩ := h
        simp only [plcs, VVs, plc_isAgg]
        exact ⟨u, vs', [], [], rfl, rfl, h3.imp (fun ⟨g1, cs, g2, g3⟩ => ⟨g1, cs, g2, VR_plc j x k _ e _ F1 h1 hi hl g3⟩) (fun ⟨g1, g2⟩ => ⟨g1, VR_plc j x k _ e _ F1 h1 hi hl g2⟩), VVs_plc j xs k1 _ e vs' F2 h2 hi hl h4⟩
      · simp at hu
    · simp at hu
end

mutual
theorem unf_names : ∀ (x : A) (k : Nat) (y : A) (bs : List (Nat × Blk)) (k' : Nat), unf k x = some (y, bs, k') → ∀ d ∈ bs.map (·.1), k ≤ d ∧ d < k'
  | .osl s xs, k, y, bs, k', h => by
    simp only [unf, Option.some.injEq, Prod.mk.injEq] at h
    obtain ⟨rfl, rfl, rfl⟩ := h
    intro d hd
    simp at hd
    omega
  | .box a, k, y, bs, k', h => by
    simp only [unf, Option.some.injEq, Prod.mk.injEq] at h
    obtain ⟨rfl, rfl, rfl⟩ := h
    intro d hd
    simp at hd
    omega
  | .agg xs, k, y, bs, k', h => by
    simp only [unf] at h
    cases hq : unfs k xs with
    | none => simp [hq] at h
    | some q =>
      obtain ⟨ys, bs', k1⟩ := q
      simp only [hq, Option.map_some, Option.some.injEq, Prod.mk.injEq] at h
      obtain ⟨rfl, rfl, rfl⟩ := h
      exact unfs_names xs k ys bs' k1 hq
  | .clo f a c, k, y, bs, k', h => by
    simp only [unf] at h
    split at h
    · rename_i a' bs1 k1 h1
      split at h
      · rename_i c' bs2 k2 h2
        simp only [Option.some.injEq, Prod.mk.injEq] at h
        obtain ⟨rfl, rfl, rfl⟩ := h
        intro d hd
        have l1 := unfs_le a k a' bs1 k1 h1
        have l2 := unfs_le c k1 c' bs2 k2 h2
        rw [List.map_append, List.mem_append] at hd
        rcases hd with hd | hd
        · have := unfs_names a k a' bs1 k1 h1 d hd; omega
        · have := unfs_names c k1 c' bs2 k2 h2 d hd; omega
      · simp at h
    · simp at h
  | .ifc t a, k, y, bs, k', h => by
    simp only [unf] at h
    cases hq : unf k a with
    | none => simp [hq] at h
    | some q =>
      obtain ⟨ys, bs', k1⟩ := q
      simp only [hq, Option.map_some, Option.some.injEq, Prod.mk.injEq] at h
      obtain ⟨rfl, rfl, rfl⟩ := h
      exact unf_names a k ys bs' k1 hq
  | .arr t xs, k, y, bs, k', h => by
    simp only [unf] at h
    split at h
    · simp only [Option.some.injEq, Prod.mk.injEq] at h
      obtain ⟨rfl, rfl, rfl⟩ := h
      simp
    · simp at h
  | .mp .., k, y, bs, k', h | .yl _, k, y, bs, k', h => by
    simp [unf] at h
    obtain ⟨rfl, rfl, rfl⟩ := h
    simp
  | .v _, k, y, bs, k', h | .sl .., k, y, bs, k', h | .rp .., k, y, bs, k', h | .ref .., k, y, bs, k', h | .aref .., k, y, bs, k', h | .ptr .., k, y, bs, k', h | .mref _, k, y, bs, k', h | .yref _, k, y, bs, k', h => by
    simp [unf, A.noown] at h
    obtain ⟨rfl, rfl, rfl⟩ := h
    simp
  | .und, k, y, bs, k', h | .tup _, k, y, bs, k', h => by simp [unf, A.noown] at h
theorem unfs_names : ∀ (xs : List A) (k : Nat) (ys : List A) (bs : List (Nat × Blk)) (k' : Nat), unfs k xs = some (ys, bs, k') → ∀ d ∈ bs.map (·.1), k ≤ d ∧ d < k'
  | [], k, ys, bs, k', h => by
    simp only [unfs, Option.some.injEq, Prod.mk.injEq] at h
    obtain ⟨rfl, rfl, rfl⟩ := h
    simp
  | x :: xs, k, ys, bs, k', h => by
    simp only [unfs] at h
    split at h
    · rename_i y bs1 k1 h1
      split at h
      · rename_i ys' bs2 k2 h2
        simp only [Option.some.injEq, Prod.mk.injEq] at h
        obtain ⟨rfl, rfl, rfl⟩ := h
        intro d hd
        have l1 := unf_le x k y bs1 k1 h1
        have l2 := unfs_le xs k1 ys' bs2 k2 h2
        rw [List.map_append, List.mem_append] at hd
        rcases hd with hd | hd
        · have := unf_names x k y bs1 k1 h1 d hd; omega
        · have := unfs_names xs k1 ys' bs2 k2 h2 d hd; omega
      · simp at h
    · simp at h
end

theorem addBks_bk_other : ∀ (bs : List (Nat × Blk)) (f : Nat → Option Blk) (d : Nat), (bs.map (·.1)).contains d = false → (bs.foldl (fun f q => upd f q.1 (some q.2)) f) d = f d
  | [], f, d, _ => rfl
  | q :: bs, f, d, h => by
    simp only [List.map_cons, List.contains_cons, Bool.or_eq_false_iff] at h
    rw [List.foldl_cons, addBks_bk_other bs _ d h.2]
    simp only [upd]
    rw [if_neg]
    intro e
    rw [e] at h
    simp at h

/-- What a place owns gets names. -/
theorem focus_relW {st : St} {c : Ctx} {a : Act} {w : World} {loc : Nat → Option (Option Nat)} {S : Nat → Prop} {Fm : Nat → List Nat} (R : RelW c st a w loc S Fm) {d k k' j : Nat} {b : A → Blk} {x y : A} {bs : List (Nat × Blk)} (hh : Hole b) (hb : st.bk d = some (b x)) (hc : x.closed = true) (hu : unf k x = some (y, bs, k')) (hj : st.ids j = false)
    (hf : ∀ i, k ≤ i → i < k' → st.ids i = false ∧ i ≠ j) :
    ∃ loc2 Fm2, (∀ i, st.ids i = true → loc2 i = loc i) ∧ RelW c { st with bk := upd (bs.foldl (fun f q => upd f q.1 (some q.2)) st.bk) d (some (b y)), ids := fun i => (st.ids i || i == j) || (bs.map (·.1)).contains i } a w loc2 S Fm2 := by
  have hidd : st.ids d = true := R.known d (by rw [hb]; simp)
  have hjd : j ≠ d := fun e => by rw [e, hidd] at hj; cases hj
  have hlj : loc j = none := (R.dead j (by
    cases h : st.bk j with
    | none => rfl
    | some _ => have := R.known j (by rw [h]; simp); rw [hj] at this; cases this)).2
  obtain ⟨u, F1, F2, F3, hF, hv, hr⟩ := hh _ _ _ _ (R.bks d _ hb)
  have hnd := hF ▸ R.nodup d
  simp only [List.nodup_append] at hnd
  have G := hole_rel R (j := some j) (x := plc j x) (rm := []) (F' := []) hb hF (by simp) List.nodup_nil
    (fun e' hle hl hw hids hloc => hr e' (plc j x) [] hle hl (VR_plc j x k _ e' u F2 hu (by rw [hids]; simp) (by rw [hloc]; simp [hjd, hlj]) (VR_mono _ _ _ _ _ ⟨fun g _ => by rw [hw]; rfl, hle.S, hle.B, hle.ids, hle.loc, hle.shp⟩ hv))) F2 (fun _ h => h) hnd.2.1.1 (by simp)
  simp only [List.not_mem_nil, if_false] at G
  obtain ⟨st1, hst1⟩ : ∃ s : St, s = { st with bk := fun k => if k = d then some (b (plc j x)) else st.bk k, ids := fun i => st.ids i || some j == some i } := ⟨_, rfl⟩
  have e1 : st1.ids = fun i => st.ids i || some j == some i := by rw [hst1]
  have e2 : st1.bk = fun k => if k = d then some (b (plc j x)) else st.bk k := by rw [hst1]
  have e3 : st1.sl = st.sl := by rw [hst1]
  have e4 : st1.gs = st.gs := by rw [hst1]
  rw [← hst1] at G
  have hids1 : ∀ i, st1.ids i = (st.ids i || i == j) := fun i => by
    rw [e1]
    have : (some j == some i) = (i == j) := by
      rw [Bool.eq_iff_iff, beq_iff_eq, beq_iff_eq, Option.some.injEq, eq_comm]
    simp only [this]
  obtain ⟨hk, hag, loc2, Fm2, U, hy⟩ := unf_ok x k y bs k' st1 _ _ u F2 [] hu (by
      refine VR_mono _ (envOf c st w loc S).close _ _ _ ?_ ((VR_close _ _ _ _ hc).1 hv)
      exact ⟨fun g _ => rfl, fun g h => h, fun g h => .inr h, fun i h => by simp [Env.close] at h, fun i l h => by simp [Env.close] at h, fun i g h => by simp [Env.close] at h⟩) (by rw [List.append_nil]; exact G) (fun i h1 h2 => by
      have := hf i h1 h2
      rw [hids1]
      simp [this.1, this.2])
  have R2 := U.rel.toW
  have hdn : (bs.map (·.1)).contains d = false := by
    cases hcd : (bs.map (·.1)).contains d with
    | false => rfl
    | true =>
      exfalso
      -- a new name is no old one
      have hm : d ∈ bs.map (·.1) := by simpa using hcd
      have := unf_names x k y bs k' hu d hm
      have h2 := (hf d this.1 this.2).1
      rw [hidd] at h2
      cases h2
  have hFd : Fm2 d = F1 ++ ([] ++ F3) := by
    rw [U.fm d (by rw [hids1]; simp [hidd])]
    simp
  have hld : loc2 d = loc d := by
    rw [U.loc d (by rw [hids1]; simp [hidd])]
    simp
  have hidsE : (st1.addBks bs).ids = fun i => (st.ids i || i == j) || (bs.map (·.1)).contains i := by
    funext i
    simp only [St.addBks, hids1]
  have key : ∀ (i : Nat) (l : List (Nat × Blk)) (f g : Nat → Option Blk), f i = g i → (l.foldl (fun f q => upd f q.1 (some q.2)) f) i = (l.foldl (fun f q => upd f q.1 (some q.2)) g) i := by
    intro i l
    induction l with
    | nil => exact fun f g h => h
    | cons q l ih =>
      intro f g h
      rw [List.foldl_cons, List.foldl_cons]
      refine ih _ _ ?_
      simp only [upd, h]
  have hbkE : ∀ i, i ≠ d → (st1.addBks bs).bk i = (bs.foldl (fun f q => upd f q.1 (some q.2)) st.bk) i := fun i hi => by
    simp only [St.addBks]
    refine key i bs _ _ ?_
    rw [e2]
    simp [hi]
  have hE : envOf c { st with bk := upd (bs.foldl (fun f q => upd f q.1 (some q.2)) st.bk) d (some (b y)), ids := fun i => (st.ids i || i == j) || (bs.map (·.1)).contains i } w loc2 S = envOf c (st1.addBks bs) w loc2 S := by
    simp only [envOf, hidsE]
  refine ⟨loc2, Fm2, fun i h => by rw [U.loc i (by rw [hids1]; simp [h])]; simp, fun t z hz => ?_, R2.size, R2.defers, fun p hp t z hz => by rw [hE]; exact R2.ghosts p (by simpa [St.addBks, e4] using hp) t z hz, fun i b' hi => ?_, fun i hi => ?_, fun i hi => ?_, R2.nodup, R2.disj, R2.own, R2.fram⟩
  · rw [hE]
    exact R2.slots t z (by simpa [St.addBks, e3] using hz)
  · simp only [upd] at hi
    rw [hE]
    by_cases hid : i = d
    · subst hid
      simp only [if_true, Option.some.injEq] at hi
      subst hi
      rw [hFd]
      refine hr _ y [] ⟨fun _ _ => rfl, fun _ h => h, fun _ h => .inr h, fun n h => by simp only [envOf] at h ⊢; rw [hidsE]; simp [h], fun n l h hl => by
        simp only [envOf] at h hl ⊢
        rw [U.loc n (by rw [hids1]; simp [h])] at hl
        simpa using hl, fun _ _ _ _ => rfl⟩ (by simp only [envOf]; exact hld) hy
    · simp only [if_neg hid] at hi
      exact R2.bks i b' ((hbkE i hid).trans hi)
  · simp only [upd] at hi
    by_cases hid : i = d
    · simp [hid] at hi
    · simp only [if_neg hid] at hi
      exact R2.dead i ((hbkE i hid).trans hi)
  · by_cases hid : i = d
    · simp [hid, hidd]
    · simp only [upd, if_neg hid] at hi
      have := R2.known i (by rw [hbkE i hid]; exact hi)
      rw [hidsE] at this
      exact this

theorem focus_rel {st : St} {c : Ctx} {a : Act} {w : World} {d k k' j : Nat} {b : A → Blk} {x y : A} {bs : List (Nat × Blk)} (hh : Hole b) (hb : st.bk d = some (b x)) (hc : x.closed = true) (hu : unf k x = some (y, bs, k')) (hj : st.ids j = false)
    (hf : ∀ i, k ≤ i → i < k' → st.ids i = false ∧ i ≠ j) :
    Rel c st a w → Rel c { st with bk := upd (bs.foldl (fun f q => upd f q.1 (some q.2)) st.bk) d (some (b y)), ids := fun i => (st.ids i || i == j) || (bs.map (·.1)).contains i } a w := by
  intro ⟨loc, S, Fm, R⟩
  obtain ⟨loc2, Fm2, _, R2⟩ := focus_relW R hh hb hc hu hj hf
  exact ⟨loc2, S, Fm2, R2⟩

mutual
theorem unf_nil : ∀ (x : A) (k : Nat) (y : A) (k' : Nat), unf k x = some (y, [], k') → y = x
  | .osl s xs, k, y, k', h => by simp [unf] at h
  | .box a, k, y, k', h => by simp [unf] at h
  | .agg xs, k, y, k', h => by
    simp only [unf] at h
    cases hq : unfs k xs with
    | none => simp [hq] at h
    | some q =>
      obtain ⟨ys, bs', k1⟩ := q
      simp only [hq, Option.map_some, Option.some.injEq, Prod.mk.injEq] at h
      obtain ⟨rfl, rfl, rfl⟩ := h
      rw [unfs_nil xs k ys k1 hq]
  | .clo f a c, k, y, k', h => by
    simp only [unf] at h
    split at h
    · rename_i a' bs1 k1 h1
      split at h
      · rename_i c' bs2 k2 h2
        simp only [Option.some.injEq, Prod.mk.injEq, List.append_eq_nil_iff] at h
        obtain ⟨rfl, ⟨rfl, rfl⟩, rfl⟩ := h
        rw [unfs_nil a k a' k1 h1, unfs_nil c k1 c' k2 h2]
      · simp at h
    · simp at h
  | .ifc t a, k, y, k', h => by
    simp only [unf] at h
    cases hq : unf k a with
    | none => simp [hq] at h
    | some q =>
      obtain ⟨ys, bs', k1⟩ := q
      simp only [hq, Option.map_some, Option.some.injEq, Prod.mk.injEq] at h
      obtain ⟨rfl, rfl, rfl⟩ := h
      rw [unf_nil a k ys k1 hq]
  | .arr t xs, k, y, k', h => by
    simp only [unf] at h
    split at h
    · simp only [Option.some.injEq, Prod.mk.injEq] at h
      exact h.1.symm
    · simp at h
  | .mp .., k, y, k', h | .yl _, k, y, k', h => by simp [unf] at h
  | .v _, k, y, k', h | .sl .., k, y, k', h | .rp .., k, y, k', h | .ref .., k, y, k', h | .aref .., k, y, k', h | .ptr .., k, y, k', h | .mref _, k, y, k', h | .yref _, k, y, k', h => by
    simp [unf, A.noown] at h
    exact h.1.symm
  | .und, k, y, k', h | .tup _, k, y, k', h => by simp [unf, A.noown] at h
theorem unfs_nil : ∀ (xs : List A) (k : Nat) (ys : List A) (k' : Nat), unfs k xs = some (ys, [], k') → ys = xs
  | [], k, ys, k', h => by
    simp only [unfs, Option.some.injEq, Prod.mk.injEq] at h
    exact h.1.symm
  | x :: xs, k, ys, k', h => by
    simp only [unfs] at h
    split at h
    · rename_i y bs1 k1 h1
      split at h
      · rename_i ys' bs2 k2 h2
        simp only [Option.some.injEq, Prod.mk.injEq, List.append_eq_nil_iff] at h
        obtain ⟨rfl, ⟨rfl, rfl⟩, rfl⟩ := h
        rw [unf_nil x k y k1 h1, unfs_nil xs k1 ys' k2 h2]
      · simp at h
    · simp at h
end
end Go.PA

/- PA29: runs of operations. -/
namespace Go.PA

/-- What an operation looked at and wrote: blocks read, blocks written, new names. -/
structure FP where
  rs : List Nat
  ws : List Nat
  nw : List Nat

def goFn (P : Program) (f : FuncId) : Bool :=
  match P.funcs[f]? with
  | some fn => !(fn.name == "runtime.NumGoroutine") && fn.body.isSome
  | none => false

def wantedA (ops : Array Oper) (st : St) (o : Oper) : Option Bool :=
  match o.guard with
  | none => some true
  | some (j, want) => match (ops[j]?).bind (·.dst) with
    | some t => match st.sl t with
      | some (.v (.bool b)) => some (b == want)
      | some .und => some false
      | _ => none
    | none => none

def resA : List A → A
  | [z] => z
  | zs => .tup zs

def St.go (st : St) (dst : Option Nat) (z : A) (up : List (Nat × Option Blk)) (nw : List Nat) : St := (st.app ⟨z, up, nw⟩).put dst (some z)

/-- The slot written is the frame's, and none of those that are kept. -/
def okDst (n : Nat × List Bool) (o : Oper) : Bool :=
  match o.dst with
  | some d => decide (d < n.1) && !n.2.getD d false
  | none => true

/-- Nil slices in what has been built get names; the further names. -/
def nilE (nid : Nat) (o : Oper) (eff : Eff) : Option (Eff × List Nat) :=
  match o.op with
  | .build .. => if eff.val.noown then some (eff, []) else if eff.new.isEmpty then
      (unf (nid + 1) eff.val).map fun q => (⟨q.1, eff.up ++ q.2.1.map (fun b => (b.1, some b.2)), eff.new ++ q.2.1.map (·.1)⟩, q.2.1.map (·.1)) else none
  | .alloc _ => match eff.up with
    | [(d, some (.var z))] => if z.noown then some (eff, []) else if z.closed && eff.new == [d] then match unf (nid + 1) z with
        | some (y, bs, k') => if k' ≤ nid + 63 ∧ d = nid then
            some (⟨eff.val, eff.up ++ (bs.map (fun b => (b.1, some b.2)) ++ [(d, some (.var y))]), eff.new ++ (bs.map (·.1) ++ [nid + 63])⟩, (bs.map (·.1) ++ [nid + 63])) else none
        | none => none else none
    | _ => some (eff, [])
  | _ => some (eff, [])

/-- One operation. -/
inductive Stp (P : Program) (M : FuncId → List Bool) (n : Nat × List Bool) (ops : Array Oper) (i : Nat) (o : Oper) (st : St) : A → List (Nat × Option Blk) → List Nat → List Nat → Prop
  | skip (hw : wantedA ops st o = some false) : Stp P M n ops i o st .und [] [] []
  | plain (hw : wantedA ops st o = some true) {xs : List A} (hx : o.op.operands.toList.mapM (aval st.sl) = some xs) (hn : allocs o.op = true → st.ids (st.ep + 64 * i) = false)
      {eff : Eff} {rd : List Nat} (r : RM.Runs st.bk (aeff P (st.ep + 64 * i) o xs) eff rd) : Stp P M n ops i o st eff.val eff.up eff.new rd
  | named (hw : wantedA ops st o = some true) {xs : List A} (hx : o.op.operands.toList.mapM (aval st.sl) = some xs) (hn : allocs o.op = true → st.ids (st.ep + 64 * i) = false)
      {eff eff' : Eff} {rd ex : List Nat} (r : RM.Runs st.bk (aeff P (st.ep + 64 * i) o xs) eff rd) (he : nilE (st.ep + 64 * i) o eff = some (eff', ex)) (hf : ∀ d ∈ eff'.new, st.ids d = false) :
      Stp P M n ops i o st eff'.val eff'.up eff'.new rd
  | call (hw : wantedA ops st o = some true) {cl : Call} {x0 : Operand} (ho : o.op = .call cl) (hc : cl.callee = .value x0) {f : FuncId} {first caps args : List A}
      (hx : aval st.sl x0 = some (.clo (.func f) first caps)) (ha : cl.args.toList.mapM (aval st.sl) = some args) (hgd : args.all A.good = true) (hg : goFn P f = true) (hlen : (M f).length = (first ++ args ++ caps).length)
      {q : List A × List Nat} {rd : List Nat} (r : RM.Runs st.bk (handOver 64 ((M f).zip (first ++ args ++ caps))) q rd) {res : List A} {back : List (Option A)} (hf : FS P f q.1 (.ret res back))
      {ys : List A} {up : List (Nat × Option Blk)} {nw : List Nat} (he : aCallEff (st.ep + 64 * i) ((M f).zip (first ++ args ++ caps)) q.2 res back = some (ys, up, nw)) (hfr : ∀ d ∈ nw, st.ids d = false) : Stp P M n ops i o st (resA ys) up nw rd

inductive Run (P : Program) (M : FuncId → List Bool) (n : Nat × List Bool) (ops : Array Oper) : List (Nat × FP) → St → St → Prop
  | nil (st : St) : Run P M n ops [] st st
  | cons {i : Nat} {o : Oper} {st st' : St} {z : A} {up : List (Nat × Option Blk)} {nw rs : List Nat} {l : List (Nat × FP)} (ho : ops[i]? = some o) (hd : okDst n o = true)
      (s : Stp P M n ops i o st z up nw rs) (r : Run P M n ops l (st.go o.dst z up nw) st') : Run P M n ops ((i, ⟨rs, up.map (·.1), nw⟩) :: l) st st'

section
variable {P : Program} {M : FuncId → List Bool} {ops : Array Oper} {c : Ctx} {st : St} {a : Act} {w : World}

theorem wantedA_ok {loc : Nat → Option (Option Nat)} {S : Nat → Prop} {Fm : Nat → List Nat} (R : RelW c st a w loc S Fm) {o : Oper} {b : Bool} (h : wantedA ops st o = some b) : Region.wanted o (yielded ops a.tmps) = b := by
  unfold wantedA at h
  unfold Region.wanted
  split at h
  · rename_i hg
    injection h with h
    rw [hg, ← h]
  · rename_i j want hg
    rw [hg]
    dsimp only
    split at h
    · rename_i t ht
      unfold yielded
      rw [ht]
      simp only [Option.bind_some]
      split at h
      · rename_i b' hs
        injection h with h
        have := R.slots t _ hs
        rw [TV_v] at this
        have h2 := this.2
        rw [Array.getD_eq_getD_getElem?] at h2
        cases hq : a.tmps[t]? with
        | none => rw [hq] at h2; simp [undef] at h2
        | some v =>
          rw [hq] at h2
          simp only [Option.getD_some] at h2
          subst h2 h
          cases b' <;> cases want <;> rfl
      · rename_i hs
        injection h with h
        have h2 : a.tmps.getD t undef = undef := R.slots t _ hs
        rw [Array.getD_eq_getD_getElem?] at h2
        cases hq : a.tmps[t]? with
        | none => subst h; rfl
        | some v =>
          rw [hq] at h2
          simp only [Option.getD_some] at h2
          subst h2 h
          rfl
      · cases h
    · cases h

theorem run_callFunc {f : FuncId} {args : Array Value} (h : goFn P f = true) : (callFunc f args).run P w = .ok (.enter f args) w := by
  unfold goFn at h
  split at h
  · rename_i fn hf
    simp only [Bool.and_eq_true, Bool.not_eq_true', beq_eq_false_iff_ne] at h
    have h2 : fn.body ≠ none := by
      intro hb
      rw [hb] at h
      simp at h
    simp [callFunc, hf, h.1, h2]
  · cases h

theorem VVs_append : ∀ {xs ys : List A} {e : Env} {vs us : List Value} {F G : List Nat}, VVs xs e vs F → VVs ys e us G → VVs (xs ++ ys) e (vs ++ us) (F ++ G)
  | [], ys, e, vs, us, F, G, h, h' => by
    simp only [VVs] at h
    obtain ⟨rfl, rfl⟩ := h
    simpa using h'
  | x :: xs, ys, e, vs, us, F, G, h, h' => by
    simp only [VVs] at h
    obtain ⟨y, vs', F1, F2, rfl, rfl, h1, h2⟩ := h
    simp only [List.cons_append, VVs]
    exact ⟨y, vs' ++ us, F1, F2 ++ G, rfl, by simp, h1, VVs_append h2 h'⟩

theorem zip_snd {ms : List Bool} {xs : List A} (h : ms.length = xs.length) : (ms.zip xs).map (·.2) = xs := by
  induction ms generalizing xs with
  | nil => cases xs with
    | nil => rfl
    | cons => simp at h
  | cons m ms ih => cases xs with
    | nil => simp at h
    | cons x xs => simp at h; simp [ih h]

theorem resRel_TV {e : Env} {ys : List A} {v : Value} (h : resRel e ys v []) : TV (resA ys) e v := by
  match ys, h with
  | [z], h => exact (TV_good (VV_isAgg h)).2 h
  | [], ⟨vs, hv, h2⟩ => exact ⟨vs, hv, h2⟩
  | z :: z' :: zs, ⟨vs, hv, h2⟩ => exact ⟨vs, hv, h2⟩

/-- The results as values one by one. -/
theorem resRel_vals {e : Env} {ys : List A} {v : Value} {F : List Nat} (h : resRel e ys v F) : ∃ vs, VVs ys e vs F ∧ ∀ {e' : Env} {zs : List A}, zs.length = ys.length → VVs zs e' vs [] → resRel e' zs v [] := by
  unfold resRel at h
  split at h
  · rename_i r
    refine ⟨[v], ?_, fun {e' zs} hl hz => ?_⟩
    · simp only [VVs]
      exact ⟨v, [], F, [], rfl, by simp, h, rfl, rfl⟩
    · match zs, hl with
      | [z], _ =>
        simp only [VVs] at hz
        obtain ⟨y, vs', F1, F2, hv, hF, h1, h2, h3⟩ := hz
        simp at hF hv
        obtain ⟨rfl, rfl⟩ := hF
        obtain ⟨rfl, rfl⟩ := hv
        exact h1
  · rename_i hne
    obtain ⟨vs, rfl, h2⟩ := h
    refine ⟨vs, h2, fun {e' zs} hl hz => ?_⟩
    unfold resRel
    split
    · rename_i r
      match ys, hl with
      | [y], _ => exact (hne y rfl).elim
    · exact ⟨vs, rfl, hz⟩

end
end Go.PA

/- PA30: one operation is sound; runs of operations are. -/
namespace Go.PA
structure Cx extends Ctx where
  kb : List Bool
  gh : Nat → Value
  ro : Option Nat := none

/-- The widest fence, in a round or not. -/
def fc (ro : Option Nat) : Fence := { Fence.wide with round := ro }
theorem fc_callsIn {ro : Option Nat} {m : Nat} {P : Program} {f : FuncId} {args : Array Value} {w : World} {R : Ending → World → Prop} (h : Calls P f args w R) : CallsIn (fc ro) m P f args w R := by
  have h := (callsIn_wide (n := m)).2 h
  cases ro with
  | none => exact h
  | some l => exact h.inRound l
theorem fc_enter {ro : Option Nat} : (fc ro).depth.isSome = true → 1 ≤ 0 := fun h => by cases h
/-- What stands in a round's place. -/
def roundKb : List Bool := List.replicate 1000 false
theorem repl_getD : ∀ (n t : Nat), (List.replicate n false).getD t false = false
  | 0, _ => rfl
  | n + 1, 0 => rfl
  | n + 1, t + 1 => by rw [List.replicate_succ, List.getD_cons_succ]; exact repl_getD n t
theorem roundKb_getD (t : Nat) : roundKb.getD t false = false := repl_getD 1000 t
theorem roundKb_len : roundKb.length = 1000 := List.length_replicate
def Cx.N (c : Cx) : Nat × List Bool := (c.n, match c.ro with | none => c.kb | some _ => roundKb)
theorem Cx.ro_none {c : Cx} (h : c.N.2.length < 1000) : c.ro = none := by
  unfold Cx.N at h
  cases hr : c.ro with
  | none => rfl
  | some l => rw [hr] at h; exact absurd h (by rw [roundKb_len]; omega)

/-- The state stands for the frame and the world. -/
def Rl (c : Cx) (st : St) (a : Act) (w : World) : Prop := Rel c.toCtx st a w ∧ ∀ t, c.N.2.getD t false = true → a.tmps.getD t undef = c.gh t

theorem okDst_lt {n : Nat × List Bool} {o : Oper} (h : okDst n o = true) (d : Nat) (hd : o.dst = some d) : d < n.1 := by
  simp only [okDst, hd, Bool.and_eq_true, decide_eq_true_eq] at h
  exact h.1

theorem kept_put {c : Cx} {a : Act} {o : Oper} {v : Value} (h : okDst c.N o = true) (hk : ∀ t, c.N.2.getD t false = true → a.tmps.getD t undef = c.gh t) :
    ∀ t, c.N.2.getD t false = true → (a.put o.dst v).tmps.getD t undef = c.gh t := by
  intro t ht
  cases hd : o.dst with
  | none => exact hk t ht
  | some d =>
    simp only [okDst, hd, Bool.and_eq_true, Bool.not_eq_true'] at h
    simp only [Act.put, getD_setIfInBounds]
    rw [if_neg (fun e => ?_)]
    · exact hk t ht
    · rw [← e.1, ht] at h
      cases h.2

section
variable {P : Program} {M : FuncId → List Bool} {ops : Array Oper} {c : Cx} {st : St} {a : Act} {w : World} {Q : Exit → Act → World → Prop}

theorem VVs_length : ∀ {xs : List A} {e : Env} {vs : List Value} {F : List Nat}, VVs xs e vs F → vs.length = xs.length
  | [], e, vs, F, h => by
    simp only [VVs] at h
    simp [h.1]
  | x :: xs, e, vs, F, h => by
    simp only [VVs] at h
    obtain ⟨y, vs', F1, F2, rfl, rfl, h1, h2⟩ := h
    simp [VVs_length h2]

theorem TV_all {e : Env} {f : Operand → Value} : ∀ {l : List Operand} {xs : List A}, All2 (fun x z => TV z e (f x)) l xs → xs.all A.good = true → VVs xs e (l.map f) [] := VVs_of_All2

theorem VVs_closure {e : Env} {f : Fn} {first caps : List A} {y : Value} (h : TV (.clo f first caps) e y) :
    ∃ fvs cvs, y = .func f fvs.toArray cvs.toArray ∧ VVs first e fvs [] ∧ VVs caps e cvs [] := by
  rw [TV_good rfl, VV_mk rfl] at h
  simp only [VR] at h
  obtain ⟨fvs, cvs, Ff, Fc, hv, hF, h1, h2⟩ := h
  simp at hv hF
  obtain ⟨rfl, rfl⟩ := hF
  exact ⟨fvs, cvs, hv, h1, h2⟩

theorem St.app_ids {eff : Eff} {d : Nat} : (st.app eff).ids d = (st.ids d || eff.new.contains d) := rfl

theorem unf_good {x y : A} {k k' : Nat} {bs : List (Nat × Blk)} (h : unf k x = some (y, bs, k')) : y.good = true := by
  cases x with
  | osl s xs => simp only [unf, Option.some.injEq, Prod.mk.injEq] at h; rw [← h.1]; rfl
  | box s => simp only [unf, Option.some.injEq, Prod.mk.injEq] at h; rw [← h.1]; rfl
  | agg xs =>
    simp only [unf] at h
    cases hq : unfs k xs with
    | none => simp [hq] at h
    | some q =>
      simp only [hq, Option.map_some, Option.some.injEq, Prod.mk.injEq] at h
      rw [← h.1]; rfl
  | ifc t a =>
    simp only [unf] at h
    cases hq : unf k a with
    | none => simp [hq] at h
    | some q =>
      simp only [hq, Option.map_some, Option.some.injEq, Prod.mk.injEq] at h
      rw [← h.1]; rfl
  | clo f a c =>
    simp only [unf] at h
    split at h
    · split at h
      · simp only [Option.some.injEq, Prod.mk.injEq] at h
        rw [← h.1]; rfl
      · simp at h
    · simp at h
  | arr t xs =>
    simp only [unf] at h
    split at h
    · simp only [Option.some.injEq, Prod.mk.injEq] at h
      rw [← h.1]; rfl
    · simp at h
  | mp _ _ => simp only [unf, Option.some.injEq, Prod.mk.injEq] at h; rw [← h.1]; rfl
  | yl _ => simp only [unf, Option.some.injEq, Prod.mk.injEq] at h; rw [← h.1]; rfl
  | v _ | sl _ _ | rp _ _ | ref _ _ _ _ _ | aref _ _ _ _ _ | ptr _ _ | mref _ | yref _ =>
    simp [unf, A.noown] at h
    rw [← h.1]; rfl
  | und | tup _ => simp [unf, A.noown] at h

/-- Naming what is nil. -/
theorem nilE_ok {c : Ctx} {a : Act} {w : World} {loc : Nat → Option (Option Nat)} {S : Nat → Prop} {Fm : Nat → List Nat} {nid : Nat} {o : Oper} {eff eff' : Eff} {ex : List Nat} {y : Value} (R : RelW c (st.app eff) a w loc S Fm) (ht : TV eff.val (envOf c (st.app eff) w loc S) y)
    (he : nilE nid o eff = some (eff', ex)) (hf : ∀ d ∈ eff'.new, st.ids d = false) : ∃ loc' S' Fm', RelW c (st.app eff') a w loc' S' Fm' ∧ TV eff'.val (envOf c (st.app eff') w loc' S') y := by
  have same : some (eff, ([] : List Nat)) = some (eff', ex) → ∃ loc' S' Fm', RelW c (st.app eff') a w loc' S' Fm' ∧ TV eff'.val (envOf c (st.app eff') w loc' S') y := fun h => by
    injection h with h; injection h with h _; subst h
    exact ⟨loc, S, Fm, R, ht⟩
  unfold nilE at he
  split at he
  · split at he
    · exact same he
    split at he
    · rename_i hem
      have hem : eff.new = [] := by simpa using hem
      cases hu : unf (nid + 1) eff.val with
      | none => simp [hu] at he
      | some q =>
        obtain ⟨z, bs, k'⟩ := q
        simp only [hu, Option.map_some, Option.some.injEq, Prod.mk.injEq] at he
        obtain ⟨rfl, rfl⟩ := he
        have hg : eff.val.good = true := by
          cases hv : eff.val <;> rw [hv] at hu <;> first | rfl | simp [unf, A.noown] at hu
        have hst : (st.app eff).addBks bs = st.app ⟨z, eff.up ++ bs.map (fun b => (b.1, some b.2)), eff.new ++ bs.map (·.1)⟩ := by
          simp only [St.addBks, St.app, List.foldl_append, foldl_some, St.mk.injEq, true_and, and_true]
          funext d
          rw [List.contains_append, Bool.or_assoc]
        have go : ∀ vs, VR eff.val (envOf c (st.app eff) w loc S) vs [] → z.isAgg = eff.val.isAgg ∧ ∃ loc' Fm', RelW c (st.app ⟨z, eff.up ++ bs.map (fun b => (b.1, some b.2)), eff.new ++ bs.map (·.1)⟩) a w loc' S Fm' ∧ VR z (envOf c (st.app ⟨z, eff.up ++ bs.map (fun b => (b.1, some b.2)), eff.new ++ bs.map (·.1)⟩) w loc' S) vs [] := fun vs h => by
          obtain ⟨_, h1, loc', Fm', U, h2⟩ := unf_ok eff.val (nid + 1) z bs k' (st.app eff) loc Fm vs [] [] hu h R.toG (fun i hi hi' => by
            have := hf i (List.mem_append_right _ (unf_ids eff.val _ z bs k' hu i hi hi'))
            simpa [St.app, hem] using this)
          rw [hst] at h2
          have := U.rel
          rw [hst] at this
          exact ⟨h1, loc', Fm', this.toW, h2⟩
        rw [TV_good hg] at ht
        have hgz : z.good = true := unf_good hu
        rcases ht with ⟨h1, cs, h2, h3⟩ | ⟨h1, h3⟩
        · obtain ⟨h4, loc', Fm', h5, h6⟩ := go _ h3
          refine ⟨loc', S, Fm', h5, ?_⟩
          rw [TV_good hgz]
          exact .inl ⟨h4.trans h1, cs, h2, h6⟩
        · obtain ⟨h4, loc', Fm', h5, h6⟩ := go _ h3
          refine ⟨loc', S, Fm', h5, ?_⟩
          rw [TV_good hgz]
          exact .inr ⟨h4.trans h1, h6⟩
    · cases he
  · split at he
    · rename_i d z hup
      split at he
      · exact same he
      · split at he
        · rename_i hcl
          simp only [Bool.and_eq_true, beq_iff_eq] at hcl
          split at he
          · rename_i z' bs k' hu
            split at he
            · rename_i hk
              obtain ⟨hk, rfl⟩ := hk
              simp only [Option.some.injEq, Prod.mk.injEq] at he
              obtain ⟨rfl, rfl⟩ := he
              have hb : (st.app eff).bk d = some (.var z) := by
                simp [St.app, hup, upd]
              obtain ⟨loc2, Fm2, hl, R2⟩ := focus_relW R (k := d + 1) (j := d + 63) Hole.var hb hcl.1 hu (by
                have := hf (d + 63) (by simp)
                simp [St.app, hcl.2, this]) (fun i h1 h2 => ⟨by
                have := hf i (List.mem_append_right _ (List.mem_append_left _ (unf_ids z _ z' bs k' hu i h1 h2)))
                simp [St.app, hcl.2, this]
                omega, by omega⟩)
              have hst : ({ st.app eff with bk := upd (bs.foldl (fun f q => upd f q.1 (some q.2)) (st.app eff).bk) d (some (.var z')), ids := fun i => ((st.app eff).ids i || i == d + 63) || (bs.map (·.1)).contains i } : St)
                  = st.app ⟨eff.val, eff.up ++ (bs.map (fun b => (b.1, some b.2)) ++ [(d, some (.var z'))]), eff.new ++ (bs.map (·.1) ++ [d + 63])⟩ := by
                simp only [St.app, List.foldl_append, foldl_some, List.foldl_cons, List.foldl_nil, St.mk.injEq, true_and, and_true]
                funext i
                simp only [List.contains_append, List.contains_cons, List.contains_nil, Bool.or_false]
                cases st.ids i <;> cases eff.new.contains i <;> cases (bs.map (·.1)).contains i <;> cases (i == d + 63) <;> rfl
              rw [hst] at R2
              rw [← hst]
              rw [← hst] at R2
              refine ⟨loc2, S, Fm2, R2, ?_⟩
              have hle : (envOf c (st.app eff) w loc S).Le (envOf c { st.app eff with bk := upd (bs.foldl (fun f q => upd f q.1 (some q.2)) (st.app eff).bk) d (some (.var z')), ids := fun i => ((st.app eff).ids i || i == d + 63) || (bs.map (·.1)).contains i } w loc2 S) [] := by
                refine ⟨fun _ _ => rfl, fun _ h => h, fun _ h => .inr h, fun i h => ?_, fun i l h hl' => ?_, fun _ _ _ _ => rfl⟩
                · simp only [envOf] at h ⊢
                  simp only [h, Bool.true_or]
                · simp only [envOf] at h hl' ⊢
                  rw [← hl i h]
                  exact hl'
              exact TV_mono hle ht
            · cases he
          · cases he
        · cases he
    · exact same he
  · exact same he

theorem Stp.sound {i : Nat} {o : Oper} {z : A} {up : List (Nat × Option Blk)} {nw rs : List Nat} (ho : ops[i]? = some o) (hd : okDst c.N o = true)
    (s : Stp P M c.N ops i o st z up nw rs) (R : Rl c st a w) {K : Act → World → Prop} (hK : ∀ a' w', Rl c (st.go o.dst z up nw) a' w' → K a' w') : wpOpIn (fc c.ro) 0 P ops Q i K a w := by
  obtain ⟨⟨loc, S, Fm, R⟩, hkp⟩ := R
  unfold wpOpIn
  rw [ho]
  dsimp only
  cases s with
  | skip hw =>
    rw [wantedA_ok R hw]
    simp only [Bool.false_eq_true, if_false]
    refine ⟨fun _ _ => trivial, hK _ _ ⟨⟨loc, S, Fm, ?_⟩, kept_put hd hkp⟩⟩
    unfold St.go
    rw [St.app_nil]
    exact R.put _ _ _ (okDst_lt hd) (fun z hz => by injection hz with hz; subst hz; rfl)
  | plain hw hx hn r =>
    rename_i xs eff
    rw [wantedA_ok R hw]
    simp only [if_true]
    have hnd : ∀ k, o.op ≠ .defer k := fun k e => by
      simp only [aeff, e] at r
      exact (runs_fail r).elim
    refine ⟨fun _ _ => trivial, ?_⟩
    rw [Oper.semAt_eq _ _ _ hnd]
    obtain ⟨nx, y, w', loc', S', Fm', hrun, hnx, R', ht⟩ := aeff_sound R (mapM_aval (fun x z hz => R.eval x z hz) _ _ hx) hn r
    rw [hrun]
    rcases hnx with rfl | ⟨rfl, rfl⟩
    · exact hK _ _ ⟨⟨loc', S', Fm', R'.put _ _ _ (okDst_lt hd) (fun z hz => by injection hz with hz; subst hz; exact ht)⟩, kept_put hd hkp⟩
    · exact hK _ _ ⟨⟨loc', S', Fm', R'.put _ _ _ (okDst_lt hd) (fun z hz => by injection hz with hz; subst hz; exact ht)⟩, kept_put hd hkp⟩
  | named hw hx hn r he hf =>
    rename_i xs eff eff' ex
    rw [wantedA_ok R hw]
    simp only [if_true]
    have hnd : ∀ k, o.op ≠ .defer k := fun k e => by
      simp only [aeff, e] at r
      exact (runs_fail r).elim
    refine ⟨fun _ _ => trivial, ?_⟩
    rw [Oper.semAt_eq _ _ _ hnd]
    obtain ⟨nx, y, w', loc', S', Fm', hrun, hnx, R', ht⟩ := aeff_sound R (mapM_aval (fun x z hz => R.eval x z hz) _ _ hx) hn r
    obtain ⟨loc2, S2, Fm2, R2, ht2⟩ := nilE_ok R' ht he hf
    rw [hrun]
    rcases hnx with rfl | ⟨rfl, rfl⟩
    · exact hK _ _ ⟨⟨loc2, S2, Fm2, R2.put _ _ _ (okDst_lt hd) (fun z hz => by injection hz with hz; subst hz; exact ht2)⟩, kept_put hd hkp⟩
    · exact hK _ _ ⟨⟨loc2, S2, Fm2, R2.put _ _ _ (okDst_lt hd) (fun z hz => by injection hz with hz; subst hz; exact ht2)⟩, kept_put hd hkp⟩
  | call hw hop hc hx ha hgd hg hlen r hf he hfr =>
    rename_i cl x0 f first caps args q res back ys
    rw [wantedA_ok R hw]
    simp only [if_true]
    have hnd : ∀ k, o.op ≠ .defer k := fun k e => by rw [hop] at e; cases e
    refine ⟨fun _ _ => trivial, ?_⟩
    rw [Oper.semAt_eq _ _ _ hnd]
    obtain ⟨fvs, cvs, hy, h1, h2⟩ := VVs_closure (R.eval _ _ hx)
    have hargs := mapM_aval (fun x z hz => R.eval x z hz) _ _ ha
    have hav := TV_all hargs hgd
    have hvs := VVs_append (VVs_append h1 hav) h2
    simp only [List.append_nil] at hvs
    have hvs' := hvs
    rw [← zip_snd hlen] at hvs'
    obtain ⟨F, hq, T⟩ := handOver_sound R hvs' r
    have hown : ∀ g ∈ F, ¬ S g ∧ ¬ lentB c.toCtx Fm ((M f).zip (first ++ args ++ caps)) q.2 g ∧ g < w.heap.size := fun g hg => by
      rcases T.sub g hg with h | ⟨d, hd1, _, hd2⟩
      · simp at h
      · obtain ⟨o1, o2, o3, _⟩ := R.own d g hd2
        refine ⟨o1, fun hl => ?_, o3⟩
        unfold lentB at hl
        split at hl
        · rcases hl with hl | ⟨d', h3, h4⟩
          · exact o2 hl
          · exact R.disj d d' (fun e => h3 (e ▸ hd1)) g hd2 h4
        · exact o2 hl
    have hbd : ∀ g, S g ∨ lentB c.toCtx Fm ((M f).zip (first ++ args ++ caps)) q.2 g → g < w.heap.size := fun g hg => by
      rcases hg with hg | hg
      · exact R.fram.bd g (.inl hg)
      · unfold lentB at hg
        split at hg
        · rcases hg with hg | ⟨d, _, hd⟩
          · exact R.fram.bd g (.inr hg)
          · exact (R.own d g hd).2.2.1
        · exact R.fram.bd g (.inr hg)
    have hcall := hf w S _ _ F hq T.nodup hown hbd
    have hexec : (execOp a.eval o).run P w = .ok (.enter f (fvs ++ cl.args.toList.map a.eval ++ cvs).toArray) w := by
      have : execOp a.eval o = callFunc f (fvs.toArray ++ cl.args.map a.eval ++ cvs.toArray) := by
        simp only [execOp, hop, resolve, hc, hy, Deferred.ofValue, invoke]
        rfl
      rw [this, run_callFunc hg]
      congr 2
      simp
    rw [hexec, Oper.uponIn_enter]
    refine ⟨fc_enter, CallsIn.mono (fc_callsIn hcall) ?_⟩
    rintro e w' ⟨S', F', hfr', hnd, hF', hm⟩
    cases e with
    | returned v =>
      obtain ⟨Fr, Fb, hFF, hres, hback⟩ := hm
      obtain ⟨rvs, hrv, hback2⟩ := resRel_vals hres
      obtain ⟨loc', Fm', R', hV⟩ := call_after (z := resA ys) R hvs' T hfr' hnd hF' hFF hrv hback he hfr
      refine hK _ _ ⟨⟨loc', S', Fm', R'.put _ _ _ (okDst_lt hd) (fun z hz => ?_)⟩, kept_put hd hkp⟩
      injection hz with hz
      subst hz
      exact resRel_TV (hback2 (by rw [← VVs_length hV, VVs_length hrv]) hV)
    | panicked ch => exact hm.elim
    | outgrown => exact hm.elim

theorem Run.sound {l : List (Nat × FP)} {st st' : St} (r : Run P M c.N ops l st st') : ∀ {a : Act} {w : World}, Rl c st a w → (∀ a' w', Rl c st' a' w' → Q .normal a' w') → wpOpsIn (fc c.ro) 0 P ops Q (l.map (·.1)) a w := by
  induction r with
  | nil st => exact fun R hQ => hQ _ _ R
  | cons ho hd s r ih =>
    intro a w R hQ
    rw [List.map_cons, wpOpsIn_cons]
    exact s.sound ho hd R fun a' w' R' => ih R' hQ

end
end Go.PA

/- PA31: operations that have nothing to do with each other may change places. -/
namespace Go.PA

def St.adv (st : St) (dst : Option Nat) (z : A) (up : List (Nat × Option Blk)) (nw : List Nat) : St := st.go dst z up nw

/-- Two operations apart. -/
def indep (ops : Array Oper) (ep : Nat) (x y : Nat × FP) : Bool :=
  match ops[x.1]?, ops[y.1]? with
  | some ox, some oy => ox.apart ops oy && x.2.ws.all (fun d => !(y.2.rs.contains d || y.2.ws.contains d)) && y.2.ws.all (fun d => !x.2.rs.contains d) &&
      x.2.nw.all (fun d => !(y.2.nw.contains d || d == ep + 64 * y.1)) && y.2.nw.all (fun d => !(d == ep + 64 * x.1))
  | _, _ => false

section
variable {P : Program} {M : FuncId → List Bool} {n : Nat × List Bool} {ops : Array Oper} {st st2 : St}

theorem wantedA_congr {o : Oper} (h : ∀ t ∈ o.looksAt ops, st2.sl t = st.sl t) : wantedA ops st2 o = wantedA ops st o := by
  unfold wantedA
  cases hg : o.guard with
  | none => rfl
  | some q =>
    obtain ⟨j, want⟩ := q
    dsimp only
    cases ht : (ops[j]?).bind (·.dst) with
    | none => rfl
    | some t =>
      dsimp only
      rw [h t (by simp [Oper.looksAt, hg, ht])]

theorem aval_congr {sl sl2 : Nat → Option A} {x : Operand} (h : ∀ t, x = .tmp t → sl2 t = sl t) : aval sl2 x = aval sl x := by
  cases x with
  | tmp t => exact h t rfl
  | _ => rfl

theorem mapM_congr' {sl sl2 : Nat → Option A} : ∀ {l : List Operand}, (∀ t, .tmp t ∈ l → sl2 t = sl t) → l.mapM (aval sl2) = l.mapM (aval sl)
  | [], _ => rfl
  | x :: l, h => by
    simp only [List.mapM_cons]
    rw [aval_congr (fun t ht => h t (by simp [ht])), mapM_congr' (fun t ht => h t (by simp [ht]))]

theorem looks_op {o : Oper} {t : Nat} (h : .tmp t ∈ o.op.operands.toList) : t ∈ o.looksAt ops :=
  List.mem_append_left _ (List.mem_filterMap.2 ⟨.tmp t, h, rfl⟩)

theorem Stp.local {i : Nat} {o : Oper} {z : A} {up : List (Nat × Option Blk)} {nw rs : List Nat} (s : Stp P M n ops i o st z up nw rs)
    (h1 : ∀ t ∈ o.looksAt ops, st2.sl t = st.sl t) (h2 : ∀ d ∈ rs, st2.bk d = st.bk d) (h3 : st2.ep = st.ep) (h4 : ∀ d, d ∈ nw ∨ d = st.ep + 64 * i → st2.ids d = st.ids d) : Stp P M n ops i o st2 z up nw rs := by
  cases s with
  | skip hw => exact .skip ((wantedA_congr h1).trans hw)
  | plain hw hx hn r =>
    refine .plain ((wantedA_congr h1).trans hw) ((mapM_congr' fun t ht => h1 t (looks_op ht)).trans hx) (fun ha => ?_) ?_
    · rw [h3, h4 _ (.inr rfl)]; exact hn ha
    · rw [h3]; exact r.local h2
  | named hw hx hn r he hf =>
    refine .named ((wantedA_congr h1).trans hw) ((mapM_congr' fun t ht => h1 t (looks_op ht)).trans hx) (fun ha => ?_) (eff := _) ?_ (by rw [h3]; exact he) (fun d hd => by rw [h4 d (.inl hd)]; exact hf d hd)
    · rw [h3, h4 _ (.inr rfl)]; exact hn ha
    · rw [h3]; exact r.local h2
  | call hw hop hc hx ha hgd hg hlen r hf he hfr =>
    rename_i cl x0 f first caps args q res back ys
    have hl : ∀ t, .tmp t ∈ o.op.operands.toList → st2.sl t = st.sl t := fun t ht => h1 t (looks_op ht)
    simp only [hop, Op.operands, Call.operands, hc] at hl
    refine .call ((wantedA_congr h1).trans hw) hop hc ((aval_congr fun t ht => hl t (by simp [ht])).trans hx) ((mapM_congr' fun t ht => hl t (by simp at ht ⊢; exact .inr ht)).trans ha) hgd hg hlen (r.local h2) hf ?_ (fun d hd => ?_)
    · rw [h3]; exact he
    · rw [h4 d (.inl hd)]; exact hfr d hd

theorem put_sl {st : St} {dst : Option Nat} {z : Option A} {t : Nat} : (st.put dst z).sl t = if dst = some t then z else st.sl t := by
  cases dst with
  | none => simp [St.put]
  | some d =>
    simp only [St.put, upd_app, Option.some.injEq]
    by_cases h : t = d
    · simp [h]
    · rw [if_neg h, if_neg (fun e => h e.symm)]
theorem put_bk {st : St} {dst : Option Nat} {z : Option A} : (st.put dst z).bk = st.bk := by cases dst <;> rfl
theorem put_ids {st : St} {dst : Option Nat} {z : Option A} : (st.put dst z).ids = st.ids := by cases dst <;> rfl
theorem put_ep {st : St} {dst : Option Nat} {z : Option A} : (st.put dst z).ep = st.ep := by cases dst <;> rfl

theorem foldl_upd2 {up : List (Nat × Option Blk)} : ∀ {f : Nat → Option Blk} {d : Nat}, d ∉ up.map (·.1) → (up.foldl (fun f q => upd f q.1 q.2) f) d = f d := by
  induction up with
  | nil => exact fun _ => rfl
  | cons q up ih =>
    intro f d h
    simp only [List.map_cons, List.mem_cons, not_or] at h
    simp only [List.foldl_cons]
    rw [ih h.2, upd_app, if_neg h.1]
theorem foldl_upd3 {up : List (Nat × Option Blk)} : ∀ {f g : Nat → Option Blk} {d : Nat}, (d ∈ up.map (·.1) ∨ f d = g d) → (up.foldl (fun f q => upd f q.1 q.2) f) d = (up.foldl (fun f q => upd f q.1 q.2) g) d := by
  induction up with
  | nil => exact fun h => by simpa using h
  | cons q up ih =>
    intro f g d h
    simp only [List.foldl_cons]
    refine ih ?_
    by_cases hq : d = q.1
    · exact .inr (by simp [upd, hq])
    · simp only [List.map_cons, List.mem_cons, hq, false_or] at h
      exact h.imp id fun h => by simp [upd, hq, h]

theorem foldl_comm {up up2 : List (Nat × Option Blk)} {f : Nat → Option Blk} (h : ∀ d ∈ up.map (·.1), d ∉ up2.map (·.1)) :
    up2.foldl (fun f q => upd f q.1 q.2) (up.foldl (fun f q => upd f q.1 q.2) f) = up.foldl (fun f q => upd f q.1 q.2) (up2.foldl (fun f q => upd f q.1 q.2) f) := by
  funext d
  by_cases h1 : d ∈ up.map (·.1)
  · rw [foldl_upd2 (h d h1)]
    exact foldl_upd3 (.inl h1)
  · rw [foldl_upd2 h1]
    refine foldl_upd3 ?_
    exact .inr (foldl_upd2 h1)

theorem go_comm {dx dy : Option Nat} {zx zy : A} {ux uy : List (Nat × Option Blk)} {nx ny : List Nat} (hd : ∀ d, dx = some d → dy ≠ some d) (hu : ∀ d ∈ ux.map (·.1), d ∉ uy.map (·.1)) :
    (st.go dx zx ux nx).go dy zy uy ny = (st.go dy zy uy ny).go dx zx ux nx := by
  have h1 : ((st.go dx zx ux nx).go dy zy uy ny).sl = ((st.go dy zy uy ny).go dx zx ux nx).sl := by
    funext t
    simp only [St.go, put_sl, St.app]
    by_cases h1 : dx = some t
    · by_cases h2 : dy = some t
      · exact (hd t h1 h2).elim
      · simp [h1, h2]
    · by_cases h2 : dy = some t <;> simp [h1, h2]
  have h2 : ((st.go dx zx ux nx).go dy zy uy ny).bk = ((st.go dy zy uy ny).go dx zx ux nx).bk := by
    simp only [St.go, put_bk, St.app]
    exact foldl_comm hu
  have h3 : ((st.go dx zx ux nx).go dy zy uy ny).ids = ((st.go dy zy uy ny).go dx zx ux nx).ids := by
    simp only [St.go, put_ids, St.app]
    funext d
    cases st.ids d <;> cases nx.contains d <;> cases ny.contains d <;> rfl
  have h4 : ((st.go dx zx ux nx).go dy zy uy ny).ep = ((st.go dy zy uy ny).go dx zx ux nx).ep := by simp only [St.go, put_ep, St.app]
  have h5 : ((st.go dx zx ux nx).go dy zy uy ny).gs = ((st.go dy zy uy ny).go dx zx ux nx).gs := by cases dx <;> cases dy <;> rfl
  revert h1 h2 h3 h4 h5
  generalize (st.go dx zx ux nx).go dy zy uy ny = x
  generalize (st.go dy zy uy ny).go dx zx ux nx = y
  intro h1 h2 h3 h4 h5
  cases x; cases y
  simp only at h1 h2 h3 h4 h5
  subst h1 h2 h3 h4 h5
  rfl

theorem go_ep {dst : Option Nat} {z : A} {up : List (Nat × Option Blk)} {nw : List Nat} : (st.go dst z up nw).ep = st.ep := by simp [St.go, put_ep, St.app]

/-- Two neighbours change places. -/
theorem Run.swap {x y : Nat × FP} {l : List (Nat × FP)} {st' : St} (r : Run P M n ops (x :: y :: l) st st') (h : indep ops st.ep x y = true) : Run P M n ops (y :: x :: l) st st' := by
  cases r with
  | cons ho hd s r =>
    rename_i i o zx ux nx rx
    cases r with
    | cons ho2 hd2 s2 r =>
      rename_i j o2 zy uy ny ry
      simp only [indep, ho, ho2, Bool.and_eq_true] at h
      obtain ⟨⟨⟨⟨hap, h1⟩, h2⟩, h3⟩, h4⟩ := h
      obtain ⟨a1, a2, a3⟩ := Oper.apart_spec hap
      simp only [List.all_eq_true, Bool.not_eq_true', Bool.or_eq_false_iff, List.contains_eq_mem, decide_eq_false_iff_not, beq_eq_false_iff_ne] at h1 h2 h3 h4
      have s2' : Stp P M n ops j o2 st zy uy ny ry := by
        refine s2.local (fun t ht => ?_) (fun d hd => ?_) go_ep.symm (fun d hd => ?_)
        · simp only [St.go, put_sl, St.app]
          rw [if_neg (fun e => a1 t e ht)]
        · simp only [St.go, put_bk, St.app]
          rw [foldl_upd2 (fun hm => (h1 d hm).1 hd)]
        · simp only [St.go, put_ids, St.app]
          have : nx.contains d = false := by
            simp only [List.contains_eq_mem, decide_eq_false_iff_not]
            intro hm
            rcases hd with hd | hd
            · exact (h3 d hm).1 hd
            · exact (h3 d hm).2 (by rw [hd, go_ep])
          rw [this, Bool.or_false]
      have s' : Stp P M n ops i o (st.go o2.dst zy uy ny) zx ux nx rx := by
        refine s.local (fun t ht => ?_) (fun d hd => ?_) go_ep (fun d hd => ?_)
        · simp only [St.go, put_sl, St.app]
          rw [if_neg (fun e => a3 t e ht)]
        · simp only [St.go, put_bk, St.app]
          rw [foldl_upd2 (fun hm => h2 d hm hd)]
        · simp only [St.go, put_ids, St.app]
          have : ny.contains d = false := by
            simp only [List.contains_eq_mem, decide_eq_false_iff_not]
            intro hm
            rcases hd with hd | hd
            · exact (h3 d hd).1 hm
            · exact h4 d hm hd
          rw [this, Bool.or_false]
      refine .cons ho2 hd2 s2' (.cons ho hd s' ?_)
      rw [← go_comm a2 (fun d hd => (h1 d hd).2)]
      exact r

theorem Run.ep {l : List (Nat × FP)} {st st' : St} (r : Run P M n ops l st st') : st'.ep = st.ep := by
  induction r with
  | nil => rfl
  | cons ho hd s r ih => rw [ih, go_ep]

theorem Run.front : ∀ {pre : List (Nat × FP)} {x : Nat × FP} {post : List (Nat × FP)} {st st' : St}, Run P M n ops (pre ++ x :: post) st st' → (∀ y ∈ pre, indep ops st.ep y x = true) → Run P M n ops (x :: (pre ++ post)) st st'
  | [], x, post, st, st', r, _ => r
  | y :: pre, x, post, st, st', r, h => by
    cases r with
    | cons ho hd s r =>
      have r2 := Run.front r (fun y hy => by rw [go_ep]; exact h y (by simp [hy]))
      exact Run.swap (.cons ho hd s r2) (h _ (by simp))

end
end Go.PA

/- PA32: whatever the order drawn. -/
namespace Go.PA

section
variable {ops : Array Oper}

theorem inner_bits {acc : Array Nat} {i : Nat} : ∀ {l : List Edge} {s : Nat}, (l.foldl (fun s e => if Region.binds .any e then s ||| 2 ^ e.on ||| acc.getD e.on 0 else s) s).testBit i = true →
    s.testBit i = true ∨ ∃ e ∈ l, Region.binds .any e = true ∧ (e.on = i ∨ (acc.getD e.on 0).testBit i = true)
  | [], s, h => .inl h
  | e :: l, s, h => by
    simp only [List.foldl_cons] at h
    rcases inner_bits h with h | ⟨e', he', h1, h2⟩
    · split at h
      · rename_i hb
        rw [Nat.testBit_or, Nat.testBit_or, Bool.or_eq_true, Bool.or_eq_true] at h
        rcases h with (h | h) | h
        · exact .inl h
        · refine .inr ⟨e, by simp, hb, .inl ?_⟩
          rw [Nat.testBit_two_pow] at h
          simpa using h
        · exact .inr ⟨e, by simp, hb, .inr h⟩
      · exact .inl h
    · exact .inr ⟨e', by simp [he'], h1, h2⟩

theorem before_fold {L : Nat → Prop} (hcl : ∀ j o, L j → ops[j]? = some o → ∀ e ∈ o.after, Region.binds .any e = true → L e.on) :
    ∀ (l : List Oper) (acc : Array Nat), ops.toList.drop acc.size = l → (∀ j o, ops[j]? = some o → (∀ e ∈ o.after, Region.binds .any e = true → L e.on) → ∀ i, (acc.getD j 0).testBit i = true → L i) →
      ∀ j o, ops[j]? = some o → (∀ e ∈ o.after, Region.binds .any e = true → L e.on) → ∀ i,
        ((l.foldl (fun acc o => acc.push (o.after.foldl (fun s e => if Region.binds .any e then s ||| 2 ^ e.on ||| acc.getD e.on 0 else s) 0)) acc).getD j 0).testBit i = true → L i
  | [], acc, _, h => h
  | o' :: l, acc, hl, h => by
    simp only [List.foldl_cons]
    have ho' : ops[acc.size]? = some o' := by
      have := congrArg List.head? hl
      rw [List.head?_drop] at this
      simpa using this
    refine before_fold hcl l _ ?_ ?_
    · rw [Array.size_push, ← List.drop_drop, hl]
      rfl
    · intro j o ho hj i hb
      rw [Array.getD_eq_getD_getElem?, Array.getElem?_push] at hb
      split at hb
      · rename_i hjs
        subst hjs
        rw [ho] at ho'
        injection ho' with ho'
        subst ho'
        simp only [Option.getD_some, ← Array.foldl_toList] at hb
        rcases inner_bits hb with hb | ⟨e, he, h1, h2⟩
        · simp at hb
        · have he' : e ∈ o.after := by simpa using he
          rcases h2 with h2 | h2
          · rw [← h2]; exact hj e he' h1
          · have hLe := hj e he' h1
            cases hoe : ops[e.on]? with
            | some oe => exact h e.on oe hoe (fun e' he' hb' => hcl e.on oe hLe hoe e' he' hb') i h2
            | none =>
              exfalso
              have hsz : ops.size ≤ e.on := by simpa using hoe
              have : acc.size < ops.size := by
                have := congrArg List.length hl
                simp at this
                omega
              rw [Array.getD_eq_getD_getElem?, Array.getElem?_eq_none (by omega)] at h2
              simp at h2
      · refine h j o ho hj i ?_
        rw [Array.getD_eq_getD_getElem?]
        exact hb

theorem before_spec {L : Nat → Prop} (hcl : ∀ j o, L j → ops[j]? = some o → ∀ e ∈ o.after, Region.binds .any e = true → L e.on) {j i : Nat} {o : Oper} (ho : ops[j]? = some o)
    (hj : ∀ e ∈ o.after, Region.binds .any e = true → L e.on) (hb : ((Region.before ops).getD j 0).testBit i = true) : L i := by
  refine before_fold hcl ops.toList #[] (by simp) (fun j o ho hj i h => by simp at h) j o ho hj i ?_
  rw [Array.foldl_toList]
  exact hb

/-- Edges lead back. -/
def edgesBack (ops : Array Oper) : Bool := (List.range ops.size).all fun i => ((ops[i]?).map fun o => o.after.all fun e => !Region.binds .any e || decide (e.on < i)).getD false

/-- Every two operations are in a given order, or apart. -/
def drawOk (ops : Array Oper) (ep : Nat) : List (Nat × FP) → Bool
  | [] => true
  | x :: l => (l.all fun y => ((Region.before ops).getD y.1 0).testBit x.1 || indep ops ep x y) && drawOk ops ep l

end
section
variable {P : Program} {M : FuncId → List Bool} {n : Nat × List Bool} {ops : Array Oper} {st st' : St}

theorem drawOk_split : ∀ {pre : List (Nat × FP)} {x : Nat × FP} {post : List (Nat × FP)} {ep : Nat}, drawOk ops ep (pre ++ x :: post) = true →
    (∀ y ∈ pre, ((Region.before ops).getD x.1 0).testBit y.1 = true ∨ indep ops ep y x = true) ∧ drawOk ops ep (pre ++ post) = true
  | [], x, post, ep, h => by
    simp only [List.nil_append, drawOk, Bool.and_eq_true] at h ⊢
    exact ⟨by simp, h.2⟩
  | y :: pre, x, post, ep, h => by
    simp only [List.cons_append, drawOk, Bool.and_eq_true, List.all_eq_true] at h ⊢
    obtain ⟨h1, h2⟩ := drawOk_split h.2
    refine ⟨fun z hz => ?_, fun z hz => h.1 z ?_, h2⟩
    · rcases List.mem_cons.1 hz with rfl | hz
      · exact (Bool.or_eq_true_iff).1 (h.1 x (by simp))
      · exact h1 z hz
    · simp only [List.mem_append, List.mem_cons] at hz ⊢
      exact hz.imp id .inr

theorem linearise_go (fuel t : Nat) (listed : Array Bool) : Region.linearise.go .any ops (fuel + 1) t listed [] =
    match (Region.ready .any ops listed)[t % (Region.ready .any ops listed).length]? with
    | some i => i :: Region.linearise.go .any ops fuel (t / (Region.ready .any ops listed).length) (listed.setIfInBounds i true) []
    | none => [] := by
  simp only [Region.linearise.go]
  change (match (Region.ready .any ops listed)[t % (Region.ready .any ops listed).length]? with
      | some i => Region.linearise.go .any ops fuel (t / (Region.ready .any ops listed).length) (listed.setIfInBounds i true) [i]
      | none => [].reverse) = _
  split
  · rw [linearise_go_acc, List.reverse_singleton, List.singleton_append]
  · rfl

/-- The least operation not yet done is ready. -/
theorem ready_ne {listed : Array Bool} (hb : edgesBack ops = true) (hs : listed.size = ops.size) {i : Nat} (hi : listed.getD i true = false) : Region.ready .any ops listed ≠ [] := by
  induction i using Nat.strongRecOn with
  | _ i ih =>
    have hlt : i < ops.size := by
      rcases Nat.lt_or_ge i ops.size with h | h
      · exact h
      · rw [Array.getD_eq_getD_getElem?, Array.getElem?_eq_none (by omega)] at hi
        simp at hi
    by_cases hr : i ∈ Region.ready .any ops listed
    · intro he
      rw [he] at hr
      simp at hr
    · rw [mem_ready] at hr
      simp only [hi, true_and, not_exists, not_and, Classical.not_forall] at hr
      have ho : ops[i]? = some ops[i] := by simp [hlt]
      obtain ⟨e, he, hbd, hne⟩ := hr _ ho
      have hlti : e.on < i := by
        simp only [edgesBack, List.all_eq_true, List.mem_range] at hb
        have := hb i hlt
        rw [ho] at this
        simp only [Option.map_some, Option.getD_some, Array.all_eq_true_iff_forall_mem] at this
        have := this e he
        simpa [hbd] using this
      refine ih e.on hlti ?_
      have h2 : e.on < listed.size := by omega
      rw [Array.getD_eq_getD_getElem?] at hne ⊢
      rw [Array.getElem?_eq_getElem h2] at hne ⊢
      simpa using hne

theorem Run.drawn (hb : edgesBack ops = true) : ∀ (fuel t : Nat) (listed : Array Bool) (L : List (Nat × FP)) (st : St), L.length = fuel → listed.size = ops.size → (∀ i, i ∈ L.map (·.1) ↔ listed.getD i true = false) → (L.map (·.1)).Nodup →
    (∀ j o, listed.getD j false = true → ops[j]? = some o → ∀ e ∈ o.after, Region.binds .any e = true → listed.getD e.on false = true) → drawOk ops st.ep L = true → Run P M n ops L st st' →
    ∃ L', Run P M n ops L' st st' ∧ L'.map (·.1) = Region.linearise.go .any ops fuel t listed []
  | 0, t, listed, L, st, hl, hs, hi, hn, hc, hd, r => ⟨L, r, by cases L <;> simp_all [Region.linearise.go]⟩
  | fuel + 1, t, listed, L, st, hl, hs, hi, hn, hc, hd, r => by
    rw [linearise_go]
    obtain ⟨x, L0, rfl⟩ := List.exists_cons_of_length_eq_add_one hl
    have hne := ready_ne hb hs ((hi x.1).1 (by simp))
    cases hk : (Region.ready .any ops listed)[t % (Region.ready .any ops listed).length]? with
    | none =>
      exfalso
      have hlt : t % (Region.ready .any ops listed).length < (Region.ready .any ops listed).length := Nat.mod_lt _ (List.length_pos_iff.2 hne)
      simp at hk
      omega
    | some i =>
      dsimp only
      have hir := List.mem_of_getElem? hk
      rw [mem_ready] at hir
      obtain ⟨hnl, o, ho, hrd⟩ := hir
      obtain ⟨y, hy, hyi⟩ := List.mem_map.1 ((hi i).2 hnl)
      obtain ⟨pre, post, hpp⟩ := List.append_of_mem hy
      rw [hpp] at r hd hn
      obtain ⟨hd1, hd2⟩ := drawOk_split hd
      have hcl : ∀ j o, listed.getD j false = true → ops[j]? = some o → ∀ e ∈ o.after, Region.binds .any e = true → listed.getD e.on false = true := hc
      have hpre : ∀ z ∈ pre, indep ops st.ep z y = true := fun z hz => by
        rcases hd1 z hz with h | h
        · exfalso
          have h3 : listed.getD z.1 false = true := before_spec (L := fun j => listed.getD j false = true) hcl (j := y.1) (o := o) (by rw [hyi]; exact ho) hrd h
          have h4 : listed.getD z.1 true = false := (hi z.1).1 (by rw [hpp]; simp only [List.map_append, List.mem_append]; exact .inl (List.mem_map.2 ⟨z, hz, rfl⟩))
          rw [Array.getD_eq_getD_getElem?] at h3 h4
          cases hz : listed[z.1]? <;> simp_all
        · exact h
      have r2 := r.front hpre
      cases r2 with
      | cons ho' hd' s' r2 =>
        rename_i i' o' z up nw rs
        simp only at hyi
        subst hyi
        have hn2 : ((pre ++ post).map (·.1)).Nodup ∧ i' ∉ (pre ++ post).map (·.1) := by
          simp only [List.map_append, List.map_cons] at hn ⊢
          have hp := (List.perm_middle.nodup_iff).1 hn
          rw [List.nodup_cons] at hp
          exact ⟨hp.2, hp.1⟩
        have hils : i' < listed.size := by
          rw [hs]
          exact (Array.getElem?_eq_some_iff.1 ho).1
        obtain ⟨L', rL, hL⟩ := Run.drawn hb fuel (t / (Region.ready .any ops listed).length) (listed.setIfInBounds i' true) (pre ++ post) _ (by
            have := congrArg List.length hpp
            simp at this hl ⊢
            omega) (by simpa using hs) (fun j => by
            have hj := hi j
            rw [hpp] at hj
            simp only [List.map_append, List.map_cons, List.mem_append, List.mem_cons] at hj ⊢
            by_cases hji : j = i'
            · subst hji
              have h5 : (listed.setIfInBounds j true).getD j true = true := by simp [Array.getD_eq_getD_getElem?, hils]
              rw [h5]
              have h6 := hn2.2
              simp only [List.map_append, List.mem_append] at h6
              exact ⟨fun h => (h6 h).elim, fun h => by cases h⟩
            · rw [getD_set_ne true (fun e => hji e.symm), ← hj]
              simp [hji]) hn2.1 (fun j o2 hj ho2 e he hbd => by
            by_cases hji : j = i'
            · subst hji
              rw [ho] at ho2
              injection ho2 with ho2
              subst ho2
              exact getD_set_true (hrd e he hbd)
            · rw [getD_set_ne false (fun e => hji e.symm)] at hj
              exact getD_set_true (hc j o2 hj ho2 e he hbd)) (by rw [go_ep]; exact hd2) r2
        exact ⟨_, .cons ho' hd' s' rL, by rw [List.map_cons, hL]⟩

/-- What the text's order shows, every order drawn shows. -/
theorem Run.schedule {L : List (Nat × FP)} (hb : edgesBack ops = true) (hm : P.follows .mixedOrders = true) (hL : L.map (·.1) = List.range ops.size) (hd : drawOk ops st.ep L = true) (r : Run P M n ops L st st') (t : Nat) :
    ∃ L', Run P M n ops L' st st' ∧ L'.map (·.1) = Region.schedule (P.follows .mixedOrders) ops t := by
  have hlen : L.length = ops.size := by
    have := congrArg List.length hL
    simpa using this
  obtain ⟨L', r', h'⟩ := r.drawn hb ops.size t (Array.replicate ops.size false) L _ hlen (by simp) (fun i => by
    rw [hL, List.mem_range, Array.getD_eq_getD_getElem?]
    rcases Nat.lt_or_ge i ops.size with h | h
    · simp [h]
    · rw [Array.getElem?_eq_none (by simpa using h)]
      simp; omega) (by rw [hL]; exact List.nodup_range) (fun j o hj => by
    rw [Array.getD_eq_getD_getElem?, Array.getElem?_replicate] at hj
    split at hj <;> simp at hj) hd
  refine ⟨L', r', ?_⟩
  rw [h']
  simp [Region.schedule, hm, Region.linearise]

end
end Go.PA

/- PA33: what a body of code does to a frame's state. -/
namespace Go.PA

def nilWp (nid : Nat) (o : Oper) (st : St) (K : A → List (Nat × Option Blk) → List Nat → List Nat → Prop) (eff : Eff) (rd : List Nat) : Prop :=
  match nilE nid o eff with
  | some (e', []) => K e'.val e'.up e'.new rd
  | some (e', _) => (∀ d ∈ e'.new, st.ids d = false) ∧ K e'.val e'.up e'.new rd
  | none => False

def plainWp (P : Program) (nid : Nat) (o : Oper) (st : St) (K : A → List (Nat × Option Blk) → List Nat → List Nat → Prop) : Prop :=
  match o.op.operands.toList.mapM (aval st.sl) with
  | some xs => (allocs o.op = true → st.ids nid = false) ∧ (aeff P nid o xs).wp st.bk (nilWp nid o st K)
  | none => False

def callWp (P : Program) (M : FuncId → List Bool) (nid : Nat) (cl : Call) (x0 : Operand) (st : St) (K : A → List (Nat × Option Blk) → List Nat → List Nat → Prop) : Prop :=
  match aval st.sl x0, cl.args.toList.mapM (aval st.sl) with
  | some (.clo (.func f) first caps), some args => args.all A.good = true ∧ goFn P f = true ∧ (M f).length = (first ++ args ++ caps).length ∧
      (handOver 64 ((M f).zip (first ++ args ++ caps))).wp st.bk fun q rd => ∃ res back, FS P f q.1 (.ret res back) ∧
        match aCallEff nid ((M f).zip (first ++ args ++ caps)) q.2 res back with
        | some e => (∀ d ∈ e.2.2, st.ids d = false) ∧ K (resA e.1) e.2.1 e.2.2 rd
        | none => False
  | _, _ => False

def opWp (P : Program) (M : FuncId → List Bool) (nid : Nat) (o : Oper) (st : St) (K : A → List (Nat × Option Blk) → List Nat → List Nat → Prop) : Prop :=
  match o.op with
  | .call cl => match cl.callee with
    | .value x0 => callWp P M nid cl x0 st K ∨ plainWp P nid o st K
    | _ => plainWp P nid o st K
  | _ => plainWp P nid o st K

def opsWp (P : Program) (M : FuncId → List Bool) (n : Nat × List Bool) (ops : Array Oper) : List Nat → (List (Nat × FP) → St → Prop) → St → Prop
  | [], K, st => K [] st
  | i :: l, K, st => match ops[i]? with
    | none => False
    | some o => okDst n o = true ∧
      match wantedA ops st o with
      | none => False
      | some g => (g = false → opsWp P M n ops l (fun L => K ((i, ⟨[], [], []⟩) :: L)) (st.go o.dst .und [] [])) ∧
        (g = true → opWp P M (st.ep + 64 * i) o st fun z up nw rd => opsWp P M n ops l (fun L => K ((i, ⟨rd, up.map (·.1), nw⟩) :: L)) (st.go o.dst z up nw))

def St.bump (st : St) (k : Nat) : St := { st with ep := st.ep + k }

def regWp (P : Program) (M : FuncId → List Bool) (n : Nat × List Bool) (ops : Array Oper) (draw : Bool) (K : St → Prop) (st : St) : Prop :=
  opsWp P M n ops (List.range ops.size) (fun L st' => (draw = true → edgesBack ops = true ∧ drawOk ops st.ep L = true ∧ P.follows .mixedOrders = true) ∧ K (st'.bump (64 * ops.size))) st

inductive AExit where
  | normal
  | exit (id : Nat)
  | ret

def AExit.then (K : St → Prop) (Q : AExit → St → Prop) : AExit → St → Prop
  | .normal, st => K st
  | e, st => Q e st
def AExit.inBlock (id : Nat) (Q : AExit → St → Prop) : AExit → St → Prop
  | .exit id', st => if id' = id then Q .normal st else Q (.exit id') st
  | e, st => Q e st

/-- Whatever stands for the one stands for the other. -/
def Weak (st st' : St) : Prop := ∀ (c : Ctx) (a : Act) (w : World), Rel c st a w → Rel c st' a w

def awp (P : Program) (M : FuncId → List Bool) (n : Nat × List Bool) : Code → (AExit → St → Prop) → St → Prop
  | .skip, Q, st => Q .normal st
  | .label _, Q, st => Q .normal st
  | .region _ ops draw, Q, st => regWp P M n ops draw (Q .normal) st
  | .seq x y, Q, st => awp P M n x (AExit.then (awp P M n y Q) Q) st
  | .cond x a b, Q, st => match aval st.sl x with
    | some (.v (.bool t)) => (t = true → awp P M n a Q st) ∧ (t = false → awp P M n b Q st)
    | _ => False
  | .block id body, Q, st => awp P M n body (AExit.inBlock id Q) st
  | .scope body, Q, st => awp P M n body Q st
  | .loop body, Q, st => ∃ (α : Type) (I : α → St) (μ : α → Nat) (x0 : α), Weak st (I x0) ∧
      ∀ x, awp P M n body (AExit.then (fun st2 => ∃ x', Weak st2 (I x') ∧ μ x' < μ x) Q) (I x)
  | .exit id, Q, st => Q (.exit id) st
  | .ret, Q, st => Q .ret st
  | _, _, _ => False

def liftQ (c : Cx) (Q : AExit → St → Prop) : Exit → Act → World → Prop
  | .normal, a, w => ∃ st, Q .normal st ∧ Rl c st a w
  | .exit id, a, w => ∃ st, Q (.exit id) st ∧ Rl c st a w
  | .ret, a, w => ∃ st, Q .ret st ∧ Rl c st a w
  | _, _, _ => False

section
variable {P : Program} {M : FuncId → List Bool} {n : Nat × List Bool} {ops : Array Oper} {st : St}

theorem nilE_nil {nid : Nat} {o : Oper} {eff e' : Eff} (h : nilE nid o eff = some (e', [])) : e' = eff := by
  unfold nilE at h
  split at h
  · split at h
    · injection h with h; injection h with h; exact h.symm
    · split at h
      · cases hu : unf (nid + 1) eff.val with
        | none => simp [hu] at h
        | some q =>
          simp only [hu, Option.map_some, Option.some.injEq, Prod.mk.injEq] at h
          obtain ⟨h1, h2⟩ := h
          have hz : q.2.1 = [] := by simpa using h2
          have hv := unf_nil eff.val (nid + 1) q.1 q.2.2 (by rw [hu, ← hz])
          rw [← h1, hz, hv]
          simp
      · cases h
  · split at h
    · split at h
      · injection h with h; injection h with h; exact h.symm
      · split at h
        · split at h
          · split at h
            · simp at h
            · cases h
          · cases h
        · cases h
    · injection h with h; injection h with h; exact h.symm
  · injection h with h; injection h with h; exact h.symm

theorem opWp_run {i : Nat} {o : Oper} {K : A → List (Nat × Option Blk) → List Nat → List Nat → Prop} (hw : wantedA ops st o = some true) (h : opWp P M (st.ep + 64 * i) o st K) :
    ∃ z up nw rd, Stp P M n ops i o st z up nw rd ∧ K z up nw rd := by
  have plain : plainWp P (st.ep + 64 * i) o st K → ∃ z up nw rd, Stp P M n ops i o st z up nw rd ∧ K z up nw rd := by
    intro h
    unfold plainWp at h
    split at h
    · rename_i xs hx
      obtain ⟨eff, rd, r, hk⟩ := RM.runs_of_wp h.2
      unfold nilWp at hk
      split at hk
      · rename_i e' he
        obtain rfl := nilE_nil he
        exact ⟨_, _, _, _, .plain hw hx h.1 r, hk⟩
      · rename_i e' ex _ he
        exact ⟨_, _, _, _, .named hw hx h.1 r he hk.1, hk.2⟩
      · exact hk.elim
    · exact h.elim
  unfold opWp at h
  split at h
  · rename_i cl ho
    split at h
    · rename_i x0 hc
      rcases h with h | h
      case inr => exact plain h
      unfold callWp at h
      split at h
      · rename_i f first caps args hx ha
        obtain ⟨h1, h2, h3, h4⟩ := h
        obtain ⟨q, rd, r, res, back, hf, hk⟩ := RM.runs_of_wp h4
        split at hk
        · rename_i e he
          obtain ⟨ys, up, nw⟩ := e
          exact ⟨_, _, _, _, .call hw ho hc hx ha h1 h2 h3 r hf he hk.1, hk.2⟩
        · exact hk.elim
      · exact h.elim
    · exact plain h
  · exact plain h

theorem opsWp_run : ∀ {l : List Nat} {K : List (Nat × FP) → St → Prop} {st : St}, opsWp P M n ops l K st → ∃ L st', Run P M n ops L st st' ∧ L.map (·.1) = l ∧ K L st'
  | [], K, st, h => ⟨[], st, .nil st, rfl, h⟩
  | i :: l, K, st, h => by
    simp only [opsWp] at h
    split at h
    · exact h.elim
    · rename_i o ho
      obtain ⟨hd, h⟩ := h
      split at h
      · exact h.elim
      · rename_i g hg
        cases g with
        | false =>
          obtain ⟨L, st', r, hL, hk⟩ := opsWp_run (h.1 rfl)
          exact ⟨_, st', .cons ho hd (.skip hg) r, by rw [List.map_cons, hL], hk⟩
        | true =>
          obtain ⟨z, up, nw, rd, s, hk⟩ := opWp_run (n := n) hg (h.2 rfl)
          obtain ⟨L, st', r, hL, hk⟩ := opsWp_run hk
          exact ⟨_, st', .cons ho hd s r, by rw [List.map_cons, hL], hk⟩

theorem Fram.drawn {c : Ctx} {w : World} {S : Nat → Prop} {d : Nat} (h : Fram c w S) : Fram c { w with drawn := d } S :=
  ⟨h.heap, h.size, h.os, h.tape, h.output, h.sub, h.new, h.bd, h.shp, h.fro⟩

end
end Go.PA

/- PA34: what a body of code does is what it does to the frame's state. -/
namespace Go.PA

theorem exists_least {p : Nat → Prop} (h : ∃ m, p m) : ∃ m, p m ∧ ∀ k, p k → m ≤ k := by
  obtain ⟨m, hm⟩ := h
  induction m using Nat.strongRecOn with
  | _ m ih =>
    by_cases h : ∃ k, k < m ∧ p k
    · obtain ⟨k, hk, hp⟩ := h
      exact ih k hk hp
    · exact ⟨m, hm, fun k hk => Nat.le_of_not_lt fun hlt => h ⟨k, hlt, hk⟩⟩

open Classical in
noncomputable def least (p : Nat → Prop) : Nat := if h : ∃ m, p m then Classical.choose (exists_least h) else 0

theorem least_spec {p : Nat → Prop} (h : ∃ m, p m) : p (least p) ∧ ∀ k, p k → least p ≤ k := by
  unfold least
  rw [dif_pos h]
  exact Classical.choose_spec (exists_least h)

section
variable {P : Program} {M : FuncId → List Bool} {ops : Array Oper} {c : Cx} {st : St} {a : Act} {w : World}

theorem Rl.drawn (R : Rl c st a w) (d : Nat) : Rl c st a { w with drawn := d } := by
  obtain ⟨⟨loc, S, Fm, R⟩, hk⟩ := R
  have hle : ∀ F, (envOf c.toCtx st w loc S).Le (envOf c.toCtx st { w with drawn := d } loc S) F := fun F => ⟨fun _ _ => rfl, fun _ h => h, fun _ h => .inr h, fun _ h => h, fun _ _ _ h => h, fun _ _ _ _ => rfl⟩
  exact ⟨⟨loc, S, Fm, fun t x hx => TV_mono (hle []) (R.slots t x hx), R.size, R.defers, fun p hp t x hx => TV_mono (hle []) (R.ghosts p hp t x hx), fun d b hb => BkR_mono (hle _) rfl (R.bks d b hb), R.dead, R.known, R.nodup, R.disj, R.own, R.fram.drawn⟩, hk⟩

theorem Rl.bump (R : Rl c st a w) (k : Nat) : Rl c (st.bump k) a w := by
  obtain ⟨⟨loc, S, Fm, R⟩, hk⟩ := R
  exact ⟨⟨loc, S, Fm, R.slots, R.size, R.defers, R.ghosts, R.bks, R.dead, R.known, R.nodup, R.disj, R.own, R.fram⟩, hk⟩

theorem Rl.weak {st' : St} (R : Rl c st a w) (h : Weak st st') : Rl c st' a w := ⟨h _ a w R.1, R.2⟩

theorem liftQ_then {K : St → Prop} {Q : AExit → St → Prop} {K' : Act → World → Prop} (hK : ∀ st a w, K st → Rl c st a w → K' a w) {e : Exit} {a : Act} {w : World} (h : liftQ c (AExit.then K Q) e a w) : Exit.then K' (liftQ c Q) e a w := by
  cases e with
  | normal =>
    obtain ⟨st, hk, R⟩ := h
    exact hK st a w hk R
  | exit id => exact h
  | ret => exact h
  | goto l => exact h.elim
  | panic ch => exact h.elim
  | outgrown => exact h.elim

theorem wpIn_scopeS {F : Fence} {n : Nat} {P : Program} {c : Code} {Q : Exit → Act → World → Prop} {a : Act} {w : World} (h : c.wpIn F n P Q a w) (hg : ∀ l a w, Q (.goto l) a w → False) : (Code.scope c).wpIn F n P Q a w := by
  intro b k cs hro hb hr
  have h0 : (lone (b.atR a (.code (.scope c) :: k)) cs w).fenced P F := fenced_calm hb hr rfl
  have s0 : step P (lone (b.atR a (.code (.scope c) :: k)) cs w) = .next (lone (b.atR a (.code c :: .inScope c :: k)) cs w) := step_lone_go (by simp [stepG, stepG.exec, Frame.atR])
  have s1 : ∀ {a : Act} {w : World}, step P (lone (b.atR a (.inScope c :: k)) cs w) = .next (lone (b.atR a k) cs w) := step_lone_go (by simp [stepG, stepG.exec, Frame.atR])
  obtain ⟨e, a₁, w₁, hq, harr⟩ := h b (.inScope c :: k) cs hro hb hr
  cases e with
  | normal => exact ⟨.normal, a₁, w₁, hq, .head h0 s0 (StepsIn.trans harr (.one (fenced_calm hb hr rfl) s1))⟩
  | exit id =>
    have hx : exitTo id (.inScope c :: k) = exitTo id k := by simp [exitTo]
    exact ⟨.exit id, a₁, w₁, hq, fun k' hk => .head h0 s0 (harr.1 k' (by rw [hx]; exact hk)),
      fun hr' hk => let ⟨k₁, h1, h2⟩ := harr.2 hr' (by rw [hx]; exact hk); ⟨k₁, h1, .head h0 s0 h2⟩⟩
  | goto l => exact (hg _ _ _ hq).elim
  | ret => exact ⟨_, a₁, w₁, hq, .of_steps (.one h0 s0) harr⟩
  | panic ch => exact ⟨_, a₁, w₁, hq, .of_steps (.one h0 s0) harr⟩
  | outgrown => exact ⟨_, a₁, w₁, hq, .of_steps (.one h0 s0) harr⟩

theorem awp_sound : ∀ (code : Code) {Q : AExit → St → Prop} {st : St} {a : Act} {w : World}, awp P M c.N code Q st → Rl c st a w → code.wpIn (fc c.ro) 0 P (liftQ c Q) a w
  | .skip, Q, st, a, w, h, R => wpIn_skip ⟨st, h, R⟩
  | .label _, Q, st, a, w, h, R => wpIn_label ⟨st, h, R⟩
  | .exit id, Q, st, a, w, h, R => wpIn_exit ⟨st, h, R⟩
  | .ret, Q, st, a, w, h, R => wpIn_ret ⟨st, h, R⟩
  | .region id ops draw, Q, st, a, w, h, R => by
    simp only [awp, regWp] at h
    obtain ⟨L, st', r, hL, hd, hQ⟩ := opsWp_run h
    have fin : ∀ a' w', Rl c st' a' w' → liftQ c Q .normal a' w' := fun a' w' R' => ⟨_, hQ, R'.bump _⟩
    cases draw with
    | false =>
      refine wpIn_region ?_
      rw [← hL]
      exact r.sound R fin
    | true =>
      obtain ⟨h1, h2, h3⟩ := hd rfl
      refine wpIn_region_draw fun t => ?_
      obtain ⟨L', r', hL'⟩ := r.schedule h1 h3 hL h2 t
      rw [← hL']
      exact r'.sound (R.drawn _) fin
  | .seq x y, Q, st, a, w, h, R => by
    simp only [awp] at h
    exact wpIn_seq (wpIn_mono (awp_sound x h R) fun e a w hq => liftQ_then (fun st a w hk R => awp_sound y hk R) hq)
  | .cond x p q, Q, st, a, w, h, R => by
    simp only [awp] at h
    split at h
    · rename_i t ht
      obtain ⟨⟨loc, S, Fm, R'⟩, hk⟩ := R
      have := R'.eval _ _ ht
      rw [TV_v] at this
      exact wpIn_cond_split this.2 (fun e => awp_sound p (h.1 e) ⟨⟨loc, S, Fm, R'⟩, hk⟩) (fun e => awp_sound q (h.2 e) ⟨⟨loc, S, Fm, R'⟩, hk⟩)
    · exact h.elim
  | .block id body, Q, st, a, w, h, R => by
    simp only [awp] at h
    refine wpIn_block (wpIn_mono (awp_sound body h R) fun e a w hq => ?_)
    cases e with
    | normal => exact hq
    | exit id' =>
      obtain ⟨st, hk, R⟩ := hq
      simp only [AExit.inBlock] at hk
      simp only [Exit.inBlock]
      split at hk
      · rename_i he
        rw [if_pos he]
        exact ⟨st, hk, R⟩
      · rename_i he
        rw [if_neg he]
        exact ⟨st, hk, R⟩
    | ret => exact hq
    | goto l => exact hq
    | panic ch => exact hq
    | outgrown => exact hq
  | .scope body, Q, st, a, w, h, R => by
    simp only [awp] at h
    exact wpIn_scopeS (awp_sound body h R) fun l a w h => h.elim
  | .loop body, Q, st, a, w, h, R => by
    simp only [awp] at h
    obtain ⟨α, I, μ, x0, hw0, hround⟩ := h
    refine wpIn_loop (fun a w => ∃ x, Rl c (I x) a w) (fun a w => least fun m => ∃ x, Rl c (I x) a w ∧ μ x = m) ⟨x0, R.weak hw0⟩ fun a w hx => ?_
    have hex : ∃ m x, Rl c (I x) a w ∧ μ x = m := by
      obtain ⟨x, hx⟩ := hx
      exact ⟨μ x, x, hx, rfl⟩
    obtain ⟨⟨x, hRx, hμ⟩, _⟩ := least_spec hex
    refine wpIn_mono (awp_sound body (hround x) hRx) fun e a' w' hq => liftQ_then (fun st2 a' w' hk R' => ?_) hq
    obtain ⟨x', hwk, hlt⟩ := hk
    have hR' := R'.weak hwk
    refine ⟨⟨x', hR'⟩, ?_⟩
    have hex' : ∃ m x, Rl c (I x) a' w' ∧ μ x = m := ⟨μ x', x', hR', rfl⟩
    have := (least_spec hex').2 (μ x') ⟨x', hR', rfl⟩
    omega
  | .rangeFunc .., Q, st, a, w, h, R => by simp [awp] at h
  | .goto _, Q, st, a, w, h, R => by simp [awp] at h
  | .refuse _, Q, st, a, w, h, R => by simp [awp] at h

theorem rm_mono {α : Type} {bk : Nat → Option Blk} {m : RM α} : ∀ {K K' : α → List Nat → Prop}, (∀ a l, K a l → K' a l) → m.wp bk K → m.wp bk K' := by
  induction m with
  | ret a => exact fun h => h a []
  | fail => exact fun _ h => h
  | rd d k ih =>
    intro K K' h hw
    simp only [RM.wp] at hw ⊢
    split at hw
    · exact ih _ (fun a l => h a _) hw
    · exact hw.elim
  | req p k ih => exact fun h hw => ⟨hw.1, ih h hw.2⟩

theorem opWp_mono {nid : Nat} {o : Oper} {K K' : A → List (Nat × Option Blk) → List Nat → List Nat → Prop} (hk : ∀ z up nw rd, K z up nw rd → K' z up nw rd) (h : opWp P M nid o st K) : opWp P M nid o st K' := by
  have plain : plainWp P nid o st K → plainWp P nid o st K' := by
    intro h
    unfold plainWp at h ⊢
    split at h
    · refine ⟨h.1, rm_mono (fun eff rd hq => ?_) h.2⟩
      unfold nilWp at hq ⊢
      split at hq
      · exact hk _ _ _ _ hq
      · exact ⟨hq.1, hk _ _ _ _ hq.2⟩
      · exact hq.elim
    · exact h.elim
  unfold opWp at h ⊢
  split
  · split
    · simp only [*] at h
      refine h.imp (fun h => ?_) plain
      unfold callWp at h ⊢
      split at h
      · refine ⟨h.1, h.2.1, h.2.2.1, rm_mono (fun q rd hq => ?_) h.2.2.2⟩
        obtain ⟨res, back, hf, hm⟩ := hq
        refine ⟨res, back, hf, ?_⟩
        split at hm
        · exact ⟨hm.1, hk _ _ _ _ hm.2⟩
        · exact hm.elim
      · exact h.elim
    · rename_i hne
      simp only [*] at h
      exact plain h
  · rename_i hne
    split at h
    · rename_i cl hx; exact (hne cl hx).elim
    · exact plain h

theorem opsWp_mono {n : Nat × List Bool} : ∀ {l : List Nat} {K K' : List (Nat × FP) → St → Prop} {st : St}, (∀ L st, K L st → K' L st) → opsWp P M n ops l K st → opsWp P M n ops l K' st
  | [], K, K', st, hk, h => hk _ _ h
  | i :: l, K, K', st, hk, h => by
    simp only [opsWp] at h ⊢
    split at h
    · exact h.elim
    · refine ⟨h.1, ?_⟩
      have h2 := h.2
      split at h2
      · exact h2.elim
      · exact ⟨fun e => opsWp_mono (fun L st => hk _ st) (h2.1 e), fun e => opWp_mono (fun _ _ _ _ hq => opsWp_mono (fun L st => hk _ st) hq) (h2.2 e)⟩

theorem AExit.then_mono {K K' : St → Prop} {Q Q' : AExit → St → Prop} (hK : ∀ st, K st → K' st) (hQ : ∀ e st, Q e st → Q' e st) (e : AExit) (st : St) (h : AExit.then K Q e st) : AExit.then K' Q' e st := by
  cases e
  · exact hK _ h
  · exact hQ _ _ h
  · exact hQ _ _ h
theorem AExit.inBlock_mono {id : Nat} {Q Q' : AExit → St → Prop} (hQ : ∀ e st, Q e st → Q' e st) (e : AExit) (st : St) (h : AExit.inBlock id Q e st) : AExit.inBlock id Q' e st := by
  cases e with
  | normal => exact hQ _ _ h
  | exit id' =>
    simp only [AExit.inBlock] at h ⊢
    split at h
    · rename_i he; rw [if_pos he]; exact hQ _ _ h
    · rename_i he; rw [if_neg he]; exact hQ _ _ h
  | ret => exact hQ _ _ h

theorem awp_mono {n : Nat × List Bool} : ∀ (code : Code) {Q Q' : AExit → St → Prop} {st : St}, (∀ e st, Q e st → Q' e st) → awp P M n code Q st → awp P M n code Q' st
  | .skip, Q, Q', st, hq, h => hq _ _ h
  | .label _, Q, Q', st, hq, h => hq _ _ h
  | .exit _, Q, Q', st, hq, h => hq _ _ h
  | .ret, Q, Q', st, hq, h => hq _ _ h
  | .region _ ops draw, Q, Q', st, hq, h => opsWp_mono (fun L st hk => ⟨hk.1, hq _ _ hk.2⟩) h
  | .seq x y, Q, Q', st, hq, h => by
    simp only [awp] at h ⊢
    exact awp_mono x (AExit.then_mono (fun st h => awp_mono y hq h) hq) h
  | .cond x p q, Q, Q', st, hq, h => by
    simp only [awp] at h ⊢
    split at h
    · exact ⟨fun e => awp_mono p hq (h.1 e), fun e => awp_mono q hq (h.2 e)⟩
    · exact h.elim
  | .block id body, Q, Q', st, hq, h => by
    simp only [awp] at h ⊢
    exact awp_mono body (AExit.inBlock_mono hq) h
  | .scope body, Q, Q', st, hq, h => by
    simp only [awp] at h ⊢
    exact awp_mono body hq h
  | .loop body, Q, Q', st, hq, h => by
    simp only [awp] at h ⊢
    obtain ⟨α, I, μ, x0, h0, hr⟩ := h
    exact ⟨α, I, μ, x0, h0, fun x => awp_mono body (AExit.then_mono (fun _ h => h) hq) (hr x)⟩
  | .rangeFunc .., Q, Q', st, hq, h => by simp [awp] at h
  | .goto _, Q, Q', st, hq, h => by simp [awp] at h
  | .refuse _, Q, Q', st, hq, h => by simp [awp] at h

/-- A cut: what the one shows, the other begins with. -/
theorem awp_seq_cut {n : Nat × List Bool} {x y : Code} {Q Q1 : AExit → St → Prop} {st : St} (h : awp P M n x Q1 st) (h1 : ∀ st, Q1 .normal st → awp P M n y Q st) (h2 : ∀ e st, e ≠ .normal → Q1 e st → Q e st) :
    awp P M n (.seq x y) Q st := by
  simp only [awp]
  refine awp_mono x (fun e st hq => ?_) h
  cases e with
  | normal => exact h1 st hq
  | exit id => exact h2 _ _ (by simp) hq
  | ret => exact h2 _ _ (by simp) hq

end
end Go.PA

/- PA35: from a body of code to the contract. -/
namespace Go.PA

def resVarM (P : Program) (st : St) : ResultVar → RM A
  | .tmp t => match st.sl t with
    | some x => if x.good then .ret x else .fail
    | none => .fail
  | .cell a t => match st.sl a with
    | some (.ptr d []) => .rd d fun b => match b with
      | .var x => if tSize P t = some x.sz ∧ tAgg P t = some x.isAgg ∧ x.noown then .ret x else .fail
      | _ => .fail
    | _ => .fail

def resVarsM (P : Program) (st : St) : List ResultVar → RM (List A)
  | [] => .ret []
  | r :: rs => (resVarM P st r).bind fun x => (resVarsM P st rs).bind fun xs => .ret (x :: xs)

def backPass (m : Nat) (lk : Nat → Option A) : Nat → List Bool → List Nat → RM (List (Option A) × List Nat)
  | _, [], rm => .ret ([], rm)
  | i, b :: ms, rm => match b with
    | true => match lk i with
      | some x => if x.good then (takeA true m x rm).bind fun q => (backPass m lk (i + 1) ms q.2).bind fun q' => .ret (some q.1 :: q'.1, q'.2) else .fail
      | none => .fail
    | false => (backPass m lk (i + 1) ms rm).bind fun q' => .ret (none :: q'.1, q'.2)

def takeAll (m : Nat) : List A → List Nat → RM (List A × List Nat)
  | [], rm => .ret ([], rm)
  | x :: xs, rm => (takeA true m x rm).bind fun q => (takeAll m xs q.2).bind fun q' => .ret (q.1 :: q'.1, q'.2)

/-- What a body leaves behind. -/
def exitM (P : Program) (rvs : List ResultVar) (kb : List Bool) (st : St) : RM (List A × List (Option A)) :=
  (resVarsM P st rvs).bind fun rs => (takeAll 64 rs []).bind fun q => .req (nobors q.1 = true) ((backPass 64 st.sl 0 kb q.2).bind fun q2 => .ret (q.1, q2.1))

/-- What was noted first. -/
def gsOf (st : St) : Nat → Option A := match st.gs with
  | [] => fun _ => Option.none
  | p :: _ => p.2
/-- .. what goes back by what was noted of the arguments. -/
def exitMg (P : Program) (rvs : List ResultVar) (kb : List Bool) (st : St) : RM (List A × List (Option A)) :=
  (resVarsM P st rvs).bind fun rs => (takeAll 64 rs []).bind fun q => .req (nobors q.1 = true) ((backPass 64 (gsOf st) 0 kb q.2).bind fun q2 => .ret (q.1, q2.1))
def St.none (k : Nat) : St := { sl := fun _ => Option.none, bk := fun _ => Option.none, ids := fun _ => false, ep := k }

/-- What a body begins with. -/
def entrySt (args : List A) : Option St :=
  match unfs 0 args with
  | some (ys, bs, k) => some { (St.none k).addBks bs with sl := fun t => ys[t]? }
  | none => none

def fnOk (fn : Func) (args : List A) (kb : List Bool) : Bool := decide (args.length ≤ fn.ntmps) && decide (kb.length = args.length)

def exitQ (P : Program) (fn : Func) (kb : List Bool) (out : Out) : AExit → St → Prop
  | .exit _, _ => False
  | _, st => (exitM P fn.results.toList kb st).wp st.bk fun q _ => out = .ret q.1 q.2
def exitQg (P : Program) (fn : Func) (kb : List Bool) (out : Out) (tm : Array Value) : AExit → St → Prop
  | .exit _, _ => False
  | _, st => (st.gs.map (·.1)).head? = some tm ∧ (exitMg P fn.results.toList kb st).wp st.bk fun q _ => out = .ret q.1 q.2

section
variable {P : Program} {M : FuncId → List Bool} {c : Ctx} {st : St} {a : Act} {w : World} {loc : Nat → Option (Option Nat)} {S : Nat → Prop} {Fm : Nat → List Nat}

theorem resVar_ok (R : RelW c st a w loc S Fm) {r : ResultVar} {x : A} {l : List Nat} (h : RM.Runs st.bk (resVarM P st r) x l) :
    ∃ v, ((match r with | .tmp t => pure (a.tmps.getD t undef) | .cell a' t => do loadVar t (← asAddr (a.tmps.getD a' undef)) : Sem Value)).run P w = .ok v w ∧ VV x (envOf c st w loc S) v [] := by
  cases r with
  | tmp t =>
    simp only [resVarM] at h
    split at h
    · rename_i y hy
      split at h
      · rename_i hg
        obtain ⟨rfl, _⟩ := runs_ret h
        exact ⟨_, by simp, (TV_good hg).1 (R.slots t _ hy)⟩
      · exact (runs_fail h).elim
    · exact (runs_fail h).elim
  | cell a' t =>
    simp only [resVarM] at h
    split at h
    · rename_i d hy
      obtain ⟨b, l', hb, h, _⟩ := runs_rd h
      split at h
      · rename_i y
        split at h
        · rename_i hc
          obtain ⟨rfl, _⟩ := runs_ret h
          have ht := R.slots a' _ hy
          obtain ⟨hid, ad, hv, hloc⟩ := TV_ptr ht
          obtain ⟨g, cs, ty, Fx, hl, hh, hvr, hF⟩ := R.bks d _ hb
          obtain ⟨g', hg', had⟩ := hloc _ hl
          injection hg' with hg'
          subst hg'
          subst had
          have hFx : Fx = [] := VR_noown _ _ _ _ hc.2.2 hvr
          subst hFx
          obtain ⟨v, hr, hvv⟩ := run_load_VV (P := P) (w := w) (ad := ⟨g, offP [], Option.none⟩) hc.1 hc.2.1 hvr (cells_at (pre := []) (post := []) hh ⟨[], by simp⟩ rfl)
          refine ⟨v, ?_, hvv⟩
          change (do let x ← asAddr (a.tmps.getD a' undef); loadVar t x : Sem Value).run P w = _
          rw [hv]
          simp [asAddr, hr]
        · exact (runs_fail h).elim
      · exact (runs_fail h).elim
    · exact (runs_fail h).elim

theorem takeA_VV (R : RelW c st a w loc S Fm) (m : Nat) {x : A} {v : Value} {rm : List Nat} {q : A × List Nat} {l : List Nat} (h : VV x (envOf c st w loc S) v []) (r : RM.Runs st.bk (takeA true m x rm) q l) :
    ∃ G, VV q.1 (envOf c st w loc S).close v G ∧ Took st Fm [] rm q.2 G := by
  rcases h with ⟨hg, cs, hy, hv⟩ | ⟨hg, hv⟩
  · obtain ⟨he, G1, h3, T1⟩ := takeA_ok R true m x _ [] rm q l hv r List.nodup_nil (by simp)
    exact ⟨G1, .inl ⟨he ▸ hg, cs, hy, h3⟩, T1⟩
  · obtain ⟨he, G1, h3, T1⟩ := takeA_ok R true m x _ [] rm q l hv r List.nodup_nil (by simp)
    exact ⟨G1, .inr ⟨he ▸ hg, h3⟩, T1⟩

theorem resVars_ok (R : RelW c st a w loc S Fm) : ∀ {rs : List ResultVar} {xs : List A} {l : List Nat}, RM.Runs st.bk (resVarsM P st rs) xs l →
    ∃ vs : List Value, (rs.mapM (fun | .tmp t => pure (a.tmps.getD t undef) | .cell a' t => do loadVar t (← asAddr (a.tmps.getD a' undef)) : ResultVar → Sem Value)).run P w = .ok vs w ∧ VVs xs (envOf c st w loc S) vs []
  | [], xs, l, h => by
    simp only [resVarsM] at h
    obtain ⟨rfl, _⟩ := runs_ret h
    exact ⟨[], by simp, by simp [VVs]⟩
  | r :: rs, xs, l, h => by
    simp only [resVarsM] at h
    obtain ⟨x, l1, l2, r1, r2, _⟩ := RM.runs_bind h
    obtain ⟨xs', l3, l4, r3, r4, _⟩ := RM.runs_bind r2
    obtain ⟨rfl, _⟩ := runs_ret r4
    obtain ⟨v, h1, h2⟩ := resVar_ok R r1
    obtain ⟨vs, h3, h4⟩ := resVars_ok R r3
    refine ⟨v :: vs, ?_, ?_⟩
    · rw [List.mapM_cons]
      simp only [Sem.run_bind]
      rw [h1]
      simp only [Result.andThen]
      rw [h3]
      rfl
    · simp only [VVs]
      exact ⟨v, vs, [], [], rfl, rfl, h2, h4⟩

def oneV : List Value → Value
  | [v] => v
  | vs => .tuple vs.toArray

theorem results_ok {fn : Func} {vs : List Value} (h : (fn.results.toList.mapM (fun | .tmp t => pure (a.tmps.getD t undef) | .cell a' t => do loadVar t (← asAddr (a.tmps.getD a' undef)) : ResultVar → Sem Value)).run P w = .ok vs w) :
    (results fn a.tmps).run P w = .ok (oneV vs) w := by
  have h' : (fn.results.mapM (fun | .tmp t => pure (a.tmps.getD t undef) | .cell a' t => do loadVar t (← asAddr (a.tmps.getD a' undef)) : ResultVar → Sem Value)).run P w = .ok vs.toArray w := by
    rw [Array.mapM_eq_mapM_toList, Sem.run_map, h]
    rfl
  unfold results
  rw [Sem.run_bind]
  erw [h']
  match vs with
  | [] => rfl
  | [v] => rfl
  | v :: v' :: vs => rfl

theorem takeAll_ok (R : RelW c st a w loc S Fm) (m : Nat) : ∀ (xs : List A) (vs : List Value) (rm : List Nat) (q : List A × List Nat) (l : List Nat),
    VVs xs (envOf c st w loc S) vs [] → RM.Runs st.bk (takeAll m xs rm) q l → ∃ F, VVs q.1 (envOf c st w loc S).close vs F ∧ Took st Fm [] rm q.2 F
  | [], vs, rm, q, l, h, r => by
    simp only [takeAll] at r
    obtain ⟨rfl, _⟩ := runs_ret r
    simp only [VVs] at h
    exact ⟨[], by simp [VVs, h.1], .refl List.nodup_nil⟩
  | x :: xs, vs, rm, q, l, h, r => by
    simp only [takeAll] at r
    obtain ⟨q1, l1, l2, r1, r2, _⟩ := RM.runs_bind r
    obtain ⟨q2, l3, l4, r3, r4, _⟩ := RM.runs_bind r2
    obtain ⟨rfl, _⟩ := runs_ret r4
    simp only [VVs] at h
    obtain ⟨y, vs', F1, F2, rfl, hF, h1, h2⟩ := h
    simp at hF
    obtain ⟨rfl, rfl⟩ := hF
    obtain ⟨G1, h3, T1⟩ := takeA_VV R m h1 r1
    obtain ⟨G2, h4, T2⟩ := takeAll_ok R m xs vs' q1.2 q2 l3 h2 r3
    refine ⟨G1 ++ G2, ?_, Took.append (F1 := []) (F2 := []) R T1 T2 (by simp) (by simp)⟩
    simp only [VVs]
    exact ⟨y, vs', G1, G2, rfl, rfl, h3, h4⟩

theorem backPass_ok (R : RelW c st a w loc S Fm) (m : Nat) {lk : Nat → Option A} {val : Nat → Value} (hlk : ∀ t x, lk t = some x → TV x (envOf c st w loc S) (val t)) : ∀ (ms : List Bool) (i : Nat) (vs : List Value) (rm : List Nat) (q : List (Option A) × List Nat) (l : List Nat),
    ms.length = vs.length → (∀ j, ms.getD j false = true → val (i + j) = vs.getD j undef) → RM.Runs st.bk (backPass m lk i ms rm) q l → ∃ F, backRel (envOf c st w loc S).close q.1 vs F ∧ Took st Fm [] rm q.2 F
  | [], i, vs, rm, q, l, hl, hv, r => by
    simp only [backPass] at r
    obtain ⟨rfl, _⟩ := runs_ret r
    cases vs with
    | nil => exact ⟨[], rfl, .refl List.nodup_nil⟩
    | cons => simp at hl
  | b :: ms, i, vs, rm, q, l, hl, hv, r => by
    cases vs with
    | nil => simp at hl
    | cons v vs =>
      have hv' : ∀ j, ms.getD j false = true → val (i + 1 + j) = vs.getD j undef := fun j hj => by
        have := hv (j + 1) (by simpa using hj)
        rw [show i + 1 + j = i + (j + 1) by omega]
        simpa using this
      have hl' : ms.length = vs.length := by simpa using hl
      cases b with
      | true =>
        simp only [backPass] at r
        split at r
        · rename_i x hx
          split at r
          · rename_i hg
            obtain ⟨q1, l1, l2, r1, r2, _⟩ := RM.runs_bind r
            obtain ⟨q2, l3, l4, r3, r4, _⟩ := RM.runs_bind r2
            obtain ⟨rfl, _⟩ := runs_ret r4
            have h0 := (TV_good hg).1 (hlk i x hx)
            have h00 := hv 0 (by simp)
            simp only [Nat.add_zero, List.getD_cons_zero] at h00
            rw [h00] at h0
            obtain ⟨G1, h3, T1⟩ := takeA_VV R m h0 r1
            obtain ⟨G2, h4, T2⟩ := backPass_ok R m hlk ms (i + 1) vs q1.2 q2 l3 hl' hv' r3
            exact ⟨G1 ++ G2, ⟨G1, G2, rfl, h3, h4⟩, Took.append (F1 := []) (F2 := []) R T1 T2 (by simp) (by simp)⟩
          · exact (runs_fail r).elim
        · exact (runs_fail r).elim
      | false =>
        simp only [backPass] at r
        obtain ⟨q2, l3, l4, r3, r4, _⟩ := RM.runs_bind r
        obtain ⟨rfl, _⟩ := runs_ret r4
        obtain ⟨G2, h4, T2⟩ := backPass_ok R m hlk ms (i + 1) vs rm q2 l3 hl' hv' r3
        exact ⟨G2, h4, T2⟩

end
end Go.PA

/- PA36: the contract from the body. -/
namespace Go.PA

section
variable {P : Program} {M : FuncId → List Bool}

theorem getD_ofList (vs : List Value) (k t : Nat) : (vs.toArray ++ Array.replicate k undef).getD t undef = vs.getD t undef := by
  rw [Array.getD_eq_getD_getElem?, Array.getElem?_append]
  split
  · simp
  · rename_i h
    have h2 : vs.length ≤ t := by simpa using h
    rw [Array.getElem?_replicate, List.getD_eq_getElem?_getD, List.getElem?_eq_none h2]
    split <;> rfl

theorem resRel_of {e : Env} {ys : List A} {vs : List Value} {F : List Nat} (h : VVs ys e vs F) : resRel e ys (oneV vs) F := by
  have hl := VVs_length h
  match ys, vs, hl with
  | [y], [v], _ =>
    simp only [VVs] at h
    obtain ⟨y', vs', F1, F2, hv, rfl, h1, h2, rfl⟩ := h
    simp at hv
    obtain ⟨rfl, rfl⟩ := hv
    simpa [resRel, oneV, VV] using h1
  | [], [], _ => exact ⟨[], rfl, h⟩
  | y :: y' :: ys, v :: v' :: vs, _ => exact ⟨v :: v' :: vs, rfl, h⟩

theorem shape_put {w : World} {D : Nat} {o o' : Obj} (hD : w.heap[D]? = some o) (ho : o.isCells = false) (ho' : o'.isCells = false) (g : Nat) : (w.putObj D o').shape? g = w.shape? g := by
  unfold World.shape?
  by_cases h : g = D
  · subst h
    rw [World.putObj_heap_same (Array.getElem?_eq_some_iff.1 hD).1, hD]
    cases o <;> cases o' <;> simp_all [Obj.isCells]
  · rw [World.putObj_heap_other h]
theorem frozen_put {w : World} {D : Nat} {o o' : Obj} (hD : w.heap[D]? = some o) (ho : o.isCells = false) (ho' : o'.isCells = false) (a : Addr) : (w.putObj D o').frozen? a = w.frozen? a := by
  unfold World.frozen?
  by_cases h : a.block = D
  · rw [h, World.putObj_heap_same (Array.getElem?_eq_some_iff.1 hD).1, hD]
    cases o <;> cases o' <;> simp_all [Obj.isCells]
  · rw [World.putObj_heap_other h]

/-- A block that the frame knows nothing of turns. -/
theorem RelW.putX {c : Ctx} {st : St} {a a' : Act} {w : World} {loc S Fm} (R : RelW c st a w loc S Fm) {D : Nat} {o o' : Obj} (hD : w.heap[D]? = some o) (ho : o.isCells = false) (ho' : o'.isCells = false)
    (h0 : c.w0.heap.size ≤ D) (hS : ¬ S D) (hB : ¬ c.B D) (hF : ∀ d, D ∉ Fm d) (ht : a'.tmps = a.tmps) (hm : Marks c a' (w.putObj D o') S Fm []) : RelW c st a' (w.putObj D o') loc S Fm := by
  have hle : ∀ G : List Nat, D ∉ G → (envOf c st w loc S).Le (envOf c st (w.putObj D o') loc S) G := fun G hG =>
    ⟨fun g hg => World.putObj_heap_other fun e => by
      subst e
      rcases hg with h | h | h
      · exact hG h
      · exact hS h
      · exact hB h, fun _ h => h, fun _ h => .inr h, fun _ h => h, fun _ _ _ h => h, fun _ g _ _ => by simp only [envOf]; rw [shape_put hD ho ho']⟩
  have fr := R.fram
  refine ⟨fun t x hx => by rw [ht]; exact TV_mono (hle [] (by simp)) (R.slots t x hx), by rw [ht]; exact R.size, hm, fun p hp t x hx => TV_mono (hle [] (by simp)) (R.ghosts p hp t x hx), fun d b hb => BkR_mono (hle _ (hF d)) rfl (R.bks d b hb),
    R.dead, R.known, R.nodup, R.disj, fun d g hg => ?_, ⟨fun g hg hn => ?_, by simpa using fr.size, fr.os, fr.tape, fr.output, fr.sub, fr.new, fun g hg => by simpa using fr.bd g hg, fun g hg => by rw [shape_put hD ho ho']; exact fr.shp g hg, fun x => (frozen_put hD ho ho' x).trans (fr.fro x)⟩⟩
  · obtain ⟨h1, h2, h3, h4⟩ := R.own d g hg
    exact ⟨h1, h2, by simpa using h3, h4⟩
  · exact (World.putObj_heap_other (by omega)).trans (fr.heap g hg hn)

/-- The marks are gone through. -/
theorem leaves_marks {c : Ctx} {st : St} {fn : Func} {F : Fence} {Q : Ending → World → Prop} (hB : ∀ g, c.B g → g < c.w0.heap.size) {loc S Fm} : ∀ (Ds : List Nat) {a : Act} {w : World}, RelW c st a w loc S Fm → a.defers = Ds.map mark →
    (∀ {a' : Act} {w' : World}, a'.tmps = a.tmps → RelW c st a' w' loc S Fm → ∃ v, (results fn a'.tmps).run P w' = .ok v w' ∧ Q (.returned v) w') → LeavesInM F 0 P fn a.tmps Q a.defers .returning w
  | [], a, w, R, hd, h => by
    rw [hd]
    obtain ⟨v, h1, h2⟩ := h rfl R
    simp only [List.map_nil, LeavesInM, LeavesIn]
    exact ⟨v, h1, h2⟩
  | D :: Ds, a, w, R, hd, h => by
    obtain ⟨Ds', h1, h2, h3⟩ := R.defers
    have he : Ds' = D :: Ds := by
      have : Ds'.map mark = (D :: Ds).map mark := h1.symm.trans hd
      exact (List.map_inj_right (fun x y hxy => by simpa [mark] using hxy)).1 this
    subst he
    obtain ⟨h4, h5, h6, h7, _⟩ := h3 D (by simp)
    have hn := List.nodup_cons.1 h2
    have R2 : RelW c st { a with defers := Ds.map mark } (w.putObj D (.deferred none)) loc S Fm := by
      refine R.putX h5 rfl rfl h4 h6 (fun hb => by have := hB D hb; omega) h7 rfl ⟨Ds, rfl, hn.2, fun x hx => ?_⟩
      obtain ⟨g1, g2, g3, g4, g5⟩ := h3 x (by simp [hx])
      exact ⟨g1, (World.putObj_heap_other (fun e => by subst e; exact hn.1 hx)).trans g2, g3, g4, g5⟩
    have ih : LeavesInM F 0 P fn a.tmps Q (Ds.map mark) .returning (w.putObj D (.deferred none)) := leaves_marks hB Ds R2 rfl (fun ht R' => h ht R')
    rw [hd, List.map_cons]
    simp only [LeavesInM]
    exact ⟨by simp, .inl ⟨D, _, rfl, run_takeDeferred h5, ih⟩⟩

/-- The contract from the body; 'gm': what goes back goes by what was noted of the arguments. -/
theorem FS_ofWG (gm : Bool) {f : FuncId} {fn : Func} {code : Code} {args : List A} {kb : List Bool} {out : Out} {st0 : St} (hf : P.funcs[f]? = some fn) (hb : fn.body = some code) (hok : fnOk fn args kb = true)
    (he : entrySt args = some st0) (h : ∀ (c : Cx) (a : Act) (w : World), c.N = (fn.ntmps, cond gm [] kb) → ∀ tm, Rl c { st0 with gs := cond gm [(tm, st0.sl)] [] } a w → code.wpIn (fc c.ro) 0 P (liftQ c (cond gm (exitQg P fn kb out tm) (exitQ P fn kb out))) a w) : FS P f args out := by
  intro w S B vs F hvs hnd hF hbd
  unfold entrySt at he
  split at he
  case h_2 => cases he
  rename_i ys bs k hu
  injection he with he
  subst he
  simp only [fnOk, Bool.and_eq_true, decide_eq_true_eq] at hok
  obtain ⟨hn, hkb⟩ := hok
  have hvl := VVs_length hvs
  let c : Cx := { w0 := w, F0 := F, S0 := S, B := B, n := fn.ntmps, kb := cond gm [] kb, gh := fun t => vs.getD t undef }
  have hBlt : ∀ g, c.B g → g < c.w0.heap.size := fun g hg => hbd g (.inr hg)
  let a0 : Act := { tmps := vs.toArray ++ Array.replicate (fn.ntmps - vs.toArray.size) undef, defers := [] }
  have hfram : Fram c.toCtx w S := ⟨fun _ _ _ => rfl, Nat.le_refl _, rfl, rfl, rfl, fun _ h => h, fun _ h => .inl h, hbd, fun _ _ => rfl, fun _ => rfl⟩
  have R0 : RelG c.toCtx (St.none k) a0 w (fun _ => none) S (fun _ => []) [] (F ++ []) := by
    refine ⟨fun t x hx => by simp [St.none] at hx, ?_, ⟨[], rfl, List.nodup_nil, by simp⟩, fun p hp => by simp [St.none] at hp, fun d b hb => by simp [St.none] at hb, fun d _ => ⟨rfl, .inl rfl⟩, fun d hd => by simp [St.none] at hd, fun d g h => by simp at h, fun _ => List.nodup_nil, fun d d' _ g hg => by simp at hg,
      fun d g hg => by simp at hg, hfram, by simpa using hnd, fun g _ d hd => by simp at hd, fun g hg => ?_⟩
    · simp only [a0, c]
      simp
      omega
    · obtain ⟨h1, h2, h3⟩ := hF g (by simpa using hg)
      exact ⟨h1, h2, h3, .inl (by simpa using hg)⟩
  obtain ⟨_, loc', Fm', U, hV⟩ := unfs_okV (c := c.toCtx) (a := a0) (w := w) (S := S) args 0 ys bs k (St.none k) (fun _ => none) (fun _ => []) vs F [] hu hvs R0 (fun _ _ _ => rfl)
  have RW := U.rel.toW
  have R1 : Rl c { (St.none k).addBks bs with sl := fun t => ys[t]?, gs := cond gm [(vs.toArray, fun t => ys[t]?)] [] } a0 w := by
    refine ⟨⟨loc', S, Fm', fun t x hx => ?_, RW.size, RW.defers, fun p hp t x hx => ?gh, RW.bks, RW.dead, RW.known, RW.nodup, RW.disj, RW.own, RW.fram⟩, fun t ht => getD_ofList _ _ _⟩
    case gh =>
      cases gm with
      | false => simp at hp
      | true =>
        simp at hp
        subst hp
        obtain ⟨y, hy, hyv⟩ := VVs_at ys _ vs t x hV hx
        have : vs.toArray.getD t undef = y := by
          rw [Array.getD_eq_getD_getElem?, List.getElem?_toArray, hy]
          rfl
        rw [this]
        exact (TV_good (VV_isAgg hyv)).2 hyv
    obtain ⟨y, hy, hyv⟩ := VVs_at ys _ vs t x hV hx
    have : a0.tmps.getD t undef = y := by
      rw [getD_ofList, List.getD_eq_getElem?_getD, hy]
      rfl
    rw [this]
    exact (TV_good (VV_isAgg hyv)).2 hyv
  cases out with
  | pan x back =>
    have no : ∀ (e : AExit) (st : St), (cond gm (exitQg P fn kb (.pan x back) vs.toArray) (exitQ P fn kb (.pan x back))) e st → False := fun e st hx => by
      have hx : (cond gm (exitMg P fn.results.toList kb st) (exitM P fn.results.toList kb st)).wp st.bk (fun q _ => Out.pan x back = .ret q.1 q.2) := by
        cases gm <;> cases e <;> first | exact hx | exact hx.elim | exact hx.2
      obtain ⟨q, l, r, he⟩ := RM.runs_of_wp hx
      cases he
    refine callsIn_wide.1 (callsIn_of_wp_marks (F := Fence.wide) (n := 0) hf hb trivial (wpIn_mono (h c a0 w rfl _ R1) fun e a w' hq => ?_))
    cases e with
    | normal => obtain ⟨st, hx, _⟩ := hq; exact (no _ _ hx).elim
    | ret => obtain ⟨st, hx, _⟩ := hq; exact (no _ _ hx).elim
    | exit id => obtain ⟨st, hx, _⟩ := hq; exact (no _ _ hx).elim
    | goto l => exact hq.elim
    | panic ch => exact hq.elim
    | outgrown => exact hq.elim
  | ret res back =>
    have key : ∀ (st : St) (lk : Nat → Option A) (val : Nat → Value) (a : Act) (w' : World) (loc : Nat → Option (Option Nat)) (S' : Nat → Prop) (Fm : Nat → List Nat), RelW c.toCtx st a w' loc S' Fm →
        (∀ t x, lk t = some x → TV x (envOf c.toCtx st w' loc S') (val t)) → (∀ j, kb.getD j false = true → val j = vs.getD j undef) →
        ((resVarsM P st fn.results.toList).bind fun rs => (takeAll 64 rs []).bind fun q => .req (nobors q.1 = true) ((backPass 64 lk 0 kb q.2).bind fun q2 => .ret (q.1, q2.1))).wp st.bk (fun q _ => Out.ret res back = .ret q.1 q.2) →
        ∃ v, (results fn a.tmps).run P w' = .ok v w' ∧ ∃ (S' : Nat → Prop) (F' : List Nat), Fram ⟨w, F, S, B, 0⟩ w' S' ∧ F'.Nodup ∧
        (∀ g ∈ F', ¬ S' g ∧ ¬ B g ∧ g < w'.heap.size ∧ (g ∈ F ∨ w.heap.size ≤ g)) ∧
        ∃ Fr Fb, F' = Fr ++ Fb ∧ resRel (cEnv w' S' fun _ => False) res v Fr ∧ backRel (cEnv w' S' B) back vs Fb := by
      intro st lk val a w' loc S' Fm R hlk hval hx
      obtain ⟨q, l, r, he⟩ := RM.runs_of_wp hx
      injection he with he1 he2
      subst he1 he2
      obtain ⟨rs, l1, l2, r1, r2, _⟩ := RM.runs_bind r
      obtain ⟨q1, l3, l4, r3, r4, _⟩ := RM.runs_bind r2
      obtain ⟨hnb, r5⟩ := runs_req r4
      obtain ⟨q2, l5, l6, r6, r7, _⟩ := RM.runs_bind r5
      obtain ⟨rfl, _⟩ := runs_ret r7
      obtain ⟨rvs, h1, h2⟩ := resVars_ok R r1
      obtain ⟨Fr, h3, T1⟩ := takeAll_ok R 64 rs rvs [] q1 l3 h2 r3
      obtain ⟨Fb, h4, T2⟩ := backPass_ok R 64 hlk kb 0 vs q1.2 q2 l5 (by rw [hkb, hvl]) (fun j hj => by rw [Nat.zero_add]; exact hval j hj) r6
      have T := Took.append (F1 := []) (F2 := []) R T1 T2 (by simp) (by simp)
      have fr := R.fram
      refine ⟨_, results_ok h1, S', Fr ++ Fb, ⟨fr.heap, fr.size, fr.os, fr.tape, fr.output, fr.sub, fr.new, fr.bd, fr.shp, fr.fro⟩, T.nodup, fun g hg => ?_, Fr, Fb, rfl, ?_, h4⟩
      · rcases T.sub g hg with h | ⟨d, _, _, hd⟩
        · simp at h
        · exact R.own d g hd
      · exact resRel_of (VVs_noB _ _ _ _ hnb h3)
    refine callsIn_wide.1 (callsIn_of_wp_marks (F := Fence.wide) (n := 0) hf hb trivial (wpIn_mono (h c a0 w rfl _ R1) fun e a w' hq => ?_))
    have fin : ∀ st (e : AExit), (e = .normal ∨ e = .ret) → (cond gm (exitQg P fn kb (.ret res back) vs.toArray) (exitQ P fn kb (.ret res back))) e st → Rl c st a w' → ∀ {Q : Ending → World → Prop}, (∀ v w', (∃ (S' : Nat → Prop) (F' : List Nat), Fram ⟨w, F, S, B, 0⟩ w' S' ∧ F'.Nodup ∧
        (∀ g ∈ F', ¬ S' g ∧ ¬ B g ∧ g < w'.heap.size ∧ (g ∈ F ∨ w.heap.size ≤ g)) ∧ ∃ Fr Fb, F' = Fr ++ Fb ∧ resRel (cEnv w' S' fun _ => False) res v Fr ∧ backRel (cEnv w' S' B) back vs Fb) → Q (.returned v) w') →
        LeavesInM Fence.wide 0 P fn a.tmps Q a.defers .returning w' := by
      intro st e he hx ⟨⟨loc, S', Fm, R⟩, hkp⟩ Q hQ
      obtain ⟨Ds, hd, _⟩ := R.defers
      refine leaves_marks hBlt Ds R hd fun {a'} {w2} ht R' => ?_
      have hk : ∃ v, (results fn a'.tmps).run P w2 = .ok v w2 ∧ ∃ (S' : Nat → Prop) (F' : List Nat), Fram ⟨w, F, S, B, 0⟩ w2 S' ∧ F'.Nodup ∧
        (∀ g ∈ F', ¬ S' g ∧ ¬ B g ∧ g < w2.heap.size ∧ (g ∈ F ∨ w.heap.size ≤ g)) ∧ ∃ Fr Fb, F' = Fr ++ Fb ∧ resRel (cEnv w2 S' fun _ => False) res v Fr ∧ backRel (cEnv w2 S' B) back vs Fb := by
        cases gm with
        | true =>
          have hx : (st.gs.map (·.1)).head? = some vs.toArray ∧ (exitMg P fn.results.toList kb st).wp st.bk fun q _ => Out.ret res back = .ret q.1 q.2 := by
            rcases he with rfl | rfl <;> exact hx
          refine key st (gsOf st) (fun t => vs.getD t undef) a' w2 loc S' Fm R' (fun t x hx2 => ?_) (fun _ _ => rfl) hx.2
          have hx1 := hx.1
          cases hg : st.gs with
          | nil => simp [hg] at hx1
          | cons p tl =>
            rw [hg] at hx1
            simp only [List.map_cons, List.head?_cons, Option.some.injEq] at hx1
            have hx3 : p.2 t = some x := by simpa [gsOf, hg] using hx2
            have := R'.ghosts p (by rw [hg]; simp) t x hx3
            rw [hx1, Array.getD_eq_getD_getElem?, List.getElem?_toArray] at this
            rw [List.getD_eq_getElem?_getD]
            exact this
        | false =>
          refine key st st.sl (fun t => a'.tmps.getD t undef) a' w2 loc S' Fm R' R'.slots (fun j hj => by rw [ht]; exact hkp j hj) ?_
          rcases he with rfl | rfl <;> exact hx
      obtain ⟨v, h1, hk⟩ := hk
      exact ⟨v, h1, hQ v w2 hk⟩
    cases e with
    | normal =>
      obtain ⟨st, hx, R⟩ := hq
      exact fin st .normal (.inl rfl) hx R fun v w' h => h
    | ret =>
      obtain ⟨st, hx, R⟩ := hq
      exact fin st .ret (.inr rfl) hx R fun v w' h => h
    | exit id =>
      obtain ⟨st, hx, R⟩ := hq
      cases gm <;> exact hx.elim
    | goto l => exact hq.elim
    | panic ch => exact hq.elim
    | outgrown => exact hq.elim

theorem FS_ofW {f : FuncId} {fn : Func} {code : Code} {args : List A} {kb : List Bool} {out : Out} {st0 : St} (hf : P.funcs[f]? = some fn) (hb : fn.body = some code) (hok : fnOk fn args kb = true)
    (he : entrySt args = some st0) (h : ∀ (c : Cx) (a : Act) (w : World), c.N = (fn.ntmps, kb) → Rl c st0 a w → code.wpIn (fc c.ro) 0 P (liftQ c (exitQ P fn kb out)) a w) : FS P f args out := by
  refine FS_ofWG false hf hb hok he fun c a w hc tm R => h c a w hc ?_
  have hg : { st0 with gs := cond false [(tm, st0.sl)] [] } = st0 := by
    unfold entrySt at he
    split at he
    · injection he with he
      subst he
      rfl
    · cases he
  rw [hg] at R
  exact R

end
end Go.PA

/- PA37: the blocks' names may be turned. -/
namespace Go.PA

mutual
def ren (π : Nat → Option Nat) : A → Option A
  | .v x => some (.v x)
  | .und => some .und
  | .sl p xs => some (.sl p xs)
  | .rp p a => some (.rp p a)
  | .osl s xs => some (.osl s xs)
  | .box a => some (.box a)
  | .arr t xs => some (.arr t xs)
  | .ref d s off len full => (π d).map fun d' => .ref d' s off len full
  | .aref d p s off len => (π d).map fun d' => .aref d' p s off len
  | .ptr d p => (π d).map fun d' => .ptr d' p
  | .agg xs => (rens π xs).map .agg
  | .tup xs => (rens π xs).map .tup
  | .clo f a b => match rens π a, rens π b with
    | some a', some b' => some (.clo f a' b')
    | _, _ => none
  | .ifc t a => (ren π a).map (.ifc t)
  | .mp ks vs => some (.mp ks vs)
  | .mref d => (π d).map .mref
  | .yl R => some (.yl R)
  | .yref d => (π d).map .yref
def rens (π : Nat → Option Nat) : List A → Option (List A)
  | [] => some []
  | x :: xs => match ren π x, rens π xs with
    | some y, some ys => some (y :: ys)
    | _, _ => none
end

def renB (π : Nat → Option Nat) : Blk → Option Blk
  | .row s xs => if closeds xs then some (.row s xs) else (rens π xs).map (.row s)
  | .froz s xs => some (.froz s xs)
  | .mp ks vs => (rens π vs).map (.mp ks)
  | .yld R => some (.yld R)
  | .var a => (ren π a).map .var

/-- 'e'' is 'e', the names turned. -/
structure Env.Ren (π : Nat → Option Nat) (e e' : Env) : Prop where
  w : e'.w = e.w
  S : e'.S = e.S
  B : e'.B = e.B
  ids : ∀ d d', π d = some d' → e'.ids d' = true
  loc : ∀ d d' l, π d = some d' → e'.loc d' = some l → e.loc d = some l

section
variable {π : Nat → Option Nat} {e e' : Env}

theorem Env.Ren.cl (h : Env.Ren π e e') (p : Bool) : e'.cl p = e.cl p := by
  cases p <;> simp [Env.cl, Env.close, Env.shut, h.w, h.S, h.B]
theorem Env.Ren.shut (h : Env.Ren π e e') : e'.shut = e.shut := by simp [Env.shut, h.w, h.S]
theorem Env.Ren.close (h : Env.Ren π e e') : e'.close = e.close := by simp [Env.close, h.w, h.S, h.B]
theorem Env.Ren.ok (h : Env.Ren π e e') (p : Bool) (g : Nat) : e'.ok p g ↔ e.ok p g := by simp [Env.ok, h.S, h.B]

mutual
theorem ren_isAgg : ∀ (a a' : A), ren π a = some a' → a'.isAgg = a.isAgg
  | .v x, a', h => by simp [ren] at h; subst h; rfl
  | .und, a', h => by simp [ren] at h; subst h; rfl
  | .sl .., a', h => by simp [ren] at h; subst h; rfl
  | .rp .., a', h => by simp [ren] at h; subst h; rfl
  | .osl .., a', h => by simp [ren] at h; subst h; rfl
  | .box _, a', h => by simp [ren] at h; subst h; rfl
  | .arr .., a', h => by simp [ren] at h; subst h; rfl
  | .ref .., a', h => by simp [ren] at h; obtain ⟨_, _, rfl⟩ := h; rfl
  | .aref .., a', h => by simp [ren] at h; obtain ⟨_, _, rfl⟩ := h; rfl
  | .ptr .., a', h => by simp [ren] at h; obtain ⟨_, _, rfl⟩ := h; rfl
  | .agg .., a', h => by simp [ren] at h; obtain ⟨_, _, rfl⟩ := h; rfl
  | .tup .., a', h => by simp [ren] at h; obtain ⟨_, _, rfl⟩ := h; rfl
  | .clo .., a', h => by
    simp only [ren] at h
    split at h
    · simp at h; subst h; rfl
    · simp at h
  | .ifc .., a', h => by simp [ren] at h; obtain ⟨_, _, rfl⟩ := h; rfl
  | .mp .., a', h => by simp [ren] at h; subst h; rfl
  | .yl _, a', h => by simp [ren] at h; subst h; rfl
  | .mref _, a', h => by simp [ren] at h; obtain ⟨_, _, rfl⟩ := h; rfl
  | .yref _, a', h => by simp [ren] at h; obtain ⟨_, _, rfl⟩ := h; rfl
end

mutual
theorem VR_ren (hr : Env.Ren π e e') : ∀ (a a' : A) (vs : List Value) (F : List Nat), ren π a = some a' → VR a e vs F → VR a' e' vs F
  | .v x, a', vs, F, h, hv => by simp [ren] at h; subst h; simpa only [VR] using hv
  | .und, a', vs, F, h, hv => by simp [VR] at hv
  | .tup _, a', vs, F, h, hv => by simp [VR] at hv
  | .mp .., a', vs, F, h, hv => by
    simp [ren] at h; subst h
    simp only [VR] at hv ⊢
    simpa only [hr.shut, hr.w] using hv
  | .mref d, a', vs, F, h, hv => by
    simp [ren] at h
    obtain ⟨d', hd, rfl⟩ := h
    simp only [VR] at hv ⊢
    obtain ⟨h1, h2, g, h3, h4⟩ := hv
    exact ⟨h1, hr.ids d d' hd, g, h3, fun l hl => h4 l (hr.loc d d' l hd hl)⟩
  | .yl _, a', vs, F, h, hv => by
    simp [ren] at h; subst h
    simp only [VR] at hv ⊢
    simpa only [hr.close, hr.w] using hv
  | .yref d, a', vs, F, h, hv => by
    simp [ren] at h
    obtain ⟨d', hd, rfl⟩ := h
    simp only [VR] at hv ⊢
    obtain ⟨h1, h2, g, h3, h4⟩ := hv
    exact ⟨h1, hr.ids d d' hd, g, h3, fun l hl => h4 l (hr.loc d d' l hd hl)⟩
  | .sl p xs, a', vs, F, h, hv => by
    simp [ren] at h; subst h
    simp only [VR] at hv ⊢
    simpa only [hr.cl, hr.w, hr.ok] using hv
  | .rp p x, a', vs, F, h, hv => by
    simp [ren] at h; subst h
    simp only [VR] at hv ⊢
    simpa only [hr.cl, hr.w, hr.ok] using hv
  | .osl s xs, a', vs, F, h, hv => by
    simp [ren] at h; subst h
    simp only [VR] at hv ⊢
    simpa only [hr.shut, hr.w] using hv
  | .box x, a', vs, F, h, hv => by
    simp [ren] at h; subst h
    simp only [VR] at hv ⊢
    simpa only [hr.close, hr.w] using hv
  | .arr t xs, a', vs, F, h, hv => by
    simp [ren] at h; subst h
    simp only [VR] at hv ⊢
    simpa only [hr.shut] using hv
  | .ref d s off len full, a', vs, F, h, hv => by
    simp [ren] at h
    obtain ⟨d', hd, rfl⟩ := h
    simp only [VR] at hv ⊢
    obtain ⟨h1, h2, a, c, h3, h4, h5, h6, h7⟩ := hv
    refine ⟨h1, hr.ids d d' hd, a, c, h3, h4, h5, h6, fun l hl => ?_⟩
    have := h7 l (hr.loc d d' l hd hl)
    simpa only [hr.w] using this
  | .aref d p s off len, a', vs, F, h, hv => by
    simp [ren] at h
    obtain ⟨d', hd, rfl⟩ := h
    simp only [VR] at hv ⊢
    obtain ⟨h1, h2, a, c, h3, h4, h5, h7⟩ := hv
    exact ⟨h1, hr.ids d d' hd, a, c, h3, h4, h5, fun l hl => h7 l (hr.loc d d' l hd hl)⟩
  | .ptr d p, a', vs, F, h, hv => by
    simp [ren] at h
    obtain ⟨d', hd, rfl⟩ := h
    simp only [VR] at hv ⊢
    obtain ⟨h1, h2, ad, h3, h7⟩ := hv
    exact ⟨h1, hr.ids d d' hd, ad, h3, fun l hl => h7 l (hr.loc d d' l hd hl)⟩
  | .agg xs, a', vs, F, h, hv => by
    simp [ren] at h
    obtain ⟨xs', hx, rfl⟩ := h
    simp only [VR] at hv ⊢
    exact VRs_ren hr xs xs' vs F hx hv
  | .ifc t x, a', vs, F, h, hv => by
    simp [ren] at h
    obtain ⟨x', hx, rfl⟩ := h
    simp only [VR] at hv ⊢
    obtain ⟨y, h1, h2⟩ := hv
    refine ⟨y, h1, ?_⟩
    rw [ren_isAgg x x' hx]
    rcases h2 with ⟨h2, cs, h3, h4⟩ | ⟨h2, h4⟩
    · exact .inl ⟨h2, cs, h3, VR_ren hr x x' _ _ hx h4⟩
    · exact .inr ⟨h2, VR_ren hr x x' _ _ hx h4⟩
  | .clo f fa ca, a', vs, F, h, hv => by
    simp only [ren] at h
    split at h
    · rename_i a1 b1 ha hb
      injection h with h
      subst h
      simp only [VR] at hv ⊢
      obtain ⟨fvs, cvs, Ff, Fc, h1, h2, h3, h4⟩ := hv
      exact ⟨fvs, cvs, Ff, Fc, h1, h2, VVs_ren hr fa a1 fvs Ff ha h3, VVs_ren hr ca b1 cvs Fc hb h4⟩
    · cases h
theorem VRs_ren (hr : Env.Ren π e e') : ∀ (xs xs' : List A) (vs : List Value) (F : List Nat), rens π xs = some xs' → VRs xs e vs F → VRs xs' e' vs F
  | [], xs', vs, F, h, hv => by simp [rens] at h; subst h; simpa only [VRs] using hv
  | x :: xs, xs', vs, F, h, hv => by
    simp only [rens] at h
    split at h
    · rename_i y ys hy hys
      injection h with h
      subst h
      simp only [VRs] at hv ⊢
      obtain ⟨us, vs', F1, F2, h1, h2, h3, h4⟩ := hv
      exact ⟨us, vs', F1, F2, h1, h2, VR_ren hr x y us F1 hy h3, VRs_ren hr xs ys vs' F2 hys h4⟩
    · cases h
theorem VVs_ren (hr : Env.Ren π e e') : ∀ (xs xs' : List A) (vs : List Value) (F : List Nat), rens π xs = some xs' → VVs xs e vs F → VVs xs' e' vs F
  | [], xs', vs, F, h, hv => by simp [rens] at h; subst h; simpa only [VVs] using hv
  | x :: xs, xs', vs, F, h, hv => by
    simp only [rens] at h
    split at h
    · rename_i y ys hy hys
      injection h with h
      subst h
      simp only [VVs] at hv ⊢
      obtain ⟨u, vs', F1, F2, h1, h2, h3, h4⟩ := hv
      refine ⟨u, vs', F1, F2, h1, h2, ?_, VVs_ren hr xs ys vs' F2 hys h4⟩
      rw [ren_isAgg x y hy]
      rcases h3 with ⟨h5, cs, h6, h7⟩ | ⟨h5, h7⟩
      · exact .inl ⟨h5, cs, h6, VR_ren hr x y _ _ hy h7⟩
      · exact .inr ⟨h5, VR_ren hr x y _ _ hy h7⟩
    · cases h
end

theorem TV_ren (hr : Env.Ren π e e') {a a' : A} {y : Value} (h : ren π a = some a') (hv : TV a e y) : TV a' e' y := by
  have good : ∀ a : A, a.good = true → ren π a = some a' → TV a e y → TV a' e' y := by
    intro a hg h hv
    have h1 := (TV_good hg).1 hv
    have h2 : VV a' e' y [] := by
      unfold VV at h1 ⊢
      rw [ren_isAgg a a' h]
      rcases h1 with ⟨h5, cs, h6, h7⟩ | ⟨h5, h7⟩
      · exact .inl ⟨h5, cs, h6, VR_ren hr a a' _ _ h h7⟩
      · exact .inr ⟨h5, VR_ren hr a a' _ _ h h7⟩
    exact (TV_good (VV_isAgg h2)).2 h2
  cases a with
  | und => simp [ren] at h; subst h; exact hv
  | tup xs =>
    simp [ren] at h
    obtain ⟨xs', hx, rfl⟩ := h
    obtain ⟨vs, h1, h2⟩ := hv
    exact ⟨vs, h1, VVs_ren hr xs xs' vs [] hx h2⟩
  | _ => exact good _ rfl h hv

mutual
theorem ren_sz : ∀ (a a' : A), ren π a = some a' → a'.sz = a.sz
  | .v x, a', h => by simp [ren] at h; subst h; rfl
  | .und, a', h => by simp [ren] at h; subst h; rfl
  | .sl .., a', h => by simp [ren] at h; subst h; rfl
  | .rp .., a', h => by simp [ren] at h; subst h; rfl
  | .osl .., a', h => by simp [ren] at h; subst h; rfl
  | .box _, a', h => by simp [ren] at h; subst h; rfl
  | .arr .., a', h => by simp [ren] at h; subst h; rfl
  | .ref .., a', h => by simp [ren] at h; obtain ⟨d, _, rfl⟩ := h; rfl
  | .aref .., a', h => by simp [ren] at h; obtain ⟨d, _, rfl⟩ := h; rfl
  | .ptr .., a', h => by simp [ren] at h; obtain ⟨d, _, rfl⟩ := h; rfl
  | .agg xs, a', h => by
    simp [ren] at h
    obtain ⟨xs', hx, rfl⟩ := h
    simp only [A.sz]
    exact rens_szs xs xs' hx
  | .tup xs, a', h => by simp [ren] at h; obtain ⟨_, _, rfl⟩ := h; rfl
  | .clo f x y, a', h => by
    simp only [ren] at h
    split at h
    · injection h with h; subst h; rfl
    · cases h
  | .ifc t x, a', h => by simp [ren] at h; obtain ⟨_, _, rfl⟩ := h; rfl
  | .mp .., a', h => by simp [ren] at h; subst h; rfl
  | .yl _, a', h => by simp [ren] at h; subst h; rfl
  | .mref _, a', h => by simp [ren] at h; obtain ⟨_, _, rfl⟩ := h; rfl
  | .yref _, a', h => by simp [ren] at h; obtain ⟨_, _, rfl⟩ := h; rfl
theorem rens_szs : ∀ (xs xs' : List A), rens π xs = some xs' → szs xs' = szs xs
  | [], xs', h => by simp [rens] at h; subst h; rfl
  | x :: xs, xs', h => by
    simp only [rens] at h
    split at h
    · rename_i y ys hy hys
      injection h with h; subst h
      simp only [szs, ren_sz x y hy, rens_szs xs ys hys]
    · cases h
end
theorem rens_sz : ∀ (xs xs' : List A), rens π xs = some xs' → xs'.length = xs.length ∧ ∀ y ∈ xs', ∃ x ∈ xs, y.sz = x.sz
  | [], xs', h => by simp [rens] at h; subst h; simp
  | x :: xs, xs', h => by
    simp only [rens] at h
    split at h
    · rename_i y ys hy hys
      injection h with h; subst h
      obtain ⟨h1, h2⟩ := rens_sz xs ys hys
      refine ⟨by simp [h1], fun z hz => ?_⟩
      rcases List.mem_cons.1 hz with rfl | hz
      · exact ⟨x, by simp, ren_sz x _ hy⟩
      · obtain ⟨x', hx', hs⟩ := h2 z hz
        exact ⟨x', by simp [hx'], hs⟩
    · cases h

theorem BkR_ren (hr : Env.Ren π e e') {d d' : Nat} {b b' : Blk} {F : List Nat} (hl : e'.loc d' = e.loc d) (h : renB π b = some b') (hv : BkR e d b F) : BkR e' d' b' F := by
  cases b with
  | mp ks xs =>
    simp [renB] at h
    obtain ⟨xs', hx, rfl⟩ := h
    simp only [BkR] at hv ⊢
    obtain ⟨g, es, clock, Fx, h1, h2, h3, h4, h5, h6⟩ := hv
    exact ⟨g, es, clock, Fx, hl.trans h1, by rw [hr.w]; exact h2, h3, by rw [hr.shut]; exact h4, VVs_ren hr xs xs' _ _ hx h5, h6⟩
  | yld Q =>
    simp [renB] at h; subst h
    simp only [BkR] at hv ⊢
    simpa only [hl, hr.w, hr.close] using hv
  | row s xs =>
    simp only [renB] at h
    split at h
    · rename_i hc
      injection h with h; subst h
      simp only [BkR] at hv ⊢
      obtain ⟨h1, h2, h3⟩ := hv
      refine ⟨h1, h2, h3.imp (fun h => ⟨hl.trans h.1, h.2⟩) fun ⟨g, cs, ty, c, us, Fx, h4, h5, h6, h7, h8, h9, h10⟩ => ⟨g, cs, ty, c, us, Fx, hl.trans h4, h5, h6, by rw [hr.w]; exact h7, h8, ?_, h10⟩⟩
      rw [VRs_close _ _ _ _ hc, hr.close, ← VRs_close _ _ _ _ hc]
      exact h9
    · obtain ⟨xs', hx, rfl⟩ := Option.map_eq_some_iff.1 h
      obtain ⟨hlen, hsz⟩ := rens_sz xs xs' hx
      simp only [BkR] at hv ⊢
      obtain ⟨h1, h2, h3⟩ := hv
      refine ⟨h1, fun y hy => ?_, h3.imp (fun h => ⟨hl.trans h.1, ?_, h.2.2⟩) fun ⟨g, cs, ty, c, us, Fx, h4, h5, h6, h7, h8, h9, h10⟩ => ⟨g, cs, ty, c, us, Fx, hl.trans h4, by rw [hlen]; exact h5, h6, by rw [hr.w]; exact h7, h8, VRs_ren hr xs xs' us Fx hx h9, h10⟩⟩
      · obtain ⟨x, hx', hs⟩ := hsz y hy
        rw [hs]; exact h2 x hx'
      · exact List.eq_nil_of_length_eq_zero (by rw [hlen, h.2.1]; rfl)
  | froz s xs =>
    simp [renB] at h; subst h
    simp only [BkR] at hv ⊢
    simpa only [hl, hr.w, hr.shut, hr.S] using hv
  | var a =>
    simp [renB] at h
    obtain ⟨a', ha, rfl⟩ := h
    simp only [BkR] at hv ⊢
    obtain ⟨g, cs, ty, Fx, h1, h2, h3, h4⟩ := hv
    exact ⟨g, cs, ty, Fx, hl.trans h1, by rw [hr.w]; exact h2, VR_ren hr a a' _ _ ha h3, h4⟩
end

/-- The names turned by 'π', back by 'σ'. -/
theorem Weak.ren {st st' : St} {π σ : Nat → Option Nat} (h1 : ∀ d d', π d = some d' → σ d' = some d) (h2 : ∀ d d', σ d' = some d → π d = some d')
    (hs : ∀ t x', st'.sl t = some x' → ∃ x, st.sl t = some x ∧ PA.ren π x = some x') (hb : ∀ d' b', st'.bk d' = some b' → ∃ d b, σ d' = some d ∧ st.bk d = some b ∧ renB π b = some b')
    (hi : ∀ d d', π d = some d' → st'.ids d' = true) (hg : ∀ p', p' ∈ st'.gs → ∃ p, p ∈ st.gs ∧ p.1 = p'.1 ∧ ∀ t x', p'.2 t = some x' → ∃ x, p.2 t = some x ∧ PA.ren π x = some x') : Weak st st' := by
  intro c a w ⟨loc, S, Fm, R⟩
  let loc' : Nat → Option (Option Nat) := fun d' => match st'.bk d' with
    | some _ => (σ d').bind loc
    | none => none
  let Fm' : Nat → List Nat := fun d' => match st'.bk d' with
    | some _ => (match σ d' with | some d => Fm d | none => [])
    | none => []
  have hr : Env.Ren π (envOf c st w loc S) (envOf c st' w loc' S) := by
    refine ⟨rfl, rfl, rfl, hi, fun d d' l hd hl => ?_⟩
    simp only [envOf, loc'] at hl ⊢
    split at hl
    · rw [h1 d d' hd] at hl
      exact hl
    · cases hl
  have hF : ∀ d' g, g ∈ Fm' d' → ∃ d, σ d' = some d ∧ g ∈ Fm d := by
    intro d' g hg
    simp only [Fm'] at hg
    split at hg
    · split at hg
      · rename_i d hd
        exact ⟨d, hd, hg⟩
      · simp at hg
    · simp at hg
  refine ⟨loc', S, Fm', fun t x' hx => ?_, R.size, R.defers.next (fun _ _ _ _ => rfl) (fun g h => .inl h) (fun d' g h => .inl (let ⟨d, _, h⟩ := hF d' g h; ⟨d, h⟩)) (fun g h => by simp at h), fun p' hp t x' hx => ?gh, fun d' b' hb' => ?_, fun d' hd' => ?_, fun d' hd' => ?_, fun d' => ?_, fun d1 d2 hne g hg hg2 => ?_, fun d' g hg => ?_, R.fram⟩
  case gh =>
    obtain ⟨p, hp1, hp2, hp3⟩ := hg p' hp
    obtain ⟨x, hx1, hx2⟩ := hp3 t x' hx
    rw [← hp2]
    exact TV_ren hr hx2 (R.ghosts p hp1 t x hx1)
  · obtain ⟨x, hx1, hx2⟩ := hs t x' hx
    exact TV_ren hr hx2 (R.slots t x hx1)
  · obtain ⟨d, b, h3, h4, h5⟩ := hb d' b' hb'
    have hl : (envOf c st' w loc' S).loc d' = (envOf c st w loc S).loc d := by
      simp only [envOf, loc', hb', h3, Option.bind_some]
    have := BkR_ren hr hl h5 (R.bks d b h4)
    simpa only [Fm', hb', h3] using this
  · simp only [Fm', loc', hd']
    exact ⟨trivial, trivial⟩
  · obtain ⟨b', hb'⟩ := Option.ne_none_iff_exists'.1 hd'
    obtain ⟨d, b, h3, h4, h5⟩ := hb d' b' hb'
    exact hi d d' (h2 d d' h3)
  · simp only [Fm']
    split
    · split
      · exact R.nodup _
      · exact List.nodup_nil
    · exact List.nodup_nil
  · obtain ⟨e1, he1, hg1⟩ := hF d1 g hg
    obtain ⟨e2, he2, hg2'⟩ := hF d2 g hg2
    have : e1 ≠ e2 := fun h => hne (by
      subst h
      have a1 := h2 _ _ he1
      have a2 := h2 _ _ he2
      rw [a1] at a2
      injection a2)
    exact R.disj e1 e2 this g hg1 hg2'
  · obtain ⟨d, _, hg⟩ := hF d' g hg
    exact R.own d g hg

end Go.PA

/- PA38: states as they are written down. -/
namespace Go.PA

def alook {α : Type} : List (Nat × α) → Nat → Option α
  | [], _ => none
  | q :: l, t => if t = q.1 then some q.2 else alook l t

theorem alook_mem {α : Type} {l : List (Nat × α)} {t : Nat} {x : α} (h : alook l t = some x) : (t, x) ∈ l := by
  induction l with
  | nil => simp [alook] at h
  | cons q l ih =>
    simp only [alook] at h
    split at h
    · rename_i he
      injection h with h
      subst he h
      simp
    · exact List.mem_cons_of_mem _ (ih h)

theorem alook_of_mem {α : Type} {l : List (Nat × α)} (hn : (l.map (·.1)).Nodup) {t : Nat} {x : α} (h : (t, x) ∈ l) : alook l t = some x := by
  induction l with
  | nil => simp at h
  | cons q l ih =>
    simp only [List.map_cons, List.nodup_cons] at hn
    simp only [alook]
    rcases List.mem_cons.1 h with h | h
    · subst h; simp
    · rw [if_neg (fun e => hn.1 (List.mem_map.2 ⟨_, h, e⟩))]
      exact ih hn.2 h

def St.of (sls : List (Nat × A)) (bks : List (Nat × Blk)) (ep : Nat) : St := ⟨alook sls, alook bks, fun d => decide (d < ep), ep, []⟩

theorem St.of_sl (sls : List (Nat × A)) (bks : List (Nat × Blk)) (ep : Nat) : (St.of sls bks ep).sl = alook sls := rfl
theorem St.of_bk (sls : List (Nat × A)) (bks : List (Nat × Blk)) (ep : Nat) : (St.of sls bks ep).bk = alook bks := rfl
theorem St.of_ep (sls : List (Nat × A)) (bks : List (Nat × Blk)) (ep : Nat) : (St.of sls bks ep).ep = ep := rfl
theorem St.of_ids (sls : List (Nat × A)) (bks : List (Nat × Blk)) (ep d : Nat) : (St.of sls bks ep).ids d = decide (d < ep) := rfl

def slsOk (π : Nat → Option Nat) (sl : Nat → Option A) : List (Nat × A) → Prop
  | [] => True
  | q :: l => (sl q.1).bind (ren π) = some q.2 ∧ slsOk π sl l
def bksOk (π σ : Nat → Option Nat) (bk : Nat → Option Blk) : List (Nat × Blk) → Prop
  | [] => True
  | q :: l => ((σ q.1).bind bk).bind (renB π) = some q.2 ∧ bksOk π σ bk l

def nodupB : List Nat → Bool
  | [] => true
  | x :: l => !l.contains x && nodupB l
theorem nodupB_ok : ∀ {l : List Nat}, nodupB l = true → l.Nodup
  | [], _ => List.nodup_nil
  | x :: l, h => by
    simp only [nodupB, Bool.and_eq_true, Bool.not_eq_true', List.contains_eq_mem, decide_eq_false_iff_not] at h
    exact List.nodup_cons.2 ⟨h.1, nodupB_ok h.2⟩

def pairsOk (L : List (Nat × Nat)) (ep : Nat) : Bool := nodupB (L.map (·.1)) && nodupB (L.map (·.2)) && L.all fun q => decide (q.2 < ep)

theorem slsOk_mem {π : Nat → Option Nat} {sl : Nat → Option A} {l : List (Nat × A)} (h : slsOk π sl l) {t : Nat} {x : A} (hm : (t, x) ∈ l) : (sl t).bind (ren π) = some x := by
  induction l with
  | nil => simp at hm
  | cons q l ih =>
    rcases List.mem_cons.1 hm with hm | hm
    · subst hm; exact h.1
    · exact ih h.2 hm
theorem bksOk_mem {π σ : Nat → Option Nat} {bk : Nat → Option Blk} {l : List (Nat × Blk)} (h : bksOk π σ bk l) {t : Nat} {x : Blk} (hm : (t, x) ∈ l) : ((σ t).bind bk).bind (renB π) = some x := by
  induction l with
  | nil => simp at hm
  | cons q l ih =>
    rcases List.mem_cons.1 hm with hm | hm
    · subst hm; exact h.1
    · exact ih h.2 hm

/-- A state written down anew. -/
theorem Weak.of {st : St} (L : List (Nat × Nat)) {sls : List (Nat × A)} {bks : List (Nat × Blk)} {ep : Nat} (hp : pairsOk L ep = true) (hs : slsOk (alook L) st.sl sls)
    (hb : bksOk (alook L) (alook (L.map fun q => (q.2, q.1))) st.bk bks) : Weak st (St.of sls bks ep) := by
  simp only [pairsOk, Bool.and_eq_true, List.all_eq_true, decide_eq_true_eq] at hp
  obtain ⟨⟨n1, n2⟩, n3⟩ := hp
  have n1' := nodupB_ok n1
  have n2' : ((L.map fun q => (q.2, q.1)).map (·.1)).Nodup := by
    rw [List.map_map]
    exact nodupB_ok n2
  refine Weak.ren (π := alook L) (σ := alook (L.map fun q => (q.2, q.1))) (fun d d' h => ?_) (fun d d' h => ?_) (fun t x' hx => ?_) (fun d' b' hb' => ?_) (fun d d' h => ?_) (fun p hp => by simp [St.of] at hp)
  · exact alook_of_mem n2' (List.mem_map.2 ⟨_, alook_mem h, rfl⟩)
  · obtain ⟨q, hq, he⟩ := List.mem_map.1 (alook_mem h)
    injection he with h1 h2
    subst h1 h2
    exact alook_of_mem n1' hq
  · have := slsOk_mem hs (alook_mem hx)
    rw [Option.bind_eq_some_iff] at this
    exact this
  · have := bksOk_mem hb (alook_mem hb')
    rw [Option.bind_eq_some_iff] at this
    obtain ⟨b, h1, h2⟩ := this
    rw [Option.bind_eq_some_iff] at h1
    obtain ⟨d, h3, h4⟩ := h1
    exact ⟨d, b, h3, h4, h2⟩
  · simp only [St.of_ids, decide_eq_true_eq]
    exact n3 _ (alook_mem h)

/-- .. with what was noted of the arguments. -/
def St.ofG (gl : List (Array Value × List (Nat × A))) (sls : List (Nat × A)) (bks : List (Nat × Blk)) (ep : Nat) : St := ⟨alook sls, alook bks, fun d => decide (d < ep), ep, gl.map fun p => (p.1, alook p.2)⟩
theorem St.ofG_sl (gl : List (Array Value × List (Nat × A))) (sls : List (Nat × A)) (bks : List (Nat × Blk)) (ep : Nat) : (St.ofG gl sls bks ep).sl = alook sls := rfl
theorem St.ofG_bk (gl : List (Array Value × List (Nat × A))) (sls : List (Nat × A)) (bks : List (Nat × Blk)) (ep : Nat) : (St.ofG gl sls bks ep).bk = alook bks := rfl
theorem St.ofG_ep (gl : List (Array Value × List (Nat × A))) (sls : List (Nat × A)) (bks : List (Nat × Blk)) (ep : Nat) : (St.ofG gl sls bks ep).ep = ep := rfl
theorem St.ofG_ids (gl : List (Array Value × List (Nat × A))) (sls : List (Nat × A)) (bks : List (Nat × Blk)) (ep d : Nat) : (St.ofG gl sls bks ep).ids d = decide (d < ep) := rfl
theorem St.ofG_gs (gl : List (Array Value × List (Nat × A))) (sls : List (Nat × A)) (bks : List (Nat × Blk)) (ep : Nat) : (St.ofG gl sls bks ep).gs = gl.map fun p => (p.1, alook p.2) := rfl
def gsOk (π : Nat → Option Nat) : List (Array Value × (Nat → Option A)) → List (Array Value × List (Nat × A)) → Prop
  | _, [] => True
  | p :: ps, q :: qs => p.1 = q.1 ∧ slsOk π p.2 q.2 ∧ gsOk π ps qs
  | [], _ :: _ => False
theorem gsOk_mem {π : Nat → Option Nat} : ∀ {l : List (Array Value × (Nat → Option A))} {gl : List (Array Value × List (Nat × A))}, gsOk π l gl → ∀ q ∈ gl, ∃ p ∈ l, p.1 = q.1 ∧ slsOk π p.2 q.2
  | _, [], h, q, hq => by simp at hq
  | p :: ps, q' :: qs, h, q, hq => by
    rcases List.mem_cons.1 hq with rfl | hq
    · exact ⟨p, by simp, h.1, h.2.1⟩
    · obtain ⟨p', h1, h2⟩ := gsOk_mem h.2.2 q hq
      exact ⟨p', by simp [h1], h2⟩
  | [], _ :: _, h, q, hq => h.elim
theorem Weak.ofG {st : St} (L : List (Nat × Nat)) {gl : List (Array Value × List (Nat × A))} {sls : List (Nat × A)} {bks : List (Nat × Blk)} {ep : Nat} (hp : pairsOk L ep = true) (hg : gsOk (alook L) st.gs gl) (hs : slsOk (alook L) st.sl sls)
    (hb : bksOk (alook L) (alook (L.map fun q => (q.2, q.1))) st.bk bks) : Weak st (St.ofG gl sls bks ep) := by
  simp only [pairsOk, Bool.and_eq_true, List.all_eq_true, decide_eq_true_eq] at hp
  obtain ⟨⟨n1, n2⟩, n3⟩ := hp
  have n1' := nodupB_ok n1
  have n2' : ((L.map fun q => (q.2, q.1)).map (·.1)).Nodup := by
    rw [List.map_map]
    exact nodupB_ok n2
  refine Weak.ren (π := alook L) (σ := alook (L.map fun q => (q.2, q.1))) (fun d d' h => ?_) (fun d d' h => ?_) (fun t x' hx => ?_) (fun d' b' hb' => ?_) (fun d d' h => ?_) (fun p' hp => ?_)
  · exact alook_of_mem n2' (List.mem_map.2 ⟨_, alook_mem h, rfl⟩)
  · obtain ⟨q, hq, he⟩ := List.mem_map.1 (alook_mem h)
    injection he with h1 h2
    subst h1 h2
    exact alook_of_mem n1' hq
  · have := slsOk_mem hs (alook_mem hx)
    rw [Option.bind_eq_some_iff] at this
    exact this
  · have := bksOk_mem hb (alook_mem hb')
    rw [Option.bind_eq_some_iff] at this
    obtain ⟨b, h1, h2⟩ := this
    rw [Option.bind_eq_some_iff] at h1
    obtain ⟨d, h3, h4⟩ := h1
    exact ⟨d, b, h3, h4, h2⟩
  · simp only [St.ofG_ids, decide_eq_true_eq]
    exact n3 _ (alook_mem h)
  · simp only [St.ofG_gs, List.mem_map] at hp
    obtain ⟨q, hq, rfl⟩ := hp
    obtain ⟨p, h1, h2, h3⟩ := gsOk_mem hg q hq
    refine ⟨p, h1, h2, fun t x' hx => ?_⟩
    have := slsOk_mem h3 (alook_mem hx)
    rw [Option.bind_eq_some_iff] at this
    exact this

/-- The state may be written down anew anywhere. -/
theorem awp_weak {P : Program} {M : FuncId → List Bool} {c : Cx} {code : Code} {Q : AExit → St → Prop} {st st' : St} {a : Act} {w : World} (hw : Weak st st') (h : awp P M c.N code Q st') (R : Rl c st a w) : code.wpIn (fc c.ro) 0 P (liftQ c Q) a w :=
  awp_sound code h (R.weak hw)

end Go.PA

/- PA39: the walk. -/
namespace Go.PA

/-- Whatever the state stands for, the code shows 'Q'. -/
def SW (P : Program) (N : Nat × List Bool) (code : Code) (Q : AExit → St → Prop) (st : St) : Prop :=
  ∀ (c : Cx) (a : Act) (w : World), c.N = N → Rl c st a w → code.wpIn (fc c.ro) 0 P (liftQ c Q) a w

section
variable {P : Program} {N : Nat × List Bool} {Q Q' : AExit → St → Prop} {st st' : St}

theorem SW.awp {code : Code} (M : FuncId → List Bool) (h : awp P M N code Q st) : SW P N code Q st := by
  intro c a w hc R
  subst hc
  exact awp_sound code h R

theorem liftQ_mono {c : Cx} (h : ∀ e st, Q e st → Q' e st) {e : Exit} {a : Act} {w : World} (hq : liftQ c Q e a w) : liftQ c Q' e a w := by
  cases e with
  | normal => exact hq.imp fun _ h' => ⟨h _ _ h'.1, h'.2⟩
  | exit id => exact hq.imp fun _ h' => ⟨h _ _ h'.1, h'.2⟩
  | ret => exact hq.imp fun _ h' => ⟨h _ _ h'.1, h'.2⟩
  | goto l => exact hq
  | panic ch => exact hq
  | outgrown => exact hq

theorem SW.mono {code : Code} (h : SW P N code Q st) (hq : ∀ e st, Q e st → Q' e st) : SW P N code Q' st :=
  fun c a w hc R => wpIn_mono (h c a w hc R) fun _ _ _ hq' => liftQ_mono hq hq'

theorem SW.weak {code : Code} (hw : Weak st st') (h : SW P N code Q st') : SW P N code Q st := fun c a w hc R => h c a w hc (R.weak hw)

theorem SW.region {id : Nat} {ops : Array Oper} {draw : Bool} (M : FuncId → List Bool) (h : regWp P M N ops draw (Q .normal) st) : SW P N (.region id ops draw) Q st := SW.awp M h

theorem SW.seq {x y : Code} (h : SW P N x (AExit.then (SW P N y Q) Q) st) : SW P N (.seq x y) Q st :=
  fun c a w hc R => wpIn_seq (wpIn_mono (h c a w hc R) fun _ _ _ hq => liftQ_then (fun _ _ _ hk R => hk c _ _ hc R) hq)

theorem SW.cond {x : Operand} {p q : Code} {t : Bool} (ht : aval st.sl x = some (.v (.bool t))) (h1 : t = true → SW P N p Q st) (h2 : t = false → SW P N q Q st) : SW P N (.cond x p q) Q st := by
  intro c a w hc R
  obtain ⟨⟨loc, S, Fm, R'⟩, hk⟩ := R
  have := R'.eval _ _ ht
  rw [TV_v] at this
  exact wpIn_cond_split this.2 (fun e => h1 e c a w hc ⟨⟨loc, S, Fm, R'⟩, hk⟩) (fun e => h2 e c a w hc ⟨⟨loc, S, Fm, R'⟩, hk⟩)

theorem SW.skip (h : Q .normal st) : SW P N .skip Q st := fun _ _ _ _ R => wpIn_skip ⟨st, h, R⟩
theorem SW.label {l : Nat} (h : Q .normal st) : SW P N (.label l) Q st := fun _ _ _ _ R => wpIn_label ⟨st, h, R⟩
theorem SW.exit {id : Nat} (h : Q (.exit id) st) : SW P N (.exit id) Q st := fun _ _ _ _ R => wpIn_exit ⟨st, h, R⟩
theorem SW.ret (h : Q .ret st) : SW P N .ret Q st := fun _ _ _ _ R => wpIn_ret ⟨st, h, R⟩

theorem SW.block {id : Nat} {body : Code} (h : SW P N body (AExit.inBlock id Q) st) : SW P N (.block id body) Q st := by
  intro c a w hc R
  refine wpIn_block (wpIn_mono (h c a w hc R) fun e a w hq => ?_)
  cases e with
  | normal => exact hq
  | exit id' =>
    obtain ⟨st, hk, R⟩ := hq
    simp only [AExit.inBlock] at hk
    simp only [Exit.inBlock]
    split at hk
    · rename_i he
      rw [if_pos he]
      exact ⟨st, hk, R⟩
    · rename_i he
      rw [if_neg he]
      exact ⟨st, hk, R⟩
  | ret => exact hq
  | goto l => exact hq
  | panic ch => exact hq
  | outgrown => exact hq

theorem SW.scope {body : Code} (h : SW P N body Q st) : SW P N (.scope body) Q st :=
  fun c a w hc R => wpIn_scopeS (h c a w hc R) fun _ _ _ h => h.elim

theorem SW.loop {body : Code} {α : Type} (I : α → St) (μ : α → Nat) (x0 : α) (h0 : Weak st (I x0)) (hr : ∀ x, SW P N body (AExit.then (fun st2 => ∃ x', Weak st2 (I x') ∧ μ x' < μ x) Q) (I x)) : SW P N (.loop body) Q st := by
  intro c a w hc R
  refine wpIn_loop (fun a w => ∃ x, Rl c (I x) a w) (fun a w => least fun m => ∃ x, Rl c (I x) a w ∧ μ x = m) ⟨x0, R.weak h0⟩ fun a w hx => ?_
  have hex : ∃ m x, Rl c (I x) a w ∧ μ x = m := by
    obtain ⟨x, hx⟩ := hx
    exact ⟨μ x, x, hx, rfl⟩
  obtain ⟨⟨x, hRx, hμ⟩, _⟩ := least_spec hex
  refine wpIn_mono (hr x c a w hc hRx) fun e a' w' hq => liftQ_then (fun st2 a' w' hk R' => ?_) hq
  obtain ⟨x', hwk, hlt⟩ := hk
  have hR' := R'.weak hwk
  refine ⟨⟨x', hR'⟩, ?_⟩
  have hex' : ∃ m x, Rl c (I x) a' w' ∧ μ x = m := ⟨μ x', x', hR', rfl⟩
  have := (least_spec hex').2 (μ x') ⟨x', hR', rfl⟩
  omega

/-- What goes back goes by what was noted of the arguments: their slots may be written. -/
theorem FS_of_SWg {f : FuncId} {fn : Func} {code : Code} {args : List A} {kb : List Bool} {out : Out} {st0 : St} (hf : P.funcs[f]? = some fn) (hb : fn.body = some code) (hok : fnOk fn args kb = true)
    (he : entrySt args = some st0) (h : ∀ tm, SW P (fn.ntmps, []) code (exitQg P fn kb out tm) { st0 with gs := [(tm, st0.sl)] }) : FS P f args out :=
  FS_ofWG true hf hb hok he fun c a w hc tm R => h tm c a w hc R

theorem FS_of_SW {f : FuncId} {fn : Func} {code : Code} {args : List A} {kb : List Bool} {out : Out} {st0 : St} (hf : P.funcs[f]? = some fn) (hb : fn.body = some code) (hok : fnOk fn args kb = true)
    (he : entrySt args = some st0) (h : SW P (fn.ntmps, kb) code (exitQ P fn kb out) st0) : FS P f args out :=
  FS_ofW hf hb hok he h

end
end Go.PA

/- PA40: the walk, operation by operation. -/
namespace Go.PA

def opsWpL (P : Program) (M : FuncId → List Bool) (n : Nat × List Bool) (ops : Array Oper) : Nat → List Oper → (List (Nat × FP) → St → Prop) → St → Prop
  | _, [], K, st => K [] st
  | i, o :: l, K, st => okDst n o = true ∧
      match wantedA ops st o with
      | none => False
      | some g => (g = false → opsWpL P M n ops (i + 1) l (fun L => K ((i, ⟨[], [], []⟩) :: L)) (st.go o.dst .und [] [])) ∧
        (g = true → opWp P M (st.ep + 64 * i) o st fun z up nw rd => opsWpL P M n ops (i + 1) l (fun L => K ((i, ⟨rd, up.map (·.1), nw⟩) :: L)) (st.go o.dst z up nw))

section
variable {P : Program} {M : FuncId → List Bool} {N : Nat × List Bool} {Q : AExit → St → Prop} {st : St} {ops : Array Oper}

theorem opsWpL_ok : ∀ {l : List Oper} {i : Nat} {K : List (Nat × FP) → St → Prop} {st : St}, ops.toList.drop i = l → opsWpL P M N ops i l K st → opsWp P M N ops (List.range' i l.length) K st
  | [], i, K, st, hl, h => h
  | o :: l, i, K, st, hl, h => by
    have ho : ops[i]? = some o := by
      have := congrArg List.head? hl
      rw [List.head?_drop] at this
      simpa using this
    have hl' : ops.toList.drop (i + 1) = l := by rw [← List.drop_drop, hl]; rfl
    simp only [List.length_cons, List.range'_succ, opsWp, ho]
    simp only [opsWpL] at h
    refine ⟨h.1, ?_⟩
    have h2 := h.2
    cases hw : wantedA ops st o with
    | none => rw [hw] at h2; exact h2.elim
    | some g =>
      rw [hw] at h2
      exact ⟨fun e => opsWpL_ok hl' (h2.1 e), fun e => opWp_mono (fun _ _ _ _ hq => opsWpL_ok hl' hq) (h2.2 e)⟩

theorem SW.reg {id : Nat} {ops : Array Oper} (M : FuncId → List Bool) (h : opsWpL P M N ops 0 ops.toList (fun _ st' => Q .normal (st'.bump (64 * ops.size))) st) : SW P N (.region id ops false) Q st := by
  refine SW.region M ?_
  unfold regWp
  have := opsWpL_ok (ops := ops) rfl h
  rw [Array.length_toList, ← List.range_eq_range'] at this
  exact opsWp_mono (fun L st hq => ⟨fun e => absurd e (by decide), hq⟩) this

theorem SW.regDraw {id : Nat} {ops : Array Oper} (M : FuncId → List Bool) (hm : P.follows .mixedOrders = true) (he : edgesBack ops = true)
    (h : opsWpL P M N ops 0 ops.toList (fun L st' => drawOk ops st.ep L = true ∧ Q .normal (st'.bump (64 * ops.size))) st) : SW P N (.region id ops true) Q st := by
  refine SW.region M ?_
  unfold regWp
  have := opsWpL_ok (ops := ops) rfl h
  rw [Array.length_toList, ← List.range_eq_range'] at this
  exact opsWp_mono (fun L st hq => ⟨fun _ => ⟨he, hq.1, hm⟩, hq.2⟩) this

/-- One piece of code, and the rest as a name. -/
theorem SW.seqK {x y : Code} (h : ∀ K : St → Prop, (∀ st, SW P N y Q st → K st) → SW P N x (AExit.then K Q) st) : SW P N (.seq x y) Q st :=
  SW.seq (h _ fun _ h => h)

theorem then_normal {K : St → Prop} {st : St} : AExit.then K Q .normal st = K st := rfl
theorem then_exit {K : St → Prop} {st : St} {id : Nat} : AExit.then K Q (.exit id) st = Q (.exit id) st := rfl
theorem then_ret {K : St → Prop} {st : St} : AExit.then K Q .ret st = Q .ret st := rfl
theorem inBlock_normal {st : St} {id : Nat} : AExit.inBlock id Q .normal st = Q .normal st := rfl
theorem inBlock_ret {st : St} {id : Nat} : AExit.inBlock id Q .ret st = Q .ret st := rfl
theorem inBlock_same {st : St} {id : Nat} : AExit.inBlock id Q (.exit id) st = Q .normal st := by simp [AExit.inBlock]
theorem inBlock_other {st : St} {id id' : Nat} (h : id' ≠ id) : AExit.inBlock id Q (.exit id') st = Q (.exit id') st := by simp [AExit.inBlock, h]

/-! what a state that has gone on holds -/
theorem go_sl {dst : Option Nat} {z : A} {up : List (Nat × Option Blk)} {nw : List Nat} {t : Nat} : (st.go dst z up nw).sl t = if dst = some t then some z else st.sl t := by
  simp only [St.go, put_sl, St.app]
theorem go_bk {dst : Option Nat} {z : A} {up : List (Nat × Option Blk)} {nw : List Nat} : (st.go dst z up nw).bk = up.foldl (fun f q => upd f q.1 q.2) st.bk := by
  simp only [St.go, put_bk, St.app]
theorem go_ids {dst : Option Nat} {z : A} {up : List (Nat × Option Blk)} {nw : List Nat} {d : Nat} : (st.go dst z up nw).ids d = (st.ids d || nw.contains d) := by
  simp only [St.go, put_ids, St.app]
theorem bump_sl {k : Nat} : (st.bump k).sl = st.sl := rfl
theorem bump_bk {k : Nat} : (st.bump k).bk = st.bk := rfl
theorem bump_ids {k : Nat} : (st.bump k).ids = st.ids := rfl
theorem bump_ep {k : Nat} : (st.bump k).ep = st.ep + k := rfl
theorem aval_tmp {sl : Nat → Option A} {t : Nat} : aval sl (.tmp t) = sl t := rfl
theorem aval_func {sl : Nat → Option A} {f : Nat} : aval sl (.func f) = some (.clo (.func f) [] []) := rfl
theorem aval_int {sl : Nat → Option A} {k : IntKind} {n : Int} : aval sl (.const (.int k n)) = some (.v (.int k n)) := rfl
theorem aval_bool {sl : Nat → Option A} {b : Bool} : aval sl (.const (.bool b)) = some (.v (.bool b)) := rfl
theorem aval_nil {sl : Nat → Option A} : aval sl (.const (.slice none 0 0)) = some (.sl true []) := rfl
theorem mapM_nil' {f : Operand → Option A} : ([] : List Operand).mapM f = some [] := rfl
theorem mapM_cons' {f : Operand → Option A} {x : Operand} {l : List Operand} : (x :: l).mapM f = (f x).bind fun y => (l.mapM f).bind fun ys => some (y :: ys) := by
  simp [List.mapM_cons, Option.bind_eq_bind]
theorem wantedA_none {ops : Array Oper} {dst : Option Nat} {op : Op} {ty : TypeId} {pos : String} {af : Array Edge} : wantedA ops st ⟨dst, op, ty, pos, af, none⟩ = some true := rfl
theorem okDst_some {n : Nat × List Bool} {t : Nat} {op : Op} {ty : TypeId} {pos : String} {af : Array Edge} {g : Option (Nat × Bool)} : okDst n ⟨some t, op, ty, pos, af, g⟩ = (decide (t < n.1) && !n.2.getD t false) := rfl
theorem okDst_none {n : Nat × List Bool} {op : Op} {ty : TypeId} {pos : String} {af : Array Edge} {g : Option (Nat × Bool)} : okDst n ⟨none, op, ty, pos, af, g⟩ = true := rfl

end
end Go.PA

/- PA41: a row is frozen: nobody writes to it any more. -/
namespace Go.PA

theorem Weak.freeze {st : St} {d s : Nat} {xs : List A} (hb : st.bk d = some (.row s xs)) (hn : noowns xs = true) (hcl : closeds xs = true) (hnb : nobors xs = true) : Weak st { st with bk := upd st.bk d (some (.froz s xs)) } := by
  intro c a w ⟨loc, S, Fm, R⟩
  obtain ⟨h0, h1, h2⟩ := R.bks d _ hb
  have general : ∀ (S' : Nat → Prop), (∀ g, S g → S' g) → (∀ g, S' g → S g ∨ g ∈ Fm d) → BkR (envOf c { st with bk := upd st.bk d (some (.froz s xs)) } w loc S') d (.froz s xs) [] →
      Rel c { st with bk := upd st.bk d (some (.froz s xs)) } a w := by
    intro S' hS hS' hB
    have hle : ∀ F, (envOf c st w loc S).Le (envOf c { st with bk := upd st.bk d (some (.froz s xs)) } w loc S') F := fun F => ⟨fun _ _ => rfl, hS, fun _ h => .inr h, fun _ h => h, fun _ _ _ h => h, fun _ _ _ _ => rfl⟩
    refine ⟨loc, S', fun x => if x = d then [] else Fm x, fun t x hx => TV_mono (hle []) (R.slots t x hx), R.size, R.defers.next (fun _ _ _ _ => rfl) (fun g h => (hS' g h).imp id fun h => .inl ⟨d, h⟩) (fun x g h => by
      split at h
      · simp at h
      · exact .inl ⟨x, h⟩) (fun g h => by simp at h), fun p hp t x hx => TV_mono (hle []) (R.ghosts p hp t x hx), fun x b hx => ?_, fun x hx => ?_, fun x hx => ?_, fun x => ?_, fun x y hxy g hg => ?_, fun x g hg => ?_, ?_⟩
    · simp only [upd] at hx
      split at hx
      · rename_i he
        subst he
        injection hx with hx
        subst hx
        simpa using hB
      · rename_i he
        simp only [if_neg he]
        exact BkR_mono (hle _) rfl (R.bks x b hx)
    · simp only [upd] at hx
      split at hx
      · cases hx
      · rename_i he
        simp only [if_neg he]
        exact R.dead x hx
    · simp only [upd] at hx
      split at hx
      · rename_i he
        subst he
        exact R.known _ (by rw [hb]; simp)
      · exact R.known x hx
    · split
      · exact List.nodup_nil
      · exact R.nodup x
    · split at hg
      · simp at hg
      · split
        · simp
        · exact R.disj x y hxy g hg
    · split at hg
      · simp at hg
      · rename_i he
        obtain ⟨o1, o2, o3, o4⟩ := R.own x g hg
        refine ⟨fun h => ?_, o2, o3, o4⟩
        rcases hS' g h with h | h
        · exact o1 h
        · exact R.disj x d he g hg h
    · refine ⟨R.fram.heap, R.fram.size, R.fram.os, R.fram.tape, R.fram.output, fun g h => hS g (R.fram.sub g h), fun g h => ?_, fun g h => ?_, R.fram.shp, R.fram.fro⟩
      · rcases hS' g h with h | h
        · exact R.fram.new g h
        · exact .inr (R.own d g h).2.2.2
      · rcases h with h | h
        · rcases hS' g h with h | h
          · exact R.fram.bd g (.inl h)
          · exact (R.own d g h).2.2.1
        · exact R.fram.bd g (.inr h)
  rcases h2 with ⟨h3, rfl, h5⟩ | ⟨g, cs, ty, cp, us, Fx, h3, h4, h5, h6, h7, h8, h9, h10⟩
  · refine general S (fun _ h => h) (fun _ h => .inl h) ?_
    exact ⟨rfl, h0, h1, .inl ⟨h3, rfl⟩⟩
  · obtain rfl := VRs_noown _ _ _ _ hn h8
    refine general (fun x => S x ∨ x = g) (fun _ h => .inl h) (fun x h => h.imp id fun h => by rw [h, h10]; simp) ?_
    refine ⟨rfl, h0, h1, .inr ⟨g, cs, ty, us, h3, .inr rfl, h6, ⟨cp, h4, h7⟩, VRs_mono _ _ _ _ _ ?_ (VRs_shut hcl hnb h8), h9⟩⟩
    exact ⟨fun _ _ => rfl, fun _ h => .inl h, fun _ h => h.elim, fun _ h => by simp [Env.shut] at h, fun _ _ h => by simp [Env.shut] at h, fun _ _ h => by simp [Env.shut] at h⟩

end Go.PA

/- PA42: the walk's words. -/
namespace Go.PA

/-- Bytes. -/
def bA (l : List Nat) : List A := l.map fun (k : Nat) => A.v (.int .u8 (k : Int))
theorem bA_length (l : List Nat) : (bA l).length = l.length := by simp [bA]
theorem bA_append (l m : List Nat) : bA l ++ bA m = bA (l ++ m) := by simp [bA]
theorem bA_nil : bA [] = [] := rfl
theorem bA_one (k : Nat) : [A.v (.int .u8 k)] = bA [k] := rfl
theorem bA_sz {l : List Nat} {y : A} (h : y ∈ bA l) : y.sz = 1 := by
  simp only [bA, List.mem_map] at h
  obtain ⟨k, _, rfl⟩ := h
  rfl
theorem bA_noowns : ∀ (l : List Nat), noowns (bA l) = true
  | [] => rfl
  | k :: l => by
    have := bA_noowns l
    simp only [bA, List.map_cons, noowns, A.noown, Bool.true_and] at this ⊢
    exact this
theorem bA_nobors : ∀ (l : List Nat), nobors (bA l) = true
  | [] => rfl
  | k :: l => by
    have := bA_nobors l
    simp only [bA, List.map_cons, nobors, A.nobor, Bool.true_and] at this ⊢
    exact this
theorem bA_closeds : ∀ (l : List Nat), closeds (bA l) = true
  | [] => rfl
  | k :: l => by
    have := bA_closeds l
    simp only [bA, List.map_cons, closeds, A.closed, Bool.true_and] at this ⊢
    exact this
theorem bA_lnds : ∀ (l : List Nat), lnds (bA l) = bA l
  | [] => rfl
  | k :: l => by
    have := bA_lnds l
    simp only [bA, List.map_cons, lnds, lnd] at this ⊢
    rw [this]
theorem bA_lndOks : ∀ (l : List Nat), lndOks (bA l) = true
  | [] => rfl
  | k :: l => by
    have := bA_lndOks l
    simp only [bA, List.map_cons, lndOks, lndOk, Bool.true_and] at this ⊢
    exact this
theorem lnds_append : ∀ (a b : List A), lnds (a ++ b) = lnds a ++ lnds b
  | [], b => rfl
  | x :: a, b => by simp only [List.cons_append, lnds, lnds_append a b]
theorem lndOks_append : ∀ (a b : List A), lndOks (a ++ b) = (lndOks a && lndOks b)
  | [], b => by simp [lndOks]
  | x :: a, b => by simp only [List.cons_append, lndOks, lndOks_append a b, Bool.and_assoc]
theorem renB_row {π : Nat → Option Nat} {s : Nat} {xs : List A} (h : closeds xs = true) : renB π (.row s xs) = some (.row s xs) := by simp [renB, h]
theorem closeds_append : ∀ (a b : List A), closeds (a ++ b) = (closeds a && closeds b)
  | [], b => by simp [closeds]
  | x :: a, b => by simp only [List.cons_append, closeds, closeds_append a b, Bool.and_assoc]
theorem noowns_append : ∀ (a b : List A), noowns (a ++ b) = (noowns a && noowns b)
  | [], b => by simp [noowns]
  | x :: a, b => by simp only [List.cons_append, noowns, noowns_append a b, Bool.and_assoc]
theorem nobors_append : ∀ (a b : List A), nobors (a ++ b) = (nobors a && nobors b)
  | [], b => by simp [nobors]
  | x :: a, b => by simp only [List.cons_append, nobors, nobors_append a b, Bool.and_assoc]
theorem bA_take (l : List Nat) (k : Nat) : (bA l).take k = bA (l.take k) := by simp [bA, List.map_take]
theorem bA_drop (l : List Nat) (k : Nat) : (bA l).drop k = bA (l.drop k) := by simp [bA, List.map_drop]
theorem bA_get (l : List Nat) (k : Nat) (d : A) (h : k < l.length) : (bA l).getD k d = A.v (.int .u8 ((l.getD k 0 : Nat) : Int)) := by
  simp [bA, List.getD_eq_getElem?_getD, h]
theorem bA_szs (l : List Nat) : szs (bA l) = l.length := by
  induction l with
  | nil => rfl
  | cons k l ih =>
    simp only [bA, List.map_cons, szs, List.length_cons] at ih ⊢
    rw [ih]
    simp [A.sz]
    omega

/-- goes on, whatever the range's list. -/
theorem true_eq_false_imp {p : Prop} : ((true = false) → p) ↔ True := by simp

attribute [go_sem] wantedA_none okDst_some okDst_none aeff effV effN RM.wp RM.bind allocs Op.operands aval_tmp aval_int aval_bool aval_func aval_nil mapM_nil' mapM_cons' Option.bind_some Option.bind_none List.size_toArray
  List.length_cons List.length_nil Nat.zero_add go_sl go_bk bump_sl bump_bk bump_ids bump_ep go_ids go_ep St.of_sl St.of_bk St.of_ids St.of_ep St.ofG_sl St.ofG_bk St.ofG_ids St.ofG_ep St.ofG_gs gsOk gsOf List.map_nil List.map_cons alook Nat.reduceLT Nat.reduceMul Nat.reduceAdd Nat.reduceSub decide_true decide_false Bool.true_and Bool.and_true
  List.getD_cons_succ List.getD_cons_zero List.getD_nil Bool.not_false Bool.not_true true_and and_true true_imp_iff reduceCtorEq false_imp_iff reduceIte List.contains_nil Bool.or_false Bool.false_or Option.some.injEq Nat.reduceEqDiff aBin intBin aConv aUn aMake aAppend aSlice aBuild aBuildSlice aBuiltin aLen aIndex aField aFieldAddr aLoad aStore
  appSrc putParts partsOf then_normal then_exit then_ret inBlock_normal inBlock_ret inBlock_same Option.map_some Option.map_none slsOk bksOk ren renB exitQ exitM exitQg exitMg resVarsM resVarM takeAll takeA backPass nobors A.nobor A.good Out.ret.injEq List.cons.injEq A.v.injEq Value.int.injEq Value.bool.injEq Int.toNat_natCast Int.reduceToNat Nat.sub_zero
  List.foldl_cons List.foldl_nil upd_app List.map_cons List.map_nil Array.toList_append List.zip_cons_cons List.zip_nil_left List.contains_cons Nat.reduceBEq Bool.or_true Bool.true_or and_self

end Go.PA
