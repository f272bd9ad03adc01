/- PA16: slices of slices. -/
import Derived.Test.YtmacfbboiippoaaPA15
namespace Go.PA
section
variable {P : Program} {c : Ctx} {st : St} {a : Act} {w : World} {loc : Nat → Option (Option Nat)} {S : Nat → Prop} {Fm : Nat → List Nat}

def ovInt (x : Option Value) (n : Option Int) : Prop := match n with
  | none => x = none
  | some n => ∃ k, x = some (.int k n)

theorem run_sliceBound {k : IntKind} {i : Int} {y : Nat} {code : BoundsCode} (h0 : 0 ≤ i) (h1 : i ≤ y) : (Instr.sliceBound (.int k i) y code).run P w = .ok i.toNat w := by
  simp [Instr.sliceBound, run_asIntOf, h0, h1]

theorem run_sliceBounds {b : Bool} {len cap : Nat} {lo hi : Option Value} {l h : Option Int} (hlo : ovInt lo l) (hhi : ovInt hi h) (h0 : 0 ≤ l.getD 0) (h1 : l.getD 0 ≤ h.getD len) (h2 : h.getD len ≤ cap) :
    (Instr.sliceBounds b len cap lo hi none).run P w = .ok ((l.getD 0).toNat, (h.getD len).toNat, cap) w := by
  have e1 : ((h.getD (len : Int)).toNat : Int) = h.getD len := by omega
  cases h with
  | none =>
    have hhi' : hi = none := hhi
    subst hhi'
    cases l with
    | none =>
      have hlo' : lo = none := hlo
      subst hlo'
      simp [Instr.sliceBounds]
    | some l =>
      obtain ⟨k, rfl⟩ := hlo
      simp at h0 h1
      simp [Instr.sliceBounds, run_sliceBound h0 h1]
  | some h =>
    obtain ⟨k', rfl⟩ := hhi
    simp at h1 h2 e1
    have h3 : 0 ≤ h := by omega
    cases l with
    | none =>
      have hlo' : lo = none := hlo
      subst hlo'
      cases b <;> simp [Instr.sliceBounds, run_sliceBound h3 h2]
    | some l =>
      obtain ⟨k, rfl⟩ := hlo
      simp at h0 h1
      cases b <;> simp [Instr.sliceBounds, run_sliceBound h3 h2, run_sliceBound (P := P) (w := w) (k := k) (y := h.toNat) (code := .sliceB) h0 (by omega)]

theorem exec_slice {o : Oper} {t e : TypeId} {s len cap : Nat} {x : Operand} {lo hi : Option Operand} {ad : Option Addr} {l h : Option Int} (ho : o.op = .slice t x lo hi none) (ht : tSlice P t = some (e, s))
    (hx : a.eval x = .slice ad len cap) (hlo : ovInt (lo.map a.eval) l) (hhi : ovInt (hi.map a.eval) h) (h0 : 0 ≤ l.getD 0) (h1 : l.getD 0 ≤ h.getD len) (h2 : h.getD len ≤ cap) :
    (execOp a.eval o).run P w = .ok (.value (.slice (if cap = (l.getD 0).toNat then ad else ad.map (·.add ((l.getD 0).toNat * s))) ((h.getD len).toNat - (l.getD 0).toNat) (cap - (l.getD 0).toNat))) w := by
  obtain ⟨hu, hs⟩ := tSlice_some ht
  simp only [execOp, ho, hx, Instr.sliceAt, Sem.run_bind, run_underlying hu, Result.andThen_ok, Instr.slice, Option.map_none, run_sliceBounds hlo hhi h0 h1 h2, run_sizeOf hs, Sem.run_pure]

theorem VRs_drop_take {xs : List A} {e : Env} {us : List Value} {s : Nat} (hs : ∀ x ∈ xs, x.sz = s) (h : VRs xs e us []) (l n : Nat) (hl : l + n ≤ xs.length) :
    ∃ pre mid post, us = pre ++ mid ++ post ∧ pre.length = l * s ∧ VRs ((xs.drop l).take n) e mid [] := by
  have e1 : xs = xs.take l ++ ((xs.drop l).take n ++ (xs.drop l).drop n) := by rw [List.take_append_drop, List.take_append_drop]
  rw [e1] at h
  obtain ⟨pre, r, F1, F2, rfl, hF, h1, h2⟩ := VRs_split _ _ _ _ _ h
  obtain ⟨mid, post, F3, F4, rfl, hF', h3, h4⟩ := VRs_split _ _ _ _ _ h2
  simp at hF hF'
  obtain ⟨rfl, rfl⟩ := hF
  simp at hF'
  obtain ⟨rfl, rfl⟩ := hF'
  refine ⟨pre, mid, post, by simp, ?_, h3⟩
  rw [VRs_len _ _ _ _ h1, szs_take_const hs (by omega)]

theorem aSlice_sound {o : Oper} {t : TypeId} {x : Operand} {lo hi : Option Operand} {p : A} {l h : Option Int} {eff : Eff} {rd : List Nat} (ho : o.op = .slice t x lo hi none) (R : RelW c st a w loc S Fm)
    (hx : TV p (envOf c st w loc S) (a.eval x)) (hlo : ovInt (lo.map a.eval) l) (hhi : ovInt (hi.map a.eval) h) (r : RM.Runs st.bk (aSlice P t p l h) eff rd) : Done P c (st.app eff) a o w eff.val := by
  unfold aSlice at r
  split at r
  · rename_i d s off len full
    split at r
    · rename_i e es ht
      split at r
      · rename_i hes
        obtain ⟨rfl, hfull⟩ := hes
        obtain ⟨⟨h0, h1, h2⟩, r⟩ := runs_req r
        rw [TV_good rfl, VV_mk rfl] at hx
        simp only [VR] at hx
        obtain ⟨_, hid, b, k', hv, h3, hne, h4, h5⟩ := hx
        injection hv with hv
        refine done_effV R r (exec_slice ho ht hv hlo hhi h0 h1 (by omega)) ?_
        rw [TV_good rfl, VV_mk rfl]
        simp only [VR]
        have hle : (l.getD 0).toNat ≤ (h.getD len).toNat := by omega
        have hle2 : (h.getD (len : Int)).toNat ≤ len := by omega
        refine ⟨trivial, hid, _, _, rfl, by omega, fun hn => ?_, fun hf => ?_, fun q hq => ?_⟩
        · obtain ⟨ad, rfl⟩ := hne (by omega)
          split
          · exact ⟨_, rfl⟩
          · exact ⟨_, rfl⟩
        · have hn : h = none := by
            cases h with
            | none => rfl
            | some h => simp [hf] at hfull
          subst hn
          have := h4 hf
          simp; omega
        · have := h5 q hq
          cases q with
          | none =>
            obtain ⟨rfl, rfl, rfl, rfl⟩ := this
            simp at h1 h2 hle hle2
            have e1 : (l.getD 0).toNat = 0 := by omega
            simp [e1]
            exact hle2
          | some g =>
            by_cases hk : k' = (l.getD 0).toNat
            · simp only [hk, if_true]
              by_cases hoff : off + (l.getD 0).toNat = 0
              · right
                rcases this with ⟨h6, h7⟩ | ⟨h6, h7⟩
                · omega
                · have e1 : off = 0 := by omega
                  have e2 : (l.getD 0).toNat = 0 := by omega
                  subst e1
                  refine ⟨by simpa [e2] using h6, fun hf => ?_⟩
                  have := h7 hf
                  rw [this]; simp [e2, hk]
              · left; exact ⟨by omega, hoff⟩
            · simp only [hk, if_false]
              rcases this with ⟨h6, h7⟩ | ⟨h6, h7⟩
              · omega
              · right
                subst h6
                refine ⟨by simp [add_cell, Nat.add_mul], fun hf => ?_⟩
                rw [h7 hf]
                congr 2
                omega
      · exact (runs_fail r).elim
    · exact (runs_fail r).elim
  · rename_i q xs
    split at r
    · rename_i e es ht
      obtain ⟨⟨h0, h1, h2, h22⟩, r⟩ := runs_req r
      rw [TV_good rfl, VV_mk rfl] at hx
      simp only [VR] at hx
      obtain ⟨_, b, k', us, hv, h3, hss, h5, h6⟩ := hx
      injection hv with hv
      refine done_effV R r (exec_slice ho ht hv hlo hhi h0 h1 (by omega)) ?_
      rw [TV_good rfl, VV_mk rfl]
      simp only [VR]
      have hle : (l.getD 0).toNat ≤ (h.getD xs.length).toNat := by omega
      have hle2 : (h.getD (xs.length : Int)).toNat ≤ xs.length := by omega
      obtain ⟨pre, mid, post, rfl, h7, h8⟩ := VRs_drop_take h22 h5 (l.getD 0).toNat ((h.getD xs.length).toNat - (l.getD 0).toNat) (by omega)
      have hlen : ((xs.drop (l.getD 0).toNat).take ((h.getD xs.length).toNat - (l.getD 0).toNat)).length = (h.getD xs.length).toNat - (l.getD 0).toNat := by
        simp; omega
      refine ⟨trivial, _, _, mid, by rw [hlen], by rw [hlen]; omega, ⟨es, fun x hx => h22 x (List.mem_of_mem_drop (List.mem_of_mem_take hx))⟩, h8, fun hne => ?_⟩
      have hpos : 0 < (h.getD xs.length).toNat - (l.getD 0).toNat := by
        rw [← hlen]; exact List.length_pos_iff.2 hne
      have hx0 : 0 < xs.length := by omega
      obtain ⟨ad, rfl, hok, hcell⟩ := h6 (List.length_pos_iff.1 hx0)
      rw [if_neg (by omega)]
      refine ⟨_, rfl, by rw [block_add]; exact hok, fun j u hu => ?_⟩
      rw [addr_add_add]
      refine hcell _ u ?_
      have hj : j < mid.length := (List.getElem?_eq_some_iff.1 hu).1
      rw [← h7, List.append_assoc, List.getElem?_append_right (by omega), show pre.length + j - pre.length = j by omega, List.getElem?_append_left hj]
      exact hu
    · exact (runs_fail r).elim
  · rename_i s
    split at r
    · rename_i hu
      obtain ⟨⟨h0, h1, h2⟩, r⟩ := runs_req r
      rw [TV_v] at hx
      refine done_effV R r ?_ (by rw [TV_v]; exact ⟨rfl, rfl⟩)
      have hb := run_sliceBounds (P := P) (w := w) (b := false) (cap := s.size) hlo hhi h0 h1 h2
      simp [execOp, ho, hx.2, Instr.sliceAt, run_underlying hu, Instr.slice, hb]
    · exact (runs_fail r).elim
  · exact (runs_fail r).elim

end
end Go.PA
