/- PA15: indexes, slices of slices. -/
import Derived.Test.YtmacfbboiippoaaPA14
namespace Go.PA
section
variable {P : Program} {c : Ctx} {st : St} {a : Act} {w : World} {loc : Nat → Option (Option Nat)} {S : Nat → Prop} {Fm : Nat → List Nat}

theorem tArr_some {t e : TypeId} {n s : Nat} (h : tArr P t = some (n, e, s)) : P.underlying t = some (.array n e) ∧ tSize P e = some s := by
  unfold tArr at h
  split at h
  · rename_i n' e' hu
    cases hi : P.info? e' with
    | none => simp [hi] at h
    | some i =>
      simp only [hi, Option.map_some, Option.some.injEq, Prod.mk.injEq] at h
      obtain ⟨rfl, rfl, rfl⟩ := h
      exact ⟨hu, by simp [tSize, hi]⟩
  · simp at h
theorem tSlice_arr {t : TypeId} {r : Nat × TypeId × Nat} (h : tArr P t = some r) : tSlice P t = none := by
  unfold tArr at h
  unfold tSlice
  split at h
  · rename_i n' e' hu; simp [hu]
  · simp at h

theorem run_asIntOf {k : IntKind} {n : Int} : (asIntOf (.int k n)).run P w = .ok (k, n) w := rfl

theorem exec_indexAddr_slice {o : Oper} {t e : TypeId} {x i : Operand} {s len cap : Nat} {k : IntKind} {n : Int} {ad : Addr} (ho : o.op = .indexAddr t x i) (ht : tSlice P t = some (e, s))
    (hx : a.eval x = .slice (some ad) len cap) (hi : a.eval i = .int k n) (h0 : 0 ≤ n) (h1 : n < len) : (execOp a.eval o).run P w = .ok (.value (.pointer (some (ad.add (n.toNat * s))))) w := by
  obtain ⟨hu, hs⟩ := tSlice_some ht
  have hc : 0 ≤ n ∧ n < (len : Int) := ⟨h0, h1⟩
  simp [execOp, ho, hx, hi, Instr.indexAt, run_asIntOf, run_underlying hu, hc, run_sizeOf hs]

theorem exec_indexAddr_arr {o : Oper} {t e : TypeId} {x i : Operand} {s len : Nat} {k : IntKind} {n : Int} {ad : Addr} (ho : o.op = .indexAddr t x i) (ht : tArr P t = some (len, e, s))
    (hx : a.eval x = .pointer (some ad)) (hi : a.eval i = .int k n) (h0 : 0 ≤ n) (h1 : n < len) : (execOp a.eval o).run P w = .ok (.value (.pointer (some (ad.add (n.toNat * s))))) w := by
  obtain ⟨hu, hs⟩ := tArr_some ht
  have hc : 0 ≤ n ∧ n < (len : Int) := ⟨h0, h1⟩
  simp [execOp, ho, hx, hi, Instr.indexAt, run_asIntOf, run_underlying hu, hc, run_sizeOf hs, Instr.sureAddr]

theorem aIndexAddr_sound {o : Oper} {t : TypeId} {x i : Operand} {p : A} {k : IntKind} {n : Int} {eff : Eff} {l : List Nat} (ho : o.op = .indexAddr t x i) (R : RelW c st a w loc S Fm)
    (hx : TV p (envOf c st w loc S) (a.eval x)) (hi : a.eval i = .int k n) (r : RM.Runs st.bk (aIndexAddr P t p n) eff l) : Done P c (st.app eff) a o w eff.val := by
  unfold aIndexAddr at r
  split at r
  · rename_i e es d s off len full ht
    split at r
    · rename_i hs
      subst hs
      obtain ⟨⟨h0, h1⟩, r⟩ := runs_req r
      rw [TV_good rfl, VV_mk rfl] at hx
      simp only [VR] at hx
      obtain ⟨_, hid, b, k', hv, h2, hne, h3, h4⟩ := hx
      injection hv with hv
      obtain ⟨ad, rfl⟩ := hne (by omega)
      refine done_effV R r (exec_indexAddr_slice ho ht hv hi h0 h1) (TV_mkptr hid fun l hl => ?_)
      have := h4 l hl
      cases l with
      | none => simp at this
      | some g =>
        rcases this with ⟨h5, h6⟩ | ⟨h5, h6⟩
        · omega
        · injection h5 with h5
          exact ⟨g, rfl, by rw [h5, add_cell]; simp [offP, PS.off, Nat.add_mul]⟩
    · exact (runs_fail r).elim
  · rename_i e es d p' s off len ht
    split at r
    · rename_i hs
      subst hs
      obtain ⟨⟨h0, h1⟩, r⟩ := runs_req r
      rw [TV_good rfl, VV_mk rfl] at hx
      simp only [VR] at hx
      obtain ⟨_, hid, b, k', hv, h2, hne, h4⟩ := hx
      injection hv with hv
      obtain ⟨ad, rfl⟩ := hne (by omega)
      refine done_effV R r (exec_indexAddr_slice ho ht hv hi h0 h1) (TV_mkptr hid fun l hl => ?_)
      obtain ⟨g, rfl, ⟨h5, h6⟩ | h5⟩ := h4 l hl
      · omega
      · injection h5 with h5
        exact ⟨g, rfl, by rw [h5, add_cell, offP_append]; simp [offP, PS.off, Nat.add_mul]; omega⟩
    · exact (runs_fail r).elim
  · rename_i e es q xs ht
    obtain ⟨⟨h0, h1, h2⟩, r⟩ := runs_req r
    obtain ⟨y, hy, hys, hyd, hyl⟩ := szAt_elim h2
    rw [hyd] at r
    rw [TV_good rfl, VV_mk rfl] at hx
    simp only [VR] at hx
    obtain ⟨_, b, k', us, hv, h3, ⟨s', hss⟩, h5, h6⟩ := hx
    injection hv with hv
    obtain ⟨ad, rfl, hok, hcell⟩ := h6 (by intro h; subst h; simp at hyl)
    refine done_effV R r (exec_indexAddr_slice ho ht hv hi h0 h1) ?_
    obtain ⟨pre, u1, post, F1, Fx, F2, e1, e2, h7, h8, _⟩ := VRs_at xs _ _ [] _ _ h5 hy
    simp at e2
    obtain ⟨rfl, rfl, rfl⟩ := e2
    have hs' : s' = es := by rw [← hys]; exact (hss y (List.mem_of_getElem? hy)).symm
    subst hs'
    rw [szs_take_const hss (Nat.le_of_lt hyl)] at h7
    exact TV_rp hok e1 h7 hcell h8
  · split at r
    · rename_i len e es d p' ht
      obtain ⟨⟨h0, h1⟩, r⟩ := runs_req r
      obtain ⟨hid, ad, hy, hloc⟩ := TV_ptr hx
      refine done_effV R r (exec_indexAddr_arr ho ht hy hi h0 h1) (TV_mkptr hid fun l hl => ?_)
      obtain ⟨g, h1, rfl⟩ := hloc l hl
      exact ⟨g, h1, by rw [add_cell, offP_append]; simp [offP, PS.off]⟩
    · rename_i len e es q tot xs ht
      obtain ⟨⟨h0, h1, h2⟩, r⟩ := runs_req r
      obtain ⟨y, hy, hys, hyd, hyl⟩ := szAt_elim h2
      rw [hyd] at r
      rw [TV_good rfl, VV_mk rfl] at hx
      simp only [VR] at hx
      obtain ⟨_, ad, us, hv, hok, ⟨h3, ⟨s', hss⟩, h5⟩, hcell⟩ := hx
      injection hv with hv
      refine done_effV R r (exec_indexAddr_arr ho ht hv hi h0 h1) ?_
      obtain ⟨pre, u1, post, F1, Fx, F2, e1, e2, h7, h8, _⟩ := VRs_at xs _ _ [] _ _ h5 hy
      simp at e2
      obtain ⟨rfl, rfl, rfl⟩ := e2
      have hs' : s' = es := by rw [← hys]; exact (hss y (List.mem_of_getElem? hy)).symm
      subst hs'
      rw [szs_take_const hss (Nat.le_of_lt hyl)] at h7
      refine TV_rp hok e1 h7 hcell ?_
      cases q
      · exact VR_mono _ _ _ _ _ (Env.shut_le _ _) h8
      · exact h8
    · exact (runs_fail r).elim
  · exact (runs_fail r).elim

theorem aIndex_sound {o : Oper} {t : TypeId} {x i : Operand} {p : A} {k : IntKind} {n : Int} {eff : Eff} {l : List Nat} (ho : o.op = .index t x i) (R : RelW c st a w loc S Fm)
    (hx : TV p (envOf c st w loc S) (a.eval x)) (hi : a.eval i = .int k n) (r : RM.Runs st.bk (aIndex P t p n) eff l) : Done P c (st.app eff) a o w eff.val := by
  unfold aIndex at r
  split at r
  · rename_i tot xs
    split at r
    · rename_i len e es ht
      obtain ⟨⟨h0, h1, h2⟩, r⟩ := runs_req r
      obtain ⟨y, hy, hys, hyd, hyl⟩ := szAt_elim h2
      rw [hyd] at r
      obtain ⟨y2, l1, l2, r1, r2, _⟩ := RM.runs_bind r
      have := shaped_eq r1; subst this
      split at r2
      · rename_i hag
        rw [TV_good rfl, VV_mk_agg rfl] at hx
        obtain ⟨cs, hv, hx⟩ := hx
        simp only [VR] at hx
        obtain ⟨h3, ⟨s', hss⟩, h5⟩ := hx
        obtain ⟨pre, u1, post, F1, Fx, F2, e1, e2, h7, h8, _⟩ := VRs_at xs _ _ [] _ _ h5 hy
        simp at e2
        obtain ⟨rfl, rfl, rfl⟩ := e2
        have hs' : s' = es := by rw [← hys]; exact (hss _ (List.mem_of_getElem? hy)).symm
        subst hs'
        rw [szs_take_const hss (Nat.le_of_lt hyl)] at h7
        obtain ⟨hu, hs⟩ := tArr_some ht
        obtain ⟨z, hr, hz⟩ := part_run (P := P) (w := w) e1 h7 (VR_open h8) (by rw [hys]; exact hs) hag
        have hc : 0 ≤ n ∧ n < (len : Int) := ⟨h0, h1⟩
        refine done_effV R r2 ?_ (VV_TV hz)
        simp [execOp, ho, hv, hi, Instr.index, run_asIntOf, run_underlying hu, hc, run_sizeOf hs, hr]
      · exact (runs_fail r2).elim
    · exact (runs_fail r).elim
  · rename_i s
    split at r
    · rename_i hu
      obtain ⟨⟨h0, h1⟩, r⟩ := runs_req r
      rw [TV_v] at hx
      refine done_effV R r ?_ (by rw [TV_v]; exact ⟨rfl, rfl⟩)
      have hlt : n.toNat < s.size := by omega
      have hget : s[n.toNat]? = some (s.data.toList.getD n.toNat 0) := by
        have h2 : s[n.toNat]? = some s[n.toNat] := getElem?_pos s n.toNat hlt
        rw [h2]
        congr 1
        have hl : n.toNat < s.data.toList.length := by simpa using hlt
        rw [List.getD_eq_getElem?_getD, List.getElem?_eq_getElem hl]
        rfl
      simp [execOp, ho, hx.2, hi, Instr.index, run_asIntOf, run_underlying hu, h0, hget]
    · exact (runs_fail r).elim
  · exact (runs_fail r).elim

end
end Go.PA
