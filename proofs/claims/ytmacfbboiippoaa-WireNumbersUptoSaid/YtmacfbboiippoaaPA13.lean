/- PA13: new memory. -/
import Derived.Test.YtmacfbboiippoaaPA12
namespace Go.PA
section
variable {P : Program} {c : Ctx} {st : St} {a : Act} {w : World} {loc : Nat → Option (Option Nat)} {S : Nat → Prop} {Fm : Nat → List Nat}

theorem eqPlain_eq {x y : Value} (h : eqPlain x y = true) : x = y := by
  unfold eqPlain at h
  split at h <;> simp_all
  rename_i a b
  cases a; cases b; simp_all
theorem eqPlains_eq : ∀ {xs ys : List Value}, eqPlains xs ys = true → xs = ys
  | [], [], _ => rfl
  | [], _ :: _, h => by simp [eqPlains] at h
  | _ :: _, [], h => by simp [eqPlains] at h
  | x :: xs, y :: ys, h => by
    simp only [eqPlains, Bool.and_eq_true] at h
    rw [eqPlain_eq h.1, eqPlains_eq h.2]

mutual
theorem zFlat_VR (e : Env) : ∀ (z : A) (cs : List Value), zFlat z = some cs → VR z e cs []
  | .v x, cs, h => by
    simp only [zFlat] at h
    split at h
    · rename_i hp; simp at h; subst h; simp [VR, hp]
    · simp at h
  | .agg xs, cs, h => by simp only [zFlat] at h; simp only [VR]; exact zFlats_VRs e xs cs h
  | .arr tot xs, cs, h => by
    simp only [zFlat] at h
    cases hx : zFlats xs with
    | none => simp [hx] at h
    | some vs =>
      simp only [hx, Option.bind_some] at h
      split at h
      · rename_i hc
        injection h with h
        subst h
        simp only [VR]
        refine ⟨hc.1, ⟨(xs.head?.map A.sz).getD 0, fun x hx' => ?_⟩, zFlats_VRs _ xs vs hx⟩
        have := List.all_eq_true.1 hc.2 x hx'
        exact eq_of_beq this
      · simp at h
  | .osl s [], cs, h => by
    simp only [zFlat] at h
    split at h
    · rename_i hs
      injection h with h
      subst h
      simp only [VR]
      exact ⟨hs, by simp, .inl ⟨trivial, trivial, trivial⟩⟩
    · simp at h
  | .osl s (x :: xs), cs, h => by simp [zFlat] at h
  | .und, cs, h => by simp [zFlat] at h
  | .sl .., cs, h => by simp [zFlat] at h
  | .rp .., cs, h => by simp [zFlat] at h
  | .box .., cs, h => by simp [zFlat] at h
  | .ref .., cs, h => by simp [zFlat] at h
  | .aref .., cs, h => by simp [zFlat] at h
  | .ptr .., cs, h => by simp [zFlat] at h
  | .clo .., cs, h => by simp [zFlat] at h
  | .ifc .., cs, h => by simp [zFlat] at h
  | .tup .., cs, h => by simp [zFlat] at h
  | .mp .., cs, h => by simp [zFlat] at h
  | .mref .., cs, h => by simp [zFlat] at h
theorem zFlats_VRs (e : Env) : ∀ (zs : List A) (cs : List Value), zFlats zs = some cs → VRs zs e cs []
  | [], cs, h => by simp [zFlats] at h; subst h; simp [VRs]
  | z :: zs, cs, h => by
    simp only [zFlats] at h
    split at h
    · rename_i a b h1 h2
      injection h with h
      subst h
      have := VRs_cons (zFlat_VR e z a h1) (zFlats_VRs e zs b h2)
      simpa using this
    · simp at h
end

theorem tZero_some {t : TypeId} {z : A} (h : tZero P t = some z) : ∃ v, (∀ w, (zeroValue t).run P w = .ok v w) ∧ (∀ e, VR z e v.cells.toList []) := by
  unfold tZero at h
  split at h
  · rename_i z' v h1 h2
    split at h
    · rename_i cs h3
      split at h
      · rename_i h4
        injection h with h
        subst h
        refine ⟨v, fun w => ?_, fun e => ?_⟩
        · cases hi : P.info? t with
          | none => simp [hi] at h2
          | some i =>
            simp only [hi, Option.bind_some] at h2
            simp [zeroValue, typeInfo, hi, h2]
        · rw [← eqPlains_eq h4]; exact zFlat_VR e _ _ h3
      · simp at h
    · simp at h
  · simp at h

theorem TV_new {n : Nat} {e : Env} {g : Nat} (hi : e.ids n = true) (hl : e.loc n = some (some g)) : TV (.ptr n []) e (.pointer (some ⟨g, 0, none⟩)) := by
  rw [TV_good rfl, VV_mk rfl]
  simp only [VR]
  exact ⟨trivial, hi, ⟨g, 0, none⟩, rfl, fun l hl' => ⟨g, by rw [hl] at hl'; injection hl' with h; exact h.symm, rfl⟩⟩

theorem done_var {o : Oper} {n : Nat} {z : A} {cs : Array Value} {ty : TypeId} (R : RelW c st a w loc S Fm) (hn : st.ids n = false) (hz : VR z (envOf c st w loc S) cs.toList [])
    (h : (execOp a.eval o).run P w = .ok (.value (.pointer (some ⟨w.heap.size, 0, none⟩))) (w.alloc (.cells cs ty))) :
    Done P c (st.app ⟨.ptr n [], [(n, some (.var z))], [n]⟩) a o w (.ptr n []) := by
  refine ⟨_, _, _, _, _, _, h, .inl rfl, R.alloc hn (.var z) cs ty w rfl rfl rfl rfl _ fun e he hl hle hB => ?_, ?_⟩
  · refine ⟨w.heap.size, cs, ty, [], hl, by rw [he]; exact heap_alloc_new w _, VR_mono _ _ _ _ _ hle hz, rfl⟩
  · exact TV_new (by simp [envOf, St.app]) (by simp [envOf])

theorem alloc_sound {o : Oper} {t : TypeId} {n : Nat} {z : A} (ho : o.op = .alloc t) (R : RelW c st a w loc S Fm) (hn : st.ids n = false) (hz : tZero P t = some z) :
    Done P c (st.app ⟨.ptr n [], [(n, some (.var z))], [n]⟩) a o w (.ptr n []) := by
  obtain ⟨v, h1, h2⟩ := tZero_some hz
  refine done_var R hn (h2 _) ?_ (ty := t)
  simp [execOp, ho, Instr.alloc, h1, newVar, newRow]

theorem box_sound {o : Oper} {t : TypeId} {x : Operand} {n : Nat} {z : A} (ho : o.op = .box t x) (R : RelW c st a w loc S Fm) (hn : st.ids n = false) (hg : z.good = true)
    (hx : TV z (envOf c st w loc S) (a.eval x)) : Done P c (st.app ⟨.ptr n [], [(n, some (.var z))], [n]⟩) a o w (.ptr n []) := by
  rw [TV_good hg] at hx
  refine done_var R hn (VV_cells hx).1 ?_ (ty := t)
  simp [execOp, ho, Instr.box, newVar, newRow]

/-! rows -/
theorem tSlice_some {t e : TypeId} {s : Nat} (h : tSlice P t = some (e, s)) : P.underlying t = some (.slice e) ∧ tSize P e = some s := by
  unfold tSlice at h
  split at h
  · rename_i e' hu
    cases hi : P.info? e' with
    | none => simp [hi] at h
    | some i =>
      simp [hi] at h
      obtain ⟨rfl, rfl⟩ := h
      exact ⟨hu, by simp [tSize, hi]⟩
  · simp at h

theorem TV_newRow {n s len : Nat} {e : Env} {g k : Nat} {ty : TypeId} {cs : Array Value} (hi : e.ids n = true) (hl : e.loc n = some (some g)) (hk : len ≤ k)
    (hg : e.w.heap[g]? = some (.cells cs ty (0, 0))) (hs : cs.size = k * s) :
    TV (.ref n s 0 len false) e (.slice (some ⟨g, 0, none⟩) len k) := by
  rw [TV_good rfl, VV_mk rfl]
  simp only [VR]
  refine ⟨trivial, hi, some ⟨g, 0, none⟩, k, rfl, hk, fun _ => ⟨_, rfl⟩, by simp, fun l hl' => ?_⟩
  rw [hl] at hl'
  injection hl' with h
  subst h
  exact .inr ⟨by simp, fun _ => by rw [shape_cells hg]; simp [hs]⟩

theorem done_row {o : Oper} {n s k : Nat} {xs : List A} {cs : Array Value} {ty : TypeId} {w1 : World} {us : List Value} (R : RelW c st a w loc S Fm) (hn : st.ids n = false)
    (hw : w1.heap = w.heap) (hos : w1.os = w.os) (ht : w1.tape = w.tape) (hout : w1.output = w.output)
    (hs : 0 < s) (hsz : ∀ x ∈ xs, x.sz = s) (hxs : VRs xs (envOf c st w loc S).shut us []) (hk : xs.length ≤ k) (hm : k ≤ maxLen) (hcs : cs.size = k * s) (htake : cs.toList.take us.length = us)
    (h : (execOp a.eval o).run P w = .ok (.value (.slice (some ⟨w.heap.size, 0, none⟩) xs.length k)) (w1.alloc (.cells cs ty))) :
    Done P c (st.app ⟨.ref n s 0 xs.length false, [(n, some (.row s xs))], [n]⟩) a o w (.ref n s 0 xs.length false) := by
  have hnew : (w1.alloc (.cells cs ty)).heap[w.heap.size]? = some (.cells cs ty (0, 0)) := by rw [← hw]; exact heap_alloc_new w1 _
  refine ⟨_, _, _, _, _, _, h, .inl rfl, R.alloc hn (.row s xs) cs ty w1 hw hos ht hout _ fun e he hl hle hB => ?_, ?_⟩
  · exact ⟨hs, hsz, .inr ⟨w.heap.size, cs, ty, k, us, [], hl, hk, hm, by rw [he]; exact hnew, hcs, VRs_mono _ _ _ _ _ hle.shut hxs, htake, rfl⟩⟩
  · exact TV_newRow (by simp [envOf, St.app]) (by simp [envOf]) hk hnew hcs

end
end Go.PA
