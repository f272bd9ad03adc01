/- PA31: operations that have nothing to do with each other may change places. -/
import Derived.Test.YtmacfbboiippoaaPA30
namespace Go.PA

def St.adv (st : St) (dst : Option Nat) (z : A) (up : List (Nat × Option Blk)) (nw : List Nat) : St := st.go dst z up nw

/-- Two operations apart. -/
def indep (ops : Array Oper) (ep : Nat) (x y : Nat × FP) : Bool :=
  match ops[x.1]?, ops[y.1]? with
  | some ox, some oy => ox.apart ops oy && x.2.ws.all (fun d => !(y.2.rs.contains d || y.2.ws.contains d)) && y.2.ws.all (fun d => !x.2.rs.contains d) &&
      x.2.nw.all (fun d => !(y.2.nw.contains d || d == ep + 64 * y.1)) && y.2.nw.all (fun d => !(d == ep + 64 * x.1))
  | _, _ => false

section
variable {P : Program} {M : FuncId → List Bool} {n : Nat × List Bool} {ops : Array Oper} {st st2 : St}

theorem wantedA_congr {o : Oper} (h : ∀ t ∈ o.looksAt ops, st2.sl t = st.sl t) : wantedA ops st2 o = wantedA ops st o := by
  unfold wantedA
  cases hg : o.guard with
  | none => rfl
  | some q =>
    obtain ⟨j, want⟩ := q
    dsimp only
    cases ht : (ops[j]?).bind (·.dst) with
    | none => rfl
    | some t =>
      dsimp only
      rw [h t (by simp [Oper.looksAt, hg, ht])]

theorem aval_congr {sl sl2 : Nat → Option A} {x : Operand} (h : ∀ t, x = .tmp t → sl2 t = sl t) : aval sl2 x = aval sl x := by
  cases x with
  | tmp t => exact h t rfl
  | _ => rfl

theorem mapM_congr' {sl sl2 : Nat → Option A} : ∀ {l : List Operand}, (∀ t, .tmp t ∈ l → sl2 t = sl t) → l.mapM (aval sl2) = l.mapM (aval sl)
  | [], _ => rfl
  | x :: l, h => by
    simp only [List.mapM_cons]
    rw [aval_congr (fun t ht => h t (by simp [ht])), mapM_congr' (fun t ht => h t (by simp [ht]))]

theorem looks_op {o : Oper} {t : Nat} (h : .tmp t ∈ o.op.operands.toList) : t ∈ o.looksAt ops :=
  List.mem_append_left _ (List.mem_filterMap.2 ⟨.tmp t, h, rfl⟩)

theorem Stp.local {i : Nat} {o : Oper} {z : A} {up : List (Nat × Option Blk)} {nw rs : List Nat} (s : Stp P M n ops i o st z up nw rs)
    (h1 : ∀ t ∈ o.looksAt ops, st2.sl t = st.sl t) (h2 : ∀ d ∈ rs, st2.bk d = st.bk d) (h3 : st2.ep = st.ep) (h4 : ∀ d, d ∈ nw ∨ d = st.ep + 64 * i → st2.ids d = st.ids d) : Stp P M n ops i o st2 z up nw rs := by
  cases s with
  | skip hw => exact .skip ((wantedA_congr h1).trans hw)
  | plain hw hx hn r =>
    refine .plain ((wantedA_congr h1).trans hw) ((mapM_congr' fun t ht => h1 t (looks_op ht)).trans hx) (fun ha => ?_) ?_
    · rw [h3, h4 _ (.inr rfl)]; exact hn ha
    · rw [h3]; exact r.local h2
  | call hw hop hc hx ha hgd hg hlen r hf he hfr =>
    rename_i cl x0 f first caps args q res back ys
    have hl : ∀ t, .tmp t ∈ o.op.operands.toList → st2.sl t = st.sl t := fun t ht => h1 t (looks_op ht)
    simp only [hop, Op.operands, Call.operands, hc] at hl
    refine .call ((wantedA_congr h1).trans hw) hop hc ((aval_congr fun t ht => hl t (by simp [ht])).trans hx) ((mapM_congr' fun t ht => hl t (by simp at ht ⊢; exact .inr ht)).trans ha) hgd hg hlen (r.local h2) hf ?_ (fun d hd => ?_)
    · rw [h3]; exact he
    · rw [h4 d (.inl hd)]; exact hfr d hd

theorem put_sl {st : St} {dst : Option Nat} {z : Option A} {t : Nat} : (st.put dst z).sl t = if dst = some t then z else st.sl t := by
  cases dst with
  | none => simp [St.put]
  | some d =>
    simp only [St.put, upd_app, Option.some.injEq]
    by_cases h : t = d
    · simp [h]
    · rw [if_neg h, if_neg (fun e => h e.symm)]
theorem put_bk {st : St} {dst : Option Nat} {z : Option A} : (st.put dst z).bk = st.bk := by cases dst <;> rfl
theorem put_ids {st : St} {dst : Option Nat} {z : Option A} : (st.put dst z).ids = st.ids := by cases dst <;> rfl
theorem put_ep {st : St} {dst : Option Nat} {z : Option A} : (st.put dst z).ep = st.ep := by cases dst <;> rfl

theorem foldl_upd2 {up : List (Nat × Option Blk)} : ∀ {f : Nat → Option Blk} {d : Nat}, d ∉ up.map (·.1) → (up.foldl (fun f q => upd f q.1 q.2) f) d = f d := by
  induction up with
  | nil => exact fun _ => rfl
  | cons q up ih =>
    intro f d h
    simp only [List.map_cons, List.mem_cons, not_or] at h
    simp only [List.foldl_cons]
    rw [ih h.2, upd_app, if_neg h.1]
theorem foldl_upd3 {up : List (Nat × Option Blk)} : ∀ {f g : Nat → Option Blk} {d : Nat}, (d ∈ up.map (·.1) ∨ f d = g d) → (up.foldl (fun f q => upd f q.1 q.2) f) d = (up.foldl (fun f q => upd f q.1 q.2) g) d := by
  induction up with
  | nil => exact fun h => by simpa using h
  | cons q up ih =>
    intro f g d h
    simp only [List.foldl_cons]
    refine ih ?_
    by_cases hq : d = q.1
    · exact .inr (by simp [upd, hq])
    · simp only [List.map_cons, List.mem_cons, hq, false_or] at h
      exact h.imp id fun h => by simp [upd, hq, h]

theorem foldl_comm {up up2 : List (Nat × Option Blk)} {f : Nat → Option Blk} (h : ∀ d ∈ up.map (·.1), d ∉ up2.map (·.1)) :
    up2.foldl (fun f q => upd f q.1 q.2) (up.foldl (fun f q => upd f q.1 q.2) f) = up.foldl (fun f q => upd f q.1 q.2) (up2.foldl (fun f q => upd f q.1 q.2) f) := by
  funext d
  by_cases h1 : d ∈ up.map (·.1)
  · rw [foldl_upd2 (h d h1)]
    exact foldl_upd3 (.inl h1)
  · rw [foldl_upd2 h1]
    refine foldl_upd3 ?_
    exact .inr (foldl_upd2 h1)

theorem go_comm {dx dy : Option Nat} {zx zy : A} {ux uy : List (Nat × Option Blk)} {nx ny : List Nat} (hd : ∀ d, dx = some d → dy ≠ some d) (hu : ∀ d ∈ ux.map (·.1), d ∉ uy.map (·.1)) :
    (st.go dx zx ux nx).go dy zy uy ny = (st.go dy zy uy ny).go dx zx ux nx := by
  have h1 : ((st.go dx zx ux nx).go dy zy uy ny).sl = ((st.go dy zy uy ny).go dx zx ux nx).sl := by
    funext t
    simp only [St.go, put_sl, St.app]
    by_cases h1 : dx = some t
    · by_cases h2 : dy = some t
      · exact (hd t h1 h2).elim
      · simp [h1, h2]
    · by_cases h2 : dy = some t <;> simp [h1, h2]
  have h2 : ((st.go dx zx ux nx).go dy zy uy ny).bk = ((st.go dy zy uy ny).go dx zx ux nx).bk := by
    simp only [St.go, put_bk, St.app]
    exact foldl_comm hu
  have h3 : ((st.go dx zx ux nx).go dy zy uy ny).ids = ((st.go dy zy uy ny).go dx zx ux nx).ids := by
    simp only [St.go, put_ids, St.app]
    funext d
    cases st.ids d <;> cases nx.contains d <;> cases ny.contains d <;> rfl
  have h4 : ((st.go dx zx ux nx).go dy zy uy ny).ep = ((st.go dy zy uy ny).go dx zx ux nx).ep := by simp only [St.go, put_ep, St.app]
  revert h1 h2 h3 h4
  generalize (st.go dx zx ux nx).go dy zy uy ny = x
  generalize (st.go dy zy uy ny).go dx zx ux nx = y
  intro h1 h2 h3 h4
  cases x; cases y
  simp only at h1 h2 h3 h4
  subst h1 h2 h3 h4
  rfl

theorem go_ep {dst : Option Nat} {z : A} {up : List (Nat × Option Blk)} {nw : List Nat} : (st.go dst z up nw).ep = st.ep := by simp [St.go, put_ep, St.app]

/-- Two neighbours change places. -/
theorem Run.swap {x y : Nat × FP} {l : List (Nat × FP)} {st' : St} (r : Run P M n ops (x :: y :: l) st st') (h : indep ops st.ep x y = true) : Run P M n ops (y :: x :: l) st st' := by
  cases r with
  | cons ho hd s r =>
    rename_i i o zx ux nx rx
    cases r with
    | cons ho2 hd2 s2 r =>
      rename_i j o2 zy uy ny ry
      simp only [indep, ho, ho2, Bool.and_eq_true] at h
      obtain ⟨⟨⟨⟨hap, h1⟩, h2⟩, h3⟩, h4⟩ := h
      obtain ⟨a1, a2, a3⟩ := Oper.apart_spec hap
      simp only [List.all_eq_true, Bool.not_eq_true', Bool.or_eq_false_iff, List.contains_eq_mem, decide_eq_false_iff_not, beq_eq_false_iff_ne] at h1 h2 h3 h4
      have s2' : Stp P M n ops j o2 st zy uy ny ry := by
        refine s2.local (fun t ht => ?_) (fun d hd => ?_) go_ep.symm (fun d hd => ?_)
        · simp only [St.go, put_sl, St.app]
          rw [if_neg (fun e => a1 t e ht)]
        · simp only [St.go, put_bk, St.app]
          rw [foldl_upd2 (fun hm => (h1 d hm).1 hd)]
        · simp only [St.go, put_ids, St.app]
          have : nx.contains d = false := by
            simp only [List.contains_eq_mem, decide_eq_false_iff_not]
            intro hm
            rcases hd with hd | hd
            · exact (h3 d hm).1 hd
            · exact (h3 d hm).2 (by rw [hd, go_ep])
          rw [this, Bool.or_false]
      have s' : Stp P M n ops i o (st.go o2.dst zy uy ny) zx ux nx rx := by
        refine s.local (fun t ht => ?_) (fun d hd => ?_) go_ep (fun d hd => ?_)
        · simp only [St.go, put_sl, St.app]
          rw [if_neg (fun e => a3 t e ht)]
        · simp only [St.go, put_bk, St.app]
          rw [foldl_upd2 (fun hm => h2 d hm hd)]
        · simp only [St.go, put_ids, St.app]
          have : ny.contains d = false := by
            simp only [List.contains_eq_mem, decide_eq_false_iff_not]
            intro hm
            rcases hd with hd | hd
            · exact (h3 d hd).1 hm
            · exact h4 d hm hd
          rw [this, Bool.or_false]
      refine .cons ho2 hd2 s2' (.cons ho hd s' ?_)
      rw [← go_comm a2 (fun d hd => (h1 d hd).2)]
      exact r

theorem Run.ep {l : List (Nat × FP)} {st st' : St} (r : Run P M n ops l st st') : st'.ep = st.ep := by
  induction r with
  | nil => rfl
  | cons ho hd s r ih => rw [ih, go_ep]

theorem Run.front : ∀ {pre : List (Nat × FP)} {x : Nat × FP} {post : List (Nat × FP)} {st st' : St}, Run P M n ops (pre ++ x :: post) st st' → (∀ y ∈ pre, indep ops st.ep y x = true) → Run P M n ops (x :: (pre ++ post)) st st'
  | [], x, post, st, st', r, _ => r
  | y :: pre, x, post, st, st', r, h => by
    cases r with
    | cons ho hd s r =>
      have r2 := Run.front r (fun y hy => by rw [go_ep]; exact h y (by simp [hy]))
      exact Run.swap (.cons ho hd s r2) (h _ (by simp))

end
end Go.PA
