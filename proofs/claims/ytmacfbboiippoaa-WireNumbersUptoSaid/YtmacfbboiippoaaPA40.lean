/- PA40: the walk, operation by operation. -/
import Derived.Test.YtmacfbboiippoaaPA39
namespace Go.PA

def opsWpL (P : Program) (M : FuncId → List Bool) (n : Nat × List Bool) (ops : Array Oper) : Nat → List Oper → (List (Nat × FP) → St → Prop) → St → Prop
  | _, [], K, st => K [] st
  | i, o :: l, K, st => okDst n o = true ∧
      match wantedA ops st o with
      | none => False
      | some g => (g = false → opsWpL P M n ops (i + 1) l (fun L => K ((i, ⟨[], [], []⟩) :: L)) (st.go o.dst .und [] [])) ∧
        (g = true → opWp P M (st.ep + 64 * i) o st fun z up nw rd => opsWpL P M n ops (i + 1) l (fun L => K ((i, ⟨rd, up.map (·.1), nw⟩) :: L)) (st.go o.dst z up nw))

section
variable {P : Program} {M : FuncId → List Bool} {N : Nat × List Bool} {Q : AExit → St → Prop} {st : St} {ops : Array Oper}

theorem opsWpL_ok : ∀ {l : List Oper} {i : Nat} {K : List (Nat × FP) → St → Prop} {st : St}, ops.toList.drop i = l → opsWpL P M N ops i l K st → opsWp P M N ops (List.range' i l.length) K st
  | [], i, K, st, hl, h => h
  | o :: l, i, K, st, hl, h => by
    have ho : ops[i]? = some o := by
      have := congrArg List.head? hl
      rw [List.head?_drop] at this
      simpa using this
    have hl' : ops.toList.drop (i + 1) = l := by rw [← List.drop_drop, hl]; rfl
    simp only [List.length_cons, List.range'_succ, opsWp, ho]
    simp only [opsWpL] at h
    refine ⟨h.1, ?_⟩
    have h2 := h.2
    cases hw : wantedA ops st o with
    | none => rw [hw] at h2; exact h2.elim
    | some g =>
      rw [hw] at h2
      exact ⟨fun e => opsWpL_ok hl' (h2.1 e), fun e => opWp_mono (fun _ _ _ _ hq => opsWpL_ok hl' hq) (h2.2 e)⟩

theorem SW.reg {id : Nat} {ops : Array Oper} (M : FuncId → List Bool) (h : opsWpL P M N ops 0 ops.toList (fun _ st' => Q .normal (st'.bump (64 * ops.size))) st) : SW P N (.region id ops false) Q st := by
  refine SW.region M ?_
  unfold regWp
  have := opsWpL_ok (ops := ops) rfl h
  rw [Array.length_toList, ← List.range_eq_range'] at this
  exact opsWp_mono (fun L st hq => ⟨fun e => absurd e (by decide), hq⟩) this

theorem SW.regDraw {id : Nat} {ops : Array Oper} (M : FuncId → List Bool) (hm : P.follows .mixedOrders = true) (he : edgesBack ops = true)
    (h : opsWpL P M N ops 0 ops.toList (fun L st' => drawOk ops st.ep L = true ∧ Q .normal (st'.bump (64 * ops.size))) st) : SW P N (.region id ops true) Q st := by
  refine SW.region M ?_
  unfold regWp
  have := opsWpL_ok (ops := ops) rfl h
  rw [Array.length_toList, ← List.range_eq_range'] at this
  exact opsWp_mono (fun L st hq => ⟨fun _ => ⟨he, hq.1, hm⟩, hq.2⟩) this

/-- One piece of code, and the rest as a name. -/
theorem SW.seqK {x y : Code} (h : ∀ K : St → Prop, (∀ st, SW P N y Q st → K st) → SW P N x (AExit.then K Q) st) : SW P N (.seq x y) Q st :=
  SW.seq (h _ fun _ h => h)

theorem then_normal {K : St → Prop} {st : St} : AExit.then K Q .normal st = K st := rfl
theorem then_exit {K : St → Prop} {st : St} {id : Nat} : AExit.then K Q (.exit id) st = Q (.exit id) st := rfl
theorem then_ret {K : St → Prop} {st : St} : AExit.then K Q .ret st = Q .ret st := rfl
theorem inBlock_normal {st : St} {id : Nat} : AExit.inBlock id Q .normal st = Q .normal st := rfl
theorem inBlock_ret {st : St} {id : Nat} : AExit.inBlock id Q .ret st = Q .ret st := rfl
theorem inBlock_same {st : St} {id : Nat} : AExit.inBlock id Q (.exit id) st = Q .normal st := by simp [AExit.inBlock]
theorem inBlock_other {st : St} {id id' : Nat} (h : id' ≠ id) : AExit.inBlock id Q (.exit id') st = Q (.exit id') st := by simp [AExit.inBlock, h]

/-! what a state that has gone on holds -/
theorem go_sl {dst : Option Nat} {z : A} {up : List (Nat × Option Blk)} {nw : List Nat} {t : Nat} : (st.go dst z up nw).sl t = if dst = some t then some z else st.sl t := by
  simp only [St.go, put_sl, St.app]
theorem go_bk {dst : Option Nat} {z : A} {up : List (Nat × Option Blk)} {nw : List Nat} : (st.go dst z up nw).bk = up.foldl (fun f q => upd f q.1 q.2) st.bk := by
  simp only [St.go, put_bk, St.app]
theorem go_ids {dst : Option Nat} {z : A} {up : List (Nat × Option Blk)} {nw : List Nat} {d : Nat} : (st.go dst z up nw).ids d = (st.ids d || nw.contains d) := by
  simp only [St.go, put_ids, St.app]
theorem bump_sl {k : Nat} : (st.bump k).sl = st.sl := rfl
theorem bump_bk {k : Nat} : (st.bump k).bk = st.bk := rfl
theorem bump_ids {k : Nat} : (st.bump k).ids = st.ids := rfl
theorem bump_ep {k : Nat} : (st.bump k).ep = st.ep + k := rfl
theorem aval_tmp {sl : Nat → Option A} {t : Nat} : aval sl (.tmp t) = sl t := rfl
theorem aval_func {sl : Nat → Option A} {f : Nat} : aval sl (.func f) = some (.clo (.func f) [] []) := rfl
theorem aval_int {sl : Nat → Option A} {k : IntKind} {n : Int} : aval sl (.const (.int k n)) = some (.v (.int k n)) := rfl
theorem aval_bool {sl : Nat → Option A} {b : Bool} : aval sl (.const (.bool b)) = some (.v (.bool b)) := rfl
theorem aval_nil {sl : Nat → Option A} : aval sl (.const (.slice none 0 0)) = some (.sl true []) := rfl
theorem mapM_nil' {f : Operand → Option A} : ([] : List Operand).mapM f = some [] := rfl
theorem mapM_cons' {f : Operand → Option A} {x : Operand} {l : List Operand} : (x :: l).mapM f = (f x).bind fun y => (l.mapM f).bind fun ys => some (y :: ys) := by
  simp [List.mapM_cons, Option.bind_eq_bind]
theorem wantedA_none {ops : Array Oper} {dst : Option Nat} {op : Op} {ty : TypeId} {pos : String} {af : Array Edge} : wantedA ops st ⟨dst, op, ty, pos, af, none⟩ = some true := rfl
theorem okDst_some {n : Nat × List Bool} {t : Nat} {op : Op} {ty : TypeId} {pos : String} {af : Array Edge} {g : Option (Nat × Bool)} : okDst n ⟨some t, op, ty, pos, af, g⟩ = (decide (t < n.1) && !n.2.getD t false) := rfl
theorem okDst_none {n : Nat × List Bool} {op : Op} {ty : TypeId} {pos : String} {af : Array Edge} {g : Option (Nat × Bool)} : okDst n ⟨none, op, ty, pos, af, g⟩ = true := rfl

end
end Go.PA
