/- PA33: what a body of code does to a frame's state. -/
import Derived.Test.YtmacfbboiippoaaPA32
import Derived.Scope
namespace Go.PA

def plainWp (P : Program) (nid : Nat) (o : Oper) (st : St) (K : A → List (Nat × Option Blk) → List Nat → List Nat → Prop) : Prop :=
  match o.op.operands.toList.mapM (aval st.sl) with
  | some xs => (allocs o.op = true → st.ids nid = false) ∧ (aeff P nid o xs).wp st.bk fun eff rd => K eff.val eff.up eff.new rd
  | none => False

def callWp (P : Program) (M : FuncId → List Bool) (nid : Nat) (cl : Call) (x0 : Operand) (st : St) (K : A → List (Nat × Option Blk) → List Nat → List Nat → Prop) : Prop :=
  match aval st.sl x0, cl.args.toList.mapM (aval st.sl) with
  | some (.clo (.func f) first caps), some args => args.all A.good = true ∧ goFn P f = true ∧ (M f).length = (first ++ args ++ caps).length ∧
      (handOver 64 ((M f).zip (first ++ args ++ caps))).wp st.bk fun q rd => ∃ res back, FS P f q.1 (.ret res back) ∧
        match aCallEff nid ((M f).zip (first ++ args ++ caps)) q.2 res back with
        | some e => (∀ d ∈ e.2.2, st.ids d = false) ∧ K (resA e.1) e.2.1 e.2.2 rd
        | none => False
  | _, _ => False

def opWp (P : Program) (M : FuncId → List Bool) (nid : Nat) (o : Oper) (st : St) (K : A → List (Nat × Option Blk) → List Nat → List Nat → Prop) : Prop :=
  match o.op with
  | .call cl => match cl.callee with
    | .value x0 => callWp P M nid cl x0 st K
    | _ => plainWp P nid o st K
  | _ => plainWp P nid o st K

def opsWp (P : Program) (M : FuncId → List Bool) (n : Nat × List Bool) (ops : Array Oper) : List Nat → (List (Nat × FP) → St → Prop) → St → Prop
  | [], K, st => K [] st
  | i :: l, K, st => match ops[i]? with
    | none => False
    | some o => okDst n o = true ∧
      match wantedA ops st o with
      | none => False
      | some g => (g = false → opsWp P M n ops l (fun L => K ((i, ⟨[], [], []⟩) :: L)) (st.go o.dst .und [] [])) ∧
        (g = true → opWp P M (st.ep + 64 * i) o st fun z up nw rd => opsWp P M n ops l (fun L => K ((i, ⟨rd, up.map (·.1), nw⟩) :: L)) (st.go o.dst z up nw))

def St.bump (st : St) (k : Nat) : St := { st with ep := st.ep + k }

def regWp (P : Program) (M : FuncId → List Bool) (n : Nat × List Bool) (ops : Array Oper) (draw : Bool) (K : St → Prop) (st : St) : Prop :=
  opsWp P M n ops (List.range ops.size) (fun L st' => (draw = true → edgesBack ops = true ∧ drawOk ops st.ep L = true ∧ P.follows .mixedOrders = true) ∧ K (st'.bump (64 * ops.size))) st

inductive AExit where
  | normal
  | exit (id : Nat)
  | ret

def AExit.then (K : St → Prop) (Q : AExit → St → Prop) : AExit → St → Prop
  | .normal, st => K st
  | e, st => Q e st
def AExit.inBlock (id : Nat) (Q : AExit → St → Prop) : AExit → St → Prop
  | .exit id', st => if id' = id then Q .normal st else Q (.exit id') st
  | e, st => Q e st

/-- Whatever stands for the one stands for the other. -/
def Weak (st st' : St) : Prop := ∀ (c : Ctx) (a : Act) (w : World), Rel c st a w → Rel c st' a w

def awp (P : Program) (M : FuncId → List Bool) (n : Nat × List Bool) : Code → (AExit → St → Prop) → St → Prop
  | .skip, Q, st => Q .normal st
  | .label _, Q, st => Q .normal st
  | .region _ ops draw, Q, st => regWp P M n ops draw (Q .normal) st
  | .seq x y, Q, st => awp P M n x (AExit.then (awp P M n y Q) Q) st
  | .cond x a b, Q, st => match aval st.sl x with
    | some (.v (.bool t)) => (t = true → awp P M n a Q st) ∧ (t = false → awp P M n b Q st)
    | _ => False
  | .block id body, Q, st => awp P M n body (AExit.inBlock id Q) st
  | .scope body, Q, st => awp P M n body Q st
  | .loop body, Q, st => ∃ (α : Type) (I : α → St) (μ : α → Nat) (x0 : α), Weak st (I x0) ∧
      ∀ x, awp P M n body (AExit.then (fun st2 => ∃ x', Weak st2 (I x') ∧ μ x' < μ x) Q) (I x)
  | .exit id, Q, st => Q (.exit id) st
  | .ret, Q, st => Q .ret st
  | _, _, _ => False

def liftQ (c : Cx) (Q : AExit → St → Prop) : Exit → Act → World → Prop
  | .normal, a, w => ∃ st, Q .normal st ∧ Rl c st a w
  | .exit id, a, w => ∃ st, Q (.exit id) st ∧ Rl c st a w
  | .ret, a, w => ∃ st, Q .ret st ∧ Rl c st a w
  | _, _, _ => False

section
variable {P : Program} {M : FuncId → List Bool} {n : Nat × List Bool} {ops : Array Oper} {st : St}

theorem opWp_run {i : Nat} {o : Oper} {K : A → List (Nat × Option Blk) → List Nat → List Nat → Prop} (hw : wantedA ops st o = some true) (h : opWp P M (st.ep + 64 * i) o st K) :
    ∃ z up nw rd, Stp P M n ops i o st z up nw rd ∧ K z up nw rd := by
  have plain : plainWp P (st.ep + 64 * i) o st K → ∃ z up nw rd, Stp P M n ops i o st z up nw rd ∧ K z up nw rd := by
    intro h
    unfold plainWp at h
    split at h
    · rename_i xs hx
      obtain ⟨eff, rd, r, hk⟩ := RM.runs_of_wp h.2
      exact ⟨_, _, _, _, .plain hw hx h.1 r, hk⟩
    · exact h.elim
  unfold opWp at h
  split at h
  · rename_i cl ho
    split at h
    · rename_i x0 hc
      unfold callWp at h
      split at h
      · rename_i f first caps args hx ha
        obtain ⟨h1, h2, h3, h4⟩ := h
        obtain ⟨q, rd, r, res, back, hf, hk⟩ := RM.runs_of_wp h4
        split at hk
        · rename_i e he
          obtain ⟨ys, up, nw⟩ := e
          exact ⟨_, _, _, _, .call hw ho hc hx ha h1 h2 h3 r hf he hk.1, hk.2⟩
        · exact hk.elim
      · exact h.elim
    · exact plain h
  · exact plain h

theorem opsWp_run : ∀ {l : List Nat} {K : List (Nat × FP) → St → Prop} {st : St}, opsWp P M n ops l K st → ∃ L st', Run P M n ops L st st' ∧ L.map (·.1) = l ∧ K L st'
  | [], K, st, h => ⟨[], st, .nil st, rfl, h⟩
  | i :: l, K, st, h => by
    simp only [opsWp] at h
    split at h
    · exact h.elim
    · rename_i o ho
      obtain ⟨hd, h⟩ := h
      split at h
      · exact h.elim
      · rename_i g hg
        cases g with
        | false =>
          obtain ⟨L, st', r, hL, hk⟩ := opsWp_run (h.1 rfl)
          exact ⟨_, st', .cons ho hd (.skip hg) r, by rw [List.map_cons, hL], hk⟩
        | true =>
          obtain ⟨z, up, nw, rd, s, hk⟩ := opWp_run (n := n) hg (h.2 rfl)
          obtain ⟨L, st', r, hL, hk⟩ := opsWp_run hk
          exact ⟨_, st', .cons ho hd s r, by rw [List.map_cons, hL], hk⟩

theorem Fram.drawn {c : Ctx} {w : World} {S : Nat → Prop} {d : Nat} (h : Fram c w S) : Fram c { w with drawn := d } S :=
  ⟨h.heap, h.size, h.os, h.tape, h.output, h.sub, h.new, h.bd, h.shp, h.fro⟩

end
end Go.PA
