/- More of the walk. -/
import Derived.Test.YtopigdkgjobdiaaPAb
import Derived.CheckFast
set_option linter.unusedSimpArgs false
set_option linter.unusedVariables false
/- PA43: the walk, one operation after the other, nothing ahead of its turn. -/
namespace Go.PA

def RM.wpA {α : Type} (bk : Nat → Option Blk) : RM α → (α → List Nat → Prop) → List Nat → Prop
  | .ret a, K, acc => K a acc
  | .fail, _, _ => False
  | .rd d k, K, acc => match bk d with
    | some b => (k b).wpA bk K (acc ++ [d])
    | none => False
  | .req p k, K, acc => p ∧ k.wpA bk K acc

theorem wpA_wp {α : Type} {bk : Nat → Option Blk} {K : α → List Nat → Prop} : ∀ {m : RM α} {acc : List Nat}, m.wpA bk K acc → m.wp bk (fun a l => K a (acc ++ l)) := by
  intro m
  induction m with
  | ret a => intro acc h; simpa [RM.wp, RM.wpA] using h
  | fail => exact fun h => h
  | rd d k ih =>
    intro acc h
    simp only [RM.wpA, RM.wp] at h ⊢
    cases hb : bk d with
    | none => rw [hb] at h; exact h.elim
    | some b =>
      rw [hb] at h
      have := ih _ h
      simpa only [List.append_assoc, List.singleton_append] using this
  | req p k ih => exact fun h => ⟨h.1, ih h.2⟩

abbrev Nx := A → List (Nat × Option Blk) → List Nat → List Nat → Prop

def effNext (next : Nx) : Eff → List Nat → Prop
  | ⟨z, up, nw⟩, rd => next z up nw rd

def nilC (st : St) (next : Nx) (rd : List Nat) : Option (Eff × List Nat) → Prop
  | some (⟨z, up, nw⟩, []) => next z up nw rd
  | some (⟨z, up, nw⟩, _ :: _) => (nw.all fun d => !st.ids d) = true ∧ next z up nw rd
  | none => False

/-- What is built or allocated has its nil slices named. -/
def nilF (nid : Nat) (o : Oper) (st : St) (next : Nx) (eff : Eff) (rd : List Nat) : Prop :=
  match o.op with
  | .build .. => nilC st next rd (nilE nid o eff)
  | .alloc _ => nilC st next rd (nilE nid o eff)
  | _ => effNext next eff rd

def plainF (P : Program) (nid : Nat) (o : Oper) (st : St) (next : Nx) : Option (List A) → Prop
  | some xs => (allocs o.op = true → st.ids nid = false) ∧ (aeff P nid o xs).wpA st.bk (nilF nid o st next) []
  | none => False

def callFin (st : St) (next : Nx) (rd : List Nat) : Option (List A × List (Nat × Option Blk) × List Nat) → Prop
  | some (ys, up, nw) => (nw.all fun d => !st.ids d) = true ∧ next (resA ys) up nw rd
  | none => False

def callEnd (P : Program) (nid : Nat) (f : FuncId) (xs : List (Bool × A)) (st : St) (next : Nx) (q : List A × List Nat) (rd : List Nat) : Prop :=
  ∃ res back, FS P f q.1 (.ret res back) ∧ callFin st next rd (aCallEff nid xs q.2 res back)

def callF (P : Program) (M : FuncId → List Bool) (nid : Nat) (o : Oper) (st : St) (next : Nx) : Option A → Option (List A) → Prop
  | some (.clo (.func f) first caps), some args => if goFn P f = true then args.all A.good = true ∧ (M f).length = (first ++ args ++ caps).length ∧
      (handOver 64 ((M f).zip (first ++ args ++ caps))).wpA st.bk (callEnd P nid f ((M f).zip (first ++ args ++ caps)) st next) []
      else plainF P nid o st next (some (.clo (.func f) first caps :: args))
  | _, _ => False

def opF (P : Program) (M : FuncId → List Bool) (nid : Nat) (o : Oper) (st : St) (next : Nx) : Prop :=
  match o.op with
  | .call cl => match cl.callee with
    | .value x0 => callF P M nid o st next (aval st.sl x0) (cl.args.toList.mapM (aval st.sl))
    | _ => plainF P nid o st next (o.op.operands.toList.mapM (aval st.sl))
  | _ => plainF P nid o st next (o.op.operands.toList.mapM (aval st.sl))

def opsF (P : Program) (M : FuncId → List Bool) (n : Nat × List Bool) (ops : Array Oper) (K : List (Nat × FP) → St → Prop) : List Oper → Nat → List (Nat × FP) → St → Prop
  | [], _, acc, st => K acc st
  | o :: l, i, acc, st => okDst n o = true ∧
      match wantedA ops st o with
      | none => False
      | some false => opsF P M n ops K l (i + 1) (acc ++ [(i, ⟨[], [], []⟩)]) (st.go o.dst .und [] [])
      | some true => opF P M (st.ep + 64 * i) o st fun z up nw rd => opsF P M n ops K l (i + 1) (acc ++ [(i, ⟨rd, up.map (·.1), nw⟩)]) (st.go o.dst z up nw)

def opsNext (P : Program) (M : FuncId → List Bool) (n : Nat × List Bool) (ops : Array Oper) (K : List (Nat × FP) → St → Prop) (l : List Oper) (i : Nat) (acc : List (Nat × FP)) (st : St) (dst : Option Nat) : Nx :=
  fun z up nw rd => opsF P M n ops K l (i + 1) (acc ++ [(i, ⟨rd, up.map (·.1), nw⟩)]) (st.go dst z up nw)

def opsGuard (P : Program) (M : FuncId → List Bool) (n : Nat × List Bool) (ops : Array Oper) (K : List (Nat × FP) → St → Prop) (o : Oper) (l : List Oper) (i : Nat) (acc : List (Nat × FP)) (st : St) : Option Bool → Prop
  | none => False
  | some false => opsF P M n ops K l (i + 1) (acc ++ [(i, ⟨[], [], []⟩)]) (st.go o.dst .und [] [])
  | some true => opF P M (st.ep + 64 * i) o st (opsNext P M n ops K l i acc st o.dst)

section
variable {P : Program} {M : FuncId → List Bool} {n : Nat × List Bool} {ops : Array Oper} {K : List (Nat × FP) → St → Prop} {l : List Oper} {i nid : Nat} {acc : List (Nat × FP)} {st : St} {next : Nx}

theorem opsF_nil : opsF P M n ops K [] i acc st = K acc st := rfl
theorem opsF_plain {dst : Option Nat} {op : Op} {ty : TypeId} {pos : String} {af : Array Edge} : opsF P M n ops K (⟨dst, op, ty, pos, af, none⟩ :: l) i acc st =
    (okDst n ⟨dst, op, ty, pos, af, none⟩ = true ∧ opF P M (st.ep + 64 * i) ⟨dst, op, ty, pos, af, none⟩ st (opsNext P M n ops K l i acc st dst)) := rfl
theorem opsF_guard {dst : Option Nat} {op : Op} {ty : TypeId} {pos : String} {af : Array Edge} {g : Nat × Bool} : opsF P M n ops K (⟨dst, op, ty, pos, af, some g⟩ :: l) i acc st =
    (okDst n ⟨dst, op, ty, pos, af, some g⟩ = true ∧ opsGuard P M n ops K ⟨dst, op, ty, pos, af, some g⟩ l i acc st (wantedA ops st ⟨dst, op, ty, pos, af, some g⟩)) := by
  simp only [opsF]
  congr 1
theorem opsGuard_true {o : Oper} : opsGuard P M n ops K o l i acc st (some true) = opF P M (st.ep + 64 * i) o st (opsNext P M n ops K l i acc st o.dst) := rfl
theorem opsGuard_false {o : Oper} : opsGuard P M n ops K o l i acc st (some false) = opsF P M n ops K l (i + 1) (acc ++ [(i, ⟨[], [], []⟩)]) (st.go o.dst .und [] []) := rfl
theorem opsNext_app {dst : Option Nat} {z : A} {up : List (Nat × Option Blk)} {nw rd : List Nat} : opsNext P M n ops K l i acc st dst z up nw rd = opsF P M n ops K l (i + 1) (acc ++ [(i, ⟨rd, up.map (·.1), nw⟩)]) (st.go dst z up nw) := rfl
theorem effNext_app {z : A} {up : List (Nat × Option Blk)} {nw rd : List Nat} : effNext next ⟨z, up, nw⟩ rd = next z up nw rd := rfl
theorem wpA_ret {α : Type} {bk : Nat → Option Blk} {a : α} {K : α → List Nat → Prop} {acc : List Nat} : (RM.ret a).wpA bk K acc = K a acc := rfl
theorem wpA_fail {α : Type} {bk : Nat → Option Blk} {K : α → List Nat → Prop} {acc : List Nat} : (RM.fail : RM α).wpA bk K acc = False := rfl
theorem wpA_req {α : Type} {bk : Nat → Option Blk} {p : Prop} {k : RM α} {K : α → List Nat → Prop} {acc : List Nat} : (RM.req p k).wpA bk K acc = (p ∧ k.wpA bk K acc) := rfl
theorem callFin_app {ys : List A} {up : List (Nat × Option Blk)} {nw rd : List Nat} : callFin st next rd (some (ys, up, nw)) = ((nw.all fun d => !st.ids d) = true ∧ next (resA ys) up nw rd) := rfl

theorem rm_mono' {α : Type} {bk : Nat → Option Blk} {m : RM α} {K K' : α → List Nat → Prop} (h : ∀ a l, K a l → K' a l) (hw : m.wp bk K) : m.wp bk K' := rm_mono h hw

theorem nilF_ok {o : Oper} {next' : Nx} {eff : Eff} {rd : List Nat} (hn : ∀ z up nw rd, next z up nw rd → next' z up nw rd) (h : nilF nid o st next eff rd) : nilWp nid o st next' eff rd := by
  have named : nilC st next rd (nilE nid o eff) → nilWp nid o st next' eff rd := by
    intro h
    unfold nilWp
    unfold nilC at h
    split at h
    · rename_i z up nw he
      simp only [he]
      exact hn _ _ _ _ h
    · rename_i z up nw e ex he
      simp only [he]
      refine ⟨fun d hd => ?_, hn _ _ _ _ h.2⟩
      have := h.1
      simp only [List.all_eq_true, Bool.not_eq_true'] at this
      exact this d hd
    · exact h.elim
  unfold nilF at h
  split at h
  · exact named h
  · exact named h
  · rename_i h1 h2
    unfold nilWp nilE
    obtain ⟨z, up, nw⟩ := eff
    split
    · rename_i e' he
      split at he
      · rename_i t ps ho; exact (h1 t ps ho).elim
      · rename_i t ho; exact (h2 t ho).elim
      · injection he with he; injection he with he; subst he; exact hn _ _ _ _ h
    · rename_i e' ex hne he
      split at he
      · rename_i t ps ho; exact (h1 t ps ho).elim
      · rename_i t ho; exact (h2 t ho).elim
      · injection he with he; injection he with he he2; exact (hne he2.symm).elim
    · rename_i he
      split at he
      · rename_i t ps ho; exact (h1 t ps ho).elim
      · rename_i t ho; exact (h2 t ho).elim
      · cases he

theorem opF_ok {o : Oper} {next' : Nx} (hn : ∀ z up nw rd, next z up nw rd → next' z up nw rd) (h : opF P M nid o st next) : opWp P M nid o st next' := by
  have plain : plainF P nid o st next (o.op.operands.toList.mapM (aval st.sl)) → plainWp P nid o st next' := by
    intro h
    unfold plainWp
    split
    · rename_i xs hx
      rw [hx] at h
      exact ⟨h.1, rm_mono (fun e rd he => nilF_ok hn he) (wpA_wp h.2)⟩
    · rename_i hx
      rw [hx] at h
      exact h
  unfold opF at h
  unfold opWp
  split
  · rename_i cl ho
    simp only [ho] at h
    split
    · rename_i x0 hc
      simp only [hc] at h
      unfold callF at h
      split at h
      · rename_i f first caps args hx ha
        split at h
        · rename_i hg
          refine .inl ?_
          unfold callWp
          simp only [hx, ha]
          refine ⟨h.1, hg, h.2.1, rm_mono (fun q rd hq => ?_) (wpA_wp h.2.2)⟩
          obtain ⟨res, back, hf, hm⟩ := hq
          refine ⟨res, back, hf, ?_⟩
          unfold callFin at hm
          split at hm
          · rename_i ys up nw he
            simp only [he]
            refine ⟨fun d hd => ?_, hn _ _ _ _ (by simpa using hm.2)⟩
            have := hm.1
            simp only [List.all_eq_true, Bool.not_eq_true'] at this
            exact this d hd
          · exact hm.elim
        · refine .inr (plain ?_)
          have hops : o.op.operands.toList = x0 :: cl.args.toList := by rw [ho]; simp [Op.operands, Call.operands, hc]
          rw [hops, mapM_cons', hx, ha]
          exact h
      · exact h.elim
    · rename_i hne
      refine plain ?_
      rw [ho]
      cases hc : cl.callee with
      | value x0 => exact (hne x0 hc).elim
      | invoke r m => simp only [hc] at h; exact h
      | builtin b => simp only [hc] at h; exact h
  · rename_i hne
    refine plain ?_
    revert h
    split
    · rename_i cl ho
      exact (hne cl ho).elim
    · exact fun h => h

theorem opsF_ok : ∀ {l : List Oper} {i : Nat} {acc : List (Nat × FP)} {st : St} {K' : List (Nat × FP) → St → Prop}, (∀ L st, K (acc ++ L) st → K' L st) → opsF P M n ops K l i acc st → opsWpL P M n ops i l K' st
  | [], i, acc, st, K', hk, h => hk [] st (by simpa [opsF] using h)
  | o :: l, i, acc, st, K', hk, h => by
    simp only [opsF, opsWpL] at h ⊢
    refine ⟨h.1, ?_⟩
    have h2 := h.2
    cases hw : wantedA ops st o with
    | none => rw [hw] at h2; exact h2
    | some g =>
      rw [hw] at h2
      dsimp only
      cases g with
      | false => exact ⟨fun _ => opsF_ok (fun L st hL => hk _ st (by simpa using hL)) h2, fun e => absurd e (by decide)⟩
      | true => exact ⟨fun e => absurd e (by decide), fun _ => opF_ok (fun z up nw rd hz => opsF_ok (fun L st hL => hk _ st (by simpa using hL)) hz) h2⟩

end

section
variable {P : Program} {M : FuncId → List Bool} {N : Nat × List Bool} {Q : AExit → St → Prop} {st : St}

def regEnd (Q : AExit → St → Prop) (k : Nat) : List (Nat × FP) → St → Prop := fun _ st' => Q .normal (st'.bump k)
theorem regEnd_app {k : Nat} {L : List (Nat × FP)} : regEnd Q k L st = Q .normal (st.bump k) := rfl
def drawEnd (Q : AExit → St → Prop) (ops : Array Oper) (ep : Nat) : List (Nat × FP) → St → Prop := fun L st' => drawOk ops ep L = true ∧ Q .normal (st'.bump (64 * ops.size))
theorem drawEnd_app {ops : Array Oper} {ep : Nat} {L : List (Nat × FP)} : drawEnd Q ops ep L st = (drawOk ops ep L = true ∧ Q .normal (st.bump (64 * ops.size))) := rfl

theorem SW.go {id : Nat} {ops : Array Oper} (M : FuncId → List Bool) (h : opsF P M N ops (regEnd Q (64 * ops.size)) ops.toList 0 [] st) : SW P N (.region id ops false) Q st :=
  SW.reg M (opsF_ok (fun _ _ h => h) h)
theorem SW.goDraw {id : Nat} {ops : Array Oper} (M : FuncId → List Bool) (hm : P.follows .mixedOrders = true) (he : edgesBack ops = true) (h : opsF P M N ops (drawEnd Q ops st.ep) ops.toList 0 [] st) : SW P N (.region id ops true) Q st :=
  SW.regDraw M hm he (opsF_ok (fun _ _ h => h) h)

end
theorem callOps {b : Builtin} {args : Array Operand} {tys : Array TypeId} : (Call.operands ⟨.builtin b, args, tys⟩).toList = args.toList := by simp [Call.operands]
theorem wantedA_some {ops : Array Oper} {st : St} {dst : Option Nat} {op : Op} {ty : TypeId} {pos : String} {af : Array Edge} {j : Nat} {want : Bool} : wantedA ops st ⟨dst, op, ty, pos, af, some (j, want)⟩ =
    (match (ops[j]?).bind (·.dst) with
    | some t => match st.sl t with
      | some (.v (.bool b)) => some (b == want)
      | some .und => some false
      | _ => none
    | none => none) := rfl
theorem beq_tt : (true == true) = true := rfl
theorem beq_tf : (true == false) = false := rfl
theorem beq_ft : (false == true) = false := rfl
theorem beq_ff : (false == false) = true := rfl
theorem opt_none : ((none : Option Operand).toArray).toList = [] := rfl
theorem opt_some {x : Operand} : ((some x).toArray).toList = [x] := rfl
theorem src_any {α β : Type} {p : Bool} {x : α} {k : α → RM β} {bk : Nat → Option Blk} {K : β → List Nat → Prop} {acc : List Nat} :
    ((if p = true then RM.ret x else RM.req True (RM.ret x)).bind k).wpA bk K acc = (k x).wpA bk K acc := by cases p <;> simp [RM.bind, RM.wpA]
theorem bA_getD {l : List Nat} {i : Nat} (h : i < l.length) : (bA l).getD i .und = A.v (.int .u8 ((l.getD i 0 : Nat) : Int)) := bA_get l i .und h
theorem szAt_bA {l : List Nat} {i : Nat} (h : i < l.length) : szAt (bA l) i 1 := by
  refine ⟨A.v (.int .u8 ((l.getD i 0 : Nat) : Int)), ?_, rfl⟩
  simp [bA, List.getD_eq_getElem?_getD, h]
theorem idx_slB {P : Program} {t : TypeId} {q : Bool} {xs : List Nat} {n : Int} {bk : Nat → Option Blk} {K : Eff → List Nat → Prop} {acc : List Nat} (h : (tSlice P t).map (·.2) = some 1) :
    (aIndexAddr P t (.sl q (bA xs)) n).wpA bk K acc = ((0 ≤ n ∧ n < xs.length) ∧ K ⟨.rp q (.v (.int .u8 ((xs.getD n.toNat 0 : Nat) : Int))), [], []⟩ acc) := by
  cases ht : tSlice P t with
  | none => rw [ht] at h; cases h
  | some e =>
    rw [ht] at h
    obtain ⟨e, s⟩ := e
    simp only [Option.map_some, Option.some.injEq] at h
    subst h
    simp only [aIndexAddr, ht, RM.wpA, effV, bA_length, eq_iff_iff]
    constructor
    · intro ⟨⟨h1, h2, h3⟩, h4⟩
      rw [bA_getD (by omega)] at h4
      exact ⟨⟨h1, h2⟩, h4⟩
    · intro ⟨⟨h1, h2⟩, h4⟩
      rw [bA_getD (by omega)]
      exact ⟨⟨h1, h2, szAt_bA (by omega)⟩, h4⟩
theorem idx_ref {P : Program} {t : TypeId} {d s off len : Nat} {full : Bool} {n : Int} {bk : Nat → Option Blk} {K : Eff → List Nat → Prop} {acc : List Nat} (h : (tSlice P t).map (·.2) = some s) :
    (aIndexAddr P t (.ref d s off len full) n).wpA bk K acc = ((0 ≤ n ∧ n < len) ∧ K ⟨.ptr d [.idx (off + n.toNat) s], [], []⟩ acc) := by
  cases ht : tSlice P t with
  | none => rw [ht] at h; cases h
  | some e =>
    rw [ht] at h
    obtain ⟨e, s'⟩ := e
    simp only [Option.map_some, Option.some.injEq] at h
    subst h
    simp only [aIndexAddr, ht, if_true, RM.wpA, effV]
theorem getR_bA {β : Type} {xs : List Nat} {i : Nat} {bk : Nat → Option Blk} {k : A → RM β} {K : β → List Nat → Prop} {acc : List Nat} :
    ((getR (bA xs) 1 [.idx i 1]).bind k).wpA bk K acc = (i < xs.length ∧ (k (.v (.int .u8 ((xs.getD i 0 : Nat) : Int)))).wpA bk K acc) := by
  simp only [getR, if_true, RM.bind, RM.wpA, bA_length, eq_iff_iff]
  constructor
  · intro ⟨h1, h2⟩
    rw [bA_getD h1] at h2
    exact ⟨h1, by simpa [getP, RM.bind] using h2⟩
  · intro ⟨h1, h2⟩
    rw [bA_getD h1]
    exact ⟨h1, by simpa [getP, RM.bind] using h2⟩
theorem setR_bA {β : Type} {xs : List Nat} {i : Nat} {v : Int} {bk : Nat → Option Blk} {k : List A → RM β} {K : β → List Nat → Prop} {acc : List Nat} :
    ((setR (bA xs) 1 (.v (.int .u8 v)) [.idx i 1]).bind k).wpA bk K acc = (i < xs.length ∧ (k ((bA xs).set i (.v (.int .u8 v)))).wpA bk K acc) := by
  simp only [setR, if_true, RM.bind, RM.wpA, bA_length, eq_iff_iff]
  constructor
  · intro ⟨h1, h2⟩
    rw [bA_getD h1] at h2
    exact ⟨h1, by simpa [setP, RM.bind, A.sz] using h2⟩
  · intro ⟨h1, h2⟩
    rw [bA_getD h1]
    exact ⟨h1, by simpa [setP, RM.bind, A.sz] using h2⟩
theorem bA_set {l : List Nat} {i v : Nat} : (bA l).set i (.v (.int .u8 (v : Int))) = bA (l.set i v) := by simp [bA, List.map_set]
theorem isInt_int {k : IntKind} {n : Int} : A.isInt k (.v (.int k n)) = True := by simp [A.isInt]
theorem asInt_int {k : IntKind} {n : Int} : A.asInt (.v (.int k n)) = n := rfl
theorem sz_bA {l : List Nat} : (∀ y, y ∈ bA l → y.sz = 1) ↔ True := ⟨fun _ => trivial, fun _ _ h => bA_sz h⟩
theorem sz_bA1 {v : Value} : (∀ y, y ∈ [A.v v] → y.sz = 1) ↔ True := ⟨fun _ => trivial, fun _ => by simp [A.sz]⟩
theorem nilC_nil {st : St} {next : Nx} {z : A} {up : List (Nat × Option Blk)} {nw rd : List Nat} : nilC st next rd (some (⟨z, up, nw⟩, [])) = next z up nw rd := rfl
theorem nilC_cons {st : St} {next : Nx} {z : A} {up : List (Nat × Option Blk)} {nw rd ex : List Nat} {x : Nat} : nilC st next rd (some (⟨z, up, nw⟩, x :: ex)) = ((nw.all fun d => !st.ids d) = true ∧ next z up nw rd) := rfl
attribute [go_sem] nilF nilE nilC_nil nilC_cons List.map_append
attribute [go_sem] opsF_nil opsF_plain opsF_guard opsGuard_true opsGuard_false opsNext_app effNext_app wpA_ret wpA_fail wpA_req RM.wpA opF plainF callF callFin_app regEnd_app drawEnd_app List.cons_append List.nil_append A.sz szs List.reduceReplicate List.replicate_zero List.replicate_one List.getElem?_cons_zero List.getElem?_cons_succ List.getElem?_nil List.take_zero List.take_succ_cons List.take_nil List.set_cons_zero List.set_cons_succ List.all_cons List.all_nil A.closed Nat.reduceLeDiff List.drop_zero List.take_length List.head?_cons Option.getD_some Option.getD_none Option.isSome_none Option.isSome_some Bool.false_and Bool.and_false List.contains_nil Bool.not_true Bool.cond_true Bool.cond_false List.getElem_cons_zero bA_append bA_length bA_noowns bA_nobors bA_closeds bA_lnds bA_lndOks lnds_append lndOks_append lnds lnd lndOks lndOk rosW closeds_append noowns_append nobors_append bA_take bA_drop Nat.le_refl Nat.add_zero Nat.zero_le List.getElem?_toArray aCallEff unf unfs restores handOver ownPass lends plainPass roPass roA List.nodup_nil List.nodup_cons List.not_mem_nil List.mem_cons List.mem_singleton forall_eq_or_imp forall_eq implies_true or_false not_false_eq_true backNobor resA List.take_length wantedA_some beq_tt beq_tf beq_ft beq_ff cond_true cond_false opt_none opt_some src_any sz_bA sz_bA1 List.any_cons List.any_nil if_false_left ite_self Bool.not_eq_true callOps closeds A.noown shaped isInt_int asInt_int idx_slB idx_ref getR_bA setR_bA A.isAgg noowns
end Go.PA

/- PA44: the order drawn, looked at quickly. -/
namespace Go.PA

def edgesBackL : Nat → List Oper → Bool
  | _, [] => true
  | i, o :: l => (o.after.toList.all fun e => !Region.binds .any e || Nat.blt e.on i) && edgesBackL (i + 1) l

theorem edgesBackL_ok {ops : Array Oper} : ∀ {l : List Oper} {i : Nat}, ops.toList.drop i = l → edgesBackL i l = true → ∀ j, i ≤ j → j < ops.size → ((ops[j]?).map fun o => o.after.all fun e => !Region.binds .any e || decide (e.on < j)).getD false = true
  | [], i, hl, h, j, h1, h2 => by
    have := congrArg List.length hl
    simp at this
    omega
  | o :: l, i, hl, h, j, h1, h2 => by
    simp only [edgesBackL, Bool.and_eq_true] at h
    have ho : ops[i]? = some o := by
      have := congrArg List.head? hl
      rw [List.head?_drop] at this
      simpa using this
    rcases Nat.eq_or_lt_of_le h1 with he | hlt
    · subst he
      rw [ho]
      simp only [Option.map_some, Option.getD_some]
      rw [← Array.all_toList]
      have h3 := h.1
      simp only [List.all_eq_true] at h3 ⊢
      intro e he
      have := h3 e he
      simpa [Nat.blt_eq] using this
    · exact edgesBackL_ok (by rw [← List.drop_drop, hl]; rfl) h.2 j hlt h2

theorem edgesBack_of {ops : Array Oper} (h : edgesBackL 0 ops.toList = true) : edgesBack ops = true := by
  simp only [edgesBack, List.all_eq_true, List.mem_range]
  exact fun j hj => edgesBackL_ok rfl h j (Nat.zero_le _) hj

def maskOf : List Nat → Nat → Nat
  | [], m => m
  | t :: l, m => maskOf l (m ||| 2 ^ t)
theorem maskOf_keep : ∀ {l : List Nat} {m t : Nat}, m.testBit t = true → (maskOf l m).testBit t = true
  | [], _, _, h => h
  | u :: l, m, t, h => by
    simp only [maskOf]
    exact maskOf_keep (by rw [Nat.testBit_or, h]; rfl)
theorem maskOf_mem : ∀ {l : List Nat} {m t : Nat}, t ∈ l → (maskOf l m).testBit t = true
  | u :: l, m, t, h => by
    simp only [maskOf]
    rcases List.mem_cons.1 h with h | h
    · subst h
      exact maskOf_keep (by rw [Nat.testBit_or, Nat.testBit_two_pow]; simp)
    · exact maskOf_mem h

def dstM (o : Oper) : Nat := match o.dst with
  | some d => 2 ^ d
  | none => 0
def looksM (ops : Array Oper) (o : Oper) : Nat := maskOf (o.looksAt ops) 0

def apartM (x y : Nat × Nat) : Bool := Nat.beq (Nat.land x.1 (Nat.lor y.1 y.2)) 0 && Nat.beq (Nat.land y.1 x.2) 0

theorem land_test {a b t : Nat} (h : Nat.beq (Nat.land a b) 0 = true) (ha : a.testBit t = true) : b.testBit t = false := by
  have h1 : a &&& b = 0 := Nat.eq_of_beq_eq_true h
  have h2 : (a &&& b).testBit t = false := by rw [h1, Nat.zero_testBit]
  rw [Nat.testBit_and, ha] at h2
  simpa using h2

theorem apartM_ok {ops : Array Oper} {x y : Oper} (h : apartM (dstM x, looksM ops x) (dstM y, looksM ops y) = true) : x.apart ops y = true := by
  simp only [apartM, Bool.and_eq_true] at h
  obtain ⟨h1, h2⟩ := h
  unfold Oper.apart
  rw [Bool.and_eq_true]
  constructor
  · cases hx : x.dst with
    | none => rfl
    | some d =>
      have hb : (dstM x).testBit d = true := by simp [dstM, hx]
      have h3 := land_test h1 hb
      have h4 : (dstM y ||| looksM ops y).testBit d = false := h3
      rw [Nat.testBit_or, Bool.or_eq_false_iff] at h4
      simp only [Bool.and_eq_true, Bool.not_eq_true', List.contains_eq_mem, decide_eq_false_iff_not, bne_iff_ne, ne_eq]
      refine ⟨fun hm => ?_, fun he => ?_⟩
      · have := maskOf_mem (m := 0) hm
        unfold looksM at h4
        rw [h4.2] at this
        cases this
      · have : (dstM y).testBit d = true := by simp [dstM, he]
        rw [h4.1] at this
        cases this
  · cases hy : y.dst with
    | none => rfl
    | some d =>
      have hb : (dstM y).testBit d = true := by simp [dstM, hy]
      have h3 := land_test h2 hb
      simp only [Bool.not_eq_true', List.contains_eq_mem, decide_eq_false_iff_not]
      intro hm
      have := maskOf_mem (m := 0) hm
      unfold looksM at h3
      rw [h3] at this
      cases this

def fpOk (ep : Nat) (x y : Nat × FP) : Bool :=
  x.2.ws.all (fun d => !(y.2.rs.contains d || y.2.ws.contains d)) && y.2.ws.all (fun d => !x.2.rs.contains d) &&
      x.2.nw.all (fun d => !(y.2.nw.contains d || d == ep + 64 * y.1)) && y.2.nw.all (fun d => !(d == ep + 64 * x.1))

def pairOk (E : List (Nat × Nat)) (B : List Nat) (ep : Nat) (x y : Nat × FP) : Bool :=
  (B.getD y.1 0).testBit x.1 || (match E[x.1]?, E[y.1]? with
    | some a, some b => apartM a b
    | _, _ => false) && fpOk ep x y

def drawChk (E : List (Nat × Nat)) (B : List Nat) (ep : Nat) : List (Nat × FP) → Bool
  | [] => true
  | x :: l => (l.all fun y => pairOk E B ep x y) && drawChk E B ep l

def beforeK : List Oper → Nat → List Nat → (List Nat → Bool) → Bool
  | [], _, acc, k => k acc.reverse
  | o :: rest, j, acc, k => CheckFast.force (CheckFast.one (fun i => if i < j then acc.getD (j - 1 - i) 0 else 0) o) fun v => beforeK rest (j + 1) (v :: acc) k

theorem beforeK_eq : ∀ {l : List Oper} {j : Nat} {acc : List Nat} {k : List Nat → Bool}, beforeK l j acc k = k (CheckFast.beforeL l j acc)
  | [], _, _, _ => rfl
  | o :: rest, j, acc, k => by
    simp only [beforeK, CheckFast.beforeL, CheckFast.force_eq]
    exact beforeK_eq

def entK (ops : Array Oper) : List Oper → List (Nat × Nat) → (List (Nat × Nat) → Bool) → Bool
  | [], acc, k => k acc.reverse
  | o :: rest, acc, k => CheckFast.force (dstM o) fun d => CheckFast.force (looksM ops o) fun m => entK ops rest ((d, m) :: acc) k

theorem entK_eq {ops : Array Oper} : ∀ {l : List Oper} {acc : List (Nat × Nat)} {k : List (Nat × Nat) → Bool}, entK ops l acc k = k (acc.reverse ++ l.map fun o => (dstM o, looksM ops o))
  | [], acc, k => by simp [entK]
  | o :: rest, acc, k => by
    simp only [entK, CheckFast.force_eq]
    rw [entK_eq]
    simp

def drawF (ops : Array Oper) (ep : Nat) (L : List (Nat × FP)) : Bool := beforeK ops.toList 0 [] fun B => entK ops ops.toList [] fun E => drawChk E B ep L

theorem pairOk_ok {ops : Array Oper} {ep : Nat} {x y : Nat × FP} (h : pairOk (ops.toList.map fun o => (dstM o, looksM ops o)) (CheckFast.beforeL ops.toList 0 []) ep x y = true) :
    (((Region.before ops).getD y.1 0).testBit x.1 || indep ops ep x y) = true := by
  have hB : ∀ i, (Region.before ops).getD i 0 = (CheckFast.beforeL ops.toList 0 []).getD i 0 := fun i => by
    rw [← CheckFast.beforeF_eq]
    simp [CheckFast.beforeF, Array.getD_eq_getD_getElem?, List.getD_eq_getElem?_getD]
  unfold pairOk at h
  rw [Bool.or_eq_true] at h ⊢
  rw [hB]
  rcases h with h | h
  · exact .inl h
  · refine .inr ?_
    rw [Bool.and_eq_true] at h
    obtain ⟨h1, h2⟩ := h
    unfold indep
    simp only [List.getElem?_map, Array.getElem?_toList] at h1
    cases hx : ops[x.1]? with
    | none => rw [hx] at h1; simp at h1
    | some ox =>
      cases hy : ops[y.1]? with
      | none => rw [hx, hy] at h1; simp at h1
      | some oy =>
        rw [hx, hy] at h1
        simp only [Option.map_some] at h1
        have h3 := apartM_ok h1
        unfold fpOk at h2
        simp only [Bool.and_eq_true] at h2 ⊢
        exact ⟨⟨⟨⟨h3, h2.1.1.1⟩, h2.1.1.2⟩, h2.1.2⟩, h2.2⟩

theorem drawChk_ok {ops : Array Oper} {ep : Nat} : ∀ {L : List (Nat × FP)}, drawChk (ops.toList.map fun o => (dstM o, looksM ops o)) (CheckFast.beforeL ops.toList 0 []) ep L = true → drawOk ops ep L = true
  | [], _ => rfl
  | x :: l, h => by
    simp only [drawChk, drawOk, Bool.and_eq_true, List.all_eq_true] at h ⊢
    exact ⟨fun y hy => pairOk_ok (h.1 y hy), drawChk_ok h.2⟩

theorem drawF_ok {ops : Array Oper} {ep : Nat} {L : List (Nat × FP)} (h : drawF ops ep L = true) : drawOk ops ep L = true := by
  unfold drawF at h
  rw [beforeK_eq, entK_eq] at h
  exact drawChk_ok (by simpa using h)

section
variable {P : Program} {M : FuncId → List Bool} {N : Nat × List Bool} {Q : AExit → St → Prop} {st : St}

def drawEndF (Q : AExit → St → Prop) (ops : Array Oper) (ep : Nat) : List (Nat × FP) → St → Prop := fun L st' => drawF ops ep L = true ∧ Q .normal (st'.bump (64 * ops.size))
theorem drawEndF_app {ops : Array Oper} {ep : Nat} {L : List (Nat × FP)} : drawEndF Q ops ep L st = (drawF ops ep L = true ∧ Q .normal (st.bump (64 * ops.size))) := rfl

theorem SW.goDrawF {id : Nat} {ops : Array Oper} (M : FuncId → List Bool) (hm : P.follows .mixedOrders = true) (he : edgesBackL 0 ops.toList = true) (h : opsF P M N ops (drawEndF Q ops st.ep) ops.toList 0 [] st) : SW P N (.region id ops true) Q st :=
  SW.regDraw M hm (edgesBack_of he) (opsF_ok (fun L st' h => by
    rw [List.nil_append] at h
    exact ⟨drawF_ok h.1, h.2⟩) h)
end

attribute [go_sem] drawEndF_app
end Go.PA

/- PA45: aids of the walk. -/
namespace Go.PA

section
variable {P : Program} {M : FuncId → List Bool} {n N : Nat × List Bool} {ops : Array Oper} {K : List (Nat × FP) → St → Prop} {l : List Oper} {i : Nat} {acc : List (Nat × FP)} {st : St} {o : Oper} {Q : AExit → St → Prop}

/-- An operation under a guard whose value is not a constant. -/
theorem guardSplit {b w : Bool} (h1 : b = w → opsGuard P M n ops K o l i acc st (some true)) (h2 : b = !w → opsGuard P M n ops K o l i acc st (some false)) : opsGuard P M n ops K o l i acc st (some (b == w)) := by
  cases b <;> cases w <;> simp_all

theorem SW.id {c : Code} (h : SW P N c Q st) : SW P N c Q st := h

theorem SW.condE {x : Operand} {p q : Code} {t : Bool} (ht : aval st.sl x = some (.v (.bool t))) (h1 : t = true → SW P N p Q st) (h2 : t = false → SW P N q Q st) : SW P N (.cond x p q) Q st := SW.cond ht h1 h2
end
end Go.PA
