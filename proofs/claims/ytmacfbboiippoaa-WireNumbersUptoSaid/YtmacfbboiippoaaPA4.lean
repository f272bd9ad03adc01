/- PA4: what an operation does to a frame's state. -/
import Derived.Test.YtmacfbboiippoaaPA3
namespace Go.PA

/-! Reading the frame's blocks. -/
inductive RM (α : Type) where
  | ret (a : α)
  | fail
  | rd (d : Nat) (k : Blk → RM α)
  | req (p : Prop) (k : RM α)

def RM.bind {α β : Type} : RM α → (α → RM β) → RM β
  | .ret a, f => f a
  | .fail, _ => .fail
  | .rd d k, f => .rd d fun b => (k b).bind f
  | .req p k, f => .req p (k.bind f)

/-- What must hold so that 'm' comes to something that 'K' takes. -/
def RM.wp {α : Type} (bk : Nat → Option Blk) : RM α → (α → List Nat → Prop) → Prop
  | .ret a, K => K a []
  | .fail, _ => False
  | .rd d k, K => match bk d with
    | some b => (k b).wp bk fun a l => K a (d :: l)
    | none => False
  | .req p k, K => p ∧ k.wp bk K

inductive RM.Runs {α : Type} (bk : Nat → Option Blk) : RM α → α → List Nat → Prop
  | ret (a : α) : Runs bk (.ret a) a []
  | rd {d : Nat} {k : Blk → RM α} {b : Blk} {a : α} {l : List Nat} (h : bk d = some b) (r : Runs bk (k b) a l) : Runs bk (.rd d k) a (d :: l)
  | req {p : Prop} {k : RM α} {a : α} {l : List Nat} (h : p) (r : Runs bk k a l) : Runs bk (.req p k) a l

theorem RM.runs_of_wp {α : Type} {bk : Nat → Option Blk} {m : RM α} : ∀ {K : α → List Nat → Prop}, m.wp bk K → ∃ a l, RM.Runs bk m a l ∧ K a l := by
  induction m with
  | ret a => exact fun h => ⟨a, [], .ret a, h⟩
  | fail => exact fun h => h.elim
  | rd d k ih =>
    intro K h
    simp only [RM.wp] at h
    split at h
    · rename_i b hb
      obtain ⟨a, l, r, hk⟩ := ih b h
      exact ⟨a, d :: l, .rd hb r, hk⟩
    · exact h.elim
  | req p k ih =>
    intro K h
    obtain ⟨a, l, r, hk⟩ := ih h.2
    exact ⟨a, l, .req h.1 r, hk⟩

theorem RM.Runs.local {α : Type} {bk bk' : Nat → Option Blk} {m : RM α} {a : α} {l : List Nat} (r : RM.Runs bk m a l) (h : ∀ d ∈ l, bk' d = bk d) : RM.Runs bk' m a l := by
  induction r with
  | ret a => exact .ret a
  | rd hb r ih => exact .rd ((h _ (by simp)).trans hb) (ih fun d hd => h d (by simp [hd]))
  | req hp r ih => exact .req hp (ih h)

theorem RM.runs_bind {α β : Type} {bk : Nat → Option Blk} {f : α → RM β} : ∀ {m : RM α} {b : β} {l : List Nat}, RM.Runs bk (m.bind f) b l →
    ∃ a l1 l2, RM.Runs bk m a l1 ∧ RM.Runs bk (f a) b l2 ∧ l = l1 ++ l2 := by
  intro m
  induction m with
  | ret a => exact fun h => ⟨a, [], _, .ret a, h, rfl⟩
  | fail => intro b l h; cases h
  | rd d k ih =>
    intro b l h
    cases h with
    | rd hb r =>
      obtain ⟨a, l1, l2, r1, r2, rfl⟩ := ih _ r
      exact ⟨a, d :: l1, l2, .rd hb r1, r2, rfl⟩
  | req p k ih =>
    intro b l h
    cases h with
    | req hp r =>
      obtain ⟨a, l1, l2, r1, r2, rfl⟩ := ih r
      exact ⟨a, l1, l2, .req hp r1, r2, rfl⟩

structure Eff where
  val : A
  up : List (Nat × Option Blk)
  new : List Nat

/-! The program's tables. -/
def tSlice (P : Program) (t : TypeId) : Option (TypeId × Nat) :=
  match P.underlying t with
  | some (.slice e) => (P.info? e).map fun i => (e, i.size)
  | _ => none
def tArr (P : Program) (t : TypeId) : Option (Nat × TypeId × Nat) :=
  match P.underlying t with
  | some (.array n e) => (P.info? e).map fun i => (n, e, i.size)
  | _ => none
def tFld (P : Program) (t : TypeId) (k : Nat) : Option (Nat × TypeId × Nat) :=
  match P.underlying t with
  | some (.struct fs) => (fs[k]?).bind fun f => (P.info? f.type).map fun i => (f.offset, f.type, i.size)
  | _ => none
def tAgg (P : Program) (t : TypeId) : Option Bool :=
  (P.underlying t).map fun | .struct _ | .array _ _ => true | _ => false
def tSize (P : Program) (t : TypeId) : Option Nat := (P.info? t).map (·.size)
def tInt (P : Program) (t : TypeId) : Option IntKind :=
  match P.underlying t with
  | some (.int k) => some k
  | _ => none
def tBytes (P : Program) (t : TypeId) : Option Nat := (P.info? t).map (·.bytes)

/-- Zero trees. -/
def zTree (P : Program) : Nat → TypeId → Option A
  | 0, _ => none
  | n + 1, t =>
    match P.underlying t with
    | some (.struct fs) => (fs.toList.mapM fun f => zTree P n f.type).map A.agg
    | some (.array k e) => match zTree P n e, P.info? e with
      | some z, some i => some (.arr (k * i.size) (List.replicate k z))
      | _, _ => none
    | some (.slice e) => (P.info? e).map fun i => .osl i.size []
    | some _ => match (P.info? t).bind (·.zero) with
      | some z => if plainV z then some (.v z) else none
      | none => none
    | none => none

def eqPlain : Value → Value → Bool
  | .bool a, .bool b => a == b
  | .int k a, .int l b => k == l && a == b
  | .float k a, .float l b => k == l && a == b
  | .string a, .string b => a.data.toList == b.data.toList
  | .pointer none, .pointer none => true
  | .map none, .map none => true
  | .nilFunc, .nilFunc => true
  | .nilIface, .nilIface => true
  | .slice none 0 0, .slice none 0 0 => true
  | _, _ => false
def eqPlains : List Value → List Value → Bool
  | [], [] => true
  | x :: xs, y :: ys => eqPlain x y && eqPlains xs ys
  | _, _ => false

mutual
/-- The cells of a zero tree. -/
def zFlat : A → Option (List Value)
  | .v x => if plainV x then some [x] else none
  | .agg xs => zFlats xs
  | .arr tot xs => (zFlats xs).bind fun vs => if vs.length = tot ∧ xs.all (fun x => x.sz == (xs.head?.map A.sz).getD 0) then some vs else none
  | .osl s [] => if 0 < s then some [.slice none 0 0] else none
  | _ => none
def zFlats : List A → Option (List Value)
  | [] => some []
  | x :: xs => match zFlat x, zFlats xs with
    | some a, some b => some (a ++ b)
    | _, _ => none
end

def tZero (P : Program) (t : TypeId) : Option A :=
  match zTree P 12 t, (P.info? t).bind (·.zero) with
  | some z, some v => match zFlat z with
    | some cs => if eqPlains cs v.cells.toList then some z else none
    | none => none
  | _, _ => none

/-! Trees and paths. -/
def szAt (xs : List A) (i s : Nat) : Prop := ∃ x, xs[i]? = some x ∧ x.sz = s

def getP : A → List PS → RM A
  | a, [] => .ret a
  | .agg xs, .fld k off :: p => match xs[k]? with
    | some x => if szs (xs.take k) = off then getP x p else .fail
    | none => .fail
  | .arr _ xs, .idx i s :: p => .req (szAt xs i s) (getP (xs.getD i .und) p)
  | _, _ => .fail

def setP : A → List PS → A → RM A
  | a, [], b => if a.sz = b.sz then .ret b else .fail
  | .agg xs, .fld k off :: p, b => match xs[k]? with
    | some x => if szs (xs.take k) = off then (setP x p b).bind fun y => .ret (.agg (xs.set k y)) else .fail
    | none => .fail
  | .arr t xs, .idx i s :: p, b => if b.closed && b.nobor then .req (szAt xs i s) ((setP (xs.getD i .und) p b).bind fun y => .ret (.arr t (xs.set i y))) else .fail
  | _, _, _ => .fail

/-- A row's element, and on. -/
def getR (xs : List A) (s : Nat) : List PS → RM A
  | .idx i s' :: p => if s' = s then .req (i < xs.length) (getP (xs.getD i .und) p) else .fail
  | _ => .fail
def setR (xs : List A) (s : Nat) (b : A) : List PS → RM (List A)
  | .idx i s' :: p => if s' = s then .req (i < xs.length) ((setP (xs.getD i .und) p b).bind fun y => .ret (xs.set i y)) else .fail
  | _ => .fail

mutual
/-- Whether a tree owns nothing. -/
def A.noown : A → Bool
  | .v _ | .sl .. | .rp .. | .ref .. | .aref .. | .ptr .. => true
  | .agg xs => noowns xs
  | .arr _ xs => noowns xs
  | .clo _ f c => noowns f && noowns c
  | .ifc _ a => a.noown
  | _ => false
def noowns : List A → Bool
  | [] => true
  | x :: xs => x.noown && noowns xs
end

/-! What a variable of a plain type holds. -/
def A.isInt (k : IntKind) (a : A) : Prop := ∃ n, a = .v (.int k n)
def A.asInt : A → Int
  | .v (.int _ n) => n
  | _ => 0
def A.isBool (a : A) : Prop := ∃ b, a = .v (.bool b)
def A.asBool : A → Bool
  | .v (.bool b) => b
  | _ => false
def A.isStr (a : A) : Prop := ∃ s, a = .v (.string s)
def A.asStr : A → ByteArray
  | .v (.string s) => s
  | _ => .empty

inductive TK where
  | int (k : IntKind)
  | bool
  | str
  | other
def tKind (P : Program) (t : TypeId) : TK :=
  match P.underlying t with
  | some (.int k) => .int k
  | some .bool => .bool
  | some .string => .str
  | _ => .other

/-- A tree of a known type, in the type's own form. -/
def shaped (k : TK) (a : A) : RM A :=
  match k with
  | .int k => .req (a.isInt k) (.ret (.v (.int k a.asInt)))
  | .bool => .req a.isBool (.ret (.v (.bool a.asBool)))
  | .str => .req a.isStr (.ret (.v (.string a.asStr)))
  | .other => .ret a

/-! What is at rest becomes blocks. -/
mutual
/-- The own parts of a tree become blocks with the names k, k + 1, .. -/
def unf : Nat → A → Option (A × List (Nat × Blk) × Nat)
  | k, .osl s xs => some (.ref k s 0 xs.length false, [(k, .row s xs)], k + 1)
  | k, .box a => some (.ptr k [], [(k, .var a)], k + 1)
  | k, .agg xs => (unfs k xs).map fun (ys, bs, k') => (.agg ys, bs, k')
  | k, .clo f a c => match unfs k a with
    | some (a', bs, k1) => match unfs k1 c with
      | some (c', bs', k2) => some (.clo f a' c', bs ++ bs', k2)
      | none => none
    | none => none
  | k, .ifc t a => (unf k a).map fun (y, bs, k') => (.ifc t y, bs, k')
  | k, .arr t xs => if noowns xs then some (.arr t xs, [], k) else none
  | k, a => if a.noown then some (a, [], k) else none
def unfs : Nat → List A → Option (List A × List (Nat × Blk) × Nat)
  | k, [] => some ([], [], k)
  | k, x :: xs => match unf k x with
    | some (y, bs, k1) => match unfs k1 xs with
      | some (ys, bs', k2) => some (y :: ys, bs ++ bs', k2)
      | none => none
    | none => none
end

/-! Blocks go to rest: 'rm' are those that are gone already. 'bor': may what is borrowed be in it? -/
def takesW (f : A → List Nat → RM (A × List Nat)) : List A → List Nat → RM (List A × List Nat)
  | [], rm => .ret ([], rm)
  | x :: xs, rm => (f x rm).bind fun q => (takesW f xs q.2).bind fun q' => .ret (q.1 :: q'.1, q'.2)

def takeA (bor : Bool) : Nat → A → List Nat → RM (A × List Nat)
  | 0, _, _ => .fail
  | n + 1, a, rm => match a with
    | .v x => .ret (.v x, rm)
    | .sl p xs => if p || bor then .ret (.sl p xs, rm) else .fail
    | .rp p a => if p || bor then .ret (.rp p a, rm) else .fail
    | .arr t xs => .ret (.arr t xs, rm)
    | .ref d s off len full => if rm.contains d then .fail else .rd d fun b => match b with
      | .row s' xs => if s = s' ∧ off = 0 ∧ full = false then .req (len ≤ xs.length) (.ret (.osl s (xs.take len), d :: rm)) else .fail
      | .froz s' xs => if s = s' then .req (off + len ≤ xs.length) (.ret (.sl true ((xs.drop off).take len), rm)) else .fail
      | .var _ => .fail
    | .ptr d [] => if rm.contains d then .fail else .rd d fun b => match b with
      | .var a => (takeA bor n a (d :: rm)).bind fun q => .ret (.box q.1, q.2)
      | _ => .fail
    | .agg xs => (takesW (takeA bor n) xs rm).bind fun q => .ret (.agg q.1, q.2)
    | .clo f a c => (takesW (takeA bor n) a rm).bind fun q => (takesW (takeA bor n) c q.2).bind fun q' => .ret (.clo f q.1 q'.1, q'.2)
    | .ifc t a => (takeA bor n a rm).bind fun q => .ret (.ifc t q.1, q.2)
    | .osl s xs => .ret (.osl s xs, rm)
    | .box a => if a.nobor || bor then .ret (.box a, rm) else .fail
    | _ => .fail

/-! A read-only view, for the time of a call; 'rm' are the blocks that are gone. -/
def rosW (f : A → RM A) : List A → RM (List A)
  | [] => .ret []
  | x :: xs => (f x).bind fun y => (rosW f xs).bind fun ys => .ret (y :: ys)

def roA (rm : List Nat) : Nat → A → RM A
  | 0, _ => .fail
  | n + 1, a => match a with
    | .v x => .ret (.v x)
    | .sl p xs => .ret (.sl p xs)
    | .rp p a => .ret (.rp p a)
    | .arr t xs => if noowns xs then .ret (.arr t xs) else .fail
    | .ref d s off len _ => if rm.contains d then .fail else .rd d fun b => match b with
      | .row s' xs => if s = s' then .req (off + len ≤ xs.length ∧ noowns xs = true) (.ret (.sl false ((xs.drop off).take len))) else .fail
      | .froz s' xs => if s = s' then .req (off + len ≤ xs.length) (.ret (.sl true ((xs.drop off).take len))) else .fail
      | .var _ => .fail
    | .aref d p s off len => if rm.contains d then .fail else .rd d fun b => match b with
      | .var a => (getP a p).bind fun y => match y with
        | .arr _ xs => .req (off + len ≤ xs.length ∧ noowns xs = true ∧ ∀ x ∈ xs, x.sz = s) (.ret (.sl false ((xs.drop off).take len)))
        | _ => .fail
      | _ => .fail
    | .ptr d p => if rm.contains d then .fail else .rd d fun b => match b with
      | .var a => (getP a p).bind fun x => if x.noown && x.closed then .ret (.rp false x) else .fail
      | .row s xs => (getR xs s p).bind fun x => if x.noown then .ret (.rp false x) else .fail
      | .froz s xs => (getR xs s p).bind fun x => .ret (.rp true x)
    | .agg xs => (rosW (roA rm n) xs).bind fun ys => .ret (.agg ys)
    | .clo f a c => (rosW (roA rm n) a).bind fun a' => (rosW (roA rm n) c).bind fun c' => .ret (.clo f a' c')
    | .ifc t a => (roA rm n a).bind fun a' => .ret (.ifc t a')
    | _ => .fail

end Go.PA
