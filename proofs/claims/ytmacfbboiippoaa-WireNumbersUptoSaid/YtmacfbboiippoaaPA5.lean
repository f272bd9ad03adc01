/- PA5: the operations. -/
import Derived.Test.YtmacfbboiippoaaPA4
namespace Go.PA

def A.good : A → Bool
  | .und | .tup _ | .mp .. | .mref _ => false
  | _ => true

def effV (a : A) : RM Eff := .ret ⟨a, [], []⟩
def effN (a : A) (d : Nat) (b : Blk) : RM Eff := .ret ⟨a, [(d, some b)], [d]⟩

/-- bits -/
def iand (k : IntKind) (x y : Int) : Int := k.wrap (BitVec.ofInt k.bits x &&& BitVec.ofInt k.bits y).toNat
def ior (k : IntKind) (x y : Int) : Int := k.wrap (BitVec.ofInt k.bits x ||| BitVec.ofInt k.bits y).toNat
def ixor (k : IntKind) (x y : Int) : Int := k.wrap (BitVec.ofInt k.bits x ^^^ BitVec.ofInt k.bits y).toNat
def iandNot (k : IntKind) (x y : Int) : Int := k.wrap (BitVec.ofInt k.bits x &&& ~~~ BitVec.ofInt k.bits y).toNat
def ishl (k : IntKind) (x y : Int) : Int := k.wrap (x * 2 ^ min y.toNat k.bits)
def ishr (k : IntKind) (x y : Int) : Int := x.fdiv (2 ^ min y.toNat k.bits)

def intBin (op : BinOp) (k : IntKind) (x y : Int) : RM Eff :=
  match op with
  | .add => effV (.v (.int k (k.wrap (x + y))))
  | .sub => effV (.v (.int k (k.wrap (x - y))))
  | .mul => effV (.v (.int k (k.wrap (x * y))))
  | .quo => .req (y ≠ 0) (effV (.v (.int k (k.wrap (x.tdiv y)))))
  | .rem => .req (y ≠ 0) (effV (.v (.int k (x.tmod y))))
  | .and => effV (.v (.int k (iand k x y)))
  | .or => effV (.v (.int k (ior k x y)))
  | .xor => effV (.v (.int k (ixor k x y)))
  | .andNot => effV (.v (.int k (iandNot k x y)))
  | .eql => effV (.v (.bool (x == y)))
  | .neq => effV (.v (.bool (x != y)))
  | .lss => effV (.v (.bool (x < y)))
  | .leq => effV (.v (.bool (x ≤ y)))
  | .gtr => effV (.v (.bool (x > y)))
  | .geq => effV (.v (.bool (x ≥ y)))
  | .shl | .shr => .fail

def strBin (op : BinOp) (x y : ByteArray) : RM Eff :=
  match op with
  | .add => .req (x.size + y.size ≤ 9223372036854775807) (effV (.v (.string (x ++ y))))
  | .eql => effV (.v (.bool (x.toList == y.toList)))
  | .neq => effV (.v (.bool !(x.toList == y.toList)))
  | _ => .fail

def aBin (P : Program) (op : BinOp) (t : TypeId) (a b : A) : RM Eff :=
  match a, b with
  | .v (.int k x), .v (.int k' y) =>
    match op with
    | .shl => .req (0 ≤ y) (effV (.v (.int k (ishl k x y))))
    | .shr => .req (0 ≤ y) (effV (.v (.int k (ishr k x y))))
    | op => if k = k' then intBin op k x y else .fail
  | .v (.string x), .v (.string y) => strBin op x y
  | .v (.bool x), .v (.bool y) => match P.underlying t, op with
    | some .bool, .eql => effV (.v (.bool (x == y)))
    | some .bool, .neq => effV (.v (.bool !(x == y)))
    | _, _ => .fail
  | _, _ => .fail

def aUn (op : UnOp) (a : A) : RM Eff :=
  match op, a with
  | .not, .v (.bool x) => effV (.v (.bool !x))
  | .neg, .v (.int k x) => effV (.v (.int k (k.wrap (0 - x))))
  | .xor, .v (.int k x) => effV (.v (.int k (ixor k (if k.signed then -1 else k.max) x)))
  | _, _ => .fail

def aConv (P : Program) (s d : TypeId) (a : A) : RM Eff :=
  match tInt P s, tInt P d, a with
  | some _, some k, .v (.int _ n) => effV (.v (.int k (k.wrap n)))
  | _, _, _ => .fail

def aLoad (P : Program) (t : TypeId) (p : A) : RM Eff :=
  match p with
  | .ptr d ps => .rd d fun b => match b with
    | .var a => (getP a ps).bind fun x => if tSize P t = some x.sz ∧ tAgg P t = some x.isAgg then (shaped (tKind P t) x).bind fun x =>
        if x.noown then effV x else .fail
      else .fail
    | .row s xs => (getR xs s ps).bind fun x => (shaped (tKind P t) x).bind fun x => if tSize P t = some x.sz ∧ tAgg P t = some x.isAgg ∧ x.noown then effV x else .fail
    | .froz s xs => (getR xs s ps).bind fun x => (shaped (tKind P t) x).bind fun x => if tSize P t = some x.sz ∧ tAgg P t = some x.isAgg ∧ x.noown then effV x else .fail
  | .rp _ a => (shaped (tKind P t) a).bind fun a => if tSize P t = some a.sz ∧ tAgg P t = some a.isAgg ∧ a.noown then effV a else .fail
  | _ => .fail

def aStore (P : Program) (t : TypeId) (p a : A) : RM Eff :=
  if tSize P t = some a.sz ∧ a.good then
    match p with
    | .ptr d ps => .rd d fun b => match b with
      | .var c => (setP c ps a).bind fun c' => .ret ⟨.und, [(d, some (.var c'))], []⟩
      | .row s xs => if a.closed && a.nobor then (setR xs s a ps).bind fun xs' => .ret ⟨.und, [(d, some (.row s xs'))], []⟩ else .fail
      | .froz .. => .fail
    | _ => .fail
  else .fail

def aFieldAddr (P : Program) (t : TypeId) (p : A) (k : Nat) : RM Eff :=
  match tFld P t k with
  | some (off, _, fs) =>
    if fs = 0 then .fail else
    match p with
    | .ptr d ps => effV (.ptr d (ps ++ [.fld k off]))
    | .rp q (.agg xs) => match xs[k]? with
      | some x => if szs (xs.take k) = off then effV (.rp q x) else .fail
      | none => .fail
    | _ => .fail
  | none => .fail

def aField (P : Program) (t : TypeId) (a : A) (k : Nat) : RM Eff :=
  match tFld P t k, a with
  | some (off, ft, fs), .agg xs => match xs[k]? with
    | some x => if szs (xs.take k) = off ∧ x.sz = fs then (shaped (tKind P ft) x).bind fun x => if tAgg P ft = some x.isAgg then effV x else .fail else .fail
    | none => .fail
  | _, _ => .fail

def aIndexAddr (P : Program) (t : TypeId) (x : A) (n : Int) : RM Eff :=
  match tSlice P t, x with
  | some (_, es), .ref d s off len _ => if s = es then .req (0 ≤ n ∧ n < len) (effV (.ptr d [.idx (off + n.toNat) s])) else .fail
  | some (_, es), .aref d p s off len => if s = es then .req (0 ≤ n ∧ n < len) (effV (.ptr d (p ++ [.idx (off + n.toNat) s]))) else .fail
  | some (_, es), .sl q xs => .req (0 ≤ n ∧ n < xs.length ∧ szAt xs n.toNat es) (effV (.rp q (xs.getD n.toNat .und)))
  | none, x => match tArr P t, x with
    | some (len, _, es), .ptr d p => .req (0 ≤ n ∧ n < len) (effV (.ptr d (p ++ [.idx n.toNat es])))
    | some (len, _, es), .rp q (.arr _ xs) => .req (0 ≤ n ∧ n < len ∧ szAt xs n.toNat es) (effV (.rp q (xs.getD n.toNat .und)))
    | _, _ => .fail
  | _, _ => .fail

def aIndex (P : Program) (t : TypeId) (x : A) (n : Int) : RM Eff :=
  match x with
  | .arr _ xs => match tArr P t with
    | some (len, e, es) => .req (0 ≤ n ∧ n < len ∧ szAt xs n.toNat es) ((shaped (tKind P e) (xs.getD n.toNat .und)).bind fun x => if tAgg P e = some x.isAgg then effV x else .fail)
    | none => .fail
  | .v (.string s) => match P.underlying t with
    | some .string => .req (0 ≤ n ∧ n < s.size) (effV (.v (.int .u8 (s.data.toList.getD n.toNat 0).toNat)))
    | _ => .fail
  | _ => .fail

def aLen (P : Program) (t : TypeId) (x : A) : RM Eff :=
  match P.underlying t, x with
  | some .string, .v (.string s) => effV (.v (.int .i64 s.size))
  | some (.array n _), _ => effV (.v (.int .i64 n))
  | some (.slice _), .sl _ xs => effV (.v (.int .i64 xs.length))
  | some (.slice _), .osl _ xs => effV (.v (.int .i64 xs.length))
  | some (.slice _), .ref _ _ _ len _ => effV (.v (.int .i64 len))
  | some (.slice _), .aref _ _ _ _ len => effV (.v (.int .i64 len))
  | _, _ => .fail

/-- Elements that a row may hold. -/
def rowable (s : Nat) (x : A) : Bool := x.sz == s && x.closed && x.nobor && x.good

/-- What an append puts behind: the elements, as they are copied. -/
def appSrc (x : A) : RM (List A) :=
  match x with
  | .sl p xs => if p then .ret xs else .req (nobors xs = true) (.ret xs)
  | .ref d s off len _ => .rd d fun b => match b with
    | .row s' xs => if s = s' then .req (off + len ≤ xs.length ∧ noowns xs = true) (.ret ((xs.drop off).take len)) else .fail
    | .froz s' xs => if s = s' then .req (off + len ≤ xs.length) (.ret ((xs.drop off).take len)) else .fail
    | _ => .fail
  | .aref d p s off len => .rd d fun b => match b with
    | .var a => (getP a p).bind fun y => match y with
      | .arr _ xs => .req (off + len ≤ xs.length ∧ noowns xs = true ∧ ∀ x ∈ xs, x.sz = s) (.ret ((xs.drop off).take len))
      | _ => .fail
    | _ => .fail
  | _ => .fail

def roomy (n m b : Nat) : Prop := n + m ≤ 9223372036854775807 ∧ (n + m) * b ≤ 140737488355328

def aAppend (P : Program) (nid : Nat) (nilC : Bool) (t : TypeId) (a x : A) : RM Eff :=
  match tSlice P t with
  | some (e, s) => if 0 < s then
      match tBytes P e, tZero P e with
      | some eb, some z => if z.sz = s then
        if nilC then (appSrc x).bind fun ys => .req ((∀ y ∈ ys, y.sz = s) ∧ roomy 0 ys.length eb) (effN (.ref nid s 0 ys.length false) nid (.row s ys))
        else match a with
        | .ref d s' off len full => if s' = s ∧ off = 0 ∧ full = false then .rd d fun b => match b with
            | .row s2 xs => if s2 = s then (appSrc x).bind fun ys =>
                .req (len = xs.length ∧ (∀ y ∈ ys, y.sz = s) ∧ roomy len ys.length eb)
                  (.ret ⟨.ref nid s 0 (len + ys.length) false, [(d, none), (nid, some (.row s (xs ++ ys)))], [nid]⟩) else .fail
            | _ => .fail
          else .fail
        | _ => .fail
        else .fail
      | _, _ => .fail
    else .fail
  | none => .fail

def tConcrete (P : Program) (t : TypeId) : Bool :=
  match P.underlying t with
  | some (.interface _) => false
  | some _ => true
  | none => false

def sBound (x : Option A) : Option (Option Int) :=
  match x with
  | none => some none
  | some (.v (.int _ n)) => some (some n)
  | _ => none

/-- x[lo:hi]; without a third index -/
def aSlice (P : Program) (t : TypeId) (x : A) (lo hi : Option Int) : RM Eff :=
  match x with
  | .ref d s off len full => match tSlice P t with
    | some (_, es) => if es = s ∧ (full && hi.isSome) = false then
        let l := lo.getD 0
        let h := hi.getD len
        .req (0 ≤ l ∧ l ≤ h ∧ h ≤ len) (effV (.ref d s (off + l.toNat) (h.toNat - l.toNat) full)) else .fail
    | none => .fail
  | .sl p xs => match tSlice P t with
    | some (_, es) =>
        let l := lo.getD 0
        let h := hi.getD xs.length
        .req (0 ≤ l ∧ l ≤ h ∧ h ≤ xs.length ∧ (∀ x ∈ xs, x.sz = es)) (effV (.sl p ((xs.drop l.toNat).take (h.toNat - l.toNat))))
    | none => .fail
  | .v (.string s) => match P.underlying t with
    | some .string =>
        let l := lo.getD 0
        let h := hi.getD s.size
        .req (0 ≤ l ∧ l ≤ h ∧ h ≤ s.size) (effV (.v (.string (s.extract l.toNat h.toNat))))
    | _ => .fail
  | _ => .fail

/-- fields by parts -/
def putParts (pl : Nat → Option (Nat × Nat)) : List A → List (Nat × A) → Option (List A)
  | zs, [] => some zs
  | zs, (i, x) :: ps => match zs[i]?, pl i with
    | some z, some (off, s) => if z.sz = x.sz ∧ s = x.sz ∧ off = szs (zs.take i) ∧ x.good then putParts pl (zs.set i x) ps else none
    | _, _ => none

def tPlaces (P : Program) (t : TypeId) : Option (List (Nat × Nat)) :=
  match P.underlying t with
  | some (.struct fs) => fs.toList.mapM fun f => (P.info? f.type).map fun i => (f.offset, i.size)
  | _ => none

def aBuild (P : Program) (t : TypeId) (parts : List (Nat × A)) : RM Eff :=
  match tZero P t with
  | some (.agg zs) => match tPlaces P t with
    | some pl => match putParts (fun i => pl[i]?) zs parts with
      | some xs => effV (.agg xs)
      | none => .fail
    | none => .fail
  | some (.arr n zs) => match tArr P t with
    | some (_, _, s) => match putParts (fun i => some (i * s, s)) zs parts with
      | some xs => if parts.all (fun q => q.2.closed && q.2.nobor) then effV (.arr n xs) else .fail
      | none => .fail
    | none => .fail
  | _ => .fail

def aBuildSlice (P : Program) (nid : Nat) (t : TypeId) (len : Nat) (parts : List (Nat × A)) : RM Eff :=
  match tSlice P t with
  | some (e, s) => match tZero P e with
    | some z => if z.sz = s ∧ 0 < s ∧ len * s ≤ 4096 then
        match putParts (fun i => some (i * s, s)) (List.replicate len z) parts with
        | some xs => if parts.all (fun q => q.2.closed && q.2.nobor) then effN (.ref nid s 0 xs.length false) nid (.row s xs) else .fail
        | none => .fail
      else .fail
    | none => .fail
  | none => .fail

def aMake (P : Program) (nid : Nat) (t : TypeId) (l c : Int) : RM Eff :=
  match tSlice P t with
  | some (e, s) => match tZero P e, tBytes P e with
    | some z, some eb => if z.sz = s ∧ 0 < s then
        .req (0 ≤ l ∧ l ≤ c ∧ c ≤ 9223372036854775807 ∧ eb * c ≤ 281474976710656) (effN (.ref nid s 0 (List.replicate l.toNat z).length false) nid (.row s (List.replicate l.toNat z)))
      else .fail
    | _, _ => .fail
  | none => .fail

def aBuiltin (P : Program) (nid : Nat) (c : Call) (b : Builtin) (xs : List A) : RM Eff :=
  match b, xs with
  | .len, [x] => match c.argTypes[0]? with
    | some t => aLen P t x
    | none => .fail
  | .append, [a, x] => match c.argTypes.toList with
    | [t, t'] => if t = t' then
        aAppend P nid (match c.args.toList with | .const (.slice none 0 0) :: _ => true | _ => false) t a x
      else .fail
    | _ => .fail
  | _, _ => .fail

def partsOf (ps : List (Nat × Operand)) (xs : List A) : List (Nat × A) := (ps.map (·.1)).zip xs

def aeff (P : Program) (nid : Nat) (o : Oper) (xs : List A) : RM Eff :=
  match o.op with
  | .move _ => match xs with | [a] => effV a | _ => .fail
  | .assign x =>
    match x with
    | .const (.slice none 0 0) => match tSlice P o.type with
      | some (_, s) => if 0 < s then effN (.ref nid s 0 0 false) nid (.row s []) else .fail
      | none => .fail
    | _ => match xs with | [a] => effV a | _ => .fail
  | .pick .. => match xs with
    | [.v (.bool t), a, b] => match a, b with
      | .v (.bool x), .v (.bool y) => effV (.v (.bool (cond t x y)))
      | a, b => effV (cond t a b)
    | _ => .fail
  | .alloc t => match tZero P t with
    | some z => effN (.ptr nid []) nid (.var z)
    | none => .fail
  | .box _ _ => match xs with
    | [a] => if a.good then effN (.ptr nid []) nid (.var a) else .fail
    | _ => .fail
  | .build t ps => aBuild P t (partsOf ps.toList xs)
  | .buildSlice t n ps => aBuildSlice P nid t n (partsOf ps.toList xs)
  | .load t _ => match xs with | [p] => aLoad P t p | _ => .fail
  | .store t _ _ => match xs with | [p, a] => aStore P t p a | _ => .fail
  | .nilCheck _ => match xs with
    | [.ptr d p] => effV (.ptr d p)
    | [.rp q a] => effV (.rp q a)
    | [.clo (.func f) a c] => effV (.clo (.func f) a c)
    | _ => .fail
  | .binOp op t _ _ _ => match xs with | [a, b] => aBin P op t a b | _ => .fail
  | .unOp op _ _ => match xs with | [a] => aUn op a | _ => .fail
  | .convert s d _ => match xs with | [a] => aConv P s d a | _ => .fail
  | .makeFunc fn first _ => if xs.all A.good then effV (.clo fn (xs.take first.size) (xs.drop first.size)) else .fail
  | .makeSlice t _ _ => match xs with | [.v (.int _ l), .v (.int _ c)] => aMake P nid t l c | _ => .fail
  | .slice t _ lo hi mx => match mx, lo, hi, xs with
    | none, none, none, [x] => aSlice P t x none none
    | none, some _, none, [x, .v (.int _ l)] => aSlice P t x (some l) none
    | none, none, some _, [x, .v (.int _ h)] => aSlice P t x none (some h)
    | none, some _, some _, [x, .v (.int _ l), .v (.int _ h)] => aSlice P t x (some l) (some h)
    | _, _, _, _ => .fail
  | .fieldAddr t _ k => match xs with | [p] => aFieldAddr P t p k | _ => .fail
  | .field t _ k => match xs with | [a] => aField P t a k | _ => .fail
  | .indexAddr t _ _ => match xs with | [x, .v (.int _ n)] => aIndexAddr P t x n | _ => .fail
  | .index t _ _ => match xs with | [x, .v (.int _ n)] => aIndex P t x n | _ => .fail
  | .extract _ i => match xs with | [.tup ys] => (match ys[i]? with | some y => effV y | none => .fail) | _ => .fail
  | .makeInterface t _ => match xs with | [a] => if a.good && tConcrete P t then effV (.ifc t a) else .fail | _ => .fail
  | .call c => match c.callee with
    | .builtin b => aBuiltin P nid c b xs
    | _ => .fail
  | _ => .fail

/-! Operands. -/
def constCell : Value → Option A
  | .slice none 0 0 => some (.sl true [])
  | c => if plainV c then some (.v c) else none
def constA : Value → Option A
  | .agg cs => (cs.toList.mapM constCell).map A.agg
  | c => constCell c
def aval (sl : Nat → Option A) : Operand → Option A
  | .tmp t => sl t
  | .const c => constA c
  | .func f => some (.clo (.func f) [] [])
  | .global _ => none

end Go.PA
