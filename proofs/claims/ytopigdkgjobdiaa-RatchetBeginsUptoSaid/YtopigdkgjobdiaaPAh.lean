/- More operations in place. -/
import Derived.Test.YtopigdkgjobdiaaPAg
set_option linter.unusedSimpArgs false
set_option linter.unusedVariables false
/- PA114: what is lent or given, by cases. -/
namespace Go.PA

section
variable {n : Nat} {rm : List Nat}
theorem roA_v {x : Value} : roA rm (n + 1) (.v x) = .ret (.v x) := rfl
theorem roA_sl {p : Bool} {xs : List A} : roA rm (n + 1) (.sl p xs) = .ret (.sl p xs) := rfl
theorem roA_rp {p : Bool} {a : A} : roA rm (n + 1) (.rp p a) = .ret (.rp p a) := rfl
theorem roA_arr {t : Nat} {xs : List A} : roA rm (n + 1) (.arr t xs) = if noowns xs then .ret (.arr t xs) else .fail := rfl
def roDeep (rm : List Nat) (n s off len : Nat) (xs : List A) : RM A := (rosW (roA rm n) xs).bind fun ys => .req (off + len ≤ xs.length ∧ noowns xs = true ∧ closeds ys = true ∧ ∀ y ∈ ys, y.sz = s) (.ret (.sl false ((ys.drop off).take len)))
def roRow (rm : List Nat) (n s off len : Nat) (xs : List A) : Bool → RM A
  | true => if lndOks xs = true then .req (off + len ≤ xs.length) (.ret (.sl false (((lnds xs).drop off).take len))) else .fail
  | false => roDeep rm n s off len xs
def roRef (rm : List Nat) (n s off len : Nat) : Blk → RM A
  | .row s' xs => if s = s' then roRow rm n s off len xs (closeds xs) else .fail
  | .froz s' xs => if s = s' then .req (off + len ≤ xs.length) (.ret (.sl true ((xs.drop off).take len))) else .fail
  | _ => .fail
theorem roRef_row {s off len s' : Nat} {xs : List A} : roRef rm n s off len (.row s' xs) = if s = s' then roRow rm n s off len xs (closeds xs) else .fail := rfl
theorem roRef_froz {s off len s' : Nat} {xs : List A} : roRef rm n s off len (.froz s' xs) = if s = s' then .req (off + len ≤ xs.length) (.ret (.sl true ((xs.drop off).take len))) else .fail := rfl
theorem roRow_true {s off len : Nat} {xs : List A} : roRow rm n s off len xs true = if lndOks xs = true then .req (off + len ≤ xs.length) (.ret (.sl false (((lnds xs).drop off).take len))) else .fail := rfl
theorem roRow_false {s off len : Nat} {xs : List A} : roRow rm n s off len xs false = (rosW (roA rm n) xs).bind fun ys => .req (off + len ≤ xs.length ∧ noowns xs = true ∧ closeds ys = true ∧ ∀ y ∈ ys, y.sz = s) (.ret (.sl false ((ys.drop off).take len))) := rfl
theorem roA_ref {d s off len : Nat} {full : Bool} : roA rm (n + 1) (.ref d s off len full) = if rm.contains d then .fail else .rd d (roRef rm n s off len) := by
  simp only [roA]
  congr 2
  funext b
  cases b <;> try rfl
  simp only [roRef]
  split
  · rename_i s' xs h
    cases hc : closeds xs <;> simp [roRow, roDeep]
  · rfl
def roArr (s off len : Nat) : A → RM A
  | .arr _ xs => .req (off + len ≤ xs.length ∧ noowns xs = true ∧ ∀ x ∈ xs, x.sz = s) (.ret (.sl false ((xs.drop off).take len)))
  | _ => .fail
def roAref (p : List PS) (s off len : Nat) : Blk → RM A
  | .var a => (getP a p).bind (roArr s off len)
  | _ => .fail
theorem roArr_arr {s off len t : Nat} {xs : List A} : roArr s off len (.arr t xs) = .req (off + len ≤ xs.length ∧ noowns xs = true ∧ ∀ x ∈ xs, x.sz = s) (.ret (.sl false ((xs.drop off).take len))) := rfl
theorem roAref_var {p : List PS} {s off len : Nat} {a : A} : roAref p s off len (.var a) = (getP a p).bind (roArr s off len) := rfl
theorem roA_aref {d : Nat} {p : List PS} {s off len : Nat} : roA rm (n + 1) (.aref d p s off len) = if rm.contains d then .fail else .rd d (roAref p s off len) := by
  simp only [roA]
  congr 2
def roPtr (p : List PS) : Blk → RM A
  | .var a => (getP a p).bind fun x => if x.noown && x.closed then .ret (.rp false x) else .fail
  | .row s xs => (getR xs s p).bind fun x => if x.noown && x.closed then .ret (.rp false x) else .fail
  | .froz s xs => (getR xs s p).bind fun x => .ret (.rp true x)
  | _ => .fail
theorem roPtr_var {p : List PS} {a : A} : roPtr p (.var a) = (getP a p).bind fun x => if x.noown && x.closed then .ret (.rp false x) else .fail := rfl
theorem roPtr_row {p : List PS} {s : Nat} {xs : List A} : roPtr p (.row s xs) = (getR xs s p).bind fun x => if x.noown && x.closed then .ret (.rp false x) else .fail := rfl
theorem roPtr_froz {p : List PS} {s : Nat} {xs : List A} : roPtr p (.froz s xs) = (getR xs s p).bind fun x => .ret (.rp true x) := rfl
theorem roA_ptr {d : Nat} {p : List PS} : roA rm (n + 1) (.ptr d p) = if rm.contains d then .fail else .rd d (roPtr p) := by
  simp only [roA]
  congr 2
theorem roA_agg {xs : List A} : roA rm (n + 1) (.agg xs) = (rosW (roA rm n) xs).bind fun ys => .ret (.agg ys) := rfl
theorem roA_clo {f : Fn} {a c : List A} : roA rm (n + 1) (.clo f a c) = (rosW (roA rm n) a).bind fun a' => (rosW (roA rm n) c).bind fun c' => .ret (.clo f a' c') := rfl
theorem roA_ifc {t : TypeId} {a : A} : roA rm (n + 1) (.ifc t a) = (roA rm n a).bind fun a' => .ret (.ifc t a') := rfl
section
variable {bor : Bool}
theorem tkA_v {x : Value} : takeA bor (n + 1) (.v x) rm = .ret (.v x, rm) := rfl
theorem tkA_sl {p : Bool} {xs : List A} : takeA bor (n + 1) (.sl p xs) rm = if p || bor then .ret (.sl p xs, rm) else .fail := rfl
theorem tkA_rp {p : Bool} {a : A} : takeA bor (n + 1) (.rp p a) rm = if p || bor then .ret (.rp p a, rm) else .fail := rfl
theorem tkA_arr {t : Nat} {xs : List A} : takeA bor (n + 1) (.arr t xs) rm = .ret (.arr t xs, rm) := rfl
def tkRef (s off len d : Nat) (full : Bool) (rm : List Nat) : Blk → RM (A × List Nat)
  | .row s' xs => if s = s' ∧ off = 0 ∧ full = false ∧ closeds xs = true ∧ nobors xs = true then .req (len ≤ xs.length) (.ret (.osl s (xs.take len), d :: rm)) else .fail
  | .froz s' xs => if s = s' then .req (off + len ≤ xs.length) (.ret (.sl true ((xs.drop off).take len), rm)) else .fail
  | _ => .fail
theorem tkRef_row {s off len d s' : Nat} {full : Bool} {xs : List A} : tkRef s off len d full rm (.row s' xs) = if s = s' ∧ off = 0 ∧ full = false ∧ closeds xs = true ∧ nobors xs = true then .req (len ≤ xs.length) (.ret (.osl s (xs.take len), d :: rm)) else .fail := rfl
theorem tkRef_froz {s off len d s' : Nat} {full : Bool} {xs : List A} : tkRef s off len d full rm (.froz s' xs) = if s = s' then .req (off + len ≤ xs.length) (.ret (.sl true ((xs.drop off).take len), rm)) else .fail := rfl
theorem tkA_ref {d s off len : Nat} {full : Bool} : takeA bor (n + 1) (.ref d s off len full) rm = if rm.contains d then .fail else .rd d (tkRef s off len d full rm) := by
  simp only [takeA]
  congr 1
def tkMp (d : Nat) (rm : List Nat) : Blk → RM (A × List Nat)
  | .mp ks vs => if closeds vs = true ∧ nobors vs = true then .ret (.mp ks vs, d :: rm) else .fail
  | _ => .fail
theorem tkMp_mp {d : Nat} {ks vs : List A} : tkMp d rm (.mp ks vs) = if closeds vs = true ∧ nobors vs = true then .ret (.mp ks vs, d :: rm) else .fail := rfl
theorem tkA_mref {d : Nat} : takeA bor (n + 1) (.mref d) rm = if rm.contains d then .fail else .rd d (tkMp d rm) := by
  simp only [takeA]
  congr 1
theorem tkA_mp {ks vs : List A} : takeA bor (n + 1) (.mp ks vs) rm = .ret (.mp ks vs, rm) := rfl
def tkV (bor : Bool) (n d : Nat) (rm : List Nat) : Blk → RM (A × List Nat)
  | .var a => (takeA bor n a (d :: rm)).bind fun q => .ret (.box q.1, q.2)
  | _ => .fail
theorem tkV_var {d : Nat} {a : A} : tkV bor n d rm (.var a) = (takeA bor n a (d :: rm)).bind fun q => .ret (.box q.1, q.2) := rfl
theorem tkA_ptr {d : Nat} : takeA bor (n + 1) (.ptr d []) rm = if rm.contains d then .fail else .rd d (tkV bor n d rm) := by
  simp only [takeA]
  congr 1
theorem tkA_agg {xs : List A} : takeA bor (n + 1) (.agg xs) rm = (takesW (takeA bor n) xs rm).bind fun q => .ret (.agg q.1, q.2) := rfl
theorem tkA_clo {f : Fn} {a c : List A} : takeA bor (n + 1) (.clo f a c) rm = (takesW (takeA bor n) a rm).bind fun q => (takesW (takeA bor n) c q.2).bind fun q' => .ret (.clo f q.1 q'.1, q'.2) := rfl
theorem tkA_osl {s : Nat} {xs : List A} : takeA bor (n + 1) (.osl s xs) rm = .ret (.osl s xs, rm) := rfl
theorem tkA_box {a : A} : takeA bor (n + 1) (.box a) rm = if a.nobor || bor then .ret (.box a, rm) else .fail := rfl
theorem tkA_ifc {t : TypeId} {a : A} : takeA bor (n + 1) (.ifc t a) rm = (takeA bor n a rm).bind fun q => .ret (.ifc t q.1, q.2) := rfl
attribute [go_sem] tkA_v tkA_sl tkA_rp tkA_arr tkRef_row tkRef_froz tkA_ref tkMp_mp tkA_mref tkA_mp tkV_var tkA_ptr tkA_agg tkA_clo tkA_osl tkA_box tkA_ifc
end
theorem inBlock_exit {id id' : Nat} {Q : AExit → St → Prop} {st : St} : AExit.inBlock id Q (.exit id') st = if id' = id then Q .normal st else Q (.exit id') st := by
  by_cases h : id' = id
  · subst h; rw [inBlock_same, if_pos rfl]
  · rw [inBlock_other h, if_neg h]
attribute [go_sem] inBlock_exit
attribute [go_sem] roA_v roA_sl roA_rp roA_arr roRef_row roRef_froz roRow_true roRow_false roA_ref roArr_arr roAref_var roA_aref roPtr_var roPtr_row roPtr_froz roA_ptr roA_agg roA_clo roA_ifc
end
end Go.PA

/- PA115: == of structs and arrays, numbers with a carry: the walk's words. -/
namespace Go.PA
open Classical

theorem intsOk_bA {l : List Nat} {n : Nat} : intsOk .u8 n (bA l) ↔ l.length = n := by
  unfold intsOk
  rw [bA_length]
  refine and_iff_left ?_
  intro x hx
  obtain ⟨k, _, rfl⟩ := List.mem_map.1 hx
  exact ⟨_, rfl⟩
theorem intsOk_nA {k : IntKind} {l : List Nat} {n : Nat} : intsOk k n (nA k l) ↔ l.length = n := by
  unfold intsOk
  rw [nA_length]
  refine and_iff_left ?_
  intro x hx
  obtain ⟨k, _, rfl⟩ := List.mem_map.1 hx
  exact ⟨_, rfl⟩
theorem bA_inj {a b : List Nat} : bA a = bA b ↔ a = b := by
  constructor
  · intro h
    unfold bA at h
    refine (List.map_inj_right (f := fun (k : Nat) => A.v (.int .u8 (k : Int))) ?_).1 h
    intro x y hxy
    injection hxy with hxy
    injection hxy with _ hxy
    omega
  · rintro rfl; rfl
theorem nA_inj {k : IntKind} {a b : List Nat} : nA k a = nA k b ↔ a = b := by
  constructor
  · intro h
    unfold nA at h
    refine (List.map_inj_right (f := fun (n : Nat) => A.v (.int k (n : Int))) ?_).1 h
    intro x y hxy
    injection hxy with hxy
    injection hxy with _ hxy
    omega
  · rintro rfl; rfl

theorem dec_agg {xs ys : List A} {i : Decidable (A.agg xs = A.agg ys)} : @decide (A.agg xs = A.agg ys) i = @decide (xs = ys) (propDecidable _) := by
  by_cases h : xs = ys
  · subst h; simp
  · have : A.agg xs ≠ A.agg ys := by simpa using h
    simp [h, this]
theorem dec_arr {n : Nat} {xs ys : List A} {i : Decidable (A.arr n xs = A.arr n ys)} : @decide (A.arr n xs = A.arr n ys) i = @decide (xs = ys) (propDecidable _) := by
  by_cases h : xs = ys
  · subst h; simp
  · have : A.arr n xs ≠ A.arr n ys := by simpa using h
    simp [h, this]
theorem dec_cons {x y : A} {xs ys : List A} {i : Decidable (x :: xs = y :: ys)} : @decide (x :: xs = y :: ys) i = (@decide (x = y) (propDecidable _) && @decide (xs = ys) (propDecidable _)) := by
  by_cases h : x = y <;> by_cases h' : xs = ys <;> simp [h, h']
theorem dec_nil {i : Decidable (([] : List A) = [])} : @decide (([] : List A) = []) i = true := by simp
theorem dec_bA {a b : List Nat} {i : Decidable (bA a = bA b)} : @decide (bA a = bA b) i = decide (a = b) := by
  by_cases h : a = b
  · subst h; simp
  · have : bA a ≠ bA b := fun e => h (bA_inj.1 e)
    simp [h, this]
theorem dec_nA {k : IntKind} {a b : List Nat} {i : Decidable (nA k a = nA k b)} : @decide (nA k a = nA k b) i = decide (a = b) := by
  by_cases h : a = b
  · subst h; simp
  · have : nA k a ≠ nA k b := fun e => h (nA_inj.1 e)
    simp [h, this]
theorem dec_int {k : IntKind} {a b : Int} {i : Decidable (A.v (.int k a) = A.v (.int k b))} : @decide (A.v (.int k a) = A.v (.int k b)) i = decide (a = b) := by
  by_cases h : a = b
  · subst h; simp
  · have : A.v (.int k a) ≠ A.v (.int k b) := by simpa using h
    simp [h, this]
theorem dec_bool {a b : Bool} {i : Decidable (A.v (.bool a) = A.v (.bool b))} : @decide (A.v (.bool a) = A.v (.bool b)) i = (a == b) := by
  cases a <;> cases b <;> simp
theorem dec_tt {i : Decidable True} : @decide True i = true := by simp
theorem dec_ff {i : Decidable False} : @decide False i = false := by simp
theorem fitE_bool' {b : Bool} : fitE .bool (.v (.bool b)) = True := rfl
theorem fitE_int' {k k' : IntKind} {n : Int} : fitE (.int k) (.v (.int k' n)) = (k' = k) := rfl
theorem fitE_ints' {k : IntKind} {n m : Nat} {xs : List A} : fitE (.ints n k) (.arr m xs) = (m = n ∧ intsOk k n xs) := rfl
theorem fitE_agg' {fs : EqFs} {xs : List A} : fitE (.agg fs) (.agg xs) = fitEs fs 0 xs := rfl
theorem fitEs_nil {o : Nat} : fitEs .nil o [] = True := rfl
theorem fitEs_cons {off sz o : Nat} {ag : Bool} {t : EqT} {r : EqFs} {x : A} {xs : List A} : fitEs (.cons off sz ag t r) o (x :: xs) = ((off = o ∧ x.sz = sz ∧ x.isAgg = ag) ∧ fitE t x ∧ fitEs r (o + sz) xs) := rfl
theorem callEnd_of {P : Program} {nid : Nat} {f : FuncId} {xs : List (Bool × A)} {st : St} {next : Nx} {args : List A} {rm rd : List Nat} {res : List A} {back : List (Option A)} (h : FS P f args (.ret res back))
    (k : callFin st next rd (aCallEff nid xs rm res back)) : callEnd P nid f xs st next (args, rm) rd := ⟨_, _, h, k⟩
theorem drawIt {ops : Array Oper} {ep : Nat} {L : List (Nat × FP)} (h : drawF ops ep L = true) : drawF ops ep L = true := h
def idxPtr (s : Option (TypeId × Nat)) (r : Option (Nat × TypeId × Nat)) (d : Nat) (p : List PS) (n : Int) : RM Eff :=
  match s, r with
  | none, some (len, _, es) => .req (0 ≤ n ∧ n < len) (effV (.ptr d (p ++ [.idx n.toNat es])))
  | _, _ => .fail
theorem idx_ptrA {P : Program} {t : TypeId} {d : Nat} {p : List PS} {n : Int} : aIndexAddr P t (.ptr d p) n = idxPtr (tSlice P t) (tArr P t) d p n := by
  unfold aIndexAddr idxPtr
  cases h : tSlice P t with
  | none =>
    cases h2 : tArr P t with
    | none => rfl
    | some q => rfl
  | some q => rfl
theorem idxPtr_some {len e es d : Nat} {p : List PS} {n : Int} : idxPtr none (some (len, e, es)) d p n = .req (0 ≤ n ∧ n < len) (effV (.ptr d (p ++ [.idx n.toNat es]))) := rfl
theorem szAt_zero {x : A} {xs : List A} {s : Nat} : szAt (x :: xs) 0 s = (x.sz = s) := by simp [szAt]
theorem szAt_succ {x : A} {xs : List A} {i s : Nat} : szAt (x :: xs) (i + 1) s = szAt xs i s := by simp [szAt]
attribute [go_sem] idx_ptrA idxPtr_some szAt_zero szAt_succ Int.toNat_natCast
attribute [go_sem] true_or or_true aEqOp aNilOp eqOut aExt fitE_bool' fitE_int' fitE_ints' fitE_agg' fitEs_nil fitEs_cons intsOk_bA intsOk_nA dec_agg dec_arr dec_cons dec_nil dec_bA dec_nA dec_int dec_bool dec_tt dec_ff
end Go.PA

/- PA116: plain trees (numbers, arrays and structs of such), kept shut. -/
namespace Go.PA

mutual
def A.plainD : Nat → A → Bool
  | _, .v _ => true
  | n + 1, .agg xs => plainDs n xs
  | n + 1, .arr _ xs => plainDs n xs
  | _, _ => false
def plainDs : Nat → List A → Bool
  | _, [] => true
  | n, x :: xs => A.plainD n x && plainDs n xs
end
/-- no slices, no pointers; at most eight deep -/
def A.plain (a : A) : Bool := A.plainD 8 a

mutual
theorem plainD_all : ∀ (n : Nat) (a : A), A.plainD n a = true → a.noown = true ∧ a.closed = true ∧ a.nobor = true ∧ a.good = true ∧ lnd a = a ∧ lndOk a = true ∧ (∀ π, ren π a = some a) ∧ (∀ k, unf k a = some (a, [], k)) ∧ frz a = a ∧ frzOk a = true
  | n, .v x, h => ⟨rfl, rfl, rfl, rfl, rfl, rfl, fun _ => rfl, fun _ => rfl, rfl, rfl⟩
  | n + 1, .agg xs, h => by
    simp only [A.plainD] at h
    obtain ⟨h1, h2, h3, h4, h5, h6, h7, h8, h9⟩ := plainDs_all n xs h
    refine ⟨by simp only [A.noown]; exact h1, by simp only [A.closed]; exact h2, by simp only [A.nobor]; exact h3, rfl, by simp only [lnd]; rw [h4], by simp only [lndOk]; exact h5, fun π => by simp only [ren]; rw [h6]; rfl, fun k => by simp only [unf]; rw [h7]; rfl, by simp only [frz]; rw [h8], by simp only [frzOk]; exact h9⟩
  | n + 1, .arr t xs, h => by
    simp only [A.plainD] at h
    obtain ⟨h1, h2, h3, h4, h5, h6, h7, h8, h9⟩ := plainDs_all n xs h
    refine ⟨by simp only [A.noown]; exact h1, rfl, rfl, rfl, rfl, by simp only [lndOk]; exact h1, fun π => rfl, fun k => by simp only [unf]; rw [if_pos h1], by simp only [frz, h8], by simp only [frzOk]; exact h9⟩
  | 0, .agg xs, h => by simp [A.plainD] at h
  | 0, .arr _ xs, h => by simp [A.plainD] at h
  | n, .und, h => by cases n <;> simp [A.plainD] at h
  | n, .sl .., h => by cases n <;> simp [A.plainD] at h
  | n, .osl .., h => by cases n <;> simp [A.plainD] at h
  | n, .rp .., h => by cases n <;> simp [A.plainD] at h
  | n, .box _, h => by cases n <;> simp [A.plainD] at h
  | n, .ref .., h => by cases n <;> simp [A.plainD] at h
  | n, .aref .., h => by cases n <;> simp [A.plainD] at h
  | n, .ptr .., h => by cases n <;> simp [A.plainD] at h
  | n, .clo .., h => by cases n <;> simp [A.plainD] at h
  | n, .ifc .., h => by cases n <;> simp [A.plainD] at h
  | n, .tup _, h => by cases n <;> simp [A.plainD] at h
  | n, .mp .., h => by cases n <;> simp [A.plainD] at h
  | n, .mref _, h => by cases n <;> simp [A.plainD] at h
  | n, .yl _, h => by cases n <;> simp [A.plainD] at h
  | n, .yref _, h => by cases n <;> simp [A.plainD] at h
theorem plainDs_all : ∀ (n : Nat) (xs : List A), plainDs n xs = true → noowns xs = true ∧ closeds xs = true ∧ nobors xs = true ∧ lnds xs = xs ∧ lndOks xs = true ∧ (∀ π, rens π xs = some xs) ∧ (∀ k, unfs k xs = some (xs, [], k)) ∧ frzs xs = xs ∧ frzOks xs = true
  | n, [], h => ⟨rfl, rfl, rfl, rfl, rfl, fun _ => rfl, fun _ => rfl, rfl, rfl⟩
  | n, x :: xs, h => by
    simp only [plainDs, Bool.and_eq_true] at h
    obtain ⟨a1, a2, a3, _, a4, a5, a6, a7, a8, a9⟩ := plainD_all n x h.1
    obtain ⟨b1, b2, b3, b4, b5, b6, b7, b8, b9⟩ := plainDs_all n xs h.2
    exact ⟨by simp only [noowns]; rw [a1, b1]; rfl, by simp only [closeds]; rw [a2, b2]; rfl, by simp only [nobors]; rw [a3, b3]; rfl, by simp only [lnds]; rw [a4, b4], by simp only [lndOks]; rw [a5, b5]; rfl,
      fun π => by simp only [rens]; rw [a6, b6], fun k => by simp only [unfs]; rw [a7]; simp only []; rw [b7]; rfl, by simp only [frzs]; rw [a8, b8], by simp only [frzOks]; rw [a9, b9]; rfl⟩
end

mutual
theorem plainD_take (bor : Bool) : ∀ (n m : Nat) (a : A) (rm : List Nat), A.plainD n a = true → takeA bor (m + n + 1) a rm = .ret (a, rm)
  | n, m, .v x, rm, h => rfl
  | n + 1, m, .agg xs, rm, h => by
    simp only [A.plainD] at h
    rw [tkA_agg, show m + (n + 1) = m + n + 1 from rfl, plainDs_take bor n m xs rm h]
    rfl
  | n + 1, m, .arr t xs, rm, h => rfl
  | 0, m, .agg xs, rm, h => by simp [A.plainD] at h
  | 0, m, .arr _ xs, rm, h => by simp [A.plainD] at h
  | n, m, .und, rm, h => by cases n <;> simp [A.plainD] at h
  | n, m, .sl .., rm, h => by cases n <;> simp [A.plainD] at h
  | n, m, .osl .., rm, h => by cases n <;> simp [A.plainD] at h
  | n, m, .rp .., rm, h => by cases n <;> simp [A.plainD] at h
  | n, m, .box _, rm, h => by cases n <;> simp [A.plainD] at h
  | n, m, .ref .., rm, h => by cases n <;> simp [A.plainD] at h
  | n, m, .aref .., rm, h => by cases n <;> simp [A.plainD] at h
  | n, m, .ptr .., rm, h => by cases n <;> simp [A.plainD] at h
  | n, m, .clo .., rm, h => by cases n <;> simp [A.plainD] at h
  | n, m, .ifc .., rm, h => by cases n <;> simp [A.plainD] at h
  | n, m, .tup _, rm, h => by cases n <;> simp [A.plainD] at h
  | n, m, .mp .., rm, h => by cases n <;> simp [A.plainD] at h
  | n, m, .mref _, rm, h => by cases n <;> simp [A.plainD] at h
  | n, m, .yl _, rm, h => by cases n <;> simp [A.plainD] at h
  | n, m, .yref _, rm, h => by cases n <;> simp [A.plainD] at h
theorem plainDs_take (bor : Bool) : ∀ (n m : Nat) (xs : List A) (rm : List Nat), plainDs n xs = true → takesW (takeA bor (m + n + 1)) xs rm = .ret (xs, rm)
  | n, m, [], rm, h => rfl
  | n, m, x :: xs, rm, h => by
    simp only [plainDs, Bool.and_eq_true] at h
    simp only [takesW]
    rw [plainD_take bor n m x rm h.1]
    simp only [RM.bind]
    rw [plainDs_take bor n m xs rm h.2]
    rfl
end
mutual
theorem plainD_ro (rm : List Nat) : ∀ (n m : Nat) (a : A), A.plainD n a = true → roA rm (m + n + 1) a = .ret a
  | n, m, .v x, h => rfl
  | n + 1, m, .agg xs, h => by
    simp only [A.plainD] at h
    rw [roA_agg, show m + (n + 1) = m + n + 1 from rfl, plainDs_ro rm n m xs h]
    rfl
  | n + 1, m, .arr t xs, h => by
    simp only [A.plainD] at h
    rw [roA_arr, if_pos (plainDs_all n xs h).1]
  | 0, m, .agg xs, h => by simp [A.plainD] at h
  | 0, m, .arr _ xs, h => by simp [A.plainD] at h
  | n, m, .und, h => by cases n <;> simp [A.plainD] at h
  | n, m, .sl .., h => by cases n <;> simp [A.plainD] at h
  | n, m, .osl .., h => by cases n <;> simp [A.plainD] at h
  | n, m, .rp .., h => by cases n <;> simp [A.plainD] at h
  | n, m, .box _, h => by cases n <;> simp [A.plainD] at h
  | n, m, .ref .., h => by cases n <;> simp [A.plainD] at h
  | n, m, .aref .., h => by cases n <;> simp [A.plainD] at h
  | n, m, .ptr .., h => by cases n <;> simp [A.plainD] at h
  | n, m, .clo .., h => by cases n <;> simp [A.plainD] at h
  | n, m, .ifc .., h => by cases n <;> simp [A.plainD] at h
  | n, m, .tup _, h => by cases n <;> simp [A.plainD] at h
  | n, m, .mp .., h => by cases n <;> simp [A.plainD] at h
  | n, m, .mref _, h => by cases n <;> simp [A.plainD] at h
  | n, m, .yl _, h => by cases n <;> simp [A.plainD] at h
  | n, m, .yref _, h => by cases n <;> simp [A.plainD] at h
theorem plainDs_ro (rm : List Nat) : ∀ (n m : Nat) (xs : List A), plainDs n xs = true → rosW (roA rm (m + n + 1)) xs = .ret xs
  | n, m, [], h => rfl
  | n, m, x :: xs, h => by
    simp only [plainDs, Bool.and_eq_true] at h
    simp only [rosW]
    rw [plainD_ro rm n m x h.1]
    simp only [RM.bind]
    rw [plainDs_ro rm n m xs h.2]
    rfl
end

section
variable {a : A} (h : a.plain = true)
include h
theorem plain_noown : a.noown = true := (plainD_all 8 a h).1
theorem plain_closed : a.closed = true := (plainD_all 8 a h).2.1
theorem plain_nobor : a.nobor = true := (plainD_all 8 a h).2.2.1
theorem plain_good : a.good = true := (plainD_all 8 a h).2.2.2.1
theorem plain_lnd : lnd a = a := (plainD_all 8 a h).2.2.2.2.1
theorem plain_lndOk : lndOk a = true := (plainD_all 8 a h).2.2.2.2.2.1
theorem plain_ren {π : Nat → Option Nat} : ren π a = some a := (plainD_all 8 a h).2.2.2.2.2.2.1 π
theorem plain_unf {k : Nat} : unf k a = some (a, [], k) := (plainD_all 8 a h).2.2.2.2.2.2.2.1 k
theorem plain_frz : frz a = a := (plainD_all 8 a h).2.2.2.2.2.2.2.2.1
theorem plain_frzOk : frzOk a = true := (plainD_all 8 a h).2.2.2.2.2.2.2.2.2
theorem plain_take {bor : Bool} {m : Nat} {rm : List Nat} : takeA bor (m + 9) a rm = .ret (a, rm) := plainD_take bor 8 m a rm h
theorem plain_ro {m : Nat} {rm : List Nat} : roA rm (m + 9) a = .ret a := plainD_ro rm 8 m a h
end
/-! In texts with trees kept shut: `attribute [-go_sem] A.good A.isAgg`. -/
theorem good_v {x : Value} : (A.v x).good = true := rfl
theorem isAgg_v {x : Value} : (A.v x).isAgg = false := rfl
theorem good_agg {xs : List A} : (A.agg xs).good = true := rfl
theorem isAgg_agg {xs : List A} : (A.agg xs).isAgg = true := rfl
theorem good_arr {t : Nat} {xs : List A} : (A.arr t xs).good = true := rfl
theorem isAgg_arr {t : Nat} {xs : List A} : (A.arr t xs).isAgg = true := rfl
theorem good_sl {p : Bool} {xs : List A} : (A.sl p xs).good = true := rfl
theorem isAgg_sl {p : Bool} {xs : List A} : (A.sl p xs).isAgg = false := rfl
theorem good_osl {s : Nat} {xs : List A} : (A.osl s xs).good = true := rfl
theorem isAgg_osl {s : Nat} {xs : List A} : (A.osl s xs).isAgg = false := rfl
theorem good_rp {p : Bool} {a : A} : (A.rp p a).good = true := rfl
theorem isAgg_rp {p : Bool} {a : A} : (A.rp p a).isAgg = false := rfl
theorem good_box {a : A} : (A.box a).good = true := rfl
theorem isAgg_box {a : A} : (A.box a).isAgg = false := rfl
theorem good_ref {d s off len : Nat} {full : Bool} : (A.ref d s off len full).good = true := rfl
theorem isAgg_ref {d s off len : Nat} {full : Bool} : (A.ref d s off len full).isAgg = false := rfl
theorem good_aref {d : Nat} {p : List PS} {s off len : Nat} : (A.aref d p s off len).good = true := rfl
theorem isAgg_aref {d : Nat} {p : List PS} {s off len : Nat} : (A.aref d p s off len).isAgg = false := rfl
theorem good_ptr {d : Nat} {p : List PS} : (A.ptr d p).good = true := rfl
theorem isAgg_ptr {d : Nat} {p : List PS} : (A.ptr d p).isAgg = false := rfl
theorem good_clo {f : Fn} {a c : List A} : (A.clo f a c).good = true := rfl
theorem isAgg_clo {f : Fn} {a c : List A} : (A.clo f a c).isAgg = false := rfl
theorem good_ifc {t : TypeId} {a : A} : (A.ifc t a).good = true := rfl
theorem isAgg_ifc {t : TypeId} {a : A} : (A.ifc t a).isAgg = false := rfl
theorem good_mp {ks vs : List A} : (A.mp ks vs).good = true := rfl
theorem isAgg_mp {ks vs : List A} : (A.mp ks vs).isAgg = false := rfl
theorem good_mref {d : Nat} : (A.mref d).good = true := rfl
theorem isAgg_mref {d : Nat} : (A.mref d).isAgg = false := rfl
theorem good_yref {d : Nat} : (A.yref d).good = true := rfl
theorem isAgg_yref {d : Nat} : (A.yref d).isAgg = false := rfl
theorem good_und : A.und.good = false := rfl
theorem good_tup {xs : List A} : (A.tup xs).good = false := rfl
theorem isAgg_tup {xs : List A} : (A.tup xs).isAgg = false := rfl
attribute [go_sem] good_und good_tup isAgg_tup good_v isAgg_v good_agg isAgg_agg good_arr isAgg_arr good_sl isAgg_sl good_osl isAgg_osl good_rp isAgg_rp good_box isAgg_box good_ref isAgg_ref good_aref isAgg_aref good_ptr isAgg_ptr good_clo isAgg_clo good_ifc isAgg_ifc good_mp isAgg_mp good_mref isAgg_mref good_yref isAgg_yref
attribute [go_sem] plain_noown plain_closed plain_nobor plain_good plain_lnd plain_lndOk plain_ren plain_unf plain_frz plain_frzOk plain_take plain_ro
end Go.PA

/- PA117: maps in the walk. -/
namespace Go.PA

theorem keysFit_nil {q : EqT} : keysFit q [] = True := by simp [keysFit]
theorem valsOk_nil : valsOk [] = True := by simp [valsOk]
theorem findA_nil {k : A} {vs : List A} : findA k [] vs = none := by cases vs <;> rfl
theorem not_mem_nil {k : A} : (k ∉ ([] : List A)) = True := by simp
theorem keysFit_map {α : Type} {q : EqT} {f : α → A} {l : List α} (h : ∀ x ∈ l, fitE q (f x)) : keysFit q (l.map f) := by
  intro y hy
  obtain ⟨x, hx, rfl⟩ := List.mem_map.1 hy
  exact h x hx
theorem valsOk_map {α : Type} {f : α → A} {l : List α} (h : ∀ x ∈ l, (f x).good = true ∧ (f x).noown = true) : valsOk (l.map f) := by
  intro y hy
  obtain ⟨x, hx, rfl⟩ := List.mem_map.1 hy
  exact h x hx
theorem findA_at {α : Type} {f g : α → A} {x : α} : ∀ {l : List α}, x ∈ l → (l.map f).Nodup → findA (f x) (l.map f) (l.map g) = some (g x)
  | [], h, _ => by simp at h
  | y :: l, h, hn => by
    simp only [List.map_cons, List.nodup_cons] at hn ⊢
    simp only [findA]
    by_cases hxy : f x = f y
    · rw [if_pos hxy]
      rcases List.mem_cons.1 h with rfl | h
      · rfl
      · exact absurd (hxy ▸ List.mem_map_of_mem h) hn.1
    · rw [if_neg hxy]
      rcases List.mem_cons.1 h with rfl | h
      · exact absurd rfl hxy
      · exact findA_at h hn.2
theorem lookOut_ok {z : A} {r : Option A} : lookOut true z r = .ret ⟨.tup [r.getD z, .v (.bool r.isSome)], [], []⟩ := rfl
theorem lookOut_one {z : A} {r : Option A} : lookOut false z r = .ret ⟨r.getD z, [], []⟩ := rfl
attribute [go_sem] aLookup aMapAdd lookOut_ok lookOut_one keysFit_nil valsOk_nil findA_nil not_mem_nil Option.getD_none Option.getD_some Option.isSome_none Option.isSome_some
end Go.PA
