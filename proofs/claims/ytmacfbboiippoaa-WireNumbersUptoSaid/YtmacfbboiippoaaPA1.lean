/- PA1: trees of values, and what they stand for in a world. -/
import Derived.Calls
import Derived.Orders
import Derived.Laws.AppendOwn
import Derived.Laws.OwnMore
import Derived.Laws.Rows
namespace Go.PA

inductive PS where
  | fld (k off : Nat)
  | idx (i s : Nat)

def PS.off : PS → Nat
  | .fld _ o => o
  | .idx i s => i * s

def offP : List PS → Nat
  | [] => 0
  | p :: ps => p.off + offP ps

/-- A tree of values. -/
inductive A where
  | v (x : Value)
  | und
  | agg (xs : List A)
  | arr (tot : Nat) (xs : List A)
  | sl (p : Bool) (xs : List A)
  | osl (s : Nat) (xs : List A)
  | rp (p : Bool) (a : A)
  | box (a : A)
  | ref (d s off len : Nat) (full : Bool)
  | aref (d : Nat) (p : List PS) (s off len : Nat)
  | ptr (d : Nat) (p : List PS)
  | clo (f : Fn) (first caps : List A)
  | ifc (t : TypeId) (a : A)
  | tup (xs : List A)
  | mp (ks vs : List A)
  | mref (d : Nat)

mutual
def A.sz : A → Nat
  | .agg xs => szs xs
  | .arr t _ => t
  | .tup _ => 0
  | .und => 0
  | _ => 1
def szs : List A → Nat
  | [] => 0
  | x :: xs => x.sz + szs xs
end

def plainV : Value → Bool
  | .bool _ | .int .. | .float .. | .complex .. | .string _ | .pointer none | .map none | .chan none | .nilFunc | .nilIface => true
  | _ => false

def A.isAgg : A → Bool
  | .agg _ | .arr .. => true
  | _ => false

structure Env where
  w : World
  loc : Nat → Option (Option Nat)
  ids : Nat → Bool
  S : Nat → Prop
  B : Nat → Prop

def Env.ok (e : Env) (p : Bool) (g : Nat) : Prop := e.S g ∨ (p = false ∧ e.B g)

/-- No name of a block of the frame is known. -/
def Env.close (e : Env) : Env := { e with loc := fun _ => none, ids := fun _ => false }
/-- .. and nothing is borrowed. -/
def Env.shut (e : Env) : Env := { e with loc := fun _ => none, ids := fun _ => false, B := fun _ => False }
def Env.cl (e : Env) : Bool → Env
  | true => e.shut
  | false => e.close

mutual
/-- 'a' stands as the cells 'vs'; the blocks 'F' are its own. -/
def VR : A → Env → List Value → List Nat → Prop
  | .v x, _, vs, F => plainV x = true ∧ vs = [x] ∧ F = []
  | .und, _, _, _ => False
  | .agg xs, e, vs, F => VRs xs e vs F
  | .arr tot xs, e, vs, F => vs.length = tot ∧ (∃ s, ∀ x ∈ xs, x.sz = s) ∧ VRs xs e.shut vs F
  | .osl s xs, e, vs, F => 0 < s ∧ (∀ x ∈ xs, x.sz = s) ∧
      ((xs = [] ∧ vs = [.slice none 0 0] ∧ F = []) ∨
       ∃ g cs ty c us Fx, vs = [.slice (some ⟨g, 0, none⟩) xs.length c] ∧ xs.length ≤ c ∧ c ≤ maxLen ∧ e.w.heap[g]? = some (.cells cs ty (0, 0)) ∧ cs.size = c * s ∧
         VRs xs e.shut us Fx ∧ cs.toList.take us.length = us ∧ F = g :: Fx)
  | .sl p xs, e, vs, F => F = [] ∧ ∃ a c us, vs = [.slice a xs.length c] ∧ xs.length ≤ c ∧ (∃ s, ∀ x ∈ xs, x.sz = s) ∧ VRs xs (e.cl p) us [] ∧
      (xs ≠ [] → ∃ ad, a = some ad ∧ e.ok p ad.block ∧ ∀ j u, us[j]? = some u → e.w.cell? (ad.add j) = some u)
  | .box a, e, vs, F => ∃ g cs ty Fx, vs = [.pointer (some ⟨g, 0, none⟩)] ∧ e.w.heap[g]? = some (.cells cs ty (0, 0)) ∧ VR a e.close cs.toList Fx ∧ F = g :: Fx
  | .rp p a, e, vs, F => F = [] ∧ ∃ ad us, vs = [.pointer (some ad)] ∧ e.ok p ad.block ∧ VR a (e.cl p) us [] ∧ ∀ j u, us[j]? = some u → e.w.cell? (ad.add j) = some u
  | .ref d s off len full, e, vs, F => F = [] ∧ e.ids d = true ∧ ∃ a c, vs = [.slice a len c] ∧ len ≤ c ∧ (len ≠ 0 → ∃ ad, a = some ad) ∧ (full = true → c = len) ∧
      ∀ l, e.loc d = some l → match l with
        | none => off = 0 ∧ len = 0 ∧ a = none ∧ c = 0
        | some g => (c = 0 ∧ off ≠ 0) ∨ (a = some ⟨g, off * s, none⟩ ∧ (full = false → (e.w.shape? g).map (·.2) = some ((off + c) * s)))
  | .aref d p s off len, e, vs, F => F = [] ∧ e.ids d = true ∧ ∃ a c, vs = [.slice a len c] ∧ len ≤ c ∧ (len ≠ 0 → ∃ ad, a = some ad) ∧
      ∀ l, e.loc d = some l → ∃ g, l = some g ∧ ((c = 0 ∧ off ≠ 0) ∨ a = some ⟨g, offP p + off * s, none⟩)
  | .ptr d p, e, vs, F => F = [] ∧ e.ids d = true ∧ ∃ ad, vs = [.pointer (some ad)] ∧ ∀ l, e.loc d = some l → ∃ g, l = some g ∧ ad = ⟨g, offP p, none⟩
  | .clo f first caps, e, vs, F => ∃ fvs cvs Ff Fc, vs = [.func f fvs.toArray cvs.toArray] ∧ F = Ff ++ Fc ∧ VVs first e fvs Ff ∧ VVs caps e cvs Fc
  | .ifc t a, e, vs, F => ∃ x, vs = [.iface t x] ∧ ((a.isAgg = true ∧ ∃ cs, x = .agg cs ∧ VR a e cs.toList F) ∨ (a.isAgg = false ∧ VR a e [x] F))
  | .tup _, _, _, _ => False
  | .mp .., _, _, _ => False
  | .mref _, _, _, _ => False
def VRs : List A → Env → List Value → List Nat → Prop
  | [], _, vs, F => vs = [] ∧ F = []
  | x :: xs, e, vs, F => ∃ us vs' F1 F2, vs = us ++ vs' ∧ F = F1 ++ F2 ∧ VR x e us F1 ∧ VRs xs e vs' F2
def VVs : List A → Env → List Value → List Nat → Prop
  | [], _, vs, F => vs = [] ∧ F = []
  | x :: xs, e, vs, F => ∃ y vs' F1 F2, vs = y :: vs' ∧ F = F1 ++ F2 ∧
      ((x.isAgg = true ∧ ∃ cs, y = .agg cs ∧ VR x e cs.toList F1) ∨ (x.isAgg = false ∧ VR x e [y] F1)) ∧ VVs xs e vs' F2
end

/-- 'a' stands as one value. -/
def VV (a : A) (e : Env) (y : Value) (F : List Nat) : Prop :=
  (a.isAgg = true ∧ ∃ cs, y = .agg cs ∧ VR a e cs.toList F) ∨ (a.isAgg = false ∧ VR a e [y] F)

/-- What a slot may hold. -/
def TV (a : A) (e : Env) (y : Value) : Prop :=
  match a with
  | .und => y = undef
  | .tup xs => ∃ vs : List Value, y = .tuple vs.toArray ∧ VVs xs e vs []
  | a => VV a e y []

end Go.PA
